/- A part of the proof: lemmas. -/
import Derived.Test.YtbioiclabmbedaaGreatDoorProg
import Derived.Test.YtbioiclabmbedaaGreatDoorSI2
import Derived.BigQuiet
import Derived.Deep.DeepCutAuto
import Derived.Lib.AppendZeros
set_option maxHeartbeats 16000000
set_option maxRecDepth 100000
set_option linter.all false
namespace Go.Proofs.YtbioiclabmbedaaGreatDoor.Asn
open Go.RowKit Go.CH Go.CH.bA
open Go.ChangeMaps (setBlock)
def aS (w:World) (v:Value) (e:Ending) (w':World):Prop:=e=.returned v/\Below w.heap.size w w'
def Quiet (w:World) (v:Value) (e:Ending) (w':World):Prop:=e=.returned v/\w=w'
variable {w w':World}{a b:Bool}{l:List Int}{k n:Nat}{A:eV}{xs:List Value}{C:List (List Int)}{V:List (eV × Nat)}{lo hi:Int}
theorem jB   (h:a=b):Quiet w (.bool b) (.returned (.bool a)) w:=⟨by rw[h],rfl⟩
theorem aK   (h:b=a) (hb:Below w.heap.size w w'):aS w (.bool b) (.returned (.bool a)) w':=⟨by rw[h],hb⟩
def ints (l:List Int):List Value:=l.map (Value.int .i64)
theorem V4 (l:List Int):∀ u ∈ ints l,u.oneCell'=true:=by
 intro u hu;obtain⟨s,_,rfl⟩:=List.mem_map.1 hu;rfl
theorem yw (l:List Int):(ints l).length=l.length:=by simp[ints]
theorem DC   (h:k<l.length):(ints l)[k]?=some (.int .i64 l[k]):=by simp[ints,h]
def Vec (w:World) (A:eV) (l:List Int):Prop:=Src w A l.length 1 (ints l)
theorem aY   {size:Nat}  (h:Src w A n size xs) (hb:Below w.heap.size w w'):Src w' A n size xs:=
 ((aI.begin w).below aN hb).RE h
theorem Vec.below    (h:Vec w A l) (hb:Below w.heap.size w w'):Vec w' A l:=aY h hb
theorem Vec.drew    (h:Vec w A l):Vec w.drew A l:=h.below (dF (fe _ _))
theorem Vec.at    (h:Vec w A l) (hn:0<l.length) :
  ∃ b o,A=some ⟨b,o,none⟩/\∀ w',Below w.heap.size w w'->∀ j (J:j<l.length),w'.cell? ⟨b,o+j,none⟩=some (.int .i64 l[j]):=by
 obtain⟨b,o,rfl,M⟩:=Src.open_ h hn eL;refine⟨b,o,rfl,fun w' hb j J=>?_⟩;have I:=M j _ (DC J);rw[hb.cell (py _ _ I)];exact I
structure uy (w:World) (A:eV) (C:List (List Int)) (V:List (eV × Nat)):Prop where
 len:V.length=C.length
 src:Src w A C.length 1 (V.mapIdx fun i x=>.slice x.1 (C.getD i []).length x.2)
 row:∀ i (hi:i<C.length) x,V[i]?=some x->Vec w x.1 C[i]/\C[i].length<=x.2
theorem uy.below     (h:uy w A C V) (hb:Below w.heap.size w w'):uy w' A C V:=
 ⟨h.len,aY h.src hb,fun i hi x hx=>⟨(h.row i hi x hx).1.below hb,(h.row i hi x hx).2⟩⟩
theorem uy.at     (h:uy w A C V) (hn:0<C.length) :
  ∃ b o,A=some ⟨b,o,none⟩/\∀ j (I:j<C.length),∃ B c,C[j].length<=c/\Vec w B C[j]/\∀ w',Below w.heap.size w w'->w'.cell? ⟨b,o+j,none⟩=some (.slice B C[j].length c):=by
 obtain⟨b,o,rfl,hc⟩:=Src.open_ h.src hn eL;refine⟨b,o,rfl,fun j I=>?_⟩;have M:V[j]?=some (V[j]'(by rw[h.len];exact I)):=gR _;obtain⟨h1,h2⟩:=h.row j I _ M;refine⟨_,_,h2,h1,fun w' hb=>?_⟩
 have J:=hc j (.slice (V[j]'(by rw[h.len];exact I)).1 C[j].length (V[j]'(by rw[h.len];exact I)).2) (by
  rw[Cd,M]
  simp[kj,I])
 rw[hb.cell (py _ _ J)];exact J
def wi (l:List Int) (lo hi:Int):Bool:=l.all fun n=>decide (lo<=n)&&decide (n<=hi)
theorem ZU    (h:k<l.length):wi (l.take (k+1)) lo hi=(wi (l.take k) lo hi&&(decide (lo<=l[k])&&decide (l[k]<=hi))):=by
 unfold wi;rw[kq h,List.all_append];simp
theorem adV    (h:wi (l.take (k+1)) lo hi=false):wi l lo hi=false:=by
 unfold wi at *
 rw[List.all_eq_false] at *
 obtain⟨x,hx,h1⟩:=h;exact⟨x,xn hx,h1⟩
theorem Qg   (h:wi l lo hi=true)  (hk:k<l.length):lo<=l[k]/\l[k]<=hi:=by
 unfold wi at h;rw[j8] at h;simpa using h l[k] (gv _)
def P3 (C:List (List Int)) (D E:List Int):Bool:=C.all (fun r=>decide (r.length<=20))&&(decide (C.length<=20)&&decide (D.length<=20)&&decide (E.length<=20))
def mR (C:List (List Int)) (D E:List Int):Bool:=
 decide (C.length=D.length)&&decide (D.length<=6)&&decide (E.length<=6)&&wi D 0 10000&&wi E 0 10000&&C.all (fun r=>decide (r.length=E.length)&&wi r 0 100000)
theorem Qh {a b:List Int} {k:Nat} (h:a.take k=b.take k) (ha:k<a.length) (hb:k<b.length) (he:a[k]=b[k]):a.take (k+1)=b.take (k+1):=by
 rw[kq ha,kq hb,h,he]
def D4 (n nd ne:Nat) (D E:List Int):Bool:=decide (n=nd)&&decide (nd<=6)&&decide (ne<=6)&&wi D 0 10000&&wi E 0 10000
def Yv (ne:Nat) (r:List Int):Bool:=decide (r.length=ne)&&wi r 0 100000
theorem acJ (C:List (List Int)) (D E:List Int):mR C D E=(D4 C.length D.length E.length D E&&C.all (Yv E.length)):=rfl
theorem Wu  {ne k:Nat} (h:k<C.length):(C.take (k+1)).all (Yv ne)=((C.take k).all (Yv ne)&&Yv ne C[k]):=by
 rw[kq h,List.all_append];simp
variable {p:Addr}{c:Nat}{v:Value}
theorem aap  {q:Addr} (x lo hi:Int) (I:w.cell? p=some (.int .i64 lo)) (h:w.cell? q=some (.int .i64 hi)) :
  Calls Tryz.prog 80 #[.int .i64 x,.pointer (some p),.pointer (some q)] w (Quiet w (.bool (!(decide (lo<=x)&&decide (x<=hi))))):=by
 by_cases g1:x<lo
 ·go_enter Tryz.func80,Tryz.ntmps80
  go_wp2;go_ret;refine jB ?_;simp;omega
 ·by_cases g2:hi<x
  ·go_enter Tryz.func80,Tryz.ntmps80
   go_wp2;go_ret;refine jB ?_;simp;try omega
  ·go_enter Tryz.func80,Tryz.ntmps80
   go_wp2;go_ret;refine jB ?_;simp;try omega
theorem Te     (h:Vec w A l) (hl:l.length<=1000000) {q:Addr} (lo hi:Int) (h1:w.cell? p=some (.int .i64 lo)) (h2:w.cell? q=some (.int .i64 hi)) :
  Calls Tryz.prog 103 #[.slice A l.length c,.func (.func 80) #[] (sS (some p) (some q))] w (fun e w'=>∃ r:Int,e=.returned (.int .i64 r)/\w'=w/\(0<=r↔wi l lo hi=false)):=by
 have HA:=au h;have HO:=au (fun x=>aap x lo hi h1 h2);obtain⟨n,hn⟩:∃ n,n=l.length:=⟨_,rfl⟩;rw[<-hn] at hl;have HN:=au hn;rw[<-hn];clear h hn h1 h2
 go_enter Tryz.func103,Tryz.ntmps103
 go_wp2
 go_loop [8] (fun i=>∃ k:Nat,k<=n/\i=.int .i64 k/\wi (l.take k) lo hi=true) (fun i=>n-(intOf i).toNat)
 case atStart=>exact⟨0,fw _,rfl,rfl⟩
 case round=>
  obtain⟨k,hk,rfl,hw⟩:=hrel;have HW:=au hw;clear hw;by_cases aa:k<n
  ·have J:k<l.length:=by rw[<-HN.o];exact aa
   obtain⟨b,o,rfl,hc⟩:=HA.o.at eL;have c0:=hc w (fe _ _) k J;have I:=au (ZU (lo:=lo) (hi:=hi) J);have M:=au (adV (l:=l) (lo:=lo) (hi:=hi) (k:=k));have KO:=au (HO.o l[k]);generalize l[k]=x at *
   clear hc;rw[HW.o,lx] at I;cases hb:(decide (lo<=x)&&decide (x<=hi)) with
   | true=>
    rw[hb] at I KO;clear hb;go_wp2_with fail;refine KO.o.mono ?_;rintro e w' ⟨rfl,rfl⟩;go_wp2
    go_round
    case rel=>exact⟨k+1,by omega,by go_num,I.o⟩
    case measure=>simp[intOf];omega
   | false=>
    rw[hb] at I KO;clear hb;have HF:=au (M.o I.o);clear M I HW;go_wp2_with fail;refine KO.o.mono ?_;rintro e w' ⟨rfl,rfl⟩;go_wp2;go_ret;exact⟨k,rfl,rfl,by rw[HF.o];simp⟩
  ·obtain rfl:k=n:=by omega
   have HF:=au (show true=wi l lo hi by rw[<-HW.o,HN.o,ky]);clear HW;go_wp2;go_ret;exact⟨-1,rfl,rfl,by rw[<-HF.o];simp⟩
theorem IU     (h:Vec w A l) (hl:l.length<=1000000) {q:Addr} (lo hi:Int) (M:w.cell? p=some (.int .i64 lo)) (J:w.cell? q=some (.int .i64 hi)) :
  Calls Tryz.prog 79 #[.slice A l.length c,.func (.func 80) #[] (sS (some p) (some q))] w (Quiet w (.bool (!wi l lo hi))):=by
 have KI:=au (Te (c:=c) h hl lo hi M J);clear h M J
 go_enter Tryz.func79,Tryz.ntmps79
 go_wp2_with fail;refine KI.o.mono ?_;rintro e w' ⟨r,rfl,rfl,hr⟩;cases I:wi l lo hi with
 | false=>
  have:0<=r:=hr.2 I;go_wp2;go_ret;refine jB ?_;simp[I]
 | true=>
  have:¬ 0<=r:=fun h=>by rw[hr.1 h] at I;cases I
  go_wp2;go_ret;refine jB ?_;simp[I]
theorem aaq (w:World) (cs:Array Value) (t:TypeId) (o:Obj)  (h:cs[0]?=some v):((w.alloc (.cells cs t)).alloc o).cell? ⟨w.heap.size,0,none⟩=some v:=by
 have I:((w.alloc (.cells cs t)).alloc o).heap[w.heap.size]?=(w.alloc (.cells cs t)).heap[w.heap.size]?:=VG iz;rw[Ff (w:=w.alloc (.cells cs t)) I];obtain⟨F,J,-⟩:=dP w cs t;exact ay J h
theorem aar (w:World) (o:Obj) (cs:Array Value) (t:TypeId)  (h:cs[0]?=some v):((w.alloc o).alloc (.cells cs t)).cell? ⟨w.heap.size+1,0,none⟩=some v:=by
 obtain⟨F,hC,-⟩:=dP (w.alloc o) cs t;have:=ay hC h
 rwa [show(w.alloc o).heap.size=w.heap.size+1 by simp] at this
theorem mG     (h:Vec w A l) (J:l.length<=1000000) (lo hi:Int) :
  Calls Tryz.prog 52 #[.slice A l.length c,.int .i64 lo,.int .i64 hi] w (aS w (.bool (wi l lo hi))):=by
 have gE:Below w.heap.size w ((w.alloc (.cells (fL lo) 3)).alloc (.cells (fL hi) 3)):=((fe _ _).alloc (fy _) _).alloc iz _;have I:=au (IU (c:=c) (p:=⟨w.heap.size,0,none⟩) (q:=⟨w.heap.size+1,0,none⟩) (h.below gE) J lo hi (aaq w _ _ _ rfl) (aar w _ _ _ rfl));have M:=au gE;clear h gE
 go_enter Tryz.func52,Tryz.ntmps52
 go_wp2_with fail;refine I.o.mono ?_;rintro e w' ⟨rfl,rfl⟩;go_wp2;go_ret;exact aK iz M.o
theorem aF {w'':World} (h:Below w.heap.size w w') (h':Below w'.heap.size w' w''):Below w.heap.size w w'':=h.trans (h'.mono h.size)
theorem jJ  {B G:eV}  {d e:Nat}  {D E:List Int} (h:uy w A C V) (hl:C.length<=maxLen) (hD:Vec w B D) (hE:Vec w G E) :
  Calls Tryz.prog 43 #[.slice A C.length c,.slice B D.length d,.slice G E.length e] w (aS w (.bool (mR C D E))):=by
 unfold maxLen at hl;have HA:=au h;have HV:=au (acJ C D E);have HD:=au (fun hl=>mG (c:=d) hD hl 0 10000);have HE:=au (fun (w':World) (hb:Below w.heap.size w w') hl=>mG (c:=e) (hE.below hb) hl 0 10000);obtain⟨n,hn⟩:∃ n,n=C.length:=⟨_,rfl⟩;obtain⟨nd,ag⟩:∃ n,n=D.length:=⟨_,rfl⟩;obtain⟨ne,ai⟩:∃ n,n=E.length:=⟨_,rfl⟩;have HN:=au hn;rw[<-hn] at hl;rw[<-hn,<-ag,<-ai] at HV;rw[<-ag] at HD;rw[<-ai] at HE;rw[<-hn,<-ag,<-ai];have HB:=au (fe w.heap.size w);clear h hn ag ai hD hE;by_cases h1:n=nd
 case neg=>
  have HF:=au (show false=mR C D E by rw[HV.o,D4,decide_eq_false h1];simp);clear HV HD HE
  go_enter Tryz.func43,Tryz.ntmps43
  go_wp2;go_loopw [7,35] (fun ok i wr=>∃ k:Nat,k<=n/\ok=.bool false/\i=.int .i64 k/\Below w.heap.size w wr) (fun _ i _=>n-(intOf i).toNat)
  case atStart=>exact⟨0,fw _,rfl,rfl,HB.o⟩
  case round=>
   obtain⟨k,hk,rfl,rfl,hb⟩:=hrel;have I:=au hb;clear HB;by_cases ab:k<n
   ·have aa:k<C.length:=by rw[<-HN.o];exact ab
    obtain⟨b1,o1,rfl,J⟩:=HA.o.at eL;obtain⟨Bk,ck,-,-,M⟩:=J k aa;have c1:=M _ hb;clear J M hb;go_wp2
    go_roundw
    case rel=>exact⟨k+1,by omega,rfl,by go_num,I.o⟩
    case measure=>simp[intOf];omega
   ·obtain rfl:k=n:=by omega
    clear hb;go_wp2;go_ret;exact aK HF.o.symm I.o
 by_cases h2:nd<=6
 case neg=>
  have HF:=au (show false=mR C D E by rw[HV.o,D4,decide_eq_false h2];simp);clear HV HD HE
  go_enter Tryz.func43,Tryz.ntmps43
  go_wp2;go_loopw [7,35] (fun ok i wr=>∃ k:Nat,k<=n/\ok=.bool false/\i=.int .i64 k/\Below w.heap.size w wr) (fun _ i _=>n-(intOf i).toNat)
  case atStart=>exact⟨0,fw _,rfl,rfl,HB.o⟩
  case round=>
   obtain⟨k,hk,rfl,rfl,hb⟩:=hrel;have I:=au hb;clear HB;by_cases ab:k<n
   ·have aa:k<C.length:=by rw[<-HN.o];exact ab
    obtain⟨b1,o1,rfl,J⟩:=HA.o.at eL;obtain⟨Bk,ck,-,-,M⟩:=J k aa;have c1:=M _ hb;clear J M hb;go_wp2
    go_roundw
    case rel=>exact⟨k+1,by omega,rfl,by go_num,I.o⟩
    case measure=>simp[intOf];omega
   ·obtain rfl:k=n:=by omega
    clear hb;go_wp2;go_ret;exact aK HF.o.symm I.o
 by_cases h3:ne<=6
 case neg=>
  have HF:=au (show false=mR C D E by rw[HV.o,D4,decide_eq_false h3];simp);clear HV HD HE
  go_enter Tryz.func43,Tryz.ntmps43
  go_wp2;go_loopw [7,35] (fun ok i wr=>∃ k:Nat,k<=n/\ok=.bool false/\i=.int .i64 k/\Below w.heap.size w wr) (fun _ i _=>n-(intOf i).toNat)
  case atStart=>exact⟨0,fw _,rfl,rfl,HB.o⟩
  case round=>
   obtain⟨k,hk,rfl,rfl,hb⟩:=hrel;have I:=au hb;clear HB;by_cases ab:k<n
   ·have aa:k<C.length:=by rw[<-HN.o];exact ab
    obtain⟨b1,o1,rfl,J⟩:=HA.o.at eL;obtain⟨Bk,ck,-,-,M⟩:=J k aa;have c1:=M _ hb;clear J M hb;go_wp2
    go_roundw
    case rel=>exact⟨k+1,by omega,rfl,by go_num,I.o⟩
    case measure=>simp[intOf];omega
   ·obtain rfl:k=n:=by omega
    clear hb;go_wp2;go_ret;exact aK HF.o.symm I.o
 have KD:=au (HD.o eL);have KE:=au (fun w' hb=>HE.o w' hb eL);have ad:=au (show mR C D E=(wi D 0 10000&&wi E 0 10000&&C.all (Yv ne)) by rw[HV.o,D4,decide_eq_true h1,decide_eq_true h2,decide_eq_true h3];simp);clear HD HE HV;cases h4:wi D 0 10000 with
 | false=>
  rw[h4] at KD ad;have HF:=au (show false=mR C D E by rw[ad.o];simp);clear ad h4
  go_enter Tryz.func43,Tryz.ntmps43
  go_wp2_with fail;refine KD.o.mono ?_;rintro e w' ⟨rfl,hb'⟩;have ac:=au hb';clear HB hb' KD;go_wp2;go_loopw [7,35] (fun ok i wr=>∃ k:Nat,k<=n/\ok=.bool false/\i=.int .i64 k/\Below w.heap.size w wr) (fun _ i _=>n-(intOf i).toNat)
  case atStart=>exact⟨0,fw _,rfl,rfl,ac.o⟩
  case round=>
   obtain⟨k,hk,rfl,rfl,hb⟩:=hrel;have I:=au hb;clear ac;by_cases ab:k<n
   ·have aa:k<C.length:=by rw[<-HN.o];exact ab
    obtain⟨b1,o1,rfl,J⟩:=HA.o.at eL;obtain⟨Bk,ck,-,-,M⟩:=J k aa;have c1:=M _ hb;clear J M hb;go_wp2
    go_roundw
    case rel=>exact⟨k+1,by omega,rfl,by go_num,I.o⟩
    case measure=>simp[intOf];omega
   ·obtain rfl:k=n:=by omega
    clear hb;go_wp2;go_ret;exact aK HF.o.symm I.o
 | true=>
  rw[h4] at KD ad;clear h4;cases h5:wi E 0 10000 with
  | false=>
   rw[h5] at KE ad;have HF:=au (show false=mR C D E by rw[ad.o];simp);clear ad h5
   go_enter Tryz.func43,Tryz.ntmps43
   go_wp2_with fail;refine KD.o.mono ?_;rintro e w' ⟨rfl,hb'⟩;have ac:=au hb';have af:=au (KE.o _ hb');clear HB hb' KD KE;go_wp2_with fail;refine af.o.mono ?_;rintro e w2 ⟨rfl,gE⟩;have ae:=au (aF ac.o gE);clear ac gE af;go_wp2;go_loopw [7,35] (fun ok i wr=>∃ k:Nat,k<=n/\ok=.bool false/\i=.int .i64 k/\Below w.heap.size w wr) (fun _ i _=>n-(intOf i).toNat)
   case atStart=>exact⟨0,fw _,rfl,rfl,ae.o⟩
   case round=>
    obtain⟨k,hk,rfl,rfl,hb⟩:=hrel;have I:=au hb;clear ae;by_cases ab:k<n
    ·have aa:k<C.length:=by rw[<-HN.o];exact ab
     obtain⟨b1,o1,rfl,J⟩:=HA.o.at eL;obtain⟨Bk,ck,-,-,M⟩:=J k aa;have c1:=M _ hb;clear J M hb;go_wp2
     go_roundw
     case rel=>exact⟨k+1,by omega,rfl,by go_num,I.o⟩
     case measure=>simp[intOf];omega
    ·obtain rfl:k=n:=by omega
     clear hb;go_wp2;go_ret;exact aK HF.o.symm I.o
  | true=>
   rw[h5] at KE ad;clear h5;have HF:=au (show mR C D E=C.all (Yv ne) by rw[ad.o];simp);clear ad
   go_enter Tryz.func43,Tryz.ntmps43
   go_wp2_with fail;refine KD.o.mono ?_;rintro e w' ⟨rfl,hb'⟩;have ac:=au hb';have af:=au (KE.o _ hb');clear HB hb' KD KE;go_wp2_with fail;refine af.o.mono ?_;rintro e w2 ⟨rfl,gE⟩;have ae:=au (aF ac.o gE);clear ac gE af;go_wp2;go_loopw [7,35] (fun ok i wr=>∃ k:Nat,k<=n/\ok=.bool ((C.take k).all (Yv ne))/\i=.int .i64 k/\Below w.heap.size w wr) (fun _ i _=>n-(intOf i).toNat)
   case atStart=>exact⟨0,fw _,rfl,rfl,ae.o⟩
   case round=>
    obtain⟨k,hk,rfl,rfl,hb⟩:=hrel;have I:=au hb;clear ae;by_cases ab:k<n
    ·have aa:k<C.length:=by rw[<-HN.o];exact ab
     obtain⟨b1,o1,rfl,J⟩:=HA.o.at eL;obtain⟨Bk,ck,-,ak,M⟩:=J k aa;have c1:=M _ hb;have HX:=au (Wu (ne:=ne) aa);have HK:=au (fun hl=>mG (c:=ck) (ak.below hb) hl 0 100000);have HZ:=au (show Yv ne C[k]=(decide (C[k].length=ne)&&wi C[k] 0 100000) from rfl);generalize C[k]=x at *
     obtain⟨nx,al⟩:∃ n,n=x.length:=⟨_,rfl⟩;rw[<-al] at c1 HK HZ;clear J M ak al hb;cases ht:(C.take k).all (Yv ne) with
     | false=>
      rw[ht] at HX;clear ht HZ HK;go_wp2
      go_roundw
      case rel=>exact⟨k+1,by omega,by rw[HX.o];rfl,by go_num,I.o⟩
      case measure=>simp[intOf];omega
     | true=>
      rw[ht,lx] at HX;clear ht;by_cases hx:nx=ne
      ·have KX:=au (HK.o eL);rw[decide_eq_true hx,lx] at HZ;clear HK;subst hx;go_wp2_with fail;refine KX.o.mono ?_;rintro e w' ⟨rfl,hb'⟩;have ac:=au (aF I.o hb');clear KX hb' I;go_wp2
       go_roundw
       case rel=>exact⟨k+1,by omega,by rw[HX.o,HZ.o],by go_num,ac.o⟩
       case measure=>simp[intOf];omega
      ·have HS:=au (show Yv ne x=false by rw[HZ.o,decide_eq_false hx];rfl);clear HZ HK;go_wp2
       go_roundw
       case rel=>exact⟨k+1,by omega,by rw[HX.o,HS.o],by go_num,I.o⟩
       case measure=>simp[intOf];omega
    ·obtain rfl:k=n:=by omega
     have HS:=au (show C.take k=C by rw[HN.o,ky]);clear hb;go_wp2;go_ret;exact aK (by rw[HF.o,HS.o]) I.o
def lF (l:List Int) (i:Nat):Int:=l.getD i 0
def cF (C:List (List Int)) (i j:Nat):Int:=lF (C.getD i []) j
variable {U W:List Int}{i j:Nat}{B G:eV}{f:Nat->Int}{a:Int}
theorem lS   (h:i<l.length):lF l i=l[i]:=by simp[lF,kj,h]
theorem pX   (h:i<C.length) (j:Nat):cF C i j=lF C[i] j:=by simp[cF,kj,h]
structure Sx (C:List (List Int)) (D E:List Int):Prop where
 n:C.length=D.length
 n6:D.length<=6
 m6:E.length<=6
 d:∀ i,i<D.length->0<=lF D i/\lF D i<=10000
 e:∀ i,i<E.length->0<=lF E i/\lF E i<=10000
 row:∀ i (hi:i<C.length),C[i].length=E.length
 c:∀ i,i<D.length->∀ j,j<E.length->0<=cF C i j/\cF C i j<=100000
theorem vo  {D E:List Int} (h:mR C D E=true):Sx C D E:=by
 simp only[mR,gA,decide_eq_true_eq,j8] at h;obtain⟨⟨⟨⟨⟨h1,h2⟩,h3⟩,h4⟩,M⟩,J⟩:=h;refine⟨h1,h2,h3,fun i hi=>?_,fun i hi=>?_,fun i hi=>(J _ (gv hi)).1,fun i hi j hj=>?_⟩
 ·rw[lS hi];exact Qg h4 hi
 ·rw[lS hi];exact Qg M hi
 ·have I:i<C.length:=by omega
  obtain⟨g1,g2⟩:=J _ (gv I);rw[pX I,lS eL];exact Qg g2 eL
theorem Vec.yk    (h:Vec w A l) (hn:0<l.length) :
  ∃ b o,A=some ⟨b,o,none⟩/\∀ w',Below w.heap.size w w'->∀ j,j<l.length->w'.cell? ⟨b,o+j,none⟩=some (.int .i64 (lF l j)):=by
 obtain⟨b,o,h1,h2⟩:=h.at hn;exact⟨b,o,h1,fun w' hb j hj=>by rw[lS hj];exact h2 w' hb j hj⟩
theorem uy.yk     {m:Nat} (h:uy w A C V) (hn:0<C.length) (hr:∀ i (hi:i<C.length),C[i].length=m) :
  ∃ b o,A=some ⟨b,o,none⟩/\∀ i,i<C.length->∃ B c,m<=c/\(∀ w',Below w.heap.size w w'->w'.cell? ⟨b,o+i,none⟩=some (.slice B m c)) /\
   (0<m->∃ J I,B=some ⟨J,I,none⟩/\∀ w',Below w.heap.size w w'->∀ j,j<m->w'.cell? ⟨J,I+j,none⟩=some (.int .i64 (cF C i j))):=by
 obtain⟨b,o,h1,h2⟩:=h.at hn;refine⟨b,o,h1,fun i hi=>?_⟩;obtain⟨B,c,h3,h4,h5⟩:=h2 i hi;have hm:=hr i hi;refine⟨B,c,by omega,fun w' M=>by rw[<-hm];exact h5 w' M,fun h0=>?_⟩;obtain⟨J,I,g1,g2⟩:=h4.yk eL;exact⟨J,I,g1,fun w' M j hj=>by rw[pX hi];exact g2 w' M j eL⟩
theorem wM  {b:Int}  (h:∀ i,i<n->a<=f i/\f i<=b):(n:Int)*a<=sg n f/\sg n f<=(n:Int)*b:=by
 induction n with
 | zero=>simp[sg]
 | succ n ih=>
  have:=ih (fun i hi=>h i eL);have:=h n eL;have I:((n+1:Nat):Int)*a=n*a+a:=by rw[rS,G1];simp
  have J:((n+1:Nat):Int)*b=n*b+b:=by rw[rS,G1];simp
  rw[dI,I,J];omega
def IV (C:List (List Int)) (D E U W:List Int):Bool:=mR C D E&&decide (U.length=D.length)&&decide (W.length=E.length)&&wi U (-1000000) 1000000&&wi W (-1000000) 1000000
def nR (C:List (List Int)) (D E U W:List Int):Prop:=GV (cF C) (lF D) (lF E) D.length E.length (lF U) (lF W)
open Classical in
noncomputable def kB (C:List (List Int)) (D E U W:List Int):Int × Bool:=if IV C D E U W=true/\nR C D E U W then(sg D.length (lF U)+sg E.length (lF W),true) else(0,false)
theorem yK  {D E:List Int} (h:IV C D E U W=false):kB C D E U W=(0,false):=by unfold kB;rw[if_neg (by simp[h])]
theorem aau  {D E:List Int} (h:¬ nR C D E U W):kB C D E U W=(0,false):=by unfold kB;rw[if_neg (fun g=>h g.2)]
theorem Qv  {D E:List Int} (h:IV C D E U W=true) (hF:nR C D E U W):kB C D E U W=(sg D.length (lF U)+sg E.length (lF W),true):=by unfold kB;rw[if_pos ⟨h,hF⟩]
theorem L0  {lo hi:Int} (h:wi l lo hi=true):∀ i,i<l.length->lo<=lF l i/\lF l i<=hi:=fun i hi=>by rw[lS hi];exact Qg h hi
def rQ (w:World) (x:Int × Bool) (e:Ending) (w':World):Prop:=e=.returned (.tuple (o5 x.1 x.2))/\Below w.heap.size w w'
theorem kF   {b:Bool} {x:Int × Bool} (h:x=(a,b)) (hb:Below w.heap.size w w'):rQ w x (.returned (.tuple (o5 a b))) w':=⟨by rw[h],hb⟩
structure MJ (w:World) (A B G:eV) (C:List (List Int)) (D E:List Int) (n m:Nat):Prop where
 v:Sx C D E
 hn:C.length=n
 hd:D.length=n
 hm:E.length=m
 mat:∃ V,uy w A C V
 vd:Vec w B D
 ve:Vec w G E
theorem MJ.below    {D E:List Int} {m:Nat} (h:MJ w A B G C D E n m) (hb:Below w.heap.size w w'):MJ w' A B G C D E n m:=by
 obtain⟨V,hV⟩:=h.mat;exact⟨h.v,h.hn,h.hd,h.hm,⟨V,hV.below hb⟩,h.vd.below hb,h.ve.below hb⟩
section
variable {w:World} {A B G:eV} {C:List (List Int)} {D E:List Int} {n m:Nat}
theorem MJ.n6 (h:MJ w A B G C D E n m):n<=6:=h.hd ▸ h.v.n6
theorem MJ.m6 (h:MJ w A B G C D E n m):m<=6:=h.hm ▸ h.v.m6
theorem MJ.atD (h:MJ w A B G C D E n m)  (hi:i<n):∃ b o,B=some ⟨b,o,none⟩/\(∀ w',Below w.heap.size w w'->w'.cell? ⟨b,o+i,none⟩=some (.int .i64 (lF D i)))/\0<=lF D i/\lF D i<=10000:=by
 have:=h.hd;obtain⟨b,o,h1,h2⟩:=h.vd.yk eL;exact⟨b,o,h1,fun w' hb=>h2 w' hb i eL,h.v.d i eL⟩
theorem MJ.atE (h:MJ w A B G C D E n m)  (hj:j<m):∃ b o,G=some ⟨b,o,none⟩/\(∀ w',Below w.heap.size w w'->w'.cell? ⟨b,o+j,none⟩=some (.int .i64 (lF E j)))/\0<=lF E j/\lF E j<=10000:=by
 have:=h.hm;obtain⟨b,o,h1,h2⟩:=h.ve.yk eL;exact⟨b,o,h1,fun w' hb=>h2 w' hb j eL,h.v.e j eL⟩
theorem MJ.atR (h:MJ w A B G C D E n m)  (hi:i<n):∃ b o R c,A=some ⟨b,o,none⟩/\(∀ w',Below w.heap.size w w'->w'.cell? ⟨b,o+i,none⟩=some (.slice R m c)) /\
   ∀ j,j<m->∃ J I,R=some ⟨J,I,none⟩/\(∀ w',Below w.heap.size w w'->w'.cell? ⟨J,I+j,none⟩=some (.int .i64 (cF C i j)))/\0<=cF C i j/\cF C i j<=100000:=by
 obtain⟨V,M⟩:=h.mat;have h0:=h.hn;have hm:=h.hm;have hd:=h.hd;obtain⟨b,o,h1,h2⟩:=M.yk (m:=m) eL (fun i hi=>by rw[h.v.row i hi];exact hm);obtain⟨R,c,h3,h4,h5⟩:=h2 i eL;refine⟨b,o,R,c,h1,h4,fun j hj=>?_⟩;obtain⟨J,I,g1,g2⟩:=h5 eL;exact⟨J,I,g1,fun w' hb=>g2 w' hb j hj,h.v.c i eL j eL⟩
end
theorem DK    {D E:List Int}  (hV:mR C D E=true) (h:uy w A C V) (hD:Vec w B D) (hE:Vec w G E):MJ w A B G C D E D.length E.length:=
 ⟨vo hV,(vo hV).n,rfl,rfl,⟨V,h⟩,hD,hE⟩
theorem LQ     (h:Vec w A l) (hn:l.length=n)  (hi:i<n):∃ b o,A=some ⟨b,o,none⟩/\∀ w',Below w.heap.size w w'->w'.cell? ⟨b,o+i,none⟩=some (.int .i64 (lF l i)):=by
 obtain⟨b,o,h1,h2⟩:=h.yk eL;exact⟨b,o,h1,fun w' hb=>h2 w' hb i eL⟩
def WM (C:List (List Int)) (D U W:List Int) (m k:Nat):Prop:=∀ i,i<k->(∀ j,j<m->lF U i+lF W j<=cF C i j)/\lF U i<=lF D i
theorem Od  {D:List Int} {m k:Nat} (h:WM C D U W m k) (h1:∀ j,j<m->lF U k+lF W j<=cF C k j) (h2:lF U k<=lF D k):WM C D U W m (k+1):=by
 intro i hi;by_cases e:i=k
 ·subst e;exact⟨h1,h2⟩
 ·exact h i eL
theorem Tf  {B G UA WA:eV}  {d e u v:Nat}  {D E:List Int} (h:uy w A C V) (hl:C.length<=maxLen) (hD:Vec w B D) (hE:Vec w G E) (hU:Vec w UA U) (hW:Vec w WA W) :
  Calls Tryz.prog 33 #[.slice A C.length c,.slice B D.length d,.slice G E.length e,.slice UA U.length u,.slice WA W.length v] w (rQ w (kB C D E U W)):=by
 have KV:=au (jJ (c:=c) (d:=d) (e:=e) h hl hD hE);have HP:=au (fun hv=>DK (w:=w) (C:=C) (D:=D) (E:=E) hv h hD hE);have HU:=au hU;have HW:=au hW;have KU:=au (fun (w':World) (hb:Below w.heap.size w w') hl=>mG (c:=u) (hU.below hb) hl (-1000000) 1000000);have KW:=au (fun (w':World) (hb:Below w.heap.size w w') hl=>mG (c:=v) (hW.below hb) hl (-1000000) 1000000);have I:=au (show IV C D E U W=(mR C D E&&decide (U.length=D.length)&&decide (W.length=E.length)&&wi U (-1000000) 1000000&&wi W (-1000000) 1000000) from rfl);have H6:=au (fun hv=>vo (C:=C) (D:=D) (E:=E) hv);clear h hD hE hU hW;obtain⟨n,hn⟩:∃ n,n=D.length:=⟨_,rfl⟩;obtain⟨m,hm⟩:∃ n,n=E.length:=⟨_,rfl⟩;obtain⟨nc,am⟩:∃ n,n=C.length:=⟨_,rfl⟩;obtain⟨nu,aq⟩:∃ n,n=U.length:=⟨_,rfl⟩;obtain⟨nw,ar⟩:∃ n,n=W.length:=⟨_,rfl⟩;have HN:=au hn;have HM:=au hm;have bb:=au am;have a5:=au aq;have aE:=au ar;rw[<-hn,<-hm] at HP;rw[<-aq,<-ar,<-hn,<-hm] at I;rw[<-aq] at KU;rw[<-ar] at KW;rw[<-hn,<-hm,<-am] at KV;rw[<-hn,<-hm,<-am,<-aq,<-ar];have bj:nc<=maxLen:=am ▸ hl;unfold maxLen at bj;clear hn hm am aq ar hl;cases hv:mR C D E with
 | false=>
  rw[hv] at KV I;have HF:=au (yK (C:=C) (D:=D) (E:=E) (U:=U) (W:=W) (by rw[I.o];rfl));clear hv I HP HU HW KU KW H6
  go_enter Tryz.func33,Tryz.ntmps33
  go_wp2_with fail;refine KV.o.mono ?_;rintro e w1 ⟨rfl,fW⟩;have HB:=au fW;clear fW KV;go_wp2
  go_ret2
  exact kF HF.o HB.o
 | true=>
  have M:=au (HP.o hv);have bv:=M.o.n6;have bn:=M.o.m6;have a7:nc=n:=by rw[bb.o];exact M.o.hn
  subst a7;rw[hv,lx] at I;rw[hv] at KV;clear hv HP H6;by_cases h1:nu=nc
  case neg=>
   have HF:=au (yK (C:=C) (D:=D) (E:=E) (U:=U) (W:=W) (by rw[I.o,decide_eq_false h1];rfl));clear I KU KW HU HW M
   go_enter Tryz.func33,Tryz.ntmps33
   go_wp2_with fail;refine KV.o.mono ?_;rintro e w1 ⟨rfl,fW⟩;have HB:=au fW;clear fW KV;go_wp2
   go_ret2
   exact kF HF.o HB.o
  rw[decide_eq_true h1,lx] at I;subst h1;by_cases h2:nw=m
  case neg=>
   have HF:=au (yK (C:=C) (D:=D) (E:=E) (U:=U) (W:=W) (by rw[I.o,decide_eq_false h2];rfl));clear I KU KW HU HW M
   go_enter Tryz.func33,Tryz.ntmps33
   go_wp2_with fail;refine KV.o.mono ?_;rintro e w1 ⟨rfl,fW⟩;have HB:=au fW;clear fW KV;go_wp2
   go_ret2
   exact kF HF.o HB.o
  rw[decide_eq_true h2,lx] at I;subst h2;have ac:=au (fun w' hb=>KU.o w' hb eL);have af:=au (fun w' hb=>KW.o w' hb eL);clear KU KW;cases h3:wi U (-1000000) 1000000 with
  | false=>
   rw[h3] at ac I;have HF:=au (yK (C:=C) (D:=D) (E:=E) (U:=U) (W:=W) (by rw[I.o];rfl));clear I af HU HW M h3
   go_enter Tryz.func33,Tryz.ntmps33
   go_wp2_with fail;refine KV.o.mono ?_;rintro e w1 ⟨rfl,fW⟩;have HB:=au fW;have ad:=au (ac.o _ fW);clear fW KV ac;go_wp2_with fail;refine ad.o.mono ?_;rintro e w2 ⟨rfl,gE⟩;have ab:=au (aF HB.o gE);clear HB gE ad;go_wp2
   go_ret2
   exact kF HF.o ab.o
  | true=>
   rw[h3,lx] at I;rw[h3] at ac;have aA:=au (L0 h3);rw[<-a5.o] at aA;clear h3;cases h4:wi W (-1000000) 1000000 with
   | false=>
    rw[h4] at af I;have HF:=au (yK (C:=C) (D:=D) (E:=E) (U:=U) (W:=W) (by rw[I.o]));clear I HU HW M h4
    go_enter Tryz.func33,Tryz.ntmps33
    go_wp2_with fail;refine KV.o.mono ?_;rintro e w1 ⟨rfl,fW⟩;have HB:=au fW;have ad:=au (ac.o _ fW);clear fW KV ac;go_wp2_with fail;refine ad.o.mono ?_;rintro e w2 ⟨rfl,gE⟩;have ab:=au (aF HB.o gE);have ao:=au (af.o _ ab.o);clear HB gE ad af;go_wp2_with fail;refine ao.o.mono ?_;rintro e w3 ⟨rfl,me⟩;have aa:=au (aF ab.o me);clear ab me ao;go_wp2
    go_ret2
    exact kF HF.o aa.o
   | true=>
    rw[h4] at af I;have ax:=au (L0 h4);rw[<-aE.o] at ax;have ag:=au (fun hf=>aau (C:=C) (D:=D) (E:=E) (U:=U) (W:=W) hf);have J:=au (fun hf=>Qv (C:=C) (D:=D) (E:=E) (U:=U) (W:=W) I.o hf);have al:=au (show nR C D E U W=GV (cF C) (lF D) (lF E) D.length E.length (lF U) (lF W) from rfl);rw[<-HN.o,<-HM.o] at J al;clear I h4
    go_enter Tryz.func33,Tryz.ntmps33
    go_wp2_with fail;refine KV.o.mono ?_;rintro e w1 ⟨rfl,fW⟩;have HB:=au fW;have ad:=au (ac.o _ fW);clear fW KV ac;go_wp2_with fail;refine ad.o.mono ?_;rintro e w2 ⟨rfl,gE⟩;have ab:=au (aF HB.o gE);have ao:=au (af.o _ ab.o);clear HB gE ad af;go_wp2_with fail;refine ao.o.mono ?_;rintro e w3 ⟨rfl,me⟩;have aa:=au (aF ab.o me);have aD:=au (M.o.below aa.o);have bi:=au (HU.o.below aa.o);have a1:=au (HW.o.below aa.o);clear ab me ao M HU HW;go_wp2
    go_loop [12,50] (fun s i=>∃ k:Nat,k<=nu/\s=.int .i64 (sg k (lF U))/\i=.int .i64 k/\WM C D U W nw k) (fun _ i=>nu-(intOf i).toNat)
    case atStart=>exact⟨0,fw _,rfl,rfl,fun i hi=>absurd hi (nB i)⟩
    case round=>
     obtain⟨k,hk,rfl,rfl,hg⟩:=hrel;have HG:=au hg;have bc:=wM (n:=k) (fun i hi=>aA.o i eL);clear hg;by_cases ap:k<nu
     ·obtain⟨bu,ou,rfl,a6⟩:=LQ bi.o a5.o.symm ap;have c0:=a6 _ (fe _ _);have bm:=aA.o k eL;have HS:=au (dI (n:=k) (f:=lF U));generalize a8:lF U k=x at *
      have aw:=au a8;clear a6 a8;go_wp2
      go_loop [57] (fun i=>∃ j:Nat,j<=nw/\i=.int .i64 j/\∀ t,t<j->x+lF W t<=cF C k t) (fun i=>nw-(intOf i).toNat)
      case atStart=>exact⟨0,fw _,rfl,fun t ht=>absurd ht (nB t)⟩
      case round=>
       obtain⟨j,hj,rfl,ak⟩:=hrel;have ai:=au ak;clear ak;by_cases ae:j<nw
       ·obtain⟨bw,ow,rfl,an⟩:=LQ a1.o aE.o.symm ae;have c1:=an _ (fe _ _);have bh:=ax.o j eL;obtain⟨ba,oa,R,cR,rfl,a4,az⟩:=aD.o.atR ap;obtain⟨b',o',rfl,a9,bo⟩:=az j ae;have c2:=a4 _ (fe _ _);have c3:=a9 _ (fe _ _)
        have HY:=au (show(∀ t,t<j+1->x+lF W t<=cF C k t)↔x+lF W j<=cF C k j from⟨fun h=>h j eL,fun h t ht=>by
         by_cases e:t=j
         ·subst e;exact h
         ·exact ai.o t eL⟩)
        have HZ:=au (show ¬ x+lF W j<=cF C k j->¬ nR C D E U W from fun h hf=>by rw[al.o] at hf;exact h (aw.o ▸ hf.c k ap j ae));generalize lF W j=y at *
        generalize cF C k j=z at *
        clear an a4 az a9;by_cases a0:z<x+y
        ·have HR:=au (ag.o (HZ.o eL));clear ag HZ HY J;go_wp2
         go_ret2
         exact kF HR.o aa.o
        ·have HR:=au (HY.o.2 eL);clear HZ HY;go_wp2
         go_round
         case rel=>exact⟨j+1,by omega,by go_num,HR.o⟩
         case measure=>simp[intOf];omega
       ·obtain rfl:j=nw:=by omega
        obtain⟨bd,od,rfl,a2,br⟩:=aD.o.atD ap;have c4:=a2 _ (fe _ _);have HZ:=au (show ¬ x<=lF D k->¬ nR C D E U W from fun h hf=>by rw[al.o] at hf;exact h (aw.o ▸ hf.d k ap));have HR:=au (fun h2=>Od HG.o (fun t ht=>aw.o.symm ▸ ai.o t ht) (aw.o.symm ▸ h2));generalize lF D k=z at *
        clear a2;by_cases a0:z<x
        ·have HR:=au (ag.o (HZ.o eL));clear ag HZ J;go_wp2
         go_ret2
         exact kF HR.o aa.o
        ·have bf:=au (HR.o eL);clear HZ HR;go_wp2
         go_round
         case rel=>exact⟨k+1,by omega,by rw[HS.o];try go_num,by go_num,bf.o⟩
         case measure=>simp[intOf];omega
     ·obtain rfl:k=nu:=by omega
      have bp:=au bc;go_wp2
      go_loop [12,86] (fun s i=>∃ j:Nat,j<=nw/\s=.int .i64 (sg k (lF U)+sg j (lF W))/\i=.int .i64 j/\∀ t,t<j->lF W t<=lF E t) (fun _ i=>nw-(intOf i).toNat)
      case atStart=>exact⟨0,fw _,by simp[sg],rfl,fun t ht=>absurd ht (nB t)⟩
      case round=>
       obtain⟨j,hj,rfl,rfl,ak⟩:=hrel;have ai:=au ak;have bk:=wM (n:=j) (fun i hi=>ax.o i eL);clear ak;by_cases ae:j<nw
       ·obtain⟨bw,ow,rfl,an⟩:=LQ a1.o aE.o.symm ae;have c1:=an _ (fe _ _);have bh:=ax.o j eL;obtain⟨be,oe,rfl,a3,bx⟩:=aD.o.atE ae;have c2:=a3 _ (fe _ _);have HS:=au (dI (n:=j) (f:=lF W))
        have HY:=au (show(∀ t,t<j+1->lF W t<=lF E t)↔lF W j<=lF E j from⟨fun h=>h j eL,fun h t ht=>by
         by_cases e:t=j
         ·subst e;exact h
         ·exact ai.o t eL⟩)
        have HZ:=au (show ¬ lF W j<=lF E j->¬ nR C D E U W from fun h hf=>by rw[al.o] at hf;exact h (hf.e j ae));generalize lF W j=y at *
        generalize lF E j=z at *
        generalize sg k (lF U)=sU at *
        generalize sg j (lF W)=sW at *
        clear an a3;by_cases a0:z<y
        ·have HR:=au (ag.o (HZ.o eL));clear ag HZ HY J;go_wp2
         go_ret2
         exact kF HR.o aa.o
        ·have HR:=au (HY.o.2 eL);clear HZ HY;go_wp2
         go_round
         case rel=>exact⟨j+1,by omega,by rw[HS.o];try go_num,by go_num,HR.o⟩
         case measure=>simp[intOf];omega
       ·obtain rfl:j=nw:=by omega
        have HR:=au (J.o (by rw[al.o];exact⟨fun i hi=>(HG.o i hi).1,fun i hi=>(HG.o i hi).2,ai.o⟩));clear J ag;go_wp2
        go_ret2
        exact kF HR.o aa.o
theorem toList_madeCells_one (z:Value) (n:Nat):(madeCells #[z] n).toList=List.replicate n z:=by
 refine vl fun i=>?_;simp only[madeCells,I0,Array.toList_range,lz,Cl];by_cases h:i<n
 ·simp[h,Nat.mod_one]
 ·simp[h]
variable {P:Program}{a:Act}{K:Act->World->Prop}{Q:Exit->Act->World->Prop}{t e:TypeId}{z:Value}{g:Nat}{F:Nat->Prop}
theorem Qw  {o:Oper}       {bytes:Nat} (S:eB P t e z 1 bytes) (aa:bytes<=1000) (l:Operand) (M:o.op=Op.makeSlice t l l) (n:Nat) (hn:n<=1000) (hl:a.eval l=.int .i64 (n:Int)) (hz:z.cells=#[z])
  (hK:∀ w',bT w eR (aV e 1 (.slice (some ⟨w.heap.size,0,none⟩) n n) n (List.replicate n z)) w'->K (a.put o.dst (.slice (some ⟨w.heap.size,0,none⟩) n n)) w'):o.wp P a w K Q:=by
 obtain⟨ht,hi,ad,ae⟩:=S;obtain⟨i,hi,ac,ab,J⟩:=info_parts hi;obtain⟨w',I,r1,r2⟩:=run_make_full (P:=P) w w.heap.size t e i z 1 ht hi ac ab .i64 .i64 n (by rw[J];have:=tv aa hn;omega) (by simp only[maxLen];omega) (fy _)
 have h2:=hK w' (vv (by
  rw[AI,hz,toList_madeCells_one] at r1;exact r1) (Mod.below (F:=fun _=>False) (Mod.xV r2 (fun k hk=>by cases hk)) (fun _ _ h=>h)))
 unfold Oper.wp;simp[execOp,M,hl,I,Result.andThen];exact h2
theorem LU  {ops:Array Oper} {rest:List Oper} {o:Oper}    (hg:o.guard=none)   {bytes:Nat} (S:eB P t e z 1 bytes) (M:bytes<=1000) (l:Operand) (I:o.op=Op.makeSlice t l l) (n:Nat) (hn:n<=1000) (hl:a.eval l=.int .i64 (n:Int)) (hz:z.cells=#[z])
  (hK:∀ w',bT w eR (aV e 1 (.slice (some ⟨w.heap.size,0,none⟩) n n) n (List.replicate n z)) w'->wpList P ops Q rest (a.put o.dst (.slice (some ⟨w.heap.size,0,none⟩) n n)) w'):wpList P ops Q (o::rest) a w:=
 wpList_plain hg fun _ J=>Qw S M l I n hn hl hz fun w' h=>J _ _ (hK w' h)
theorem oZ:eB Tryz.prog 39 3 (.int .i64 0) 1 8:=⟨Tryz.underlying39,by kernel_rfl,rfl,by decide⟩
theorem Oe:eB Tryz.prog 78 39 (.slice none 0 0) 1 24:=⟨Tryz.underlying78,by kernel_rfl,rfl,by decide⟩
def fv (n:Nat) (f:Nat->Value):List Value:=(List.range n).map f
theorem z8 (n:Nat) (f:Nat->Value):(fv n f).length=n:=by simp[fv]
theorem qy  (f:Nat->Value)  (h:i<n):(fv n f)[i]?=some (f i):=by simp[fv,h]
def wv (f:Nat->Value) (k:Nat) (v:Value):Nat->Value:=fun i=>if i=k then v else f i
theorem Og (n:Nat) (f:Nat->Value) (k:Nat) (v:Value):(fv n f).set k v=fv n (wv f k v):=by
 refine vl fun i=>?_;by_cases h:i<n
 ·rw[qy _ h,List.getElem?_set];by_cases e:k=i
  ·subst e;simp[z8,h,wv]
  ·have:¬ i=k:=fun h=>e h.symm;simp[e,wv,this,qy _ h]
 ·rw[pN (by rw[rq,z8];omega),pN (by rw[z8];omega)]
theorem qP  {f g:Nat->Value} (h:∀ i,i<n->f i=g i):fv n f=fv n g:=nt fun i hi=>h i (List.mem_range.1 hi)
theorem uF (n:Nat) (v:Value):List.replicate n v=fv n (fun _=>v):=by simp[fv,Kf]
def kI (g n:Nat) (f:Nat->Int):CH.aT:=aV 3 1 (.slice (some ⟨g,0,none⟩) n n) n (fv n fun i=>.int .i64 (f i))
theorem Aa  :(kI g n f).Ok:=dK
instance {g n:Nat} {f:Nat→Int}:(kI g n f).Ok:=Aa
theorem aav     (h:kI g n f w F)  (J:k<n) (b:Int) {T:Nat->Int} (I:∀ i,i<n->T i=if i=k then b else f i):bT w F (kI g n T) (w.setCell ⟨g,k,none⟩ (.int .i64 b)):=by
 have:=vB h (i:=k) eL (.int .i64 b);rw[Og] at this;unfold kI;rw[qP (f:=fun i=>.int .i64 (T i)) (g:=wv (fun i=>.int .i64 (f i)) k (.int .i64 b)) (fun i hi=>by unfold wv;simp only[I i hi];split<;>rfl)];exact this
theorem acS     (h:kI g n f w F)  (hk:k<n):w.cell? ⟨g,k,none⟩=some (.int .i64 (f k)):=nH h (qy _ hk)
theorem WO     (h:kI g n f w F) (k:Nat) (hn:0<n):w.frozen? ⟨g,k,none⟩=false:=qV h k hn
structure Gq (w:World) (A B G:eV) (c:Nat->Nat->Int) (d e:Nat->Int) (n m:Nat):Prop where
 n7:n<=7
 m6:m<=6
 db:∀ i,i<n->0<=d i/\d i<=10000
 eb:∀ j,j<m->0<=e j/\e j<=10000
 cb:∀ i,i<n->∀ j,j<m->0<=c i j/\c i j<=100000
 ds:Src w B n 1 (fv n fun i=>.int .i64 (d i))
 es:Src w G m 1 (fv m fun j=>.int .i64 (e j))
 rows:∃ RV:List Value,Src w A n 1 RV/\∀ i,i<n->∃ R cp,RV[i]?=some (.slice R m cp) /\
   ∀ j,j<m->∃ b' o',R=some ⟨b',o',none⟩/\∀ w',Below w.heap.size w w'->w'.cell? ⟨b',o'+j,none⟩=some (.int .i64 (c i j))
section
variable {w w':World} {A B G:eV} {c:Nat→Nat→Int} {d e:Nat→Int} {n m:Nat}
theorem yL  (h:Src w B n 1 xs)  (hi:i<n)  (M:xs[i]?=some v):∃ b o,B=some ⟨b,o,none⟩/\∀ w',Below w.heap.size w w'->w'.cell? ⟨b,o+i,none⟩=some v:=by
 obtain⟨b,o,rfl,J⟩:=Src.open_ h eL eL;refine⟨b,o,rfl,fun w' hb=>?_⟩;have I:=J i v M;rw[hb.cell (py _ _ I)];exact I
theorem Gq.D (h:Gq w A B G c d e n m) (i:Nat) (hi:i<n):∃ b o,B=some ⟨b,o,none⟩/\∀ w',Below w.heap.size w w'->w'.cell? ⟨b,o+i,none⟩=some (.int .i64 (d i)):=yL h.ds hi (qy _ hi)
theorem Gq.E (h:Gq w A B G c d e n m) (j:Nat) (hj:j<m):∃ b o,G=some ⟨b,o,none⟩/\∀ w',Below w.heap.size w w'->w'.cell? ⟨b,o+j,none⟩=some (.int .i64 (e j)):=yL h.es hj (qy _ hj)
theorem Gq.R (h:Gq w A B G c d e n m) (i:Nat) (hi:i<n):∃ b o R I,A=some ⟨b,o,none⟩/\(∀ w',Below w.heap.size w w'->w'.cell? ⟨b,o+i,none⟩=some (.slice R m I)) /\
   ∀ j,j<m->∃ M J,R=some ⟨M,J,none⟩/\∀ w',Below w.heap.size w w'->w'.cell? ⟨M,J+j,none⟩=some (.int .i64 (c i j)):=by
 obtain⟨RV,h1,h2⟩:=h.rows;obtain⟨R,I,h3,h4⟩:=h2 i hi;obtain⟨b,o,h5,h6⟩:=yL h1 hi h3;exact⟨b,o,R,I,h5,h6,h4⟩
theorem Qx (l:List Int):ints l=fv l.length (fun i=>.int .i64 (lF l i)):=by
 refine vl fun i=>?_;by_cases h:i<l.length
 ·rw[DC h,qy _ h,lS h]
 ·rw[pN (by rw[yw];omega),pN (by rw[z8];omega)]
theorem MJ.q  {D E:List Int} (h:MJ w A B G C D E n m):Gq w A B G (cF C) (lF D) (lF E) n m where
 n7:=by have:=h.n6;omega
 m6:=h.m6
 db:=fun i hi=>h.v.d i (by have:=h.hd;omega)
 eb:=fun i hi=>h.v.e i (by have:=h.hm;omega)
 cb:=fun i hi j hj=>h.v.c i (by have:=h.hd;omega) j (by have:=h.hm;omega)
 ds:=by have:=h.vd;unfold Vec at this;rw[Qx,h.hd] at this;exact this
 es:=by have:=h.ve;unfold Vec at this;rw[Qx,h.hm] at this;exact this
 rows:=by
  obtain⟨V,J⟩:=h.mat;have M:=J.src;rw[h.hn] at M;refine⟨_,M,fun i hi=>?_⟩;have I:i<C.length:=by have:=h.hn;omega
  have hv:V[i]?=some (V[i]'(by rw[J.len];exact I)):=gR _;obtain⟨h1,h2⟩:=J.row i I _ hv;have hm:C[i].length=m:=by rw[h.v.row i I];exact h.hm
  refine⟨(V[i]'(by rw[J.len];exact I)).1,(V[i]'(by rw[J.len];exact I)).2,?_,fun j hj=>?_⟩
  ·rw[Cd,hv];simp[kj,I,hm]
  ·obtain⟨b',o',g1,g2⟩:=h1.yk eL;exact⟨b',o',g1,fun w' hb=>by rw[pX I];exact g2 w' hb j eL⟩
theorem Gq.below (h:Gq w A B G c d e n m) (I:Below w.heap.size w w'):Gq w' A B G c d e n m where
 n7:=h.n7
 m6:=h.m6
 db:=h.db
 eb:=h.eb
 cb:=h.cb
 ds:=aY h.ds I
 es:=aY h.es I
 rows:=by
  obtain⟨RV,h1,h2⟩:=h.rows;refine⟨RV,aY h1 I,fun i hi=>?_⟩;obtain⟨R,cp,M,h4⟩:=h2 i hi;exact⟨R,cp,M,fun j hj=>by obtain⟨b',o',g1,g2⟩:=h4 j hj;exact⟨b',o',g1,fun J g=>g2 J (aF I g)⟩⟩
end
theorem WQ {U:Nat->Bool}  {a:Int} {m:Nat} (ha:0<=a) (hf:∀ j,j<m->0<=f j):0<=vH U f a m:=by
 rcases zk (U:=U) (f:=f) (a:=a) (m:=m) with h|⟨j,h1,_,h2⟩
 ·omega
 ·have:=hf j h1;omega
theorem Gs  {B G:eV} {c:Nat->Nat->Int} {d e:Nat->Int} {m:Nat} (h:Gq w A B G c d e n m) {k:Nat} (hk:k<=n) (U:Nat->Bool):0<=L c d e n m k U/\L c d e n m k U<=(k:Int)*10000+60000:=by
 induction k generalizing U with
 | zero=>
  have:=wM (n:=m) (f:=fun j=>if U j then 0 else e j) (a:=0) (b:=10000) (fun i hi=>by have:=h.eb i hi;split<;>omega);have:=h.m6;unfold L;omega
 | succ k ih=>
  have M:=sN (U:=U) (f:=fun j=>c (n-(k+1)) j+L c d e n m k (ins U j)) (a:=d (n-(k+1))+L c d e n m k U) (m:=m);have h2:=ih eL U;have J:=h.db (n-(k+1)) eL
  have h4:=WQ (U:=U) (f:=fun j=>c (n-(k+1)) j+L c d e n m k (ins U j)) (a:=d (n-(k+1))+L c d e n m k U) (m:=m) eL (fun j I=>by
   have:=ih eL (ins U j);have:=h.cb (n-(k+1)) eL j I;omega)
  show 0<=vH _ _ _ _/\vH _ _ _ _<=_
  rw[rS,G1];omega
section
variable {w0:World} {A B G:eV} {c:Nat→Nat→Int} {d e:Nat→Int} {n m g:Nat} {X:CH.aT}
end
def bt (s:Nat):Nat->Bool:=fun j=>s.testBit j
theorem Qy:bt 0=wV:=by funext j;simp[bt,wV]
theorem WR (s j:Nat):bt (s ||| 1 <<< j)=ins (bt s) j:=by
 funext x;simp only[bt,ins,Nat.testBit_or,ub,Nat.testBit_two_pow];congr 1;rw[tg];simp;omega
theorem WS (n:Nat) (hn:n<1000):bits .and .i64 (n:Int) 1=((n % 2:Nat):Int):=by
 have h1:∀ n:Fin 1000,bits .and .i64 ((n.val:Nat):Int) 1=((n.val % 2:Nat):Int):=by decide +kernel
 exact h1 ⟨n,hn⟩
theorem acT (a b:Nat) (ha:a<64) (hb:b<64):bits .or .i64 (a:Int) (b:Int)=((a ||| b:Nat):Int):=by
 have h1:∀ n m:Fin 64,bits .or .i64 ((n.val:Nat):Int) ((m.val:Nat):Int)=((n.val ||| m.val:Nat):Int):=by decide +kernel
 exact h1 ⟨a,ha⟩ ⟨b,hb⟩
theorem acU (s j:Nat):(s / 2 ^ j) % 2=if bt s j then 1 else 0:=by
 unfold bt;rw[Nat.testBit_eq_decide_div_mod_eq];have:=Nat.mod_two_eq_zero_or_one (s / 2 ^ j);by_cases h:s / 2 ^ j % 2=1
 ·simp[h]
 ·simp[h];omega
theorem Oh (s j:Nat) (hs:s<128):∃ q:Nat,(s:Int) / 2 ^ j=q/\bits .and .i64 (q:Int) 1=if bt s j then 1 else 0:=by
 refine⟨s / 2 ^ j,?_,?_⟩
 ·rw[Int.natCast_ediv,Kp];rfl
 ·rw[WS _ (Nat.lt_of_le_of_lt (Nat.div_le_self _ _) eL),acU];split<;>rfl
theorem SD (s j:Nat) (M:s<64) (hj:j<6):∃ p:Nat,wrap64 (2 ^ j)=p/\IntKind.i64.wrap (2 ^ j)=p/\bits .or .i64 (s:Int) (p:Int)=((s ||| 1 <<< j:Nat):Int):=by
 have h:1 <<< j<64:=by
  rw[ub];exact Nat.pow_lt_pow_right eS hj (a:=2)
 have J:(2:Int) ^ j=((1 <<< j:Nat):Int):=by rw[ub,Kp];rfl
 have I:∀ q:Nat,q<64->IntKind.i64.wrap (q:Int)=q:=fun q hq=>kp _ eL;refine⟨1 <<< j,?_,?_,acT s _ M h⟩
 ·rw[<-IntWalk.i64_left,J];exact I _ h
 ·rw[J];exact I _ h
theorem acV (m:Nat) (hm:m<=6):wrap64 (2 ^ m)=((1 <<< m:Nat):Int):=by
 have I:1 <<< m<=64:=by
  rw[ub];exact Nat.pow_le_pow_right eS hm (n:=2)
 have J:(2:Int) ^ m=((1 <<< m:Nat):Int):=by rw[ub,Kp];rfl
 have h:∀ q:Nat,q<=64->IntKind.i64.wrap (q:Int)=q:=fun q hq=>kp _ eL;rw[<-IntWalk.i64_left,J];exact h _ I
def kE (g n:Nat) (f:Nat->Int):CH.aT:=aV 127 64 (.slice (some ⟨g,0,none⟩) n n) n (fv (n*64) fun i=>.int .i64 (f i))
variable {M s:Nat}{f':Nat->Int}{W:World}
theorem nO  :(kE g n f).Ok:=dK
instance {g n:Nat} {f:Nat→Int}:(kE g n f).Ok:=nO
theorem qO   (h:∀ i,i<n*64->f i=f' i):kE g n f=kE g n f':=by
 unfold kE;rw[qP (fun i hi=>by rw[h i hi])]
def sK (f:Nat->Int) (p:Nat) (v:Int):Nat->Int:=fun x=>if x=p then v else f x
theorem ZV     (h:kE g n f w F)  (I:k<n*64) (b:Int):bT w F (kE g n (sK f k b)) (w.setCell ⟨g,k,none⟩ (.int .i64 b)):=by
 have:=vB h (i:=k) I (.int .i64 b);rw[Og] at this;unfold kE;rw[qP (f:=fun i=>.int .i64 (sK f k b i)) (g:=wv (fun i=>.int .i64 (f i)) k (.int .i64 b)) (fun i hi=>by unfold wv sK;split<;>rfl)];exact this
theorem wK     (h:kE g n f w F)  (hk:k<n*64):w.cell? ⟨g,k,none⟩=some (.int .i64 (f k)):=nH h (qy _ hk)
theorem Lj     (h:kE g n f w F) (k:Nat) (hn:0<n):w.frozen? ⟨g,k,none⟩=false:=qV h k hn
theorem V5 (n:Nat):(madeCells (Array.replicate 64 (Value.int .i64 0)) (n*64)).toList=fv (n*64) (fun _=>.int .i64 0):=by
 unfold fv;simp only[madeCells,I0,Array.toList_range];refine nt fun i _=>?_;have:i % (Array.replicate 64 (Value.int .i64 0)).size<(Array.replicate 64 (Value.int .i64 0)).size:=by
  simp;omega
 simp only[getElem!_def];rw[sE this];simp
theorem ZW:eB Tryz.prog 124 127 (.agg (Array.replicate 64 (.int .i64 0))) 64 512:=⟨Tryz.underlying124,by kernel_rfl,by decide,by decide⟩
theorem IG {ops:Array Oper} {rest:List Oper} {o:Oper}    (hg:o.guard=none) (l:Operand) (J:o.op=Op.makeSlice 124 l l) (n:Nat) (hn:n<=1000) (hl:a.eval l=.int .i64 (n:Int))
  (hK:∀ w',bT w eR (kE w.heap.size n (fun _=>0)) w'->wpList Tryz.prog ops Q rest (a.put o.dst (.slice (some ⟨w.heap.size,0,none⟩) n n)) w'):wpList Tryz.prog ops Q (o::rest) a w:=by
 obtain⟨ht,hi,ab,ac⟩:=ZW;obtain⟨i,hi,aa,M,I⟩:=info_parts hi;refine wpList_make_full w hg l l 124 J w.heap.size 127 i _ 64 ht hi aa M .i64 .i64 n n n hl hl rfl rfl (by rw[I];omega) (by simp only[maxLen];omega) (fy _) (fun w' h1 h2=>?_);refine hK w' (vv ?_ (Mod.below (F:=fun _=>False) (Mod.xV h2 (fun k hk=>by cases hk)) (fun _ _ h=>h)));rw[<-V5];exact h1
section
variable {w:World} {A B G:eV} {c:Nat→Nat→Int} {d e:Nat→Int} {n m:Nat}
def TB (c:Nat->Nat->Int) (d e:Nat->Int) (n m r s:Nat):Int:=L c d e n m (n-r) (bt s)
def jU (c:Nat->Nat->Int) (d e:Nat->Int) (n m M i k:Nat):Nat->Int:=fun x=>if x % 64<M/\(i<x / 64\/(x / 64=i/\x % 64<k)) then TB c d e n m (x / 64) (x % 64) else 0
theorem SF {x:Nat} (hx:x<(n+1)*64):jU c d e n m M n 0 x=0:=by
 unfold jU;rw[if_neg eL]
theorem Ll  (hM:M<=64) (hk:k<M) (x:Nat):sK (jU c d e n m M i k) (i*64+k) (TB c d e n m i k) x=jU c d e n m M i (k+1) x:=by
 unfold sK jU;by_cases e:x=i*64+k
 ·have J:x / 64=i:=by omega
  have I:x % 64=k:=by omega
  rw[if_pos e,if_pos eL,J,I]
 ·rw[if_neg e];by_cases h:x % 64<M/\(i<x / 64\/(x / 64=i/\x % 64<k))
  ·rw[if_pos h,if_pos eL]
  ·rw[if_neg h,if_neg eL]
theorem SG  (x:Nat):jU c d e n m M (i+1) M x=jU c d e n m M i 0 x:=by
 unfold jU;by_cases h:x % 64<M/\(i+1<x / 64\/(x / 64=i+1/\x % 64<M))
 ·rw[if_pos h,if_pos eL]
 ·rw[if_neg h,if_neg eL]
theorem vg {r:Nat} (hM:M<=64) (hs:s<M) (h:i<r\/(r=i/\s<k)):jU c d e n m M i k (r*64+s)=TB c d e n m r s:=by
 unfold jU;have h1:(r*64+s) / 64=r:=by omega
 have h2:(r*64+s) % 64=s:=by omega
 rw[h1,h2,if_pos ⟨hs,h⟩]
theorem Gi  (hM:M<=64) (hk:k<M):jU c d e n m M i k (i*64+k)=0:=by
 unfold jU;rw[if_neg eL]
theorem SH (f:Nat->Int) (p x:Nat):sK f p (f p) x=f x:=by
 unfold sK;split
 ·rename_i h;rw[h]
 ·rfl
theorem SI (f:Nat->Int) (p:Nat) (a b:Int) (x:Nat):sK (sK f p a) p b x=sK f p b x:=by
 unfold sK;split<;>rfl
theorem ZX (f:Nat->Int) (p:Nat) (a:Int):sK f p a p=a:=by simp[sK]
theorem ZY (s:Nat):TB c d e n m n s=sg m (fun j=>if bt s j then 0 else e j):=by unfold TB;rw[nn];rfl
theorem acA  (hi:i<n) (s:Nat):TB c d e n m i s=vH (bt s) (fun j=>c i j+TB c d e n m (i+1) (s ||| 1 <<< j)) (d i+TB c d e n m (i+1) s) m:=by
 unfold TB;have h1:n-i=(n-(i+1))+1:=by omega
 rw[h1,L];have h2:n-(n-(i+1)+1)=i:=by omega
 rw[h2];exact EP (fun j _=>by rw[WR]) (fun _ _=>rfl)
def V6 (w:World) (c:Nat->Nat->Int) (d e:Nat->Int) (n m:Nat) (en:Ending) (w':World):Prop:=
 ∃ g,en=.returned (.slice (some ⟨g,0,none⟩) (n+1) (n+1))/\bT w eR (kE g (n+1) (jU c d e n m (1 <<< m) 0 (1 <<< m))) w'
theorem Qi {X:CH.aT} {N:Nat}   (h:aI eR w (kE g N f) W) {p:Nat} (hp:p<N*64) (v:Int) (hf:∀ x,sK f p v x=f' x):aI eR w (kE g N f') (W.setCell ⟨g,p,none⟩ (.int .i64 v)):=by
 obtain⟨F1,h1,bk⟩:=h.all nO;have:=bk _ _ (ZV h1 hp v)
 rwa [qO (fun x _=>hf x)] at this
theorem V7 {m:Nat} (hm:m<=6) (hs:s<1 <<< m) (hj:j<m):s ||| 1 <<< j<1 <<< m:=by
 rw[ub] at *
 rw[ub];exact Nat.or_lt_two_pow hs (Nat.pow_lt_pow_right eS hj)
theorem V8 {m:Nat} (hm:m<=6):1 <<< m<=64:=by
 rw[ub];exact Nat.pow_le_pow_right eS hm
theorem Gj (hq:Gq w A B G c d e n m) (ca cb cg:Nat) :
  Calls Tryz.prog 45 #[.slice A n ca,.slice B n cb,.slice G m cg] w (V6 w c d e n m):=by
 have HQ:=au hq;have bh:=hq.n7;have ae:=hq.m6;clear hq;have hM:=V8 ae;have a6:=au (fun s j hs hj=>V7 (m:=m) (s:=s) (j:=j) ae hs hj);have a9:=acV m ae;have aw:=au (show ∀ (g:Nat) w',aI eR w (kE g (n+1) (jU c d e n m (1 <<< m) 0 (1 <<< m))) w'->V6 w c d e n m (.returned (.slice (some ⟨g,0,none⟩) (n+1) (n+1))) w' from fun g w' h=>⟨g,rfl,h.post nO⟩);generalize 1 <<< m=M at *
 go_enter Tryz.func45,Tryz.ntmps45
 go_wp2_with (refine IG rfl (.tmp 18) rfl (n+1) eL (by simp[Act.eval]) ?_;refine held ?_);refine lB.mk fun w1 aA=>?_;have R1:=au (((aI.begin w).fresh aN aA).imp fun _ _ h=>j5 h);clear aA;generalize hg:w.heap.size=g at *
 rw[qO (f:=fun _=>0) (f':=jU c d e n m M n 0) (fun x hx=>(SF hx).symm)] at R1;go_wp2;go_loopw [23] (fun i wr=>∃ k:Nat,k<=M/\i=.int .i64 k/\aI eR w (kE g (n+1) (jU c d e n m M n k)) wr) (fun i _=>M-(intOf i).toNat)
 case atStart=>exact⟨0,fw _,rfl,R1.o⟩
 case round=>
  obtain⟨k,hk,rfl,I⟩:=hrel;have HR:=au I;clear I R1;by_cases af:k<M
  ·have R2:Hid (aI eR w (kE g (n+1) (sK (jU c d e n m M n k) (n*64+k) 0)) wr):=au (by
    rw[qO (f':=jU c d e n m M n k) (fun x _=>by rw[<-Gi (c:=c) (d:=d) (e:=e) (n:=n) (m:=m) (i:=n) hM af,SH])]
    exact HR.o)
   go_wp2;go_loopw [28] (fun x wr=>∃ j:Nat,j<=m/\x=.int .i64 j/\aI eR w (kE g (n+1) (sK (jU c d e n m M n k) (n*64+k) (sg j (fun j=>if bt k j then 0 else e j)))) wr) (fun x _=>m-(intOf x).toNat)
   case atStart=>exact⟨0,fw _,rfl,R2.o⟩
   case round=>
    obtain⟨j,hj,rfl,I⟩:=hrel;have aa:=au I
    have bf:=wM (n:=j) (f:=fun j=>if bt k j then 0 else e j) (a:=0) (b:=10000) (fun i hi=>by
     have:=HQ.o.eb i eL
     split<;>omega)
    clear HR R2;by_cases ac:j<m
    ·obtain⟨be,oe,rfl,aq⟩:=HQ.o.E j ac;have bn:=HQ.o.eb j ac;have c0:=aq _ I.cZ;obtain⟨q,a5,J⟩:=Oh k j eL;have HS:=au (dI (n:=j) (f:=fun j=>if bt k j then 0 else e j));generalize e j=y at *
     generalize sg j (fun j=>if bt k j=true then 0 else e j)=z at *
     clear aq;cases hu:bt k j with
     | true=>
      rw[hu] at J HS;simp only[if_true] at J;clear hu I;go_wp2
      go_roundw
      case rel=>exact⟨j+1,by omega,by go_num,by rw[HS.o];simpa using aa.o⟩
      case measure=>simp[intOf];omega
     | false=>
      rw[hu] at J HS;simp only[kO,if_false] at J;have R4:=I.drew nO;obtain⟨F,hF⟩:=R4.get;have c1:=wK hF (k:=n*64+k) eL;rw[ZX] at c1;have al:=Lj hF (n*64+k) eL;have R5:=au (Qi (X:=bG) R4 (p:=n*64+k) eL (z+y) (f':=sK (jU c d e n m M n k) (n*64+k) (z+y)) (fun x=>SI _ _ _ _ _));have a8:(k:Int)<64:=by omega
      have tn:(n:Int)<(n:Int)+1:=by omega
      have t1:IntKind.i64.wrap (z+y)=z+y:=kp _ eL;clear hu hF R4 I;go_wp2_with fail;refine dZ (fun w'=>w'=wr.drew) eQ eQ eQ rfl ?_;generalize wr.drew=wd at *
      (repeat(first|refine bM ?_|refine bN ?_))
      refine jf rfl fY (fun K hK=>?_);go_wp2_with fail;refine hK.o _ _ ?_;clear hK c1 al;go_wp2
      go_roundw
      case rel=>exact⟨j+1,by omega,by go_num,by rw[HS.o];simpa using R5.o⟩
      case measure=>simp[intOf];omega
    ·obtain rfl:j=m:=by omega
     have R6:Hid (aI eR w (kE g (n+1) (jU c d e n j M n (k+1))) wr):=au (by
      rw[<-qO (f:=sK (jU c d e n j M n k) (n*64+k) (TB c d e n j n k)) (fun x _=>Ll hM af x),ZY]
      exact aa.o)
     clear aa I;go_wp2
     go_roundw
     case rel=>exact⟨k+1,by omega,by go_num,R6.o⟩
     case measure=>simp[intOf];omega
  ·obtain rfl:k=M:=by omega
   clear af;go_wp2;go_loopw [11] (fun x wr=>∃ (a:Nat) (x0:Int),a<=n/\x=.int .i64 x0/\x0=(a:Int)-1/\aI eR w (kE g (n+1) (jU c d e n m k a k)) wr) (fun x _=>(intOf x+1).toNat)
   case atStart=>exact⟨n,(n:Int)-1,fy _,by go_num,rfl,HR.o⟩
   case round=>
    obtain⟨a,x0,ha,rfl,an,I⟩:=hrel;have aa:=au I;clear HR I;cases a with
    | zero=>
     have tx:¬ 0<=x0:=by omega
     clear an;go_wp2;go_ret;exact aw.o _ _ aa.o
    | succ i=>
     obtain rfl:x0=(i:Int):=by omega
     have R4:Hid (aI eR w (kE g (n+1) (jU c d e n m k i 0)) wr):=au (by
      rw[<-qO (fun x _=>SG x)];exact aa.o)
     clear aa an;go_wp2;go_loopw [61] (fun x wr=>∃ s:Nat,s<=k/\x=.int .i64 s/\aI eR w (kE g (n+1) (jU c d e n m k i s)) wr) (fun x _=>k-(intOf x).toNat)
     case atStart=>exact⟨0,fw _,rfl,R4.o⟩
     case round=>
      obtain⟨s,hs,rfl,I⟩:=hrel;have am:=au I;clear R4;by_cases ad:s<k
      ·have R6:=I.drew nO;have ai:=au R6;obtain⟨bd,od,rfl,ao⟩:=HQ.o.D i eL;have bk:=HQ.o.db i eL;have c0:=ao _ R6.cZ;obtain⟨F,hF⟩:=R6.get;have c1:=wK hF (k:=(i+1)*64+s) eL;rw[vg hM ad (.inl eL)] at c1;have bm:0<=TB c d e n m (i+1) s/\TB c d e n m (i+1) s<=200000:=by
        have:=Gs HQ.o (show n-(i+1)<=n by omega) (bt s);unfold TB;omega
       have ag:i<n:=by omega
       have a7:(s:Int)<64:=by omega
       have ti:(0:Int)<=(i:Int)+1:=by omega
       have t1:IntKind.i64.wrap ((i:Int)+1)=((i+1:Nat):Int):=by rw[kp _ eL];omega
       have t2:IntKind.i64.wrap (d i+TB c d e n m (i+1) s)=d i+TB c d e n m (i+1) s:=kp _ eL;have a2:=au (acA (c:=c) (d:=d) (e:=e) (m:=m) (show i<n by omega) s);clear hF ao I R6 am;go_wp2_with fail;refine aR (fun w'=>w'=wr.drew) eQ eQ rfl ?_;generalize wr.drew=wd at *
       (repeat(first|refine bM ?_|refine bN ?_))
       refine lex_nil ?_;clear t1 t2 c0 c1 ti;obtain⟨ba,oa,R,cR,rfl,ar,ab⟩:=HQ.o.R i ag;have c2:=ar _ ai.o.cZ;clear ar;go_wp2;go_loopw [13,81] (fun b x wr=>∃ j:Nat,j<=m/\b=.int .i64 (vH (bt s) (fun j=>c i j+TB c d e n m (i+1) (s ||| 1 <<< j)) (d i+TB c d e n m (i+1) s) j)/\x=.int .i64 j/\aI eR w (kE g (n+1) (jU c d e n m k i s)) wr) (fun _ x _=>m-(intOf x).toNat)
       case atStart=>exact⟨0,fw _,by simp[vH],rfl,ai.o⟩
       case round=>
        obtain⟨j,hj,rfl,rfl,I⟩:=hrel;have ax:=au I;clear ai;by_cases ac:j<m
        ·obtain⟨b',o',rfl,aE⟩:=ab j ac;have c3:=aE _ I.cZ;have bi:=HQ.o.cb i ag j ac;have ap:=sN (U:=bt s) (f:=fun j=>c i j+TB c d e n m (i+1) (s ||| 1 <<< j)) (a:=d i+TB c d e n m (i+1) s) (m:=j)
         have az:=WQ (U:=bt s) (f:=fun j=>c i j+TB c d e n m (i+1) (s ||| 1 <<< j)) (a:=d i+TB c d e n m (i+1) s) (m:=j) eL (fun t ht=>by
          have:=Gs HQ.o (show n-(i+1)<=n by omega) (bt (s ||| 1 <<< t));have:=HQ.o.cb i ag t eL;unfold TB;omega)
         have HS:=au (show vH (bt s) (fun j=>c i j+TB c d e n m (i+1) (s ||| 1 <<< j)) (d i+TB c d e n m (i+1) s) (j+1)=if bt s j then vH (bt s) (fun j=>c i j+TB c d e n m (i+1) (s ||| 1 <<< j)) (d i+TB c d e n m (i+1) s) j else min (vH (bt s) (fun j=>c i j+TB c d e n m (i+1) (s ||| 1 <<< j)) (d i+TB c d e n m (i+1) s) j) (c i j+TB c d e n m (i+1) (s ||| 1 <<< j)) from rfl);generalize vH (bt s) (fun j=>c i j+TB c d e n m (i+1) (s ||| 1 <<< j)) (d i+TB c d e n m (i+1) s) j=q at *
         obtain⟨z,a5,J⟩:=Oh s j eL;have bb:=au ab;clear aE ab;cases hu:bt s j with
         | true=>
          rw[hu] at J HS;simp only[if_true] at J;clear hu I ap az;go_wp2
          go_roundw
          case rel=>exact⟨j+1,by omega,by rw[HS.o];simp,by go_num,ax.o⟩
          case measure=>simp[intOf];omega
         | false=>
          rw[hu] at J HS;simp only[kO,if_false] at J;obtain⟨p,a1,a4,a0⟩:=SD s j eL eL;have aD:=a6.o s j ad ac;have bc:0<=TB c d e n m (i+1) (s ||| 1 <<< j)/\TB c d e n m (i+1) (s ||| 1 <<< j)<=200000:=by
           have:=Gs HQ.o (show n-(i+1)<=n by omega) (bt (s ||| 1 <<< j));unfold TB;omega
          have R8:=I.drew nO;have a3:=au R8;obtain⟨F,hF⟩:=R8.get;have c4:=wK hF (k:=(i+1)*64+(s ||| 1 <<< j)) eL;rw[vg hM aD (.inl eL)] at c4;generalize s ||| 1 <<< j=so at *
          generalize TB c d e n m (i+1) so=T at *
          have ak:=au (show min q (c i j+T)=if c i j+T<q then c i j+T else q by omega);have t1:IntKind.i64.wrap ((i:Int)+1)=((i+1:Nat):Int):=by rw[kp _ eL];omega
          have t2:IntKind.i64.wrap (c i j+T)=c i j+T:=kp _ eL;have ti:(0:Int)<=(i:Int)+1:=by omega
          have ts:(so:Int)<64:=by omega
          clear hu I hF R8 ap az c2;go_wp2_with fail;refine aR (fun w'=>w'=wr.drew) eQ eQ rfl ?_;generalize wr.drew=wd at *
          (repeat(first|refine bM ?_|refine bN ?_))
          refine lex_nil ?_;clear t1 t2 ti ts c4 a1 a4 a0;go_wp2
          go_roundw
          case rel=>exact⟨j+1,by omega,by rw[HS.o,<-ak.o];rfl,by go_num,a3.o⟩
          case measure=>simp[intOf];omega
        ·obtain rfl:j=m:=by omega
         obtain⟨F,hF⟩:=I.get;have c1:=wK hF (k:=i*64+s) eL;rw[Gi hM ad] at c1;have al:=Lj hF (i*64+s) eL;rw[<-a2.o];have R9:=au (Qi (X:=bG) I (p:=i*64+s) eL (TB c d e n j i s) (fun x=>Ll hM ad x));have bj:(i:Int)<(n:Int)+1:=by omega
         clear hF I ab ax;go_wp2
         go_roundw
         case rel=>exact⟨s+1,by omega,by go_num,R9.o⟩
         case measure=>simp[intOf];omega
      ·obtain rfl:s=k:=by omega
       clear I;go_wp2
       go_roundw
       case rel=>exact⟨i,(i:Int)-1,by omega,rfl,rfl,am.o⟩
       case measure=>simp[intOf];try omega
end
theorem DF  {base:Nat}  {size:Nat} {cur:Array Value} (hb:base<=g) (h:w.heap[g]?=some (.cells cur e (0,0))) (hs:cur.size=c*size) (hc:c<=maxLen):w.ownsRow base e size (.slice (some ⟨g,0,none⟩) 0 c) 0 []:=by
 refine⟨by simp,.inr ⟨g,c,cur,rfl,hb,h,fw _,?_⟩⟩;simp[hs,hc]
theorem size_zeroCells (z:Value) (n:Nat) (hz:z.cells=#[z]):(Builtin.zeroCells z.cells n).size=n:=by
 simp[Builtin.zeroCells,hz]
def zY (w:World) (e:TypeId) (n:Nat) (xs:List Value) (en:Ending) (w':World):Prop:=∃ A c,en=.returned (.slice A n c)/\bT w eR (aV e 1 (.slice A n c) n xs) w'
structure NZ (w:World) (A:eV) (R:List (List Value)) (V:List (eV × Nat)):Prop where
 len:V.length=R.length
 src:Src w A R.length 1 (V.mapIdx fun i x=>.slice x.1 (R.getD i []).length x.2)
 row:∀ i (hi:i<R.length) x,V[i]?=some x->Src w x.1 R[i].length 1 R[i]
theorem NZ.at   {R:List (List Value)}  (h:NZ w A R V) (hn:0<R.length) :
  ∃ b o,A=some ⟨b,o,none⟩/\∀ j (I:j<R.length),∃ B c,Src w B R[j].length 1 R[j]/\∀ w',Below w.heap.size w w'->w'.cell? ⟨b,o+j,none⟩=some (.slice B R[j].length c):=by
 obtain⟨b,o,rfl,hc⟩:=Src.open_ h.src hn eL;refine⟨b,o,rfl,fun j I=>?_⟩;have M:V[j]?=some (V[j]'(by rw[h.len];exact I)):=gR _;have h1:=h.row j I _ M;refine⟨_,(V[j]'(by rw[h.len];exact I)).2,h1,fun w' hb=>?_⟩
 have J:=hc j (.slice (V[j]'(by rw[h.len];exact I)).1 R[j].length (V[j]'(by rw[h.len];exact I)).2) (by
  rw[Cd,M]
  simp[kj,I])
 rw[hb.cell (py _ _ J)];exact J
def fl (R:List (List Value)) (k:Nat):List Value:=(R.take k).flatten
def mL (R:List (List Value)):List Value:=R.flatten
theorem Wh (R:List (List Value)):fl R R.length=mL R:=by unfold fl mL;rw[ky]
theorem iX {R:List (List Value)} {k:Nat} (h:k<R.length):fl R (k+1)=fl R k++R[k]:=by
 unfold fl;rw[kq h,zj];simp
theorem Qj {R:List (List Value)} (k:Nat):(fl R k).length<=(mL R).length:=by
 unfold fl mL;have:=congrArg (fun l=>l.flatten.length) (tM k R);simp only[zj,gd] at this;omega
theorem uy.x     (h:uy w A C V):NZ w A (C.map ints) V where
 len:=by rw[h.len,gh]
 src:=by
  rw[gh];have e:(fun i (x:eV × Nat)=>Value.slice x.1 ((C.map ints).getD i []).length x.2)=fun i x=>Value.slice x.1 (C.getD i []).length x.2:=by
   funext i x;by_cases hi:i<C.length
   ·simp[kj,hi,yw]
   ·simp[kj,hi]
  rw[e];exact h.src
 row:=fun i hi x M=>by
  have I:i<C.length:=by simpa using hi
  have J:=(h.row i I x M).1;have e:(C.map ints)[i]=ints C[i]:=by simp
  rw[e,yw];exact J
theorem SK (k:Nat) (ae:k<=1000) (w:World):Calls Tryz.prog 71 #[.slice none 0 0,.int .i64 k] w (zY w 3 0 []):=by
 by_cases hk:0<k
 case neg=>
  obtain rfl:k=0:=by omega
  go_enter Tryz.func71,Tryz.ntmps71
  go_wp2;go_ret;exact⟨none,0,rfl,eR,fT _ _ _,Mod.refl _ _,fun i hi=>hi.elim⟩
 obtain⟨ht,hi,M,ad⟩:=oZ;obtain⟨i,hi,J,aa,I⟩:=info_parts hi;have hr:=fun ty=>Lib.run_append_nil_zeros (P:=Tryz.prog) w 39 3 ty 3 i (Value.int .i64 0) .i64 .i64 ht Tryz.underlying3 hi J k hk eL eL (by rw[I];omega);have ac:=grownCap_ge w k 0 3;have h:=grownCap_le_maxLen w k 0 3 (by unfold maxLen;omega);have HP:Hid (bT w eR (aV 3 1 (.slice (some ⟨w.heap.size,0,none⟩) 0 (grownCap w k 0 3)) 0 []) (w.drew.alloc (.cells (Builtin.zeroCells (Value.int .i64 0).cells k++Builtin.zeroCells (Value.int .i64 0).cells (grownCap w k 0 3-k)) 3))):=by
  refine au (vv (DF (fy _) (heap_alloc_new _ _) ?_ h) ((dF (fe _ _)).alloc (fy _) _));rw[ID,size_zeroCells _ _ rfl,size_zeroCells _ _ rfl];omega
 generalize grownCap w k 0 3=cap at *
 have ab:cap<=9223372036854775807:=h;clear hi J aa I M ht h
 go_enter Tryz.func71,Tryz.ntmps71
 go_wp2_with (at_builtin;refine Lib.wpList_append_run _ rfl _ _ _ _ rfl _ _ rfl rfl _ _ (hr _) ?_;refine held ?_);refine lB.mk ?_;go_wp2;go_ret;exact⟨_,_,rfl,HP.o⟩
theorem SN (k:Nat) (ae:k<=1000) (w:World):Calls Tryz.prog 70 #[.slice none 0 0,.int .i64 k] w (zY w 39 0 []):=by
 by_cases hk:0<k
 case neg=>
  obtain rfl:k=0:=by omega
  go_enter Tryz.func70,Tryz.ntmps70
  go_wp2;go_ret;exact⟨none,0,rfl,eR,fT _ _ _,Mod.refl _ _,fun i hi=>hi.elim⟩
 obtain⟨ht,hi,M,ad⟩:=Oe;obtain⟨i,hi,J,aa,I⟩:=info_parts hi;have hr:=fun ty=>Lib.run_append_nil_zeros (P:=Tryz.prog) w 78 3 ty 39 i (Value.slice none 0 0) .i64 .i64 ht Tryz.underlying3 hi J k hk eL eL (by rw[I];omega);have ac:=grownCap_ge w k 0 39;have h:=grownCap_le_maxLen w k 0 39 (by unfold maxLen;omega);have HP:Hid (bT w eR (aV 39 1 (.slice (some ⟨w.heap.size,0,none⟩) 0 (grownCap w k 0 39)) 0 []) (w.drew.alloc (.cells (Builtin.zeroCells (Value.slice none 0 0).cells k++Builtin.zeroCells (Value.slice none 0 0).cells (grownCap w k 0 39-k)) 39))):=by
  refine au (vv (DF (fy _) (heap_alloc_new _ _) ?_ h) ((dF (fe _ _)).alloc (fy _) _));rw[ID,size_zeroCells _ _ rfl,size_zeroCells _ _ rfl];omega
 generalize grownCap w k 0 39=cap at *
 have ab:cap<=9223372036854775807:=h;clear hi J aa I M ht h
 go_enter Tryz.func70,Tryz.ntmps70
 go_wp2_with (at_builtin;refine Lib.wpList_append_run _ rfl _ _ _ _ rfl _ _ rfl rfl _ _ (hr _) ?_;refine held ?_);refine lB.mk ?_;go_wp2;go_ret;exact⟨_,_,rfl,HP.o⟩
theorem AU    {R:List (List Value)}  (h:NZ w A R V) (h1:R.length<=1000) (h2:(mL R).length<=1000) :
  Calls Tryz.prog 48 #[.slice A R.length c] w (zY w 3 (mL R).length (mL R)):=by
 have HA:=au h;have M:=au (fun k=>Qj (R:=R) k);obtain⟨n,hn⟩:∃ n,n=R.length:=⟨_,rfl⟩;have HN:=au hn;rw[<-hn] at h1;rw[<-hn];clear h hn
 go_enter Tryz.func48,Tryz.ntmps48
 go_wp2
 go_loop [3,11] (fun s i=>∃ k:Nat,k<=n/\s=.int .i64 (((fl R k).length:Nat):Int)/\i=.int .i64 k) (fun _ i=>n-(intOf i).toNat)
 case atStart=>exact⟨0,fw _,rfl,rfl⟩
 case round=>
  obtain⟨k,hk,rfl,rfl⟩:=hrel;by_cases am:k<n
  ·have af:k<R.length:=by rw[<-HN.o];exact am
   obtain⟨b,o,rfl,hc⟩:=HA.o.at eL;obtain⟨B,cp,-,I⟩:=hc k af;have c0:=I _ (fe _ _);have an:=M.o k;have ad:=M.o (k+1);rw[iX af,gd] at ad;have HT:=au (show(fl R (k+1)).length=(fl R k).length+R[k].length by rw[iX af,gd]);generalize (fl R k).length=s at *
   generalize R[k].length=t at *
   clear hc I;go_wp2
   go_round
   case rel=>exact⟨k+1,by omega,by rw[HT.o];go_num,by go_num⟩
   case measure=>simp[intOf];omega
  ·obtain rfl:k=n:=by omega
   have HT:=au (show(fl R k)=(mL R) by rw[HN.o,Wh]);rw[HT.o];have KG:=au (SK (mL R).length h2 w);go_wp2_with fail;refine KG.o.mono ?_;rintro e w1 ⟨A1,c1,rfl,hP⟩;have HR:=au (((aI.begin w).fresh aN hP).imp fun _ _ h=>j5 h);clear KG hP;go_wp2;go_loopw [6,27] (fun v i wr=>∃ (j:Nat) (B:eV) (d:Nat),j<=k/\v=.slice B (fl R j).length d/\i=.int .i64 j/\aI eR w (aV 3 1 (.slice B (fl R j).length d) (fl R j).length (fl R j)) wr) (fun _ i _=>k-(intOf i).toNat)
   case atStart=>exact⟨0,_,_,fw _,rfl,rfl,HR.o⟩
   case round=>
    obtain⟨j,B,d,hj,rfl,rfl,hR⟩:=hrel;have J:=au hR;clear HR;by_cases ao:j<k
    ·have ae:j<R.length:=by rw[<-HN.o];exact ao
     obtain⟨b,o,rfl,hc⟩:=HA.o.at eL;obtain⟨B2,cp,aa,I⟩:=hc j ae;have c0:=I _ hR.cZ;have HS:=au (aY aa hR.cZ);have an:=M.o j;have ad:=M.o (j+1);rw[iX ae,gd] at ad;have ag:=au (iX ae);generalize (fl R j)=xs at *
     generalize R[j]=ys at *
     clear hc I aa hR;go_wp2_with (at_builtin;refine held ?_);obtain⟨F7,ab,al⟩:=J.o.all dK;refine lB.mk (jD rfl (.tmp 31) (.tmp 32) rfl oZ _ 0 (v:=.slice B xs.length d) (n:=xs.length) (xs:=xs) rfl ab.1 (A:=B2) (m:=ys.length) (c:=cp) (news:=ys) rfl HS.o eL eS (fw _) ?_);intro v8 w8 ac ai ak;have S8:=al _ _ (je ab ac ai ak);obtain⟨A8,c8,rfl⟩:=ig ac;rw[<-gd,<-ag.o] at S8;have ap:=au S8;have e9:xs.length+ys.length=(fl R (j+1)).length:=by rw[ag.o,gd]
     rw[e9];clear ac ai ak al ab HS S8 J e9;go_wp2
     go_roundw
     case rel=>exact⟨j+1,A8,c8,by omega,rfl,by go_num,ap.o⟩
     case measure=>simp[intOf];omega
    ·obtain rfl:j=k:=by omega
     rw[HT.o] at J;rw[HT.o];clear hR;go_wp2;go_ret;exact⟨B,d,rfl,J.o.post dK |> fun h=>h⟩
theorem Lm    {R:List (List Value)}  (h:NZ w A R V) (h1:R.length<=1000) (h2:(mL R).length<=1000) :
  Calls Tryz.prog 47 #[.slice A R.length c] w (zY w 39 (mL R).length (mL R)):=by
 have HA:=au h;have M:=au (fun k=>Qj (R:=R) k);obtain⟨n,hn⟩:∃ n,n=R.length:=⟨_,rfl⟩;have HN:=au hn;rw[<-hn] at h1;rw[<-hn];clear h hn
 go_enter Tryz.func47,Tryz.ntmps47
 go_wp2
 go_loop [3,11] (fun s i=>∃ k:Nat,k<=n/\s=.int .i64 (((fl R k).length:Nat):Int)/\i=.int .i64 k) (fun _ i=>n-(intOf i).toNat)
 case atStart=>exact⟨0,fw _,rfl,rfl⟩
 case round=>
  obtain⟨k,hk,rfl,rfl⟩:=hrel;by_cases am:k<n
  ·have af:k<R.length:=by rw[<-HN.o];exact am
   obtain⟨b,o,rfl,hc⟩:=HA.o.at eL;obtain⟨B,cp,-,I⟩:=hc k af;have c0:=I _ (fe _ _);have an:=M.o k;have ad:=M.o (k+1);rw[iX af,gd] at ad;have HT:=au (show(fl R (k+1)).length=(fl R k).length+R[k].length by rw[iX af,gd]);generalize (fl R k).length=s at *
   generalize R[k].length=t at *
   clear hc I;go_wp2
   go_round
   case rel=>exact⟨k+1,by omega,by rw[HT.o];go_num,by go_num⟩
   case measure=>simp[intOf];omega
  ·obtain rfl:k=n:=by omega
   have HT:=au (show(fl R k)=(mL R) by rw[HN.o,Wh]);rw[HT.o];have KG:=au (SN (mL R).length h2 w);go_wp2_with fail;refine KG.o.mono ?_;rintro e w1 ⟨A1,c1,rfl,hP⟩;have HR:=au (((aI.begin w).fresh aN hP).imp fun _ _ h=>j5 h);clear KG hP;go_wp2;go_loopw [6,27] (fun v i wr=>∃ (j:Nat) (B:eV) (d:Nat),j<=k/\v=.slice B (fl R j).length d/\i=.int .i64 j/\aI eR w (aV 39 1 (.slice B (fl R j).length d) (fl R j).length (fl R j)) wr) (fun _ i _=>k-(intOf i).toNat)
   case atStart=>exact⟨0,_,_,fw _,rfl,rfl,HR.o⟩
   case round=>
    obtain⟨j,B,d,hj,rfl,rfl,hR⟩:=hrel;have J:=au hR;clear HR;by_cases ao:j<k
    ·have ae:j<R.length:=by rw[<-HN.o];exact ao
     obtain⟨b,o,rfl,hc⟩:=HA.o.at eL;obtain⟨B2,cp,aa,I⟩:=hc j ae;have c0:=I _ hR.cZ;have HS:=au (aY aa hR.cZ);have an:=M.o j;have ad:=M.o (j+1);rw[iX ae,gd] at ad;have ag:=au (iX ae);generalize (fl R j)=xs at *
     generalize R[j]=ys at *
     clear hc I aa hR;go_wp2_with (at_builtin;refine held ?_);obtain⟨F7,ab,al⟩:=J.o.all dK;refine lB.mk (jD rfl (.tmp 31) (.tmp 32) rfl Oe _ 0 (v:=.slice B xs.length d) (n:=xs.length) (xs:=xs) rfl ab.1 (A:=B2) (m:=ys.length) (c:=cp) (news:=ys) rfl HS.o eL eS (fw _) ?_);intro v8 w8 ac ai ak;have S8:=al _ _ (je ab ac ai ak);obtain⟨A8,c8,rfl⟩:=ig ac;rw[<-gd,<-ag.o] at S8;have ap:=au S8;have e9:xs.length+ys.length=(fl R (j+1)).length:=by rw[ag.o,gd]
     rw[e9];clear ac ai ak al ab HS S8 J e9;go_wp2
     go_roundw
     case rel=>exact⟨j+1,A8,c8,by omega,rfl,by go_num,ap.o⟩
     case measure=>simp[intOf];omega
    ·obtain rfl:j=k:=by omega
     rw[HT.o] at J;rw[HT.o];clear hR;go_wp2;go_ret;exact⟨B,d,rfl,J.o.post dK |> fun h=>h⟩
theorem SQ     (h:Vec w A l) (hl:l.length<=1000) :
  Calls Tryz.prog 46 #[.slice A l.length c] w (zY w 3 l.length (ints l)):=by
 cases A with
 | none=>
  have h0:l.length=0:=by
   rcases Fl l.length with e|e
   ·exact e
   ·obtain⟨b,o,h1,_⟩:=h.at e;cases h1
  obtain rfl:=List.length_eq_zero_iff.1 h0;clear h;have af:∀ (w:World),(binOp .eql 39 (.slice none 0 c) (.slice none 0 0)).run Tryz.prog w=.ok (.bool true) w:=fun w=>Lib.run_eql_slice_nil w _ _ none _ c 0 0 Tryz.underlying39
  show Calls Tryz.prog 46 #[.slice none 0 c] w (zY w 3 0 [])
  go_enter Tryz.func46,Tryz.ntmps46
  go_wp2;go_ret;exact⟨none,0,rfl,eR,fT _ _ _,Mod.refl _ _,fun i hi=>hi.elim⟩
 | some ad=>
  have M:=(aI.begin w).fresh aN (Dz w 3 1);have HR:=au (M.imp (fun _ _ h=>j5 h));have HS:=au (aY h (show Below w.heap.size w (w.alloc (.cells #[] 3)) from(fe _ _).alloc (fy _) _));have af:∀ (w:World),(binOp .eql 39 (.slice (some ad) l.length c) (.slice none 0 0)).run Tryz.prog w=.ok (.bool false) w:=fun w=>Lib.run_eql_slice_nil w _ _ (some ad) _ c 0 0 Tryz.underlying39;clear h M
  go_enter Tryz.func46,Tryz.ntmps46
  go_wp2_with (at_builtin;refine held ?_);obtain⟨F7,I,ac⟩:=HR.o.all dK;refine lB.mk (jD rfl (.tmp 5) (.tmp 6) rfl oZ _ 0 (v:=.slice (some ⟨w.heap.size,0,none⟩) 0 0) (n:=0) (xs:=[]) rfl I.1 (A:=some ad) (m:=l.length) (c:=c) (news:=ints l) rfl HS.o eL eS (fw _) ?_);intro v8 w8 J aa ab;have S8:=ac _ _ (je I J aa ab);obtain⟨A8,c8,rfl⟩:=ig J;rw[mB,l4] at S8;have ae:=au S8;rw[mB];clear J aa ab ac I HS S8 HR;go_wp2;go_ret;exact⟨A8,c8,rfl,ae.o.post dK⟩
theorem dz {fn:Func} {p u:Tmp} {I:TypeId} (h:fn.results=#[.cell p I,.tmp u]) {P:Program} (tmps:Array Value) (w:World) (g:Nat) (t:TypeId) (cs:Array Value) (J:Nat × Nat) {d:Array Field}
  (hp:tmps.getD p undef=.pointer (some ⟨g,0,none⟩)) (M:w.heap[g]?=some (.cells cs t J))
  (hu:P.underlying I=some (.struct d)) (hi:(P.info? I).map (·.size)=some cs.size) :
  (results fn tmps).run P w=.ok (.tuple #[.agg cs,tmps.getD u undef]) w:=by
 rw[results_cell_tmp h,hp];simp[asAddr,run_loadVar_row w g t I cs J (.struct d) M hu rfl hi]
def j4:Array Value:=(gO 0 none 0 0 none 0 0 none 0 0)
def aX (A:eV) (c:Nat) (l:List Int):CH.aT:=aV 3 1 (.slice A l.length c) l.length (ints l)
variable {A1 A2 A3:eV}{g6 c1 c2 c3 J I:Nat}{ps us vs:List Int}{k:Int}
theorem dO   :(aX A c l).Ok:=dK
instance {A:eV} {c:Nat} {l:List Int}:(aX A c l).Ok:=dO
theorem yC    {x:Int}:aV 3 1 (.slice A (l.length+1) c) (l.length+1) (ints l++[.int .i64 x])=aX A c (l++[x]):=by
 unfold aX;have e:ints (l++[x])=ints l++[.int .i64 x]:=by simp[ints]
 rw[e,gd,pC]
theorem fA      (h:aX A c l w F):Vec w A l:=iG h (V4 l)
theorem lD (w:World):aX none 0 [] w eR:=fT w 3 1
def gW (g6 ga:Nat) (k:Int) (A1 A2 A3:eV) (c1 c2 c3:Nat) (ps us vs:List Int):CH.aT:=
 aj (aX A1 c1 ps) (aj (aX A2 c2 us) (aj (aX A3 c3 vs) (aj (av ga (gO k A1 ps.length c1 A2 us.length c2 A3 vs.length c3) 89) (av g6 j4 89))))
theorem nY {ga:Nat}    :(gW g6 ga k A1 A2 A3 c1 c2 c3 ps us vs).Ok:=aB dO (aB dO (aB dO (aB aC aC)))
instance {g6 ga:Nat} {k:Int} {A1 A2 A3:eV} {c1 c2 c3:Nat} {ps us vs:List Int}:(gW g6 ga k A1 A2 A3 c1 c2 c3 ps us vs).Ok:=nY
structure Wi where
 k:Int
 ps:List Int
 us:List Int
 vs:List Int
def fJ (C:List (List Int)) (D E:List Int):Wi:=⟨mW (cF C) (lF D) (lF E) D.length E.length,Yp (cF C) (lF D) (lF E) D.length E.length,BE (cF C) (lF D) (lF E) D.length E.length,BV (cF C) (lF D) (lF E) D.length E.length⟩
def LR (w0 w:World) (v:Value) (x:Wi):Prop:=
 ∃ A1 A2 A3 c1 c2 c3,v=.agg (gO x.k A1 x.ps.length c1 A2 x.us.length c2 A3 x.vs.length c3)/\Vec w A1 x.ps/\Vec w A2 x.us/\Vec w A3 x.vs/\bT w0 eR (aj (aX A2 c2 x.us) (aX A3 c3 x.vs)) w
def pK (w:World) (C:List (List Int)) (D E:List Int) (e:Ending) (w':World):Prop:=
 ∃ v,e=.returned (.tuple #[v,.int .i64 (if mR C D E then 0 else 1)])/\Below w.heap.size w w'/\LR w w' v (if mR C D E then fJ C D E else ⟨0,[],[],[]⟩)
section
variable {w0 W:World} {X Y:CH.aT}
theorem iY  {cs cs':Array Value}  (hY:Y.Ok) (h:aI eR w0 (aj (av g cs t) Y) W) (i:Nat) (v:Value) (he:cs.setIfInBounds i v=cs'):aI eR w0 (aj (av g cs' t) Y) (W.setCell ⟨g,i,none⟩ v):=by
 obtain⟨F,hC,-,bk⟩:=h.take aC hY;rw[<-he];exact bk _ _ (uq hC i v)
theorem Qk  {x:Int} {I:eV}   (hX:X.Ok)
  (h:aI eR w0 (aj (aV 3 1 (.slice I (ps.length+1) J) (ps.length+1) (ints ps++[.int .i64 x])) (aj (aX A2 c2 us) (aj (aX A3 c3 vs) (aj (av M (gO k A1 ps.length c1 A2 us.length c2 A3 vs.length c3) 89) (aj (av g6 j4 89) X))))) W) :
  aI eR w0 (aj (gW g6 M k I A2 A3 J c2 c3 (ps++[x]) us vs) X) (W.setCell ⟨M,1,none⟩ (.slice I (ps.length+1) J)):=by
 rw[yC] at h;have h1:=iY aO (h.perm (by ac_rfl:_=aj (av M (gO k A1 ps.length c1 A2 us.length c2 A3 vs.length c3) 89) (aj (aX I J (ps++[x])) (aj (aX A2 c2 us) (aj (aX A3 c3 vs) (aj (av g6 j4 89) X)))))) 1 (.slice I (ps.length+1) J) (cs':=(gO k I (ps++[x]).length J A2 us.length c2 A3 vs.length c3)) (by rw[gd,pC];rfl);unfold gW;exact h1.perm (by ac_rfl)
theorem Z4  {x:Int} {I:eV}   (hX:X.Ok)
  (h:aI eR w0 (aj (aV 3 1 (.slice I (us.length+1) J) (us.length+1) (ints us++[.int .i64 x])) (aj (aX A1 c1 ps) (aj (aX A3 c3 vs) (aj (av M (gO k A1 ps.length c1 A2 us.length c2 A3 vs.length c3) 89) (aj (av g6 j4 89) X))))) W) :
  aI eR w0 (aj (gW g6 M k A1 I A3 c1 J c3 ps (us++[x]) vs) X) (W.setCell ⟨M,2,none⟩ (.slice I (us.length+1) J)):=by
 rw[yC] at h;have h1:=iY aO (h.perm (by ac_rfl:_=aj (av M (gO k A1 ps.length c1 A2 us.length c2 A3 vs.length c3) 89) (aj (aX A1 c1 ps) (aj (aX I J (us++[x])) (aj (aX A3 c3 vs) (aj (av g6 j4 89) X)))))) 2 (.slice I (us.length+1) J) (cs':=(gO k A1 ps.length c1 I (us++[x]).length J A3 vs.length c3)) (by rw[gd,pC];rfl);unfold gW;exact h1.perm (by ac_rfl)
theorem mF      (h:aI eR w0 (aj (gW g6 I k A1 A2 A3 c1 c2 c3 ps us vs) X) W) :
  W.cell? ⟨I,0,none⟩=some (.int .i64 k)/\W.cell? ⟨I,1,none⟩=some (.slice A1 ps.length c1)/\W.cell? ⟨I,2,none⟩=some (.slice A2 us.length c2)/\W.cell? ⟨I,3,none⟩=some (.slice A3 vs.length c3)/\∀ i,W.frozen? ⟨I,i,none⟩=false:=by
 have M:=h;unfold gW at M;obtain⟨F,J⟩:=(M.perm (by ac_rfl:_=aj (av I (gO k A1 ps.length c1 A2 us.length c2 A3 vs.length c3) 89) (aj (aX A1 c1 ps) (aj (aX A2 c2 us) (aj (aX A3 c3 vs) (aj (av g6 j4 89) X)))))).fst;exact⟨ay J rfl,ay J rfl,ay J rfl,ay J rfl,aM J⟩
theorem Ql      (h:aI eR w0 (aj (gW g6 I k A1 A2 A3 c1 c2 c3 ps us vs) X) W) :
  aI eR w0 (aj (aX A1 c1 ps) (aj (aX A2 c2 us) (aj (aX A3 c3 vs) (aj (av I (gO k A1 ps.length c1 A2 us.length c2 A3 vs.length c3) 89) (aj (av g6 j4 89) X))))) W:=by
 unfold gW at h;exact h.perm (by ac_rfl)
theorem Z5      (h:aI eR w0 (aj (gW g6 I k A1 A2 A3 c1 c2 c3 ps us vs) X) W) :
  aI eR w0 (aj (aX A2 c2 us) (aj (aX A1 c1 ps) (aj (aX A3 c3 vs) (aj (av I (gO k A1 ps.length c1 A2 us.length c2 A3 vs.length c3) 89) (aj (av g6 j4 89) X))))) W:=by
 unfold gW at h;exact h.perm (by ac_rfl)
theorem Z6      (h:aI eR w0 (aj (gW g6 I k A1 A2 A3 c1 c2 c3 ps us vs) X) W) :
  aI eR w0 (aj (aX A3 c3 vs) (aj (aX A1 c1 ps) (aj (aX A2 c2 us) (aj (av I (gO k A1 ps.length c1 A2 us.length c2 A3 vs.length c3) 89) (aj (av g6 j4 89) X))))) W:=by
 unfold gW at h;exact h.perm (by ac_rfl)
theorem SS {a b c d:CH.aT} (h1:a.Ok) (h2:b.Ok) (h3:c.Ok) (h4:d.Ok) (hX:X.Ok):(aj a (aj b (aj c (aj d X)))).Ok:=aB h1 (aB h2 (aB h3 (aB h4 hX)))
instance {a b c d:CH.aT} [h1:a.Ok] [h2:b.Ok] [h3:c.Ok] [h4:d.Ok] [hX:X.Ok]:(aj a (aj b (aj c (aj d X)))).Ok:=SS h1 h2 h3 h4 hX
theorem nU (W:World) (x:Int):Src (W.alloc (.cells (fL x) 3)) (some ⟨W.heap.size,0,none⟩) 1 1 [.int .i64 x]:=Src.one (heap_alloc_new W _) rfl
end
def II (p:Prop) (O:CH.aT):CH.aT:=fun w F=>p/\O w F
variable {O X:CH.aT}{F0:Nat->Prop}{w0:World}{vs:List Value}
theorem vk {p:Prop}  (h:O.Ok):(II p O).Ok:=⟨fun⟨_,h1⟩=>h.lt h1,fun⟨h0,h1⟩ hk=>⟨h0,h.keep h1 hk⟩⟩
instance {p:Prop} {O:CH.aT} [h:O.Ok]:(II p O).Ok:=vk h
def Z7 {α:Type} (O:α->CH.aT):CH.aT:=fun w F=>∃ x,O x w F
theorem zZ {α:Type} {O:α->CH.aT} (h:∀ x,(O x).Ok):(Z7 O).Ok:=⟨fun⟨x,h1⟩=>(h x).lt h1,fun⟨x,h1⟩ hk=>⟨x,(h x).keep h1 hk⟩⟩
instance {α:Type} {O:α→CH.aT} [h:∀ x,(O x).Ok]:(Z7 O).Ok:=zZ h
theorem DI   {α:Type} {O:α->CH.aT}  (h:aI F0 w0 (aj (Z7 O) X) W):∃ x,aI F0 w0 (aj (O x) X) W:=by
 obtain⟨F,⟨F1,F2,⟨x,h1⟩,h2,h3,h4⟩,h5⟩:=h.own;exact⟨x,⟨F,⟨F1,F2,h1,h2,h3,h4⟩,h5⟩,h.mod⟩
theorem yD   {p:Prop}  (h:aI F0 w0 (aj (II p O) X) W):p/\aI F0 w0 (aj O X) W:=by
 obtain⟨F,⟨F1,F2,⟨h0,h1⟩,h2,h3,h4⟩,h5⟩:=h.own;exact⟨h0,⟨F,⟨F1,F2,h1,h2,h3,h4⟩,h5⟩,h.mod⟩
theorem run_mk   {α:Type} {p:α->Prop} {O:α->CH.aT}  (x:α) (hp:p x) (h:aI F0 w0 (aj (O x) X) W):aI F0 w0 (aj (Z7 fun x=>II (p x) (O x)) X) W:=
 h.imp fun w F hh=>bD hh (fun F h1=>⟨x,hp,h1⟩) (fun _ h=>h)
theorem Gl    (h:aI F0 w0 (aj bG X) W):aI F0 w0 X W:=h.drop
section
variable {w0 W:World} {F0:Nat→Prop} {Z:CH.aT} {ops:Array Oper} {a:Act} {Q:Exit→Act→World→Prop}
end
theorem oU  {d:Nat} (v:Value) (h:d<a.tmps.size):(a.put (some d) v).eval (.tmp d)=v:=by
 simp[Act.put,Act.eval,h]
section
variable {w W:World} {A B G A1 B1:eV} {c:Nat→Nat→Int} {d e:Nat→Int} {n m i:Nat} {RV:List Value} {x:Value}
theorem Gq.dup (h:Gq w A B G c d e n m) (hn:n<=6) (I:∀ i,i<n->∃ R cp,RV[i]?=some (.slice R m cp)/\∀ j,j<m->∃ b' J,R=some ⟨b',J,none⟩/\∀ w',Below w.heap.size w w'->w'.cell? ⟨b',J+j,none⟩=some (.int .i64 (c i j)))
  (hl:RV.length=n) (hi:i<n) (hx:RV[i]?=some x) (hb:Below w.heap.size w W) (h1:Src W A1 (n+1) 1 (RV++[x])) (h2:Src W B1 (n+1) 1 ((fv n fun j=>.int .i64 (d j))++[.int .i64 (d i)])) :
  Gq W A1 B1 G (jW c n i) (jX d n i) e (n+1) m where
 n7:=by omega
 m6:=h.m6
 db:=fun r hr=>by unfold jX;split;exact h.db i hi;exact h.db r eL
 eb:=h.eb
 cb:=fun r hr j M=>by unfold jW;split;exact h.cb i hi j M;exact h.cb r eL j M
 ds:=by
  have e:(fv (n+1) fun r=>Value.int .i64 (jX d n i r))=(fv n fun j=>.int .i64 (d j))++[.int .i64 (d i)]:=by
   unfold fv;rw[vp,km];congr 1
   ·exact nt fun r hr=>by
     have:r≠n:=by have:=List.mem_range.1 hr;omega
     simp[jX,this]
   ·simp[jX]
  rw[e];exact h2
 es:=aY h.es hb
 rows:=by
  refine⟨_,h1,fun r hr=>?_⟩;by_cases e:r=n
  ·obtain⟨R,cp,g1,g2⟩:=I i hi;rw[hx] at g1;refine⟨R,cp,?_,fun j M=>?_⟩
   ·rw[e,BW eL,hl,nn];simpa using g1
   ·obtain⟨b',J,k1,k2⟩:=g2 j M;exact⟨b',J,k1,fun w2 gE=>by simp only[jW,if_pos e];exact k2 w2 (aF hb gE)⟩
  ·obtain⟨R,cp,g1,g2⟩:=I r eL;refine⟨R,cp,?_,fun j M=>?_⟩
   ·rw[xe eL];exact g1
   ·obtain⟨b',J,k1,k2⟩:=g2 j M;exact⟨b',J,k1,fun w2 gE=>by simp only[jW,if_neg e];exact k2 w2 (aF hb gE)⟩
end
theorem Z8  {R:CH.aT} (h:aI eR w0 R W):aI eR w0 (aj bG (aj bG R)) W:=by
 have h1:aI eR w0 (aj bG R) W:=h.one.imp fun _ _ h=>iZ h;exact h1.one.imp fun _ _ h=>iZ h
theorem fR  (h:vs.length=1):∃ a,vs=[a]:=by
 match vs,h with
 | [a],_=>exact⟨a,rfl⟩
theorem D3  (h:vs.length=2):∃ a b,vs=[a,b]:=by
 match vs,h with
 | [a,b],_=>exact⟨a,b,rfl⟩
theorem Wj  (h:vs.length=3):∃ a b c,vs=[a,b,c]:=by
 match vs,h with
 | [a,b,c],_=>exact⟨a,b,c,rfl⟩
theorem Lp (A:eV) (n c:Nat) (w:World):(Instr.buildSlice 78 1 #[(0,.slice A n c)]).run Tryz.prog w=.ok (.slice (some ⟨w.heap.size,0,none⟩) 1 1) (w.alloc (.cells (ij A n c) 39)):=by go_simp
theorem uz (x:Int) (w:World):(Instr.buildSlice 39 1 #[(0,.int .i64 x)]).run Tryz.prog w=.ok (.slice (some ⟨w.heap.size,0,none⟩) 1 1) (w.alloc (.cells (fL x) 3)):=by go_simp
section
variable {w0 W:World} {F0:Nat→Prop} {Z:CH.aT} {ops:Array Oper} {a:Act} {Q:Exit→Act→World→Prop}
theorem oz {o:Oper}    (hrun:(execOp a.eval o).run Tryz.prog W=.ok (.value v) w') (h:K (a.put o.dst v) w'):o.wp Tryz.prog a W K Q:=by
 unfold Oper.wp;rw[hrun];exact h
theorem jG {o:Oper} {I:TypeId} {x:Operand} {r:Value}  (h:o.op=.buildSlice I 1 #[(0,x)]) (M:a.eval x=v) (J:(Instr.buildSlice I 1 #[(0,v)]).run Tryz.prog w=.ok r w'):(execOp a.eval o).run Tryz.prog w=.ok (.value r) w':=by
 unfold execOp;simp only[h,zE,lk,pH,M];simp only[j9,J,kx,kz]
theorem SV {o:Oper} {x:Operand}   (ho:o.op=.assign x) (hx:a.eval x=v) (h:K (a.put o.dst v) W):o.wp Tryz.prog a W K Q:=by
 refine oz (v:=v) (w':=W) ?_ h;unfold execOp;simp only[ho,hx,kz]
end
theorem Wl   {J:Nat}    {vs:List Int} (h:aI eR w0 (aj (gW g6 J k A1 A2 A3 c1 c2 c3 ps us vs) X) W) :
  W.cell? ⟨g6,0,none⟩=some (.int .i64 0)/\W.cell? ⟨g6,1,none⟩=some (.slice none 0 0)/\W.cell? ⟨g6,2,none⟩=some (.slice none 0 0)/\W.cell? ⟨g6,3,none⟩=some (.slice none 0 0)/\∀ i,W.frozen? ⟨g6,i,none⟩=false:=by
 unfold gW at h;obtain⟨F,I⟩:=(h.perm (by ac_rfl:_=aj (av g6 j4 89) (aj (aX A1 c1 ps) (aj (aX A2 c2 us) (aj (aX A3 c3 vs) (aj (av J (gO k A1 ps.length c1 A2 us.length c2 A3 vs.length c3) 89) X)))))).fst;exact⟨ay I rfl,ay I rfl,ay I rfl,ay I rfl,aM I⟩
theorem Wm   {I:Nat}    {vs:List Int} (M:X.Ok) (h:aI eR w0 (aj (gW g6 I k A1 A2 A3 c1 c2 c3 ps us vs) X) W) :
  aI eR w0 (aj (av g6 (gO k A1 ps.length c1 A2 us.length c2 A3 vs.length c3) 89) (aj (aX A1 c1 ps) (aj (aX A2 c2 us) (aj (aX A3 c3 vs) X)))) ((((W.setCell ⟨g6,0,none⟩ (.int .i64 k)).setCell ⟨g6,1,none⟩ (.slice A1 ps.length c1)).setCell ⟨g6,2,none⟩ (.slice A2 us.length c2)).setCell ⟨g6,3,none⟩ (.slice A3 vs.length c3)):=by
 unfold gW at h;have h1:=h.perm (by ac_rfl:_=aj (av g6 j4 89) (aj (aX A1 c1 ps) (aj (aX A2 c2 us) (aj (aX A3 c3 vs) (aj (av I (gO k A1 ps.length c1 A2 us.length c2 A3 vs.length c3) 89) X)))));have J:(aj (aX A1 c1 ps) (aj (aX A2 c2 us) (aj (aX A3 c3 vs) (aj (av I (gO k A1 ps.length c1 A2 us.length c2 A3 vs.length c3) 89) X)))).Ok:=SS dO dO dO aC M;have h2:=iY J h1 0 (.int .i64 k) (cs':=(gO k none 0 0 none 0 0 none 0 0)) rfl;have h3:=iY J h2 1 (.slice A1 ps.length c1) (cs':=(gO k A1 ps.length c1 none 0 0 none 0 0)) rfl;have h4:=iY J h3 2 (.slice A2 us.length c2) (cs':=(gO k A1 ps.length c1 A2 us.length c2 none 0 0)) rfl;have h5:=iY J h4 3 (.slice A3 vs.length c3) (cs':=(gO k A1 ps.length c1 A2 us.length c2 A3 vs.length c3)) rfl;have h6:=h5.perm (by ac_rfl:_=aj (av I (gO k A1 ps.length c1 A2 us.length c2 A3 vs.length c3) 89) (aj (av g6 (gO k A1 ps.length c1 A2 us.length c2 A3 vs.length c3) 89) (aj (aX A1 c1 ps) (aj (aX A2 c2 us) (aj (aX A3 c3 vs) X)))));exact h6.drop
theorem Wn   {cs:Array Value}     {vs:List Int} (h:aI eR w0 (aj (av g6 cs 89) (aj (aX A1 c1 ps) (aj (aX A2 c2 us) (aj (aX A3 c3 vs) X)))) W) :
  LR w0 W (.agg (gO k A1 ps.length c1 A2 us.length c2 A3 vs.length c3)) ⟨k,ps,us,vs⟩:=by
 obtain⟨F1,J⟩:=h.kN.fst;obtain⟨F2,M⟩:=(h.perm (by ac_rfl:_=aj (aX A2 c2 us) (aj (av g6 cs 89) (aj (aX A1 c1 ps) (aj (aX A3 c3 vs) X))))).fst;obtain⟨F3,I⟩:=(h.perm (by ac_rfl:_=aj (aX A3 c3 vs) (aj (av g6 cs 89) (aj (aX A1 c1 ps) (aj (aX A2 c2 us) X))))).fst;exact⟨A1,A2,A3,c1,c2,c3,rfl,fA J,fA M,fA I,((h.perm (by ac_rfl:_=aj (aj (av g6 cs 89) (aj (aX A1 c1 ps) X)) (aj (aX A2 c2 us) (aX A3 c3 vs)))).drop).post aO⟩
theorem Wo   (h:aI eR w0 (av g6 (gO 0 none 0 0 none 0 0 none 0 0) 89) W) :
  aI eR w0 (av g6 (gO 0 none 0 0 none 0 0 none 0 0) 89) ((((W.setCell ⟨g6,0,none⟩ (.int .i64 0)).setCell ⟨g6,1,none⟩ (.slice none 0 0)).setCell ⟨g6,2,none⟩ (.slice none 0 0)).setCell ⟨g6,3,none⟩ (.slice none 0 0)):=by
 have M:aI eR w0 (aj (av g6 (gO 0 none 0 0 none 0 0 none 0 0) 89) bG) W:=h.one;have J:=iY aN M 0 (.int .i64 0) (cs':=(gO 0 none 0 0 none 0 0 none 0 0)) rfl;have h3:=iY aN J 1 (.slice none 0 0) (cs':=(gO 0 none 0 0 none 0 0 none 0 0)) rfl;have h4:=iY aN h3 2 (.slice none 0 0) (cs':=(gO 0 none 0 0 none 0 0 none 0 0)) rfl;have I:=iY aN h4 3 (.slice none 0 0) (cs':=(gO 0 none 0 0 none 0 0 none 0 0)) rfl;exact I.imp fun _ _ h=>j5 h
theorem Lr {c:Nat->Nat->Int} {d e:Nat->Int} {m k:Nat} {x:Int} {qs:List Int} {U T:Nat->Bool} (h:Yp c d e n m=ps++gr c d e n m (k+1) U) (hg:gr c d e n m (k+1) U=x::gr c d e n m k T):Yp c d e n m=(ps++[x])++gr c d e n m k T:=by
 rw[h,hg];simp
variable {u v1 v2:Value}{d b:Nat}{J M ox:Operand}{vs:List Int}
theorem Ls  {o:Oper} {x:Operand}  (ho:o.op=.call { callee:=.value (.func 47),args:=#[x],argTypes:=#[178] }) (hx:a.eval x=v) (W:World):(execOp a.eval o).run Tryz.prog W=.ok (.enter 47 #[v]) W:=by
 unfold execOp;simp only[ho,resolve,zE,lk,pH,hx];go_simp
theorem Lu  {o:Oper} {x:Operand}  (ho:o.op=.call { callee:=.value (.func 48),args:=#[x],argTypes:=#[78] }) (hx:a.eval x=v) (W:World):(execOp a.eval o).run Tryz.prog W=.ok (.enter 48 #[v]) W:=by
 unfold execOp;simp only[ho,resolve,zE,lk,pH,hx];go_simp
theorem Lv {o:Oper}   {f:FuncId} {args:Array Value}   (I:(execOp a.eval o).run Tryz.prog W=.ok (.enter f args) W)
  (h:Calls Tryz.prog f args W (fun e w'=>∃ r,e=.returned r/\K (a.put o.dst r) w')):o.wp Tryz.prog a W K Q:=by
 unfold Oper.wp;rw[I];refine C2 h ?_;rintro e w' ⟨r,rfl,hK⟩;exact hK
theorem Lx (v1 v2:Value) (A B:eV) (n c m d:Nat) (w:World) (h1:v1=.slice A n c) (h2:v2=.slice B m d):(Instr.buildSlice 178 2 #[(0,v1),(1,v2)]).run Tryz.prog w=.ok (.slice (some ⟨w.heap.size,0,none⟩) 2 2) (w.alloc (.cells #[v1,v2] 78)):=by
 subst h1 h2;go_simp
theorem EI (v1 v2:Value) (A B:eV) (n c m d:Nat) (w:World) (h1:v1=.slice A n c) (h2:v2=.slice B m d):(Instr.buildSlice 78 2 #[(0,v1),(1,v2)]).run Tryz.prog w=.ok (.slice (some ⟨w.heap.size,0,none⟩) 2 2) (w.alloc (.cells #[v1,v2] 39)):=by
 subst h1 h2;go_simp
theorem AV  {o:Oper} {I:TypeId} {x y:Operand} {r:Value}  (h:o.op=.buildSlice I 2 #[(0,x),(1,y)]) (hx:a.eval x=v) (M:a.eval y=u) (J:(Instr.buildSlice I 2 #[(0,v),(1,u)]).run Tryz.prog w=.ok r w'):(execOp a.eval o).run Tryz.prog w=.ok (.value r) w':=by
 unfold execOp;simp only[h,zE,lk,pH,hx,M];simp only[j9,J,kx,kz]
theorem Qm      (h:av g #[u,v] t W F) (M:u.oneCell'=true) (J:v.oneCell'=true):Src W (some ⟨g,0,none⟩) 2 1 [u,v]:=by
 refine⟨rfl,fun x I=>?_,fun _=>⟨_,rfl,fun j x I=>?_⟩⟩
 ·simp at I;rcases I with rfl|rfl<;>assumption
 ·rw[Addr.zV];exact ay h (by simpa using I)
theorem LB  {D:eV} {m:Nat} {ys:List Value} (h:Src W D 2 1 [.slice A n c,.slice B m d]) (M:Src W A n 1 xs) (h2:Src W B m 1 ys):NZ W D [xs,ys] [(A,c),(B,d)]:=by
 have J:xs.length=n:=by have:=M.1;omega
 have e2:ys.length=m:=by have:=h2.1;omega
 refine⟨rfl,?_,fun i hi x I=>?_⟩
 ·have:([(A,c),(B,d)]:List (eV × Nat)).mapIdx (fun i x=>Value.slice x.1 (([xs,ys]:List (List Value)).getD i []).length x.2)=[.slice A n c,.slice B m d]:=by
   simp[J,e2]
  rw[this];exact h
 ·match i,hi,I with
  | 0,_,I=>simp at I;subst I;simpa[J] using M
  | 1,_,I=>simp at I;subst I;simpa[e2] using h2
def IJ (A:eV) (n c:Nat) (RV:List Value) (x:Value):List Value->CH.aT
 | []=>bG
 | [v]=>Z7 fun g:Nat=>II (v=.slice (some ⟨g,0,none⟩) 1 1) (av g #[x] 39)
 | [v1,v2]=>Z7 fun p:Nat × Nat=>II (v1=.slice (some ⟨p.1,0,none⟩) 1 1/\v2=.slice (some ⟨p.2,0,none⟩) 2 2) (aj (av p.1 #[x] 39) (av p.2 #[.slice A n c,v1] 78))
 | [_,_,v3]=>Z7 fun p:eV × Nat=>II (v3=.slice p.1 (n+1) p.2) (aV 39 1 v3 (n+1) (RV++[x]))
 | _=>bG
def N7 (B:eV) (n d:Nat) (dv:List Value) (y v115:Value):List Value->CH.aT
 | []=>bG
 | [v]=>Z7 fun g:Nat=>II (v=.slice (some ⟨g,0,none⟩) 2 2) (av g #[.slice B n d,v115] 39)
 | [_,v]=>Z7 fun p:eV × Nat=>II (v=.slice p.1 (n+1) p.2) (aV 3 1 v (n+1) (dv++[y]))
 | _=>bG
theorem Z9   {RV:List Value} {x:Value}:∀ vs,(IJ A n c RV x vs).Ok
 | []=>aN
 | [_]=>zZ fun _=>vk aC
 | [_,_]=>zZ fun _=>vk aO
 | [_,_,_]=>zZ fun _=>vk dK
 | _::_::_::_::_=>aN
theorem aac   {dv:List Value} {y v115:Value}:∀ vs,(N7 B n d dv y v115 vs).Ok
 | []=>aN
 | [_]=>zZ fun _=>vk aC
 | [_,_]=>zZ fun _=>vk dK
 | _::_::_::_=>aN
section
variable {w0 W:World} {Z:CH.aT} {a:Act} {o:Oper} {Q:Exit→Act→World→Prop} {A B B':eV} {n c d c':Nat} {RV dv:List Value} {x y:Value}
theorem acC  (I:o.op=.buildSlice 78 1 #[(0,J)]) (hx:a.eval J=x) (hb:∀ w:World,(Instr.buildSlice 78 1 #[(0,x)]).run Tryz.prog w=.ok (.slice (some ⟨w.heap.size,0,none⟩) 1 1) (w.alloc (.cells #[x] 39))) (hZ:Z.Ok) (h:aI eR w0 (aj (IJ A n c RV x []) Z) W) :
  o.wp Tryz.prog a W (fun M w'=>∃ v,M=a.put o.dst v/\aI eR w0 (aj (IJ A n c RV x ([]++[v])) Z) w') Q:=by
 refine oz (jG I hx (hb W)) ⟨_,rfl,?_⟩;exact run_mk (p:=fun g:Nat=>(Value.slice (some ⟨W.heap.size,0,none⟩) 1 1)=.slice (some ⟨g,0,none⟩) 1 1) W.heap.size rfl ((Gl h).fresh hZ (dP W #[x] 39))
theorem acD {oy:Operand} {I:Value} (J:o.op=.buildSlice 178 2 #[(0,M),(1,oy)]) (hx:a.eval M=.slice A n c) (hy:a.eval oy=I) (hZ:Z.Ok) (h:aI eR w0 (aj (IJ A n c RV x [I]) Z) W) :
  o.wp Tryz.prog a W (fun a' w'=>∃ v,a'=a.put o.dst v/\aI eR w0 (aj (IJ A n c RV x ([I]++[v])) Z) w') Q:=by
 obtain⟨g,h1⟩:=DI h;obtain⟨rfl,h2⟩:=yD h1;refine oz (AV J hx hy (Lx _ _ _ _ _ _ _ _ W rfl rfl)) ⟨_,rfl,?_⟩;exact run_mk (p:=fun p:Nat × Nat=>(Value.slice (some ⟨g,0,none⟩) 1 1)=.slice (some ⟨p.1,0,none⟩) 1 1/\(Value.slice (some ⟨W.heap.size,0,none⟩) 2 2)=.slice (some ⟨p.2,0,none⟩) 2 2) (O:=fun p=>aj (av p.1 #[x] 39) (av p.2 (fj A n c (some ⟨g,0,none⟩) 1 1) 78)) (g,W.heap.size) ⟨rfl,rfl⟩
  ((h2.fresh aO (dP W (fj A n c (some ⟨g,0,none⟩) 1 1) 78)).perm (by ac_rfl))
theorem acE   (J:o.op=.call { callee:=.value (.func 47),args:=#[ox],argTypes:=#[178] }) (hx:a.eval ox=v2) (h1:x.oneCell'=true) (hn:n<=100) (hRV:Src W A n 1 RV) (hZ:Z.Ok) (h:aI eR w0 (aj (IJ A n c RV x [v1,v2]) Z) W) :
  o.wp Tryz.prog a W (fun a' w'=>∃ v,a'=a.put o.dst v/\aI eR w0 (aj (IJ A n c RV x ([v1,v2]++[v])) Z) w') Q:=by
 obtain⟨⟨g,g2⟩,e1⟩:=DI h;obtain⟨⟨rfl,rfl⟩,e2⟩:=yD e1;have e3:=e2.assoc;obtain⟨F1,aa⟩:=e3.fst;obtain⟨F2,M⟩:=e3.kN.fst;have hM:=LB (Qm M rfl rfl) hRV (Src.one aa.1 h1);have hl:RV.length=n:=by have:=hRV.1;omega
 have I:mL [RV,[x]]=RV++[x]:=by simp[mL]
 have K:=Lm (c:=2) hM iz (by rw[I];simp;omega);refine Lv (Ls J hx W) (K.mono ?_);rintro e w' ⟨A5,c5,rfl,hP⟩;rw[I,gd,hl] at hP;exact⟨_,by rw[I,gd,hl];rfl,_,rfl,run_mk (p:=fun p:eV × Nat=>(Value.slice A5 (n+1) c5)=.slice p.1 (n+1) p.2) (A5,c5) rfl (e3.drop.drop.fresh hZ hP)⟩
theorem acF  (I:o.op=.buildSlice 78 2 #[(0,J),(1,M)]) (hx:a.eval J=.slice B n d) (hy:a.eval M=.slice B' 1 c') (hZ:Z.Ok) (h:aI eR w0 (aj (N7 B n d dv y (.slice B' 1 c') []) Z) W) :
  o.wp Tryz.prog a W (fun a' w'=>∃ v,a'=a.put o.dst v/\aI eR w0 (aj (N7 B n d dv y (.slice B' 1 c') ([]++[v])) Z) w') Q:=by
 refine oz (AV I hx hy (EI _ _ _ _ _ _ _ _ W rfl rfl)) ⟨_,rfl,?_⟩;exact run_mk (p:=fun g:Nat=>(Value.slice (some ⟨W.heap.size,0,none⟩) 2 2)=.slice (some ⟨g,0,none⟩) 2 2) W.heap.size rfl ((Gl h).fresh hZ (dP W (fj B n d B' 1 c') 39))
theorem acG  {J:Value} (M:o.op=.call { callee:=.value (.func 48),args:=#[ox],argTypes:=#[78] }) (hx:a.eval ox=J) (hn:n<=100) (hdv:Src W B n 1 dv) (hy:Src W B' 1 1 [y]) (hZ:Z.Ok) (h:aI eR w0 (aj (N7 B n d dv y (.slice B' 1 c') [J]) Z) W) :
  o.wp Tryz.prog a W (fun a' w'=>∃ v,a'=a.put o.dst v/\aI eR w0 (aj (N7 B n d dv y (.slice B' 1 c') ([J]++[v])) Z) w') Q:=by
 obtain⟨g,e1⟩:=DI h;obtain⟨rfl,e3⟩:=yD e1;obtain⟨F2,aa⟩:=e3.fst;have hM:=LB (Qm aa rfl rfl) hdv hy;have hl:dv.length=n:=by have:=hdv.1;omega
 have I:mL [dv,[y]]=dv++[y]:=by simp[mL]
 have K:=AU (c:=2) hM iz (by rw[I];simp;omega);refine Lv (Lu M hx W) (K.mono ?_);rintro e w' ⟨A5,c5,rfl,hP⟩;rw[I,gd,hl] at hP;exact⟨_,by rw[I,gd,hl];rfl,_,rfl,run_mk (p:=fun p:eV × Nat=>(Value.slice A5 (n+1) c5)=.slice p.1 (n+1) p.2) (A5,c5) rfl (e3.drop.fresh hZ hP)⟩
theorem aad {R:CH.aT} {v3 u1 u2:Value} (h:aI eR w0 (aj (IJ A n c RV x [v1,v2,v3]) (aj (N7 B n d dv y (.slice B' 1 c') [u1,u2]) R)) W) :
  ∃ J c5 I M,v3=.slice J (n+1) c5/\u2=.slice I (n+1) M/\aI eR w0 (aj (aV 39 1 (.slice J (n+1) c5) (n+1) (RV++[x])) (aj (aV 3 1 (.slice I (n+1) M) (n+1) (dv++[y])) R)) W:=by
 obtain⟨⟨J,c5⟩,e1⟩:=DI h;obtain⟨rfl,e2⟩:=yD e1;obtain⟨⟨I,M⟩,e3⟩:=DI e2.kN;obtain⟨rfl,e4⟩:=yD e3;exact⟨J,c5,I,M,rfl,rfl,e4.kN⟩
end
theorem Wp (bd J n d i:Nat) (hi:i<n) (hn:n<=d) (w:World):(Instr.slice 39 (.slice (some ⟨bd,J,none⟩) n d) (some (.int .i64 (i:Int))) (some (.int .i64 ((i:Int)+1))) none).run Tryz.prog w=.ok (.slice (some ⟨bd,J+i,none⟩) 1 (d-i)) w:=by
 obtain⟨ht,h,hz,aa⟩:=oZ;obtain⟨ab,h,ac,I,M⟩:=info_parts h;have h0:(0:Int)<=i:=by omega
 have h1:(0:Int)<=(i:Int)+1:=by omega
 have h2:((i:Int)+1).toNat=i+1:=by omega
 have h3:(i:Int)+1<=(d:Int):=by omega
 have h4:(i:Int)<=(i:Int)+1:=by omega
 have h5:i≠d:=by omega
 have h6:i+1-i=1:=by omega
 have h7:¬ d<=i:=by omega
 have h8:¬ d=i:=by omega
 have h9:d-i≠0:=by omega
 simp[Instr.slice,run_underlying ht,Instr.sliceBounds,Instr.sliceBound,asIntOf,sizeOf,typeInfo,h,I,Addr.add,h0,h1,h2,h3,h4,h5,h6,h7,h8,h9]
theorem oC:∀ (ds:List Nat) (vs:List Value) (a:Act),(fS a ds vs).tmps.size=a.tmps.size
 | [],_,_=>by simp[fS]
 | _::_,[],_=>rfl
 | e::ds,u::vs,a=>by
  simp only[fS];rw[oC ds vs];simp[Act.put]
theorem aae        (hX:X.Ok)
  (h:aI eR w0 (aj (aX A3 c3 vs) (aj (gW g6 I k A1 A2 none c1 c2 0 ps us []) X)) W) :
  aI eR w0 (aj (gW g6 I k A1 A2 A3 c1 c2 c3 ps us vs) X) (W.setCell ⟨I,3,none⟩ (.slice A3 vs.length c3)):=by
 unfold gW at h;have J:=(h.perm (by ac_rfl:_=aj (aX none 0 []) (aj (aX A3 c3 vs) (aj (aX A1 c1 ps) (aj (aX A2 c2 us) (aj (av I (gO k A1 ps.length c1 A2 us.length c2 none 0 0) 89) (aj (av g6 j4 89) X))))))).drop;have M:=iY aO (J.perm (by ac_rfl:_=aj (av I (gO k A1 ps.length c1 A2 us.length c2 none 0 0) 89) (aj (aX A3 c3 vs) (aj (aX A1 c1 ps) (aj (aX A2 c2 us) (aj (av g6 j4 89) X)))))) 3 (.slice A3 vs.length c3) (cs':=(gO k A1 ps.length c1 A2 us.length c2 A3 vs.length c3)) rfl;unfold gW;exact M.perm (by ac_rfl)
theorem aaf  {Y:CH.aT}   {x:Int} (hY:Y.Ok) (hi:i<l.length) (h:aI eR w0 (aj (aX (some ⟨b,0,none⟩) c l) Y) W):aI eR w0 (aj (aX (some ⟨b,0,none⟩) c (l.set i x)) Y) (W.setCell ⟨b,i,none⟩ (.int .i64 x)):=by
 obtain⟨F,hV,-,J⟩:=h.take dO hY;have I:=vB hV (i:=i) eL (.int .i64 x);have e:(ints l).set i (.int .i64 x)=ints (l.set i x):=by simp[ints,vt]
 rw[e] at I;have M:=J (aX (some ⟨b,0,none⟩) c (l.set i x)) _ (by unfold aX;rw[rq];exact I);exact M
theorem aag {m y:Nat} (f g:Nat->Int) (M:y<m):((List.range m).map (fun t=>if t<y then g t else f t)).set y (g y)=(List.range m).map (fun t=>if t<y+1 then g t else f t):=by
 refine Jn iz fun i J I=>?_;rw[Jx];simp only[mA,It];by_cases e:y=i
 ·subst e;simp
 ·rw[if_neg e];by_cases h:i<y
  ·rw[if_pos h,if_pos eL]
  ·rw[if_neg h,if_neg eL]
theorem aah        (hn:n=vs.length)
  (h:aI eR w0 (aj (aX A3 c3 vs) (aj (aX A1 c1 ps) (aj (aX A2 c2 us) (aj (av I (gO k A1 ps.length c1 A2 us.length c2 A3 n c3) 89) (aj (av g6 j4 89) X))))) W) :
  aI eR w0 (aj (gW g6 I k A1 A2 A3 c1 c2 c3 ps us vs) X) W:=by
 subst hn;unfold gW;exact h.perm (by ac_rfl)
def gF (pg gg:Nat) (rb:Nat->Nat) (f:Nat->Nat->Int) (i n m:Nat):CH.aT:=
 aj (av pg (ij (some ⟨gg,0,none⟩) (n+1) (n+1)) 78)
  (aj (aV 39 1 (.slice (some ⟨gg,0,none⟩) (n+1) (n+1)) (n+1) (fv (n+1) fun r=>if i<=r then .slice (some ⟨rb r,0,none⟩) (m+1) (m+1) else .slice none 0 0))
   (nG (List.range' i (n+1-i)) fun r=>kI (rb r) (m+1) (f r)))
variable {r y:Nat}
theorem uD {pg gg:Nat} {rb:Nat->Nat} {f:Nat->Nat->Int} {m:Nat}:(gF pg gg rb f i n m).Ok:=aB aC (aB dK (BO fun _=>Aa))
instance {pg gg:Nat} {rb:Nat→Nat} {f:Nat→Nat→Int} {i n m:Nat}:(gF pg gg rb f i n m).Ok:=uD
section
variable {w0 W:World} {X:CH.aT} {pg gg:Nat} {rb:Nat→Nat} {f:Nat→Nat→Int} {i n m:Nat}
theorem yE (h:aI eR w0 (aj (gF pg gg rb f i n m) X) W):W.cell? ⟨pg,0,none⟩=some (.slice (some ⟨gg,0,none⟩) (n+1) (n+1)):=by
 unfold gF at h;obtain⟨F,hC⟩:=h.assoc.fst;exact ay hC rfl
theorem yF (h:aI eR w0 (aj (gF pg gg rb f i n m) X) W)  (J:i<=r) (I:r<=n):W.cell? ⟨gg,r,none⟩=some (.slice (some ⟨rb r,0,none⟩) (m+1) (m+1)):=by
 unfold gF at h;obtain⟨F,M⟩:=h.assoc.kN.assoc.fst;have:=nH M (qy (fun r=>if i<=r then Value.slice (some ⟨rb r,0,none⟩) (m+1) (m+1) else .slice none 0 0) (show r<n+1 by omega));rw[if_pos J] at this;exact this
theorem yG (h:aI eR w0 (aj (gF pg gg rb f i n m) X) W)  (hr:i<=r) (J:r<=n) :
  aI eR w0 (aj (kI (rb r) (m+1) (f r)) (aj (nG ((List.range' i (n+1-i)).erase r) fun r=>kI (rb r) (m+1) (f r)) (aj (av pg (ij (some ⟨gg,0,none⟩) (n+1) (n+1)) 78)
  (aj (aV 39 1 (.slice (some ⟨gg,0,none⟩) (n+1) (n+1)) (n+1) (fv (n+1) fun r=>if i<=r then .slice (some ⟨rb r,0,none⟩) (m+1) (m+1) else .slice none 0 0)) X)))) W:=by
 unfold gF at h
 have I:=h.perm (by ac_rfl:_=aj (nG (List.range' i (n+1-i)) fun r=>kI (rb r) (m+1) (f r)) (aj (av pg (ij (some ⟨gg,0,none⟩) (n+1) (n+1)) 78)
  (aj (aV 39 1 (.slice (some ⟨gg,0,none⟩) (n+1) (n+1)) (n+1) (fv (n+1) fun r=>if i<=r then .slice (some ⟨rb r,0,none⟩) (m+1) (m+1) else .slice none 0 0)) X)))
 have hm:r ∈ List.range' i (n+1-i):=by rw[IM];omega
 exact(I.imp fun w F M=>bD M (fun F h=>Mc hm h) (fun _ h=>h)).assoc
theorem yH (h:aI eR w0 (aj (gF pg gg rb f i n m) X) W)  (hr:i<=r) (hr2:r<=n) (hy:y<=m):W.cell? ⟨rb r,y,none⟩=some (.int .i64 (f r y)):=by
 obtain⟨F,hN⟩:=(yG h hr hr2).fst;exact acS hN eL
theorem SY (h:aI eR w0 (aj (gF pg gg rb f i n m) X) W)  (hr:i<=r) (hr2:r<=n) (y:Nat):W.frozen? ⟨rb r,y,none⟩=false:=by
 obtain⟨F,hN⟩:=(yG h hr hr2).fst;exact WO hN y eL
theorem LC (hX:X.Ok) (h:aI eR w0 (aj (gF pg gg rb f i n m) X) W)  (hr:i<=r) (I:r<=n) (hy:y<=m) (x:Int) {f':Nat->Nat->Int} (hf:∀ a b,f' a b=if a=r/\b=y then x else f a b) :
  aI eR w0 (aj (gF pg gg rb f' i n m) X) (W.setCell ⟨rb r,y,none⟩ (.int .i64 x)):=by
 have h1:=yG h hr I
 have oY:(aj (nG ((List.range' i (n+1-i)).erase r) fun r=>kI (rb r) (m+1) (f r)) (aj (av pg (ij (some ⟨gg,0,none⟩) (n+1) (n+1)) 78)
  (aj (aV 39 1 (.slice (some ⟨gg,0,none⟩) (n+1) (n+1)) (n+1) (fv (n+1) fun r=>if i<=r then .slice (some ⟨rb r,0,none⟩) (m+1) (m+1) else .slice none 0 0)) X))).Ok:=aB (BO fun _=>Aa) aO
 obtain⟨F,hN,-,bk⟩:=h1.take Aa oY;have h2:=bk _ _ (aav hN (k:=y) eL x (T:=f' r) (fun j _=>by rw[hf];simp));have J:(List.range' i (n+1-i)).Nodup:=List.nodup_range';have hb:nG ((List.range' i (n+1-i)).erase r) (fun r=>kI (rb r) (m+1) (f r))=nG ((List.range' i (n+1-i)).erase r) (fun r=>kI (rb r) (m+1) (f' r)):=DT fun a ha=>by
  have M:a≠r:=by
   intro e;subst e;exact(List.Nodup.not_mem_erase J) ha
  have:f' a=f a:=by funext b;rw[hf];simp[M]
  rw[this]
 rw[hb] at h2;have hm:r ∈ List.range' i (n+1-i):=by rw[IM];omega
 have h3:aI eR w0 (aj (nG (List.range' i (n+1-i)) fun r=>kI (rb r) (m+1) (f' r)) (aj (av pg (ij (some ⟨gg,0,none⟩) (n+1) (n+1)) 78)
  (aj (aV 39 1 (.slice (some ⟨gg,0,none⟩) (n+1) (n+1)) (n+1) (fv (n+1) fun r=>if i<=r then .slice (some ⟨rb r,0,none⟩) (m+1) (m+1) else .slice none 0 0)) X))) _:=
  (h2.perm (by ac_rfl:_=aj (aj (kI (rb r) (m+1) (f' r)) (nG ((List.range' i (n+1-i)).erase r) fun r=>kI (rb r) (m+1) (f' r))) (aj (av pg (ij (some ⟨gg,0,none⟩) (n+1) (n+1)) 78)
  (aj (aV 39 1 (.slice (some ⟨gg,0,none⟩) (n+1) (n+1)) (n+1) (fv (n+1) fun r=>if i<=r then .slice (some ⟨rb r,0,none⟩) (m+1) (m+1) else .slice none 0 0)) X)))).imp fun w F hh=>bD hh (fun F h=>Md hm h) (fun _ h=>h)
 unfold gF;exact h3.perm (by ac_rfl)
end
def LD (b v:Int):Int:=if b<0 then v else if v<b then v else b
section
variable {w0 W:World} {X:CH.aT} {pg gg pb:Nat} {rb:Nat→Nat} {f:Nat→Nat→Int} {i n m:Nat}
def Qo (pg gg pb:Nat) (rb:Nat->Nat) (f:Nat->Nat->Int) (i n m:Nat) (b:Int) (X:CH.aT):CH.aT:=aj (gF pg gg rb f i n m) (aj (av pb (fL b) 3) X)
def Se (w0:World) (pg gg pb:Nat) (rb:Nat->Nat) (f:Nat->Nat->Int) (i n m:Nat) (b:Int) (X:CH.aT) (e:Ending) (w':World):Prop:=e=.returned (.tuple #[])/\aI eR w0 (Qo pg gg pb rb f i n m b X) w'
variable {b:Int}
theorem Sf  (hX:X.Ok):(Qo pg gg pb rb f i n m b X).Ok:=aB uD (aB aC hX)
instance {b:Int} [hX:X.Ok]:(Qo pg gg pb rb f i n m b X).Ok:=Sf hX
theorem Qp  (h:aI eR w0 (Qo pg gg pb rb f i n m b X) W):W.cell? ⟨pb,0,none⟩=some (.int .i64 b)/\W.frozen? ⟨pb,0,none⟩=false:=by
 unfold Qo at h;obtain⟨F,hC⟩:=h.kN.fst;exact⟨ay hC rfl,aM hC 0⟩
theorem acH  (hX:X.Ok) (h:aI eR w0 (Qo pg gg pb rb f i n m b X) W) (v:Int):aI eR w0 (Qo pg gg pb rb f i n m v X) (W.setCell ⟨pb,0,none⟩ (.int .i64 v)):=by
 unfold Qo at *
 exact(iY aO h.kN 0 (.int .i64 v) rfl).kN
theorem N8 {q:Int} {x y:Nat} (hX:X.Ok) (h:aI eR w0 (Qo pg gg pb rb f i n m b X) W) (hx:i<=x) (J:x<=n) (hy:y<=m) (hn:n<=100) (hm:m<=100) (hq:0<=q/\q<=100000) (hf:0<=f x y/\f x y<=10000000) :
  Calls Tryz.prog 69 #[.int .i64 (x:Int),.int .i64 (y:Int),.int .i64 q,.pointer (some ⟨pg,0,none⟩),.pointer (some ⟨pb,0,none⟩)] W (Se w0 pg gg pb rb f i n m (LD b (q+f x y)) X):=by
 have HR:=au h;have c0:=yE (show aI eR w0 (aj (gF pg gg rb f i n m) (aj (av pb (fL b) 3) X)) W from h);have c1:=yF (show aI eR w0 (aj (gF pg gg rb f i n m) (aj (av pb (fL b) 3) X)) W from h) hx J;have c2:=yH (show aI eR w0 (aj (gF pg gg rb f i n m) (aj (av pb (fL b) 3) X)) W from h) hx J hy;obtain⟨c3,f3⟩:=Qp h;have HP:=au (acH hX h (q+f x y));have aa:(x:Int)<(n:Int)+1:=by omega
 have ab:(y:Int)<(m:Int)+1:=by omega
 generalize f x y=z at *
 clear h;by_cases M:b<0
 ·have I:=au (show LD b (q+z)=q+z by simp[LD,M])
  go_enter Tryz.func69,Tryz.ntmps69
  go_wp2
  go_end0
  exact⟨rfl,by rw[I.o];exact HP.o⟩
 ·by_cases hv:q+z<b
  ·have I:=au (show LD b (q+z)=q+z by simp[LD,M,hv])
   go_enter Tryz.func69,Tryz.ntmps69
   go_wp2
   go_end0
   exact⟨rfl,by rw[I.o];exact HP.o⟩
  ·have I:=au (show LD b (q+z)=b by simp[LD,M,hv])
   go_enter Tryz.func69,Tryz.ntmps69
   go_wp2
   go_end0
   exact⟨rfl,by rw[I.o];exact HR.o⟩
end
section
variable {w0 W:World} {X:CH.aT} {pg gg pb:Nat} {rb:Nat→Nat} {f:Nat→Nat→Int} {A B G:eV} {c:Nat→Nat→Int} {d e:Nat→Int} {n m:Nat}
def Gm (d:Nat->Int) (f:Nat->Nat->Int) (n i j:Nat) (b:Int):Int:=if i<n then LD b (d i+f (i+1) j) else b
def IK (e:Nat->Int) (f:Nat->Nat->Int) (m i j:Nat) (b:Int):Int:=if j<m then LD b (e j+f i (j+1)) else b
def MI (c:Nat->Nat->Int) (f:Nat->Nat->Int) (n m i j:Nat) (b:Int):Int:=if i<n/\j<m then LD b (c i j+f (i+1) (j+1)) else b
variable {b:Int}
theorem aai   (hq:Gq w0 A B G c d e n m) (hX:X.Ok) (h:aI eR w0 (Qo pg gg pb rb f i n m b X) W) (hi:i<=n) (hj:j<=m) (hf:∀ r y,i<=r->r<=n->y<=m->0<=f r y/\f r y<=10000000) (ca cb cg:Nat) :
  Calls Tryz.prog 53 #[.slice A n ca,.slice B n cb,.slice G m cg,.int .i64 (i:Int),.int .i64 (j:Int),.func (.func 69) #[] (sS (some ⟨pg,0,none⟩) (some ⟨pb,0,none⟩))] W (Se w0 pg gg pb rb f i n m (MI c f n m i j (IK e f m i j (Gm d f n i j b))) X):=by
 have HQ:=au hq;have HR:=au h;have ap:=hq.n7;have an:=hq.m6;have HV:=au (fun (b q:Int) (x y:Nat) (W:World) (h:aI eR w0 (Qo pg gg pb rb f i n m b X) W) (hx:i<=x) (hx2:x<=n) (hy:y<=m) (hq:0<=q/\q<=100000)=>N8 hX h hx hx2 hy eL eL hq (hf x y hx hx2 hy));clear h hq;by_cases J:i<n
 ·obtain⟨bd,od,rfl,af⟩:=HQ.o.D i J;have aq:=HQ.o.db i J;have c0:=af _ HR.o.cZ;have K1:=au (HV.o b (d i) (i+1) j W HR.o eL eL hj eL);rw[show((i+1:Nat):Int)=(i:Int)+1 by omega] at K1;have H1:=au (show Gm d f n i j b=LD b (d i+f (i+1) j) by simp[Gm,J]);rw[<-H1.o] at K1;clear af H1;by_cases I:j<m
  ·have am:=HQ.o.eb j I;have K2:=au (fun W h=>HV.o (Gm d f n i j b) (e j) i (j+1) W h eL eL eL eL);rw[show((j+1:Nat):Int)=(j:Int)+1 by omega] at K2;have H2:=au (show IK e f m i j (Gm d f n i j b)=LD (Gm d f n i j b) (e j+f i (j+1)) by simp[IK,I]);rw[<-H2.o] at K2;have ao:=HQ.o.cb i J j I;have K3:=au (fun W h=>HV.o (IK e f m i j (Gm d f n i j b)) (c i j) (i+1) (j+1) W h eL eL eL eL);rw[show((j+1:Nat):Int)=(j:Int)+1 by omega,show((i+1:Nat):Int)=(i:Int)+1 by omega] at K3;have H3:=au (show MI c f n m i j (IK e f m i j (Gm d f n i j b))=LD (IK e f m i j (Gm d f n i j b)) (c i j+f (i+1) (j+1)) by simp[MI,J,I]);rw[<-H3.o] at K3;clear H2 H3 HV;obtain⟨be,oe,rfl,M⟩:=HQ.o.E j I;obtain⟨ba,oa,RR,cR,rfl,ad,ab⟩:=HQ.o.R i J;obtain⟨b',o',rfl,ag⟩:=ab j I;have ak:=au M;have ai:=au ad;have al:=au ag;clear M ad ab ag
   go_enter Tryz.func53,Tryz.ntmps53
   go_wp2_with fail;refine K1.o.mono ?_;rintro e9 w1 ⟨rfl,h1⟩;have c1:=ak.o _ h1.cZ;have ac:=au (K2.o _ h1);clear K1 K2 h1 c0;go_wp2_with fail;refine ac.o.mono ?_;rintro e9 w2 ⟨rfl,h2⟩;have c2:=ai.o _ h2.cZ;have c3:=al.o _ h2.cZ;have ae:=au (K3.o _ h2);clear ac K3 h2 c1;go_wp2_with fail;refine ae.o.mono ?_;rintro e9 w3 ⟨rfl,h3⟩;have aa:=au h3;clear ae h3 c2 c3;go_wp2
   go_end0
   exact⟨rfl,aa.o⟩
  ·have H2:=au (show MI c f n m i j (IK e f m i j (Gm d f n i j b))=Gm d f n i j b by simp[MI,IK,I]);rw[H2.o];clear H2 HV
   go_enter Tryz.func53,Tryz.ntmps53
   go_wp2_with fail;refine K1.o.mono ?_;rintro e9 w1 ⟨rfl,h1⟩;have aa:=au h1;clear K1 h1 c0;go_wp2
   go_end0
   exact⟨rfl,aa.o⟩
 ·have H1:=au (show Gm d f n i j b=b by simp[Gm,J]);rw[H1.o];by_cases I:j<m
  ·have am:=HQ.o.eb j I;have K2:=au (HV.o b (e j) i (j+1) W HR.o eL eL eL eL);rw[show((j+1:Nat):Int)=(j:Int)+1 by omega] at K2;have H2:=au (show MI c f n m i j (IK e f m i j b)=LD b (e j+f i (j+1)) by simp[MI,IK,J,I]);rw[H2.o];obtain⟨be,oe,rfl,M⟩:=HQ.o.E j I;have c1:=M _ HR.o.cZ;clear H2 HV M H1
   go_enter Tryz.func53,Tryz.ntmps53
   go_wp2_with fail;refine K2.o.mono ?_;rintro e9 w1 ⟨rfl,h1⟩;have aa:=au h1;clear K2 h1 c1;go_wp2
   go_end0
   exact⟨rfl,aa.o⟩
  ·have H2:=au (show MI c f n m i j (IK e f m i j b)=b by simp[MI,IK,J,I]);rw[H2.o];clear H2 HV H1
   go_enter Tryz.func53,Tryz.ntmps53
   go_wp2
   go_end0
   exact⟨rfl,HR.o⟩
end
section
variable {c:Nat→Nat→Int} {d e:Nat→Int} {n m:Nat}
theorem uE   (h:Gq w A B G c d e n m) {a:Nat} (ha:a<=n) (hb:b<=m):0<=GR c d e n m a b/\GR c d e n m a b<=(a:Int)*10000+(b:Int)*10000:=by
 induction a generalizing b with
 | zero=>
  induction b with
  | zero=>show 0<=(0:Int)/\_;exact⟨by omega,by show(0:Int)<=_;omega⟩
  | succ b ih=>
   have J:=ih eL;have M:=h.eb (m-(b+1)) eL;have I:GR c d e n m 0 (b+1)=e (m-(b+1))+GR c d e n m 0 b:=rfl;rw[I];omega
 | succ a iha=>
  have h5:=h.db (n-(a+1)) eL
  induction b with
  | zero=>
   have J:=iha eL (b:=0) eL;have I:GR c d e n m (a+1) 0=d (n-(a+1))+GR c d e n m a 0:=rfl;rw[I];omega
  | succ b ihb=>
   have J:=iha eL (b:=b+1) hb;have M:=ihb eL;have h6:=iha eL (b:=b) eL;have h7:=h.eb (m-(b+1)) eL;have h8:=h.cb (n-(a+1)) eL (m-(b+1)) eL;have I:GR c d e n m (a+1) (b+1)=min (min (d (n-(a+1))+GR c d e n m a (b+1)) (e (m-(b+1))+GR c d e n m (a+1) b)) (c (n-(a+1)) (m-(b+1))+GR c d e n m a b):=rfl;rw[I];omega
theorem acI   (h:Gq w A B G c d e n m) {f:Nat->Nat->Int}  (hi:i<=n) (hj:j<=m) (h1:i<n->f (i+1) j=GR c d e n m (n-(i+1)) (m-j)) (h2:j<m->f i (j+1)=GR c d e n m (n-i) (m-(j+1)))
  (h3:i<n->j<m->f (i+1) (j+1)=GR c d e n m (n-(i+1)) (m-(j+1))) :
  (if MI c f n m i j (IK e f m i j (Gm d f n i j (-1)))<0 then 0 else MI c f n m i j (IK e f m i j (Gm d f n i j (-1))))=GR c d e n m (n-i) (m-j):=by
 by_cases J:i<n
 ·have e1:=h1 J;have b1:=uE h (a:=n-(i+1)) (b:=m-j) eL eL;have hd:=h.db i J;obtain⟨a,ha⟩:∃ a,n-i=a+1:=⟨n-i-1,by omega⟩;have aa:n-(i+1)=a:=by omega
  have ab:n-(a+1)=i:=by omega
  rw[aa] at e1 b1;by_cases I:j<m
  ·have e2:=h2 I;have e3:=h3 J I;have he:=h.eb j I;have hc:=h.cb i J j I;obtain⟨b,hb⟩:∃ b,m-j=b+1:=⟨m-j-1,by omega⟩;have fW:m-(j+1)=b:=by omega
   have gE:m-(b+1)=j:=by omega
   have b2:=uE h (a:=n-i) (b:=m-(j+1)) eL eL;have b3:=uE h (a:=n-(i+1)) (b:=m-(j+1)) eL eL;rw[ha,fW] at e2 b2;rw[aa,fW] at e3 b3;rw[ha,hb];rw[hb] at e1 b1;have M:GR c d e n m (a+1) (b+1)=min (min (d (n-(a+1))+GR c d e n m a (b+1)) (e (m-(b+1))+GR c d e n m (a+1) b)) (c (n-(a+1)) (m-(b+1))+GR c d e n m a b):=rfl;rw[ab,gE] at M;rw[M];simp only[MI,IK,Gm,J,I,if_true,and_self,e1,e2,e3,LD];simp only[show((-1:Int)<0) from by omega,if_true];rw[if_neg (show ¬ d i+GR c d e n m a (b+1)<0 by omega)];by_cases g1:e j+GR c d e n m (a+1) b<d i+GR c d e n m a (b+1)
   ·rw[if_pos g1,if_neg (show ¬ e j+GR c d e n m (a+1) b<0 by omega)];by_cases g2:c i j+GR c d e n m a b<e j+GR c d e n m (a+1) b
    ·rw[if_pos g2,if_neg eL];omega
    ·rw[if_neg g2,if_neg eL];omega
   ·rw[if_neg g1,if_neg (show ¬ d i+GR c d e n m a (b+1)<0 by omega)];by_cases g2:c i j+GR c d e n m a b<d i+GR c d e n m a (b+1)
    ·rw[if_pos g2,if_neg eL];omega
    ·rw[if_neg g2,if_neg eL];omega
  ·obtain rfl:j=m:=by omega
   rw[ha,nn];rw[nn] at e1 b1;have M:GR c d e n j (a+1) 0=d (n-(a+1))+GR c d e n j a 0:=rfl;rw[ab] at M;rw[M];simp only[MI,IK,Gm,J,mn,if_true,if_false,and_false,e1,LD];simp only[show((-1:Int)<0) from by omega,if_true];rw[if_neg eL]
 ·obtain rfl:i=n:=by omega
  rw[nn];by_cases I:j<m
  ·have e2:=h2 I;have he:=h.eb j I;obtain⟨b,hb⟩:∃ b,m-j=b+1:=⟨m-j-1,by omega⟩;have fW:m-(j+1)=b:=by omega
   have gE:m-(b+1)=j:=by omega
   have b2:=uE h (a:=0) (b:=b) eL eL;rw[nn,fW] at e2;rw[hb];have M:GR c d e i m 0 (b+1)=e (m-(b+1))+GR c d e i m 0 b:=rfl;rw[gE] at M;rw[M];simp only[MI,IK,Gm,I,mn,if_true,if_false,false_and,e2,LD];simp only[show((-1:Int)<0) from by omega,if_true];rw[if_neg eL]
  ·obtain rfl:j=m:=by omega
   rw[nn];simp only[MI,IK,Gm,mn,if_false,false_and];rfl
end
section
variable {w0 W:World} {X:CH.aT} {pg gg:Nat} {rb:Nat→Nat} {f:Nat→Nat→Int} {i n m:Nat}
theorem N9 {i n:Nat} (h:i<=n):List.range' i (n+1-i)=i::List.range' (i+1) (n+1-(i+1)):=by
 have e:n+1-i=(n+1-(i+1))+1:=by omega
 rw[e,I1]
theorem Ws (hX:X.Ok) (hi:i<=n) {r:Nat} (h:aI eR w0 (aj (kI r (m+1) (fun _=>0)) (aj (gF pg gg rb f (i+1) n m) X)) W) :
  aI eR w0 (aj (gF pg gg (fun a=>if a=i then r else rb a) (fun a b=>if a=i then 0 else f a b) i n m) X) (W.setCell ⟨gg,i,none⟩ (.slice (some ⟨r,0,none⟩) (m+1) (m+1))):=by
 unfold gF at h;have oY:(aj (kI r (m+1) (fun _=>0)) (aj (av pg (ij (some ⟨gg,0,none⟩) (n+1) (n+1)) 78) (aj (nG (List.range' (i+1) (n+1-(i+1))) fun r=>kI (rb r) (m+1) (f r)) X))).Ok:=aB Aa (aB aC (aB (BO fun _=>Aa) hX));obtain⟨F,hR,-,bk⟩:=(h.perm (by ac_rfl:_=aj (aV 39 1 (.slice (some ⟨gg,0,none⟩) (n+1) (n+1)) (n+1) (fv (n+1) fun r=>if i+1<=r then .slice (some ⟨rb r,0,none⟩) (m+1) (m+1) else .slice none 0 0)) (aj (kI r (m+1) (fun _=>0)) (aj (av pg (ij (some ⟨gg,0,none⟩) (n+1) (n+1)) 78) (aj (nG (List.range' (i+1) (n+1-(i+1))) fun r=>kI (rb r) (m+1) (f r)) X))))).take dK oY;have I:=bk _ _ (vB hR (i:=i) eL (.slice (some ⟨r,0,none⟩) (m+1) (m+1)));rw[Og] at I
 rw[qP (g:=fun a=>if i<=a then Value.slice (some ⟨(if a=i then r else rb a),0,none⟩) (m+1) (m+1) else .slice none 0 0) (fun a J=>by
  unfold wv;by_cases e:a=i
  ·subst e;simp
  ·rw[if_neg e]
   show(if i+1<=a then Value.slice (some ⟨rb a,0,none⟩) (m+1) (m+1) else .slice none 0 0)=_
   by_cases M:i+1<=a
   ·rw[if_pos M,if_pos eL,if_neg e]
   ·rw[if_neg M,if_neg eL])] at I
 unfold gF;rw[N9 hi];have hb:nG (List.range' (i+1) (n+1-(i+1))) (fun r=>kI (rb r) (m+1) (f r))=nG (List.range' (i+1) (n+1-(i+1))) (fun a=>kI (if a=i then r else rb a) (m+1) (fun b=>if a=i then 0 else f a b)):=DT fun a J=>by
  have:a≠i:=by rw[IM] at J;omega
  simp[this]
 rw[hb] at I;have hk:nG (i::List.range' (i+1) (n+1-(i+1))) (fun a=>kI (if a=i then r else rb a) (m+1) (fun b=>if a=i then 0 else f a b))=aj (kI r (m+1) (fun _=>0)) (nG (List.range' (i+1) (n+1-(i+1))) (fun a=>kI (if a=i then r else rb a) (m+1) (fun b=>if a=i then 0 else f a b))):=by
  show aj (kI (if i=i then r else rb i) (m+1) (fun b=>if i=i then 0 else f i b)) (nG (List.range' (i+1) (n+1-(i+1))) (fun a=>kI (if a=i then r else rb a) (m+1) (fun b=>if a=i then 0 else f a b)))=_
  rw[if_pos rfl];have e:(fun b:Nat=>if i=i then(0:Int) else f i b)=fun _=>0:=by funext b;rw[if_pos rfl]
  rw[e]
 rw[hk];exact I.perm (by ac_rfl)
end
def Qq (w:World) (c:Nat->Nat->Int) (d e:Nat->Int) (n m:Nat) (en:Ending) (w':World):Prop:=
 ∃ pg gg rb f,en=.returned (.slice (some ⟨gg,0,none⟩) (n+1) (n+1))/\aI eR w (aj (gF pg gg rb f 0 n m) bG) w'/\∀ r y,r<=n->y<=m->f r y=GR c d e n m (n-r) (m-y)
theorem aaj {o:Oper}     (l:Operand) (I:o.op=Op.makeSlice 39 l l) (n:Nat) (hn:n<=1000) (J:a.eval l=.int .i64 (n:Int))
  (M:∀ w',bT w eR (kI w.heap.size n (fun _=>0)) w'->K (a.put o.dst (.slice (some ⟨w.heap.size,0,none⟩) n n)) w'):o.wp Tryz.prog a w K Q:=
 Qw oZ eS l I n hn J rfl fun w' h=>M w' (by unfold kI;rw[<-show List.replicate n (Value.int .i64 0)=fv n (fun _=>.int .i64 0) from uF n _];exact h)
theorem pW {ops:Array Oper} {rest:List Oper} {o:Oper}    (J:o.guard=none) (l:Operand) (I:o.op=Op.makeSlice 78 l l) (n:Nat) (hn:n<=1000) (M:a.eval l=.int .i64 (n:Int))
  (hK:∀ w',bT w eR (aV 39 1 (.slice (some ⟨w.heap.size,0,none⟩) n n) n (fv n fun _=>.slice none 0 0)) w'->wpList Tryz.prog ops Q rest (a.put o.dst (.slice (some ⟨w.heap.size,0,none⟩) n n)) w'):wpList Tryz.prog ops Q (o::rest) a w:=
 LU J Oe eS l I n hn M rfl fun w' h=>hK w' (by rw[<-uF n _];exact h)
section
variable {w:World} {A B G:eV} {c:Nat→Nat→Int} {d e:Nat→Int} {n m:Nat}
theorem LG (hq:Gq w A B G c d e n m) (ca cb cg:Nat):Calls Tryz.prog 44 #[.slice A n ca,.slice B n cb,.slice G m cg] w (Qq w c d e n m):=by
 have HQ:=au hq;have a5:=hq.n7;have a6:=hq.m6;clear hq;have aD:=au (show ∀ (pg gg:Nat) (rb:Nat->Nat) (f:Nat->Nat->Int) w',aI eR w (aj (gF pg gg rb f 0 n m) bG) w'->(∀ r y,r<=n->y<=m->f r y=GR c d e n m (n-r) (m-y))->Qq w c d e n m (.returned (.slice (some ⟨gg,0,none⟩) (n+1) (n+1))) w' from fun pg gg rb f w' I J=>⟨pg,gg,rb,f,rfl,I,J⟩)
 go_enter Tryz.func44,Tryz.ntmps44
 go_wp2_with (refine pW rfl (.tmp 13) rfl (n+1) eL (by simp[Act.eval]) ?_;refine held ?_);refine lB.mk fun w1 a0=>?_;have R1:=((aI.begin w).fresh aN a0);have R2:=R1.fresh aO (dP w1 (ij (some ⟨w.heap.size,0,none⟩) (n+1) (n+1)) 78)
 have R3:Hid (aI eR w (aj (gF w1.heap.size w.heap.size (fun _=>0) (fun _ _=>0) (n+1) n m) bG) _):=au (by
  have e1:gF w1.heap.size w.heap.size (fun _=>0) (fun _ _=>0) (n+1) n m=aj (av w1.heap.size (ij (some ⟨w.heap.size,0,none⟩) (n+1) (n+1)) 78) (aj (aV 39 1 (.slice (some ⟨w.heap.size,0,none⟩) (n+1) (n+1)) (n+1) (fv (n+1) fun _=>.slice none 0 0)) bG):=by
   unfold gF;rw[nn];rw[qP (g:=fun _=>Value.slice none 0 0) (fun r hr=>by rw[if_neg eL])];rfl
  rw[e1]
  exact R2.one)
 clear a0 R1 R2;go_wp2_with fail;generalize w1.heap.size=pg at *
 generalize w.heap.size=gg at *
 go_wp2
 go_loopg [8] (n+1) (fun g s8 wr=>∃ (x0:Int) (rb:Nat->Nat) (f:Nat->Nat->Int),s8=.int .i64 x0/\x0=(g:Int)-1/\g<=n+1/\aI eR w (aj (gF pg gg rb f g n m) bG) wr/\∀ r y,g<=r->r<=n->y<=m->f r y=GR c d e n m (n-r) (m-y))
 case atStart=>exact⟨(n:Int),_,_,rfl,by omega,fy _,R3.o,fun r y I J=>by omega⟩
 case round=>
  obtain⟨x0,rb,f,rfl,ae,hg,hR,hf⟩:=hrel;have HR:=au hR;have HF:=au hf;clear hf R3;cases gk with
  | zero=>
   have tx:¬ 0<=x0:=by omega
   have c0:=yE hR;have a3:=au (fun r y I J=>HF.o r y (fw _) I J);clear ae hR;go_wp2;go_ret;exact aD.o _ _ _ _ _ HR.o a3.o
  | succ i=>
   obtain rfl:x0=(i:Int):=by omega
   have hi:i<=n:=by omega
   have ap:=hR.drew aO;have aw:=au ap;have c0:=yE ap;have a2:(i:Int)<(n:Int)+1:=by omega
   have tm:IntKind.i64.wrap ((m:Int)+1)=(m:Int)+1:=kp _ eL;clear ae hR ap HR;go_wp2_with fail;refine dZ (fun w'=>w'.cell? ⟨pg,0,none⟩=some (.slice (some ⟨gg,0,none⟩) (n+1) (n+1))) eQ eQ eQ c0 ?_
   (repeat(first|refine bM ?_|refine bN ?_))
   refine dD rfl fY (fun KK hK=>?_);obtain⟨ri,aE⟩:∃ ri,ri=wr.drew.heap.size:=⟨_,rfl⟩;refine aaj (.tmp 25) rfl (m+1) eL (by simp[Act.eval,tm]) ?_;intro w2 al;rw[<-aE] at al ⊢;clear aE;have R4:=aw.o.fresh aO al;have c1:=yE R4.drop;have R5:=Ws aN hi R4;have ar:=au R5;have ao:w2.cell? ⟨gg,i,none⟩=some (.slice none 0 0)/\w2.frozen? ⟨gg,i,none⟩=false:=by
    have h9:=R4.drop;unfold gF at h9;obtain⟨F,hC⟩:=h9.assoc.kN.assoc.fst;refine⟨?_,qV hC i eL⟩;have:=nH hC (qy (fun r=>if i+1<=r then Value.slice (some ⟨rb r,0,none⟩) (m+1) (m+1) else .slice none 0 0) (show i<n+1 by omega))
    rwa [if_neg eL] at this
   obtain⟨z0,z1⟩:=ao;refine hK.o _ _ c1 ?_;clear hK al R4 R5 c0 c1 aw
   (repeat(first|refine bM ?_|refine bN ?_))
   refine jf rfl fY (fun KK hK=>?_);go_wp2_with fail;refine hK.o _ _ ?_;clear hK z0 z1 tm;have az:=au (show ∀ r y,i<r->r<=n->y<=m->(if r=i then 0 else f r y)=GR c d e n m (n-r) (m-y) from fun r y I J h3=>by rw[if_neg eL];exact HF.o r y eL J h3);clear HF;go_wp2
   go_loopg [9] (m+1) (fun g2 s9 wr=>∃ (x0:Int) (f:Nat->Nat->Int),s9=.int .i64 x0/\x0=(g2:Int)-1/\g2<=m+1/\aI eR w (aj (gF pg gg (fun a=>if a=i then ri else rb a) f i n m) bG) wr/\(∀ r y,i<r->r<=n->y<=m->f r y=GR c d e n m (n-r) (m-y))/\(∀ y,g2<=y->y<=m->f i y=GR c d e n m (n-i) (m-y))/\∀ y,y<g2->f i y=0)
   case atStart=>exact⟨(m:Int),_,rfl,by omega,fy _,ar.o,az.o,fun y I J=>by omega,fun y _=>by simp⟩
   case round=>
    obtain⟨x0,f2,rfl,ae,a8,hR,ax,aA,aq⟩:=hrel;have ab:=au ax;have ac:=au aA;have ad:=au aq;clear ax aA aq ar az;cases gk with
    | zero=>
     have tx:¬ 0<=x0:=by omega
     have a1:=au hR
     have a4:=au (show ∀ r y,i<=r->r<=n->y<=m->f2 r y=GR c d e n m (n-r) (m-y) from fun r y I J h3=>by
      by_cases e:r=i
      ·subst e;exact ac.o y (fw _) h3
      ·exact ab.o r y eL J h3)
     clear ae hR;go_wp2
     go_roundg i
     case measure=>omega
     case rel=>exact⟨(i:Int)-1,_,f2,by go_num,rfl,by omega,a1.o,a4.o⟩
    | succ j=>
     obtain rfl:x0=(j:Int):=by omega
     have hj:j<=m:=by omega
     have R6:aI eR w (Qo pg gg wr.heap.size (fun a=>if a=i then ri else rb a) f2 i n m (-1) bG) (wr.alloc (.cells (fL (-1)) 3)):=by
      unfold Qo;exact(hR.fresh aO (dP wr (fL (-1)) 3)).kN
     have an:=au (show ∀ r y,i<=r->r<=n->y<=m->0<=f2 r y/\f2 r y<=10000000 from fun r y I J h3=>by
      by_cases e:r=i
      ·subst e;by_cases h4:y<j+1
       ·rw[ad.o y h4];omega
       ·rw[ac.o y eL h3];have:=uE HQ.o (a:=n-r) (b:=m-y) eL eL;omega
      ·rw[ab.o r y eL J h3];have:=uE HQ.o (a:=n-r) (b:=m-y) eL eL;omega)
     have KN:=au (aai HQ.o aN R6 hi hj an.o ca cb cg);have M:=au (acI HQ.o (f:=f2) (i:=i) (j:=j) hi hj (fun h=>ab.o (i+1) j eL eL hj) (fun h=>ac.o (j+1) eL eL) (fun I J=>ab.o (i+1) (j+1) eL eL eL));generalize MI c f2 n m i j (IK e f2 m i j (Gm d f2 n i j (-1)))=val at *
     clear ae hR R6;go_wp2_with fail;refine KN.o.mono ?_;rintro e9 w4 ⟨rfl,hR4⟩;have aa:=hR4.drew (Sf aN);obtain⟨c3,-⟩:=Qp aa;unfold Qo at aa;have c1:=yE aa;have c2:=yF aa (fy i) hi;have c4:=yH aa (fy i) hi hj;have f4:=SY aa (fy i) hi j;simp only[if_true] at c2 c4 f4;have ag:=aa.kN.drop;have a2:(i:Int)<(n:Int)+1:=by omega
     have a7:(j:Int)<(m:Int)+1:=by omega
     generalize wr.heap.size=pb at *
     by_cases hv:val<0
     ·rw[if_pos hv] at M;have af:=au (LC aN ag (fy i) hi hj 0 (f':=fun a b=>if a=i/\b=j then 0 else f2 a b) (fun _ _=>rfl));simp only[if_true] at af;have ai:=au (show ∀ r y,i<r->r<=n->y<=m->(if r=i/\y=j then 0 else f2 r y)=GR c d e n m (n-r) (m-y) from fun r y I J h3=>by rw[if_neg eL];exact ab.o r y I J h3)
      have ak:=au (show ∀ y,j<=y->y<=m->(if i=i/\y=j then 0 else f2 i y)=GR c d e n m (n-i) (m-y) from fun y I J=>by
       by_cases e:y=j
       ·subst e;rw[if_pos ⟨rfl,rfl⟩];exact M.o
       ·rw[if_neg eL];exact ac.o y eL J)
      have am:=au (show ∀ y,y<j->(if i=i/\y=j then 0 else f2 i y)=0 from fun y I=>by rw[if_neg eL];exact ad.o y eL);clear hR4 aa ag M ab ac ad an KN;go_wp2_with fail;refine dZ (fun w'=>w'=w4.drew) eQ eQ eQ rfl ?_;generalize w4.drew=wd at *
      (repeat(first|refine bM ?_|refine bN ?_))
      refine jf rfl fY (fun KK hK=>?_);go_wp2_with fail;refine hK.o _ _ ?_;clear hK c1 c2 c3 c4 f4;go_wp2
      go_roundg j
      case measure=>omega
      case rel=>exact⟨(j:Int)-1,_,by go_num,rfl,by omega,af.o,ai.o,fun y I J=>by have:=ak.o y I J;simpa using this,fun y I=>by have:=am.o y I;simpa using this⟩
     ·rw[if_neg hv] at M;have af:=au (LC aN ag (fy i) hi hj val (f':=fun a b=>if a=i/\b=j then val else f2 a b) (fun _ _=>rfl));simp only[if_true] at af;have ai:=au (show ∀ r y,i<r->r<=n->y<=m->(if r=i/\y=j then val else f2 r y)=GR c d e n m (n-r) (m-y) from fun r y I J h3=>by rw[if_neg eL];exact ab.o r y I J h3)
      have ak:=au (show ∀ y,j<=y->y<=m->(if i=i/\y=j then val else f2 i y)=GR c d e n m (n-i) (m-y) from fun y I J=>by
       by_cases e:y=j
       ·subst e;rw[if_pos ⟨rfl,rfl⟩];exact M.o
       ·rw[if_neg eL];exact ac.o y eL J)
      have am:=au (show ∀ y,y<j->(if i=i/\y=j then val else f2 i y)=0 from fun y I=>by rw[if_neg eL];exact ad.o y eL);clear hR4 aa ag M ab ac ad an KN;go_wp2_with fail;refine dZ (fun w'=>w'=w4.drew) eQ eQ eQ rfl ?_;generalize w4.drew=wd at *
      (repeat(first|refine bM ?_|refine bN ?_))
      refine jf rfl fY (fun KK hK=>?_);go_wp2_with fail;refine hK.o _ _ ?_;clear hK c1 c2 c3 c4 f4;go_wp2
      go_roundg j
      case measure=>omega
      case rel=>exact⟨(j:Int)-1,_,by go_num,rfl,by omega,af.o,ai.o,fun y I J=>by have:=ak.o y I J;simpa using this,fun y I=>by have:=am.o y I;simpa using this⟩
end
end Go.Proofs.YtbioiclabmbedaaGreatDoor.Asn
namespace Go.CH.bA
section
variable {c:Nat→Nat→Int} {d e:Nat→Int} {n m:Nat}
def Oa (c:Nat->Nat->Int) (d e:Nat->Int) (n m a b t:Nat):Bool:=decide (sg t (fun x=>e (m-b+x))+c (n-(a+1)) (m-b+t)+GR c d e n m a (b-(t+1))=GR c d e n m (a+1) b)
variable {a b:Nat}
theorem aak {t:Nat} (h:t<b) (I:Oa c d e n m a b t=true) (J:∀ u,u<t->Oa c d e n m a b u=false):wS c d e n m (a+1) b=((m-b+t:Nat):Int)::wS c d e n m a (b-(t+1)):=by
 rw[wS];have:=Jp (p:=fun t=>decide (sg t (fun x=>e (m-b+x))+c (n-(a+1)) (m-b+t)+GR c d e n m a (b-(t+1))=GR c d e n m (a+1) b)) h I J;rw[this]
theorem Wt  (hb:∀ u,u<b->Oa c d e n m a b u=false):wS c d e n m (a+1) b=(m:Int)::wS c d e n m a b:=by
 rw[wS];have:=EU (m:=b) (p:=fun t=>decide (sg t (fun x=>e (m-b+x))+c (n-(a+1)) (m-b+t)+GR c d e n m a (b-(t+1))=GR c d e n m (a+1) b)) hb;rw[this]
end
end Go.CH.bA
namespace Go.Proofs.YtbioiclabmbedaaGreatDoor.Asn
open Go.RowKit Go.CH Go.CH.bA
open Go.ChangeMaps (setBlock)
def Sp (w:World) (v:Value) (l:List Int):Prop:=∃ A c,v=.slice A l.length c/\Vec w A l
def vL (C:List (List Int)) (D E:List Int):List Int:=if mR C D E then wS (cF C) (lF D) (lF E) D.length E.length D.length E.length else []
def jP (C:List (List Int)) (D E:List Int):Int:=if mR C D E then GR (cF C) (lF D) (lF E) D.length E.length D.length E.length else 0
def LH (C:List (List Int)) (D E:List Int):Int:=if mR C D E then 0 else 1
def Ob (w:World) (C:List (List Int)) (D E:List Int) (e:Ending) (w':World):Prop:=
 ∃ v,e=.returned (.tuple #[v,.int .i64 (jP C D E),.int .i64 (LH C D E)])/\Below w.heap.size w w'/\Sp w' v (vL C D E)
variable {w0 W:World}{A:eV}{c n a b:Nat}{l ps:List Int}
theorem Gn  {Y:CH.aT}    {x:Int} (h:aI eR w0 (aj (aV 3 1 (.slice A (l.length+1) c) (l.length+1) (ints l++[.int .i64 x])) Y) W):aI eR w0 (aj (aX A c (l++[x])) Y) W:=by
 rw[yC] at h;exact h
theorem Gp {c:Nat->Nat->Int} {d e:Nat->Int} {m b':Nat} {x:Int} {L:List Int} (h:L=ps++wS c d e n m (a+1) b) (hg:wS c d e n m (a+1) b=x::wS c d e n m a b'):L=(ps++[x])++wS c d e n m a b':=by
 rw[h,hg];simp
variable {w:World}{V:List (eV × Nat)}{C:List (List Int)}
theorem LJ  {B G:eV}  {d e:Nat}  {D E:List Int} (h:uy w A C V) (hl:C.length<=maxLen) (hD:Vec w B D) (hE:Vec w G E) :
  Calls Tryz.prog 26 #[.slice A C.length c,.slice B D.length d,.slice G E.length e] w (Ob w C D E):=by
 have KV:=au (jJ (c:=c) (d:=d) (e:=e) h hl hD hE);have HP:=au (fun hv=>DK (w:=w) (C:=C) (D:=D) (E:=E) hv h hD hE);clear h hD hE hl;cases hv:mR C D E with
 | false=>
  have HR:=au (show ∀ w':World,Below w.heap.size w w'->Ob w C D E (.returned (.tuple #[.slice none 0 0,.int .i64 0,.int .i64 1])) w' from fun w' hb=>⟨_,by simp only[jP,LH,hv];rfl,hb,by simp only[vL,hv];exact⟨none,0,rfl,Src.none_⟩⟩);rw[hv] at KV;clear HP hv
  go_enter Tryz.func26,Tryz.ntmps26
  go_wp2
  go_step3
  go_wp2_with fail;refine KV.o.mono ?_;rintro e9 w1 ⟨rfl,fW⟩;have HB:=au fW;clear fW KV;go_wp2
  try rw[pD]
  go_ret3
  exact HR.o _ HB.o
 | true=>
  rw[hv] at KV;have hP:=HP.o hv;have b3:=hP.n6;have bv:=hP.m6;obtain⟨nc,aq⟩:∃ n,n=C.length:=⟨_,rfl⟩;obtain⟨n,hn⟩:∃ n,n=D.length:=⟨_,rfl⟩;obtain⟨m,hm⟩:∃ n,n=E.length:=⟨_,rfl⟩;have b0:nc=n:=by rw[aq,hn];exact hP.hn
  have bm:=au (show ∀ (v:Value) (w':World),Below w.heap.size w w'->Sp w' v (wS (cF C) (lF D) (lF E) n m n m)->Ob w C D E (.returned (.tuple #[v,.int .i64 (GR (cF C) (lF D) (lF E) n m n m),.int .i64 0])) w' from fun v w' hb ha=>⟨v,by simp only[jP,LH,hv,hn,hm];rfl,hb,by simp only[vL,hv,<-hn,<-hm];exact ha⟩);rw[<-hn,<-hm] at hP;rw[<-hn] at b3;rw[<-hm] at bv;have HQ:=au hP.q;rw[<-aq,<-hn,<-hm] at KV;rw[<-aq,<-hn,<-hm];subst b0;clear HP hv hP aq hn hm;generalize cF C=cc at *
  generalize lF D=dd at *
  generalize lF E=M at *
  go_enter Tryz.func26,Tryz.ntmps26
  go_wp2
  go_step3
  go_wp2_with fail;refine KV.o.mono ?_;rintro e9 w1 ⟨rfl,fW⟩;have b1:=au fW;have KG:=au (LG (HQ.o.below fW) c d e);clear fW KV;go_wp2_with fail;refine KG.o.mono ?_;rintro e9 w2 ⟨pg,gg,rb,f,rfl,hR2,hf⟩;have HF:=au hf;have bo:aI eR w (aj (aX none 0 []) (gF pg gg rb f 0 nc m)) w2:=by
   have h2:=((aI.begin w).below aN b1.o).fresh aN ((hR2.imp fun _ _ h=>j5 h).post uD);exact(h2.imp fun _ _ h=>j5 h).imp fun W F hh=>⟨fun _=>False,F,lD W,hh,fun _ h=>h.elim,fun i=>by simp⟩
  have a9:=au bo;clear KG hR2 hf bo;go_wp2
  go_step3
  go_wp2
  go_loopg [10,11,27] nc (fun g1 p s i wr=>∃ (k I:Nat) (A1:eV) (c1:Nat) (ps:List Int),k+g1=nc/\I<=m/\p=.slice A1 ps.length c1/\s=.int .i64 I/\i=.int .i64 k/\ps.length=k/\wS cc dd M nc m nc m=ps++wS cc dd M nc m (nc-k) (m-I)/\aI eR w (aj (aX A1 c1 ps) (gF pg gg rb f 0 nc m)) wr)
  case atStart=>exact⟨0,0,none,0,[],mB _,fw _,rfl,rfl,rfl,rfl,rfl,a9.o⟩
  case round=>
   obtain⟨k,I,A1,c1,ps,bu,a7,rfl,rfl,rfl,bi,hg,hR⟩:=hrel;have HR:=au hR;have aw:=au bi;have HG:=au hg;clear hR bi hg a9;cases gk with
   | succ g1=>
    have bh:k<nc:=by omega
    obtain⟨a,ha⟩:∃ a,nc=a+1+k:=⟨nc-k-1,by omega⟩;have a3:nc-k=a+1:=by omega
    have a6:nc-(a+1)=k:=by omega
    have an:nc-(k+1)=a:=by omega
    rw[a3] at HG;have a0:m-(m-I)=I:=by omega
    have aA:=au (fun (t:Nat) ht hp hb=>aak (c:=cc) (d:=dd) (e:=M) (n:=nc) (m:=m) (a:=a) (b:=m-I) (t:=t) ht hp hb);have a1:=au (fun hb=>Wt (c:=cc) (d:=dd) (e:=M) (n:=nc) (m:=m) (a:=a) (b:=m-I) hb);have a5:=au (fun (t:Nat)=>show Oa cc dd M nc m a (m-I) t=decide (sg t (fun x=>M (I+x))+cc k (I+t)+GR cc dd M nc m a (m-I-(t+1))=GR cc dd M nc m (a+1) (m-I)) by unfold Oa;rw[a6,a0]);rw[a0] at aA;have bz:=au (show f k I=GR cc dd M nc m (a+1) (m-I) by rw[HF.o k I eL a7,a3]);have bw:=au (show ∀ j,j<m->f (k+1) (j+1)=GR cc dd M nc m a (m-(j+1)) from fun j hj=>by rw[HF.o (k+1) (j+1) eL eL,an]);have b4:=au (uE HQ.o (a:=a+1) (b:=m-I) eL eL);have bx:=au (fun j=>uE HQ.o (a:=a) (b:=m-(j+1)) eL eL);have a8:=au (show nc-(k+1)=a from an);have b8:a<=6:=by omega
    clear a3 a6 an a0 ha;obtain⟨ba,oa,RR,cR,rfl,bk,aD⟩:=HQ.o.R k bh;have a2:=au aD;have c0:=bk _ HR.o.cZ;clear bk aD;go_wp2
    go_loopg [10,11,14,15] (m-I) (fun g2 p s q x wr=>∃ t:Nat,I+t+g2=m/\p=.slice A1 ps.length c1/\s=.int .i64 I/\q=.int .i64 (sg t (fun x=>M (I+x)))/\x=.int .i64 ((I+t:Nat):Int)/\(∀ u,u<t->Oa cc dd M nc m a (m-I) u=false)/\aI eR w (aj (aX A1 c1 ps) (gF pg gg rb f 0 nc m)) wr)
    case atStart=>exact⟨0,by omega,rfl,rfl,rfl,rfl,fun t ht=>absurd ht (nB t),HR.o⟩
    case round=>
     obtain⟨t,b9,rfl,rfl,rfl,rfl,bc,hR⟩:=hrel;have ap:=au bc;have az:=au hR;clear HR hR bc c0;have aE:=au (wM (n:=t) (f:=fun x=>M (I+x)) (a:=0) (b:=10000) (fun x hx=>HQ.o.eb (I+x) eL));cases gk with
     | succ g2=>
      obtain⟨j,hj⟩:∃ j,j=I+t:=⟨_,rfl⟩;have af:j<m:=by omega
      obtain⟨b',o',rfl,bn⟩:=a2.o j af;have b7:=HQ.o.cb k bh j af;obtain⟨be,oe,rfl,bf⟩:=HQ.o.E j af;have ca:=HQ.o.eb j af;have J:=az.o.drew aO;have ad:=au J;have c5:=bn _ J.cZ;have c6:=bf _ J.cZ;have am:=J.swap;have k1:=yF am (r:=k+1) (fw _) eL;have k2:=yF am (r:=k) (fw _) eL;have k3:=yH am (r:=k+1) (y:=j+1) (fw _) eL eL;have k4:=yH am (r:=k) (y:=I) (fw _) eL a7;rw[bw.o j af] at k3;rw[bz.o] at k4;have ae:=au (a5.o t);have b5:=aE.o;have HS:=au (dI (n:=t) (f:=fun x=>M (I+x)));have gE:=bx.o j;have br:=b4.o;rw[show m-I-(t+1)=m-(j+1) by omega,<-hj] at ae;rw[<-hj] at HS ⊢;generalize sg t (fun x=>M (I+x))=ss at *
      generalize GR cc dd M nc m a (m-(j+1))=T1 at *
      generalize GR cc dd M nc m (a+1) (m-I)=T0 at *
      have b6:(t:Int)<=6:=by omega
      have t1:IntKind.i64.wrap ((k:Int)+1)=((k+1:Nat):Int):=by rw[kp _ eL];omega
      have bb:IntKind.i64.wrap ((j:Int)+1)=((j+1:Nat):Int):=by rw[kp _ eL];omega
      have t2:IntKind.i64.wrap (ss+cc k j)=ss+cc k j:=kp _ eL;have t3:IntKind.i64.wrap (ss+cc k j+T1)=ss+cc k j+T1:=kp _ eL;have ti:(0:Int)<=(k:Int)+1:=by omega
      have ax:(k:Int)<(nc:Int)+1:=by omega
      have bj:(0:Int)<=(j:Int)+1:=by omega
      have ar:(I:Int)<(m:Int)+1:=by omega
      clear bn bf J am az aE;by_cases ac:ss+cc k j+T1=T0
      ·have HH:=aA.o t eL (by rw[ae.o];simp[ac]) ap.o;rw[show m-I-(t+1)=m-(j+1) by omega,<-hj] at HH;have ag:=au (Gp HG.o HH);rw[<-a8.o] at ag;have t4:(ss+cc k j+T1==T0)=true:=by simpa using ac
       have t5:IntKind.i64.wrap T0=T0:=kp _ eL;clear HH ae b5 gE br hj;go_wp2_with fail;refine aR (fun w'=>w'=wr.drew) eQ eQ rfl ?_;generalize wr.drew=wx at *
       (repeat(first|refine bM ?_|refine bN ?_))
       refine lex_nil ?_;have al:=au ad.o;clear t1 bb t2 t3 t4 t5 ti ax bj ar k1 k2 k3 k4 ac c5 c6 ad ap HS;go_wp2_with (at_builtin;refine held ?_);obtain⟨F7,aa,-,ak⟩:=(al.o.below aO ((fe _ _).alloc (fy _) (.cells (fL j) 3))).take dO uD;refine lB.mk (jD rfl (.tmp 63) (.tmp 65) rfl oZ _ 0 (v:=.slice A1 ps.length c1) (n:=ps.length) (xs:=ints ps) rfl aa.1 (A:=some ⟨wx.heap.size,0,none⟩) (m:=1) (c:=1) (news:=[.int .i64 j]) rfl (nU wx j) (by rw[aw.o];omega) eS (fw _) ?_);intro v8 w8 ab ai ao;have S8:=ak _ _ (je aa ab ai ao);obtain⟨A8,c8,rfl⟩:=ig ab;have S9:=au (Gn S8);have a4:=au (show ps.length+1=(ps++[((j:Nat):Int)]).length by simp);clear ab ai ao ak aa al S8;go_wp2
       go_roundg g1
       case measure=>omega
       case rel=>exact⟨k+1,j+1,A8,c8,ps++[((j:Nat):Int)],by omega,by omega,by rw[a4.o],by go_num,by go_num,by rw[gd,aw.o];rfl,ag.o,S9.o⟩
      ·have bp:=au (show ∀ u,u<t+1->Oa cc dd M nc m a (m-I) u=false from fun u hu=>by
        by_cases e:u=t
        ·subst e;rw[ae.o];simp[ac]
        ·exact ap.o u eL)
       have t4:(ss+cc k j+T1==T0)=false:=by simpa using ac
       have HJ:=au hj;clear ae ac gE br hj;go_wp2_with fail;refine aR (fun w'=>w'=wr.drew) eQ eQ rfl ?_;generalize wr.drew=wd at *
       (repeat(first|refine bM ?_|refine bN ?_))
       refine lex_nil ?_;clear t1 bb t2 t3 t4 ti ax bj ar k1 k2 k3 k4 c5;go_wp2
       go_roundg g2
       case measure=>omega
       case rel=>exact⟨t+1,by omega,rfl,rfl,by rw[HS.o];try go_num,by rw[HJ.o];go_num,bp.o,ad.o⟩
     | zero=>
      obtain⟨j,hj⟩:∃ j,j=I+t:=⟨_,rfl⟩;obtain rfl:j=m:=by omega
      have HH:=a1.o (fun u hu=>ap.o u eL);have ag:=au (Gp HG.o HH);rw[<-a8.o] at ag;have al:=au az.o;rw[<-hj];generalize wr=wx at *
      clear HH az ap hj aE;go_wp2_with (at_builtin;refine held ?_);obtain⟨F7,aa,-,ak⟩:=(al.o.below aO ((fe _ _).alloc (fy _) (.cells (fL j) 3))).take dO uD;refine lB.mk (jD rfl (.tmp 75) (.tmp 78) rfl oZ _ 0 (v:=.slice A1 ps.length c1) (n:=ps.length) (xs:=ints ps) rfl aa.1 (A:=some ⟨wx.heap.size,0,none⟩) (m:=1) (c:=1) (news:=[.int .i64 j]) rfl (nU wx j) (by rw[aw.o];omega) eS (fw _) ?_);intro v8 w8 ab ai ao;have S8:=ak _ _ (je aa ab ai ao);obtain⟨A8,c8,rfl⟩:=ig ab;have S9:=au (Gn S8);have a4:=au (show ps.length+1=(ps++[((j:Nat):Int)]).length by simp);clear ab ai ao ak aa al S8;go_wp2
      go_roundg g1
      case measure=>omega
      case rel=>exact⟨k+1,I,A8,c8,ps++[((j:Nat):Int)],by omega,by omega,by rw[a4.o],by go_num,by go_num,by rw[gd,aw.o];rfl,ag.o,S9.o⟩
   | zero=>
    obtain rfl:k=nc:=by omega
    have b2:=au (show wS cc dd M k m k m=ps by rw[HG.o,nn];exact mS ps);have J:=HR.o.drew aO;have ad:=au J;have k2:=yF J.swap (r:=0) (fw _) (fw _);have k4:=yH J.swap (r:=0) (y:=0) (fw _) (fw _) (fw _);rw[HF.o 0 0 (fw _) (fw _),sb,sb] at k4;have ax:(0:Int)<(k:Int)+1:=by omega
    have ar:(0:Int)<(m:Int)+1:=by omega
    clear HG bu J HR;go_wp2_with fail;refine aR (fun w'=>w'=wr.drew) eQ eQ rfl ?_;generalize wr.drew=wd at *
    (repeat(first|refine bM ?_|refine bN ?_))
    refine lex_nil ?_;clear k2 k4 ax ar;go_wp2
    try rw[pD]
    go_ret3
    refine bm.o _ _ ad.o.cZ ?_;rw[b2.o];obtain⟨F,hV⟩:=ad.o.fst;exact⟨A1,c1,rfl,fA hV⟩
def yI (c:Nat->Nat->Int) (d e:Nat->Int) (n m:Nat):List (List Int):=(List.range (n+1)).map fun r=>(List.range (m+1)).map fun y=>GR c d e n m (n-r) (m-y)
def Ta (c:Nat->Nat->Int) (d e:Nat->Int) (n m:Nat):List Int:=(yI c d e n m).flatten
variable {i j:Nat}{d e:Nat->Int}
theorem kQ {m:Nat} (f:Nat->Nat->Int):(((List.range n).map fun r=>(List.range m).map fun y=>f r y).flatten).length=n*m:=by
 induction n with
 | zero=>simp
 | succ n ih=>rw[vp,km,zj,gd,ih];simp[li]
theorem Qr {c:Nat->Nat->Int}  {m:Nat}:(Ta c d e n m).length=(n+1)*(m+1):=kQ _
theorem flat_get {m:Nat} (f:Nat->Nat->Int)  (hi:i<n) (I:j<m):(((List.range n).map fun r=>(List.range m).map fun y=>f r y).flatten)[i*m+j]?=some (f i j):=by
 induction n with
 | zero=>omega
 | succ n ih=>
  rw[vp,km,zj];by_cases h:i<n
  ·rw[xe (by rw[kQ];have:(i+1)*m<=n*m:=xp m h;rw[li] at this;omega)];exact ih h
  ·obtain rfl:i=n:=by omega
   rw[BW (by rw[kQ];omega),kQ,Nat.add_sub_cancel_left];simp[I]
theorem aal {c:Nat->Nat->Int}  {m:Nat} (hi:i<=n) (hj:j<=m):(Ta c d e n m)[i*(m+1)+j]?=some (GR c d e n m (n-i) (m-j)):=flat_get _ eL eL
theorem Wv (R:List (List Int)):mL (R.map ints)=ints R.flatten:=by
 unfold mL ints;rw[List.map_flatten]
theorem adY  {pg gg:Nat} {rb:Nat->Nat} {f:Nat->Nat->Int} {c:Nat->Nat->Int}  {m:Nat} (h:aI eR w (aj (gF pg gg rb f 0 n m) bG) W) (hf:∀ r y,r<=n->y<=m->f r y=GR c d e n m (n-r) (m-y)) :
  NZ W (some ⟨gg,0,none⟩) ((yI c d e n m).map ints) ((List.range (n+1)).map fun r=>(some ⟨rb r,0,none⟩,m+1)) where
 len:=by simp[yI]
 src:=by
  unfold gF at h;obtain⟨F,hC⟩:=h.assoc.kN.assoc.fst
  have h1:=iG hC (by
   intro u M;obtain⟨r,_,rfl⟩:=List.mem_map.1 M
   simp only[fw,if_true];rfl)
  have I:((yI c d e n m).map ints).length=n+1:=by simp[yI]
  rw[I];have e2:(((List.range (n+1)).map fun r=>((some ⟨rb r,0,none⟩:eV),m+1)).mapIdx fun i x=>Value.slice x.1 (((yI c d e n m).map ints).getD i []).length x.2)=fv (n+1) fun r=>if 0<=r then .slice (some ⟨rb r,0,none⟩) (m+1) (m+1) else .slice none 0 0:=by
   apply vl;intro i;rw[Cd];by_cases hi:i<n+1
   ·rw[qy _ hi];simp[yI,kj,hi,ints]
   ·rw[pN (l:=fv _ _) (by rw[z8];omega),pN sT];rfl
  rw[e2];exact h1
 row:=fun i hi x hx=>by
  have J:i<n+1:=by simpa[yI] using hi
  obtain⟨F,hN⟩:=(yG h (r:=i) (fw _) eL).fst;have aa:x=(some ⟨rb i,0,none⟩,m+1):=by
   rw[lz,Cl J] at hx;simpa using hx.symm
  subst aa
  have h1:=iG hN (by
   intro u M;obtain⟨r,_,rfl⟩:=List.mem_map.1 M
   rfl)
  have I:((yI c d e n m).map ints)[i]=fv (m+1) fun y=>.int .i64 (f i y):=by
   rw[mA];unfold yI;rw[mA,It];unfold ints;rw[qq];exact qP (fun y hy=>by show Value.int .i64 _=_;rw[hf i y eL eL])
  have e2:((yI c d e n m).map ints)[i].length=m+1:=by rw[I,z8]
  rw[e2,I];exact h1
def oV (C:List (List Int)) (D E:List Int):List Int:=if mR C D E then Ta (cF C) (lF D) (lF E) D.length E.length else []
def LS (w w':World) (v:Value) (l:List Int):Prop:=∃ A c,v=.slice A l.length c/\bT w eR (aX A c l) w'
def Oc (w:World) (C:List (List Int)) (D E:List Int) (en:Ending) (w':World):Prop:=
 ∃ v,en=.returned (.tuple #[v,.int .i64 (LH C D E)])/\Below w.heap.size w w'/\LS w w' v (oV C D E)
theorem Tc  {B G:eV}  {d e:Nat}  {D E:List Int} (h:uy w A C V) (hl:C.length<=maxLen) (hD:Vec w B D) (hE:Vec w G E) :
  Calls Tryz.prog 31 #[.slice A C.length c,.slice B D.length d,.slice G E.length e] w (Oc w C D E):=by
 have KV:=au (jJ (c:=c) (d:=d) (e:=e) h hl hD hE);have HP:=au (fun I=>DK (w:=w) (C:=C) (D:=D) (E:=E) I h hD hE);clear h hD hE hl;cases I:mR C D E with
 | false=>
  have HR:=au (show ∀ w':World,Below w.heap.size w w'->Oc w C D E (.returned (.tuple (pB none 0 0 1))) w' from fun w' hb=>⟨_,by simp only[LH,I];rfl,hb,by simp only[oV,I];exact⟨none,0,rfl,fun _=>False,lD w',Mod.of_below hb,fun _ h=>h.elim⟩⟩);rw[I] at KV;clear HP I
  go_enter Tryz.func31,Tryz.ntmps31
  go_wp2_with fail;refine KV.o.mono ?_;rintro e9 w1 ⟨rfl,fW⟩;have HB:=au fW;clear fW KV;go_wp2
  try rw[pD]
  go_ret2
  exact HR.o _ HB.o
 | true=>
  rw[I] at KV;have hP:=HP.o I;have ag:=hP.n6;have ad:=hP.m6;obtain⟨nc,J⟩:∃ n,n=C.length:=⟨_,rfl⟩;obtain⟨n,hn⟩:∃ n,n=D.length:=⟨_,rfl⟩;obtain⟨m,hm⟩:∃ n,n=E.length:=⟨_,rfl⟩;have af:nc=n:=by rw[J,hn];exact hP.hn
  have ab:=au (show ∀ (v:Value) (w':World),Below w.heap.size w w'->LS w w' v (Ta (cF C) (lF D) (lF E) n m)->Oc w C D E (.returned (.tuple #[v,.int .i64 0])) w' from fun v w' hb ha=>⟨v,by simp only[LH,I];rfl,hb,by simp only[oV,I,<-hn,<-hm];exact ha⟩);rw[<-hn,<-hm] at hP;rw[<-hn] at ag;rw[<-hm] at ad;have HQ:=au hP.q;rw[<-J,<-hn,<-hm] at KV;rw[<-J,<-hn,<-hm];subst af;clear HP I hP J hn hm;generalize cF C=cc at *
  generalize lF D=dd at *
  generalize lF E=M at *
  go_enter Tryz.func31,Tryz.ntmps31
  go_wp2_with fail;refine KV.o.mono ?_;rintro e9 w1 ⟨rfl,fW⟩;have ac:=au fW;have KG:=au (LG (HQ.o.below fW) c d e);clear fW KV;go_wp2_with fail;refine KG.o.mono ?_;rintro e9 w2 ⟨pg,gg,rb,f,rfl,hR2,hf⟩;have hX:=adY hR2 hf;have gE:=au (aF ac.o hR2.cZ);have e1:((yI cc dd M nc m).map ints).length=nc+1:=by simp[yI]
  have e2:(mL ((yI cc dd M nc m).map ints))=ints (Ta cc dd M nc m):=Wv _;have e3:(ints (Ta cc dd M nc m)).length=(Ta cc dd M nc m).length:=yw _;have e4:(Ta cc dd M nc m).length<=1000:=by
   rw[Qr];have:(nc+1)*(m+1)<=7*7:=tv eL eL;omega
  have KC:=au (AU (c:=nc+1) hX (by rw[e1];omega) (by rw[e2,e3];exact e4));rw[e1,e2,e3] at KC;clear KG hR2 hf hX e1 e2 e3 e4 HQ ac;go_wp2_with fail;refine KC.o.mono ?_;rintro e9 w3 ⟨A3,c3,rfl,hP3⟩;have aa:=au (aF gE.o ((aI.begin w2).fresh aN hP3).cZ)
  have ae:=au (show LS w w3 (.slice A3 (Ta cc dd M nc m).length c3) (Ta cc dd M nc m) from by
   obtain⟨F,hF,-,ai⟩:=hP3
   exact⟨A3,c3,rfl,F,hF,Mod.of_below aa.o,fun i hi=>(ai i hi).elim (fun h=>h.elim) (fun h=>.inr ⟨kh gE.o.size h.1,h.2⟩)⟩)
  clear hP3 KC gE;go_wp2
  try rw[pD]
  go_ret2
  exact ab.o _ _ aa.o ae.o
section
variable {w0 W:World} {X:CH.aT} {po pn pl pw cl:Nat} {LA:eV} {L:List Int} {n m:Nat} {z:Int}
def Qs (po pn pl pw:Nat) (LA:eV) (cl len m:Nat) (z:Int) (b:Bool) (X:CH.aT):CH.aT:=
 aj (av po (gj b) 4) (aj (av pn (fL z) 3) (aj (av pl (ij LA len cl) 39) (aj (av pw (fL ((m:Int)+1)) 3) X)))
def Ss (w0:World) (po pn pl pw:Nat) (LA:eV) (cl len m:Nat) (z:Int) (b:Bool) (X:CH.aT) (e:Ending) (w':World):Prop:=e=.returned (.tuple #[])/\aI eR w0 (Qs po pn pl pw LA cl len m z b X) w'
variable {b:Bool}{len:Nat}
theorem Ww   (hX:X.Ok):(Qs po pn pl pw LA cl len m z b X).Ok:=aB aC (aB aC (aB aC (aB aC hX)))
instance {b:Bool} {len:Nat} [hX:X.Ok]:(Qs po pn pl pw LA cl len m z b X).Ok:=Ww hX
theorem LK   (h:aI eR w0 (Qs po pn pl pw LA cl len m z b X) W) :
  W.cell? ⟨po,0,none⟩=some (.bool b)/\W.frozen? ⟨po,0,none⟩=false/\W.cell? ⟨pn,0,none⟩=some (.int .i64 z)/\W.cell? ⟨pl,0,none⟩=some (.slice LA len cl)/\W.cell? ⟨pw,0,none⟩=some (.int .i64 ((m:Int)+1)):=by
 unfold Qs at h;obtain⟨F,hC⟩:=h.fst;obtain⟨F2,J⟩:=h.drop.fst;obtain⟨F3,M⟩:=h.drop.drop.fst;obtain⟨F4,I⟩:=h.drop.drop.drop.fst;exact⟨ay hC rfl,aM hC 0,ay J rfl,ay M rfl,ay I rfl⟩
theorem acL   (hX:X.Ok) (h:aI eR w0 (Qs po pn pl pw LA cl len m z b X) W) (v:Bool):aI eR w0 (Qs po pn pl pw LA cl len m z v X) (W.setCell ⟨po,0,none⟩ (.bool v)):=by
 unfold Qs at *
 exact iY aO h 0 (.bool v) rfl
theorem aam  {q:Int} {x y:Nat} (hX:X.Ok) (h:aI eR w0 (Qs po pn pl pw LA cl L.length m z b X) W) (hL:Vec w0 LA L) (J:L.length=(n+1)*(m+1)) (ad:x<=n) (hy:y<=m) (hn:n<=7) (hm:m<=6) (hq:0<=q/\q<=100000) (hf:∀ i,i<L.length->-1000000<=lF L i/\lF L i<=1000000) :
  Calls Tryz.prog 54 #[.int .i64 (x:Int),.int .i64 (y:Int),.int .i64 q,.pointer (some ⟨po,0,none⟩),.pointer (some ⟨pn,0,none⟩),.pointer (some ⟨pl,0,none⟩),.pointer (some ⟨pw,0,none⟩)] W (Ss w0 po pn pl pw LA cl L.length m z (b&&decide (z<=q+lF L (x*(m+1)+y))) X):=by
 have hR:=h.drew (Ww hX);have HP:=au (acL hX hR);obtain⟨c1,f1,c2,c3,c4⟩:=LK hR;have ac:x*(m+1)<=n*(m+1):=xp _ ad;rw[li] at J;obtain⟨a,ha⟩:∃ a,a=x*(m+1):=⟨_,rfl⟩;have aa:(x:Int)*((m:Int)+1)=(a:Int):=by rw[ha];push_cast;rfl
 rw[<-ha] at ac ⊢;obtain⟨s,hs⟩:∃ s,s=a+y:=⟨_,rfl⟩;have M:s<L.length:=by omega
 have af:=hf s M;have ae:a<=49:=by
  have:n*(m+1)<=7*7:=tv eL eL;omega
 obtain⟨bl,ol,rfl,ab⟩:=LQ hL rfl M;have c5:=ab _ hR.cZ;have t1:IntKind.i64.wrap ((x:Int)*((m:Int)+1))=(a:Int):=by rw[aa];exact kp _ eL
 have t2:IntKind.i64.wrap ((a:Int)+(y:Int))=(s:Int):=by rw[kp _ eL];omega
 have t3:IntKind.i64.wrap (q+lF L s)=q+lF L s:=kp _ eL;rw[<-hs];have ag:(s:Int)<((L.length:Nat):Int):=by omega
 generalize lF L s=v at *
 generalize L.length=len at *
 clear h hR hL hf ab ha aa ac hs J;cases b with
 | false=>
  go_enter Tryz.func54,Tryz.ntmps54
  go_wp2_with fail;refine dZ (fun w'=>w'=W.drew) eQ eQ eQ rfl ?_;generalize W.drew=wd at *
  (repeat(first|refine bM ?_|refine bN ?_))
  refine jf rfl fY (fun KK I=>?_);go_wp2_with fail;refine I.o _ _ ?_;clear I;go_wp2
  go_end0
  exact⟨rfl,HP.o _⟩
 | true=>
  by_cases hz:z<=q+v
  ·have td:decide (z<=q+v)=true:=decide_eq_true hz;rw[td]
   go_enter Tryz.func54,Tryz.ntmps54
   go_wp2_with fail;refine dZ (fun w'=>w'=W.drew) eQ eQ eQ rfl ?_;generalize W.drew=wd at *
   (repeat(first|refine bM ?_|refine bN ?_))
   refine jf rfl fY (fun KK I=>?_);go_wp2_with fail;refine I.o _ _ ?_;clear I;go_wp2
   go_end0
   exact⟨rfl,HP.o _⟩
  ·have td:decide (z<=q+v)=false:=decide_eq_false hz;rw[td]
   go_enter Tryz.func54,Tryz.ntmps54
   go_wp2_with fail;refine dZ (fun w'=>w'=W.drew) eQ eQ eQ rfl ?_;generalize W.drew=wd at *
   (repeat(first|refine bM ?_|refine bN ?_))
   refine jf rfl fY (fun KK I=>?_);go_wp2_with fail;refine I.o _ _ ?_;clear I;go_wp2
   go_end0
   exact⟨rfl,HP.o _⟩
end
def fW (d:Nat->Int) (L:List Int) (n m i j:Nat) (z:Int) (b:Bool):Bool:=if i<n then b&&decide (z<=d i+lF L ((i+1)*(m+1)+j)) else b
def gE (e:Nat->Int) (L:List Int) (m i j:Nat) (z:Int) (b:Bool):Bool:=if j<m then b&&decide (z<=e j+lF L (i*(m+1)+(j+1))) else b
def me (c:Nat->Nat->Int) (L:List Int) (n m i j:Nat) (z:Int) (b:Bool):Bool:=if i<n/\j<m then b&&decide (z<=c i j+lF L ((i+1)*(m+1)+(j+1))) else b
section
variable {w0 W:World} {X:CH.aT} {po pn pl pw cl:Nat} {LA:eV} {L:List Int} {A B G:eV} {c:Nat→Nat→Int} {d e:Nat→Int} {n m:Nat} {z:Int}
theorem aan {b:Bool}  (hq:Gq w0 A B G c d e n m) (hX:X.Ok) (h:aI eR w0 (Qs po pn pl pw LA cl L.length m z b X) W) (hL:Vec w0 LA L) (ac:L.length=(n+1)*(m+1)) (hi:i<=n) (hj:j<=m) (hf:∀ i,i<L.length->-1000000<=lF L i/\lF L i<=1000000) (ca cb cg:Nat) :
  Calls Tryz.prog 53 #[.slice A n ca,.slice B n cb,.slice G m cg,.int .i64 (i:Int),.int .i64 (j:Int),.func (.func 54) #[] #[.pointer (some ⟨po,0,none⟩),.pointer (some ⟨pn,0,none⟩),.pointer (some ⟨pl,0,none⟩),.pointer (some ⟨pw,0,none⟩)]] W (Ss w0 po pn pl pw LA cl L.length m z (me c L n m i j z (gE e L m i j z (fW d L n m i j z b))) X):=by
 have HQ:=au hq;have HR:=au h;have aq:=hq.n7;have ao:=hq.m6;have HV:=au (fun (b:Bool) (q:Int) (x y:Nat) (W:World) (h:aI eR w0 (Qs po pn pl pw LA cl L.length m z b X) W) (hx2:x<=n) (hy:y<=m) (hq:0<=q/\q<=100000)=>aam hX h hL ac hx2 hy eL eL hq hf);clear h hq hL ac hf;by_cases J:i<n
 ·obtain⟨bd,od,rfl,ag⟩:=HQ.o.D i J;have ar:=HQ.o.db i J;have c0:=ag _ HR.o.cZ;have K1:=au (HV.o b (d i) (i+1) j W HR.o eL hj eL);rw[show((i+1:Nat):Int)=(i:Int)+1 by omega] at K1;have H1:=au (show fW d L n m i j z b=(b&&decide (z<=d i+lF L ((i+1)*(m+1)+j))) by simp[fW,J]);rw[<-H1.o] at K1;clear ag H1;by_cases I:j<m
  ·have an:=HQ.o.eb j I;have K2:=au (fun W h=>HV.o (fW d L n m i j z b) (e j) i (j+1) W h eL eL eL);rw[show((j+1:Nat):Int)=(j:Int)+1 by omega] at K2;have H2:=au (show gE e L m i j z (fW d L n m i j z b)=(fW d L n m i j z b&&decide (z<=e j+lF L (i*(m+1)+(j+1)))) by simp[gE,I]);rw[<-H2.o] at K2;have ap:=HQ.o.cb i J j I;have K3:=au (fun W h=>HV.o (gE e L m i j z (fW d L n m i j z b)) (c i j) (i+1) (j+1) W h eL eL eL);rw[show((j+1:Nat):Int)=(j:Int)+1 by omega,show((i+1:Nat):Int)=(i:Int)+1 by omega] at K3;have H3:=au (show me c L n m i j z (gE e L m i j z (fW d L n m i j z b))=(gE e L m i j z (fW d L n m i j z b)&&decide (z<=c i j+lF L ((i+1)*(m+1)+(j+1)))) by simp[me,J,I]);rw[<-H3.o] at K3;clear H2 H3 HV;obtain⟨be,oe,rfl,M⟩:=HQ.o.E j I;obtain⟨ba,oa,RR,cR,rfl,ae,ab⟩:=HQ.o.R i J;obtain⟨b',o',rfl,ai⟩:=ab j I;have al:=au M;have ak:=au ae;have am:=au ai;clear M ae ab ai
   go_enter Tryz.func53,Tryz.ntmps53
   go_wp2_with fail;refine K1.o.mono ?_;rintro e9 w1 ⟨rfl,h1⟩;have c1:=al.o _ h1.cZ;have ad:=au (K2.o _ h1);clear K1 K2 h1 c0;go_wp2_with fail;refine ad.o.mono ?_;rintro e9 w2 ⟨rfl,h2⟩;have c2:=ak.o _ h2.cZ;have c3:=am.o _ h2.cZ;have af:=au (K3.o _ h2);clear ad K3 h2 c1;go_wp2_with fail;refine af.o.mono ?_;rintro e9 w3 ⟨rfl,h3⟩;have aa:=au h3;clear af h3 c2 c3;go_wp2
   go_end0
   exact⟨rfl,aa.o⟩
  ·have H2:=au (show me c L n m i j z (gE e L m i j z (fW d L n m i j z b))=fW d L n m i j z b by simp[me,gE,I]);rw[H2.o];clear H2 HV
   go_enter Tryz.func53,Tryz.ntmps53
   go_wp2_with fail;refine K1.o.mono ?_;rintro e9 w1 ⟨rfl,h1⟩;have aa:=au h1;clear K1 h1 c0;go_wp2
   go_end0
   exact⟨rfl,aa.o⟩
 ·have H1:=au (show fW d L n m i j z b=b by simp[fW,J]);rw[H1.o];by_cases I:j<m
  ·have an:=HQ.o.eb j I;have K2:=au (HV.o b (e j) i (j+1) W HR.o eL eL eL);rw[show((j+1:Nat):Int)=(j:Int)+1 by omega] at K2;have H2:=au (show me c L n m i j z (gE e L m i j z b)=(b&&decide (z<=e j+lF L (i*(m+1)+(j+1)))) by simp[me,gE,J,I]);rw[H2.o];obtain⟨be,oe,rfl,M⟩:=HQ.o.E j I;have c1:=M _ HR.o.cZ;clear H2 HV M H1
   go_enter Tryz.func53,Tryz.ntmps53
   go_wp2_with fail;refine K2.o.mono ?_;rintro e9 w1 ⟨rfl,h1⟩;have aa:=au h1;clear K2 h1 c1;go_wp2
   go_end0
   exact⟨rfl,aa.o⟩
  ·have H2:=au (show me c L n m i j z (gE e L m i j z b)=b by simp[me,gE,J,I]);rw[H2.o];clear H2 HV H1
   go_enter Tryz.func53,Tryz.ntmps53
   go_wp2
   go_end0
   exact⟨rfl,HR.o⟩
end
def AW (c:Nat->Nat->Int) (d e:Nat->Int) (L:List Int) (n m k:Nat) (b:Bool):Bool:=me c L n m (k / (m+1)) (k % (m+1)) (lF L k) (gE e L m (k / (m+1)) (k % (m+1)) (lF L k) (fW d L n m (k / (m+1)) (k % (m+1)) (lF L k) b))
def DJ (c:Nat->Nat->Int) (d e:Nat->Int) (L:List Int) (n m:Nat):Nat->Bool
 | 0=>true
 | k+1=>AW c d e L n m k (DJ c d e L n m k)
def yJ (C:List (List Int)) (D E L:List Int):Bool:=mR C D E&&decide (L.length=(D.length+1)*(E.length+1))&&wi L (-1000000) 1000000&&decide (lF L (L.length-1)<=0)
def nZ (C:List (List Int)) (D E L:List Int):Int × Bool:=if(yJ C D E L&&DJ (cF C) (lF D) (lF E) L D.length E.length L.length)=true then(lF L 0,true) else(0,false)
variable {pw len:Nat}{LA:eV}
theorem IL  {D E L:List Int} (h:yJ C D E L=false):nZ C D E L=(0,false):=by unfold nZ;rw[if_neg (by simp[h])]
theorem Wx  {D E L:List Int} (h:DJ (cF C) (lF D) (lF E) L D.length E.length L.length=false):nZ C D E L=(0,false):=by unfold nZ;rw[if_neg (by simp[h])]
theorem LM  {D E L:List Int} (h:yJ C D E L=true) (hF:DJ (cF C) (lF D) (lF E) L D.length E.length L.length=true):nZ C D E L=(lF L 0,true):=by unfold nZ;rw[if_pos (by simp[h,hF])]
def EJ (pl pw:Nat) (LA:eV) (cl len m:Nat):CH.aT:=aj (av pl (ij LA len cl) 39) (aj (av pw (fL ((m:Int)+1)) 3) bG)
theorem qp {pl:Nat}  {cl m:Nat}:(EJ pl pw LA cl len m).Ok:=aB aC (aB aC aN)
instance {pl pw:Nat} {LA:eV} {cl len m:Nat}:(EJ pl pw LA cl len m).Ok:=qp
theorem jk  {pl:Nat}  {cl m:Nat} (h:aI eR w0 (EJ pl pw LA cl len m) W):W.cell? ⟨pl,0,none⟩=some (.slice LA len cl)/\W.cell? ⟨pw,0,none⟩=some (.int .i64 ((m:Int)+1)):=by
 unfold EJ at h;obtain⟨F,hC⟩:=h.fst;obtain⟨F2,hC2⟩:=h.drop.fst;exact⟨ay hC rfl,ay hC2 rfl⟩
theorem aao (w:World) (LA:eV) (cl len m:Nat):aI eR w (EJ w.heap.size (w.heap.size+1) LA cl len m) ((w.alloc (.cells (ij LA len cl) 39)).alloc (.cells (fL ((m:Int)+1)) 3)):=by
 have J:=(aI.begin w).fresh aN (dP w (ij LA len cl) 39);have h:=J.fresh aO (dP _ (fL ((m:Int)+1)) 3);have I:(w.alloc (.cells (ij LA len cl) 39)).heap.size=w.heap.size+1:=by simp
 rw[I] at h;exact h.perm (by unfold EJ;ac_rfl)
theorem EK  {B G LA:eV}  {d e cl:Nat}  {D E L:List Int} (h:uy w A C V) (hl:C.length<=maxLen) (hD:Vec w B D) (hE:Vec w G E) (hL:Vec w LA L) (a8:L.length<=1000000) (bk:E.length<=1000000) (ba:D.length<=1000000) :
  Calls Tryz.prog 34 #[.slice A C.length c,.slice B D.length d,.slice G E.length e,.slice LA L.length cl] w (rQ w (nZ C D E L)):=by
 have KV:=au (fun (w':World) (hb:Below w.heap.size w w')=>jJ (c:=c) (d:=d) (e:=e) (h.below hb) hl (hD.below hb) (hE.below hb));have KW:=au (fun (w':World) (hb:Below w.heap.size w w')=>mG (c:=cl) (hL.below hb) a8 (-1000000) 1000000);have HP:=au (fun hv=>DK (w:=w) (C:=C) (D:=D) (E:=E) hv h hD hE);have H6:=au (fun hv=>vo (C:=C) (D:=D) (E:=E) hv);have HL:=au hL;have J:=au (show yJ C D E L=(mR C D E&&decide (L.length=(D.length+1)*(E.length+1))&&wi L (-1000000) 1000000&&decide (lF L (L.length-1)<=0)) from rfl);have af:=au (fun hf=>IL (C:=C) (D:=D) (E:=E) (L:=L) hf);have ab:=au (fun hf=>Wx (C:=C) (D:=D) (E:=E) (L:=L) hf);have ae:=au (fun h0 hf=>LM (C:=C) (D:=D) (E:=E) (L:=L) h0 hf);have ak:=au (fun h0=>L0 (l:=L) (lo:=-1000000) (hi:=1000000) h0);obtain⟨n,hn⟩:∃ n,n=D.length:=⟨_,rfl⟩;obtain⟨m,hm⟩:∃ n,n=E.length:=⟨_,rfl⟩;obtain⟨nc,ar⟩:∃ n,n=C.length:=⟨_,rfl⟩;obtain⟨nl,am⟩:∃ n,n=L.length:=⟨_,rfl⟩;have al:=au (fun (i:Nat) hi=>LQ (n:=nl) (i:=i) hL am.symm hi);have ag:=au am;have ax:=au ar;have an:=au (aao w LA cl nl m);rw[<-hn,<-hm] at HP ab J;rw[<-am] at ab J ak KW;rw[<-hn,<-hm,<-am] at ae;rw[<-hn] at ba;rw[<-hm] at bk;rw[<-hn,<-hm,<-ar] at KV;rw[<-am] at a8;rw[<-hn,<-hm,<-ar,<-am];have tw:IntKind.i64.wrap ((m:Int)+1)=(m:Int)+1:=kp _ eL;have tn:IntKind.i64.wrap ((n:Int)+1)=(n:Int)+1:=kp _ eL;clear h hl hD hE hL hn hm ar am;cases hv:mR C D E with
 | false=>
  rw[hv] at J;have HF:=au (af.o (by rw[J.o];rfl));have M:=au an.o;have ac:=au (KV.o _ an.o.cZ);rw[hv] at ac;clear J af ab ae KW HP H6 an KV hv ak al HL ag ax
  go_enter Tryz.func34,Tryz.ntmps34
  go_wp2_with fail;refine ac.o.mono ?_;rintro e9 w1 ⟨rfl,fW⟩;obtain⟨pl,aa⟩:∃ pl,pl=w.heap.size:=⟨_,rfl⟩;rw[<-aa] at M ⊢;have I:=au (M.o.below qp fW);obtain⟨k1,k2⟩:=jk I.o;clear ac M fW aa;have HB:=au I.o.cZ;clear I k1 k2;go_wp2
  go_ret2
  exact kF HF.o HB.o
 | true=>
  rw[hv,lx] at J;have hP:=HP.o hv;have bv:=hP.n6;have br:=hP.m6;have HQ:=au hP.q;have bf:n=nc:=by rw[ax.o];exact hP.hn.symm
  subst bf;have M:=au an.o;have ac:=au (KV.o _ an.o.cZ);rw[hv] at ac;clear HP hP H6 an KV hv ax;generalize cF C=cc at *
  generalize lF D=dd at *
  generalize lF E=ee at *
  obtain⟨K,hK⟩:∃ K,K=(n+1)*(m+1):=⟨_,rfl⟩;have bw:1<=K:=by rw[hK];exact Nat.mul_pos (Nat.succ_pos _) (Nat.succ_pos _)
  have bu:K<=49:=by rw[hK];exact tv (show n+1<=7 by omega) (show m+1<=7 by omega)
  have a5:((n:Int)+1)*((m:Int)+1)=(K:Int):=by rw[hK];push_cast;rfl
  have tk:IntKind.i64.wrap (((n:Int)+1)*((m:Int)+1))=(K:Int):=by rw[a5];exact kp _ eL
  rw[<-hK] at J;have HK:=au hK;clear hK a5;by_cases h1:nl=K
  case neg=>
   have HF:=au (af.o (by rw[J.o,decide_eq_false h1];rfl));clear af ab ae KW ak al ag J HQ HK HL
   go_enter Tryz.func34,Tryz.ntmps34
   go_wp2_with fail;refine ac.o.mono ?_;rintro e9 w1 ⟨rfl,fW⟩;obtain⟨pl,aa⟩:∃ pl,pl=w.heap.size:=⟨_,rfl⟩;rw[<-aa] at M ⊢;have I:=au (M.o.below qp fW);obtain⟨k1,k2⟩:=jk I.o;clear ac M fW aa;have HB:=au I.o.cZ;clear I;go_wp2
   go_ret2
   exact kF HF.o HB.o
  rw[decide_eq_true h1,lx] at J;obtain⟨s,hs⟩:∃ s,nl=s+1:=⟨nl-1,by omega⟩;have ts:IntKind.i64.wrap ((nl:Int)-1)=(s:Int):=by rw[kp _ eL];omega
  have a9:nl-1=s:=by omega
  have bo:(s:Int)<(nl:Int):=by omega
  have be:s<nl:=by omega
  rw[a9] at J;subst h1;clear hs a9;cases h3:wi L (-1000000) 1000000 with
  | false=>
   rw[h3] at J KW;have HF:=au (af.o (by rw[J.o];rfl));clear af ab ae ak al ag J HQ HK h3 HL
   go_enter Tryz.func34,Tryz.ntmps34
   go_wp2_with fail;refine ac.o.mono ?_;rintro e9 w1 ⟨rfl,fW⟩;obtain⟨pl,aa⟩:∃ pl,pl=w.heap.size:=⟨_,rfl⟩;rw[<-aa] at M ⊢;have I:=au (M.o.below qp fW);obtain⟨k1,k2⟩:=jk I.o;clear ac M fW aa;have ai:=au (KW.o _ I.o.cZ);clear KW;go_wp2_with fail;refine ai.o.mono ?_;rintro e9 w2 ⟨rfl,gE⟩;have ad:=au (I.o.below qp gE);clear ai k1 k2 I gE;obtain⟨k1,k2⟩:=jk ad.o;have HB:=au ad.o.cZ;clear ad;go_wp2
   go_ret2
   exact kF HF.o HB.o
  | true=>
   rw[h3,lx] at J;rw[h3] at KW;have a1:=au (ak.o h3);clear h3;obtain⟨bl,ol,rfl,a7⟩:=al.o s be;have a6:=au a7;clear a7;by_cases h4:lF L s<=0
   case neg=>
    have HF:=au (af.o (by rw[J.o,decide_eq_false h4]));clear af ab ae ak al ag J HQ HK a1 HL
    go_enter Tryz.func34,Tryz.ntmps34
    go_wp2_with fail;refine ac.o.mono ?_;rintro e9 w1 ⟨rfl,fW⟩;obtain⟨pl,aa⟩:∃ pl,pl=w.heap.size:=⟨_,rfl⟩;rw[<-aa] at M ⊢;have I:=au (M.o.below qp fW);obtain⟨k1,k2⟩:=jk I.o;clear ac M fW aa;have ai:=au (KW.o _ I.o.cZ);clear KW;go_wp2_with fail;refine ai.o.mono ?_;rintro e9 w2 ⟨rfl,gE⟩;have ad:=au (I.o.below qp gE);clear ai k1 k2 I gE;obtain⟨k1,k2⟩:=jk ad.o;have HB:=au ad.o.cZ;have c5:=a6.o _ HB.o;clear ad;go_wp2
    go_ret2
    exact kF HF.o HB.o
   have HY:=au (ae.o (by rw[J.o,decide_eq_true h4]));clear af ae J ak
   go_enter Tryz.func34,Tryz.ntmps34
   go_wp2_with fail;refine ac.o.mono ?_;rintro e9 w1 ⟨rfl,fW⟩;obtain⟨pl,aa⟩:∃ pl,pl=w.heap.size:=⟨_,rfl⟩;rw[<-aa] at M ⊢;have I:=au (M.o.below qp fW);obtain⟨k1,k2⟩:=jk I.o;clear ac M fW aa;have ai:=au (KW.o _ I.o.cZ);clear KW;go_wp2_with fail;refine ai.o.mono ?_;rintro e9 w2 ⟨rfl,gE⟩;have ad:=au (I.o.below qp gE);clear ai k1 k2 I gE;obtain⟨k1,k2⟩:=jk ad.o;have c5:=a6.o _ ad.o.cZ;have aE:=ad.o.fresh qp (dP w2 (gj true) 4);have a3:=au aE;obtain⟨k3,-⟩:=jk aE.drop;clear aE ad;go_wp2;generalize w2.heap.size=po at *
   go_loopg [48] nl (fun g1 s wr=>∃ k:Nat,k+g1=nl/\s=.int .i64 k/\aI eR w (aj (av po (gj (DJ cc dd ee L n m k)) 4) (EJ pl (pl+1) (some ⟨bl,ol,none⟩) cl nl m)) wr)
   case atStart=>exact⟨0,mB _,rfl,a3.o⟩
   case round=>
    obtain⟨k,bp,rfl,hR⟩:=hrel;have HR:=au hR;clear hR a3;cases gk with
    | succ g1=>
     have aD:k<nl:=by omega
     have hz:=a1.o k aD;obtain⟨aq,ap,e0,ao⟩:=al.o k aD;obtain⟨rfl,rfl⟩:aq=bl/\ap=ol:=by simpa[eq_comm] using e0
     have c6:=ao _ HR.o.cZ;obtain⟨z,az⟩:∃ z,z=lF L k:=⟨_,rfl⟩;have HZ:=au az;rw[<-az] at c6 hz
     have a4:=au (show aI eR w (Qs po wr.heap.size pl (pl+1) (some ⟨aq,ap,none⟩) cl nl m z (DJ cc dd ee L n m k) bG) (wr.alloc (.cells (fL z) 3)) from
      ((HR.o.fresh aO (dP wr (fL z) 3)).perm (by unfold Qs EJ;ac_rfl)))
     obtain⟨i,hi⟩:∃ i,i=k / (m+1):=⟨_,rfl⟩;obtain⟨j,hj⟩:∃ j,j=k % (m+1):=⟨_,rfl⟩;have bi:i<=n:=by
      have h8:k<(m+1)*(n+1):=by rw[oc,<-HK.o];exact aD
      have h9:=xt h8;omega
     have bh:j<=m:=by have:=sn k (show 0<m+1 by omega);omega
     have HA:=au (show DJ cc dd ee L n m (k+1)=me cc L n m i j z (gE ee L m i j z (fW dd L n m i j z (DJ cc dd ee L n m k))) by rw[hi,hj,HZ.o];rfl);have td:wrap64 ((k:Int) / ((m:Int)+1))=(i:Int):=by
      have e8:(k:Int) / ((m:Int)+1)=(i:Int):=by rw[hi];push_cast;rfl
      rw[e8];exact rL (i:Int) eL
     have tm:(k:Int) % ((m:Int)+1)=(j:Int):=by rw[hj];push_cast;rfl
     have tz:((m:Int)+1==0)=false:=by simp;omega
     have bm:¬ ((m:Int)+1=0):=by omega
     clear ao e0 az hi hj;go_wp2_with fail;generalize (wr.alloc (.cells (fL z) 3))=wx at *
     generalize wr.heap.size=pn at *
     have a2:=a4.o.drew (Ww aN);have bj:=au a2;obtain⟨-,-,-,q2,q3⟩:=LK a2;have KN:=aan (L:=L) (z:=z) (b:=DJ cc dd ee L n m k) (m:=m) (n:=n) HQ.o aN (W:=wx.drew) (by rw[<-ag.o];exact bj.o) HL.o (by rw[<-ag.o];exact HK.o) bi bh (by rw[<-ag.o];exact a1.o) c d e;rw[<-ag.o,<-HA.o] at KN;have aw:=au KN;obtain⟨bb,a0⟩:∃ bb,bb=DJ cc dd ee L n m (k+1):=⟨_,rfl⟩;rw[<-a0] at aw;have bn:=au a0;clear KN a2 a4 HA c6 a0;refine dZ (fun w'=>w'=wx.drew) eQ eQ eQ rfl ?_;generalize wx.drew=wd at *
     (repeat(first|refine bM ?_|refine bN ?_))
     refine jf rfl fY (fun KK hK=>?_);go_wp2_with fail;rw[td,tm];refine aw.o.mono ?_;rintro e9 w4 ⟨rfl,hR4⟩;have bc:=au (show aI eR w (aj (av po (gj bb) 4) (EJ pl (pl+1) (some ⟨aq,ap,none⟩) cl nl m)) w4 from by unfold Qs at hR4;unfold EJ;exact hR4.kN.drop);clear hR4 aw q2 q3 td tm tz bm;go_wp2_with fail;refine hK.o _ _ ?_;clear hK;go_wp2
     go_roundg g1
     case measure=>omega
     case rel=>exact⟨k+1,by omega,by go_num,by rw[<-bn.o];exact bc.o⟩
    | zero=>
     obtain rfl:k=nl:=by omega
     obtain⟨F,hC⟩:=HR.o.fst;have c1:wr.cell? ⟨po,0,none⟩=some (.bool (DJ cc dd ee L n m k)):=ay hC rfl;obtain⟨c2,-⟩:=jk HR.o.drop;have aA:=au HR.o.cZ;clear hC HR;cases hb:DJ cc dd ee L n m k with
     | false=>
      have HF:=au (ab.o hb);rw[hb] at c1;clear hb ab HY;go_wp2
      go_ret2
      exact kF HF.o aA.o
     | true=>
      have HF:=au (HY.o hb);obtain⟨aq,ap,e0,ao⟩:=al.o 0 eL;obtain⟨rfl,rfl⟩:aq=bl/\ap=ol:=by simpa[eq_comm] using e0
      have c3:=ao _ aA.o;rw[pk] at c3;rw[hb] at c1;have t0:(0:Int)<(k:Int):=by omega
      generalize lF L 0=z0 at *
      clear hb ab HY ao e0;go_wp2
      go_ret2
      exact kF HF.o aA.o
variable {k:Nat}
theorem acM {m:Nat} (hj:j<=m):(i*(m+1)+j) / (m+1)=i:=by
 rw[oc,J0 eL,FO eL];rfl
theorem acN {m:Nat} (hj:j<=m):(i*(m+1)+j) % (m+1)=j:=by
 rw[oc,J1,Ge eL]
section
variable {c:Nat→Nat→Int} {d e:Nat→Int} {L:List Int} {n m:Nat}
def q1 (d:Nat->Int) (L:List Int) (n m i p:Nat):Bool:=!(decide (i<n)&&decide (d i+lF L (p+m+1)<lF L p))
def q2 (e:Nat->Int) (L:List Int) (m j p:Nat):Bool:=!(decide (j<m)&&decide (e j+lF L (p+1)<lF L p))
def q3 (c:Nat->Nat->Int) (L:List Int) (n m i j p:Nat):Bool:=!(decide (i<n)&&decide (j<m)&&decide (c i j+lF L (p+m+2)<lF L p))
theorem LP {p:Nat} (J:j<=m) (I:p=i*(m+1)+j) (hb:DJ c d e L n m p=true):DJ c d e L n m (p+1)=(q1 d L n m i p&&q2 e L m j p&&q3 c L n m i j p):=by
 show AW c d e L n m p (DJ c d e L n m p)=_
 rw[hb];unfold AW;rw[I,acM J,acN J,<-I];have M:(i+1)*(m+1)+j=p+m+1:=by rw[I,li];omega
 have e2:i*(m+1)+(j+1)=p+1:=by rw[I];omega
 have e3:(i+1)*(m+1)+(j+1)=p+m+2:=by rw[I,li];omega
 unfold fW gE me q1 q2 q3;rw[M,e2,e3];have t:∀ a b:Int,decide (a<=b)=!decide (b<a):=fun a b=>by
  by_cases h:a<=b
  ·rw[decide_eq_true h,decide_eq_false eL];rfl
  ·rw[decide_eq_false h,decide_eq_true eL];rfl
 simp only[t];by_cases h1:i<n<;>by_cases h2:j<m<;>simp[h1,h2]
theorem Td :AW c d e L n m k false=false:=by
 unfold AW fW gE me;simp
theorem Wz {r:Nat} (h:DJ c d e L n m k=false) (hr:k<=r):DJ c d e L n m r=false:=by
 induction r with
 | zero=>(obtain rfl:k=0:=by omega);exact h
 | succ r ih=>
  by_cases e1:k=r+1
  ·rw[<-e1];exact h
  ·show AW c d e L n m r (DJ c d e L n m r)=false
   rw[ih eL];exact Td
end
variable {w':World}{X:CH.aT}{g:Nat}{f:Nat->Int}
theorem Wq   {N:Nat}  (h:aI eR w0 (aj X (kE g N f)) W) {k:Nat} (hk:k<N*64):W.cell? ⟨g,k,none⟩=some (.int .i64 (f k)):=by
 obtain⟨F,hF⟩:=h.swap.fst;exact wK hF hk
theorem SX  (hb:Below w.heap.size w w'):bT w eR (aj (aX none 0 []) (aX none 0 [])) w':=⟨fun _=>False,⟨fun _=>False,fun _=>False,lD w',lD w',fun _ h=>h.elim,fun i=>by simp⟩,Mod.of_below hb,fun _ h=>h.elim⟩
theorem Qn (c:Nat->Nat->Int) (d e:Nat->Int) (n m:Nat):TB c d e n m 0 0=mW c d e n m:=by unfold TB mW;rw[sb,Qy]
theorem uh  {B G:eV}  {d e:Nat}  {D E:List Int} (h:uy w A C V) (hl:C.length<=maxLen) (hD:Vec w B D) (hE:Vec w G E) (cq:D.length<=d) :
  Calls Tryz.prog 27 #[.slice A C.length c,.slice B D.length d,.slice G E.length e] w (pK w C D E):=by
 have bu:Below w.heap.size w (w.alloc (.cells j4 89)):=(fe _ _).alloc (fy _) _;have KV:=au (jJ (c:=c) (d:=d) (e:=e) (h.below bu) hl (hD.below bu) (hE.below bu));have HP:=au (fun hv=>DK (w:=w) (C:=C) (D:=D) (E:=E) hv h hD hE);have R0:Hid (aI eR w (av w.heap.size j4 89) _):=au (((aI.begin w).fresh aN (dP w j4 89)).imp fun _ _ h=>j5 h);unfold j4 at KV R0;clear h hD hE bu hl;cases hv:mR C D E with
 | false=>
  have HR:=au (show ∀ w':World,Below w.heap.size w w'->pK w C D E (.returned (.tuple #[.agg (gO 0 none 0 0 none 0 0 none 0 0),.int .i64 1])) w' from fun w' hb=>⟨_,by rw[hv];rfl,hb,by rw[hv];exact⟨none,none,none,0,0,0,rfl,Src.none_,Src.none_,Src.none_,SX hb⟩⟩);rw[hv] at KV;obtain⟨g6,bh⟩:∃ g6,Hid (w.heap.size=g6):=⟨_,au rfl⟩;clear HP hv cq
  go_enter Tryz.func27,Tryz.ntmps27
  go_wp2
  go_step3
  go_wp2_with fail;refine KV.o.mono ?_;rintro e9 w1 ⟨rfl,fW⟩;have R1:=au (R0.o.below aC fW);obtain⟨F,hC⟩:=R1.o.get;have z0:=ay hC (i:=0) rfl;have z1:=ay hC (i:=1) rfl;have z2:=ay hC (i:=2) rfl;have z3:=ay hC (i:=3) rfl;have f0:=aM hC 0;have f1:=aM hC 1;have f2:=aM hC 2;have f3:=aM hC 3;have R2:=au (Wo R1.o);rw[bh.o] at HR R2 z0 z1 z2 z3 f0 f1 f2 f3 ⊢;clear hC fW KV R1 R0;go_wp2
  try rw[pD]
  refine bodyPost_ret_by (dz rfl _ _ g6 89 (gO 0 none 0 0 none 0 0 none 0 0) (0,0) rfl ?_ Tryz.underlying89 eQ) rfl ?_
  ·obtain⟨F,hC⟩:=R2.o.get;exact hC.1
  ·exact HR.o _ (by have:=R2.o.cZ;rwa [bh.o] at this)
 | true=>
  rw[hv] at KV;have hP:=HP.o hv;have d1:=hP.n6;have cw:=hP.m6;obtain⟨nc,bm⟩:∃ n,n=C.length:=⟨_,rfl⟩;obtain⟨n,hn⟩:∃ n,n=D.length:=⟨_,rfl⟩;obtain⟨m,hm⟩:∃ n,n=E.length:=⟨_,rfl⟩;have eq:nc=n:=by rw[bm,hn];exact hP.hn
  have cd:=au (show ∀ (v:Value) (w':World),Below w.heap.size w w'->LR w w' v (fJ C D E)->pK w C D E (.returned (.tuple #[v,.int .i64 0])) w' from fun v w' hb ha=>⟨v,by rw[hv];rfl,hb,by rw[hv];exact ha⟩);have ek:=au (show fJ C D E=⟨mW (cF C) (lF D) (lF E) n m,Yp (cF C) (lF D) (lF E) n m,BE (cF C) (lF D) (lF E) n m,BV (cF C) (lF D) (lF E) n m⟩ by rw[hn,hm];rfl);rw[<-hn,<-hm] at hP;rw[<-hn] at d1;have ea:n<=d:=by rw[hn];exact cq
  clear cq;rw[<-hm] at cw;have HQ:=au hP.q;rw[<-bm,<-hn,<-hm] at KV;rw[<-bm,<-hn,<-hm];subst eq;clear HP hv hP bm hn hm;generalize cF C=cc at *
  generalize lF D=J at *
  generalize lF E=I at *
  have cY:=Gs HQ.o (fy nc) wV;have cX:=au (show mW cc J I nc m=L cc J I nc m nc wV from rfl);rw[<-cX.o] at cY;obtain⟨K,hK⟩:∃ K,K=mW cc J I nc m:=⟨_,rfl⟩;rw[<-hK] at cY cX;have cH:=au hK;have hM:=V8 cw;have aE:0<1 <<< m:=by rw[ub];exact Nat.pow_pos eS
  have cP:=au (fun s j hs hj=>V7 (m:=m) (s:=s) (j:=j) cw hs hj);clear hK
  go_enter Tryz.func27,Tryz.ntmps27
  go_wp2
  go_step3
  go_wp2_with fail;refine KV.o.mono ?_;rintro e9 w1 ⟨rfl,fW⟩;have R1:=au (R0.o.below aC fW);have KT:=au (Gj (HQ.o.below R1.o.cZ) c d e);clear fW R0 KV;go_wp2_with fail;refine KT.o.mono ?_;rintro e9 w2 ⟨gt,rfl,hP2⟩;have R2:=R1.o.fresh aC hP2;obtain⟨M,bp⟩:∃ M,Hid (1 <<< m=M):=⟨_,au rfl⟩;rw[bp.o] at hM aE cP R2;obtain⟨F,hF⟩:=R2.fst;have cD:=wK hF (k:=0) eL;rw[show(0:Nat)=0*64+0 from rfl,vg hM aE (.inr ⟨rfl,aE⟩),Qn,<-cH.o] at cD;simp only[sk,pk] at cD;have R3:=(R2.fresh aO (dP w2 (gO K none 0 0 none 0 0 none 0 0) 89))
  have R4:=au (show aI eR w (aj (gW w.heap.size w2.heap.size K none none none 0 0 0 [] [] []) (kE gt (nc+1) (jU cc J I nc m M 0 M))) _ from
   (R3.perm (by ac_rfl:_=aj (aj (av w2.heap.size (gO K none 0 0 none 0 0 none 0 0) 89) (av w.heap.size (gO 0 none 0 0 none 0 0 none 0 0) 89)) (kE gt (nc+1) (jU cc J I nc m M 0 M)))).imp fun W F hh=>bD hh (fun F hh=>by
   unfold gW
   exact⟨fun _=>False,F,lD W,⟨fun _=>False,F,lD W,⟨fun _=>False,F,lD W,hh,fun _ h=>h.elim,fun i=>by simp⟩,fun _ h=>h.elim,fun i=>by simp⟩,fun _ h=>h.elim,fun i=>by simp⟩) (fun _ h=>h))
  obtain⟨g6,bh⟩:∃ g6,Hid (w.heap.size=g6):=⟨_,au rfl⟩;have co:(0:Int)<(nc:Int)+1:=by omega
  clear hP2 R2 R3 hF KT R1;go_wp2_with fail;rw[bh.o] at cd R4 ⊢;generalize w2.heap.size=ga at *
  clear cD co;go_wp2
  go_step3
  go_wp2
  go_loopg [10,38] nc (fun g1 s i wr=>∃ (k set:Nat) (A1:eV) (c1:Nat) (ps:List Int),k+g1=nc/\s=.int .i64 set/\set<M/\i=.int .i64 k/\ps.length=k/\Yp cc J I nc m=ps++gr cc J I nc m (nc-k) (bt set)/\aI eR w (aj (gW g6 ga K A1 none none c1 0 0 ps [] []) (kE gt (nc+1) (jU cc J I nc m M 0 M))) wr)
  case atStart=>exact⟨0,0,none,0,[],mB _,rfl,aE,rfl,rfl,by rw[Qy];rfl,R4.o⟩
  case round=>
   obtain⟨k,set,A1,c1,ps,dc,rfl,bi,rfl,dp,hg,hR⟩:=hrel;have HR:=au hR;have bw:=au dp;have HG:=au hg;clear hR dp hg R4;cases gk with
   | succ g1=>
    have d0:k<nc:=by omega
    obtain⟨a,ha⟩:∃ a,nc=a+1+k:=⟨nc-k-1,by omega⟩;have cr:nc-k=a+1:=by omega
    have c9:nc-(a+1)=k:=by omega
    have dl:=au (show nc-(k+1)=a by omega);have eK:a<=6:=by omega
    rw[cr] at HG;have dT:=au (fun (j:Nat) hj hp hb=>Up (c:=cc) (d:=J) (e:=I) (n:=nc) (m:=m) (a:=a) (j:=j) (U:=bt set) hj hp hb);have cp:=au (fun hb=>YH (c:=cc) (d:=J) (e:=I) (n:=nc) (m:=m) (a:=a) (U:=bt set) hb)
    have c7:=au (fun j=>show tst cc J I nc m a (bt set) j=(!bt set j&&decide (cc k j+TB cc J I nc m (k+1) (set ||| 1 <<< j)=TB cc J I nc m k set)) by
     unfold tst TB;rw[c9,cr,show nc-(k+1)=a by omega,WR])
    have eg:=au (fun s=>show 0<=TB cc J I nc m (k+1) s/\TB cc J I nc m (k+1) s<=200000 by
     have:=Gs HQ.o (show nc-(k+1)<=nc by omega) (bt s);unfold TB;omega)
    clear cr c9 ha;obtain⟨ba,oa,RR,cR,rfl,a2,ax⟩:=HQ.o.R k d0;have cE:=au ax;have c0:=a2 _ HR.o.cZ;clear a2 ax;go_wp2
    go_loopg [10,45] m (fun g2 s x wr=>∃ j:Nat,j+g2=m/\s=.int .i64 set/\x=.int .i64 j/\(∀ t,t<j->tst cc J I nc m a (bt set) t=false)/\aI eR w (aj (gW g6 ga K A1 none none c1 0 0 ps [] []) (kE gt (nc+1) (jU cc J I nc m M 0 M))) wr)
    case atStart=>exact⟨0,mB _,rfl,rfl,fun t ht=>absurd ht (nB t),HR.o⟩
    case round=>
     obtain⟨j,ej,rfl,rfl,dC,hR⟩:=hrel;have an:=au dC;have a5:=au hR;clear HR hR dC c0;cases gk with
     | succ g2=>
      have ab:j<m:=by omega
      obtain⟨b',o',rfl,a3⟩:=cE.o j ab;have en:=HQ.o.cb k d0 j ab;have eI:=au a3;have c5:=a3 _ a5.o.cZ;have ai:=au (c7.o j);obtain⟨q,cJ,aD⟩:=Oh set j eL;have cG:=eg.o (set ||| 1 <<< j);have aa:=au (a5.o.drew aO);clear a3;cases hu:bt set j with
      | true=>
       rw[hu] at aD ai;simp only[if_true] at aD
       have bk:=au (show ∀ t,t<j+1->tst cc J I nc m a (bt set) t=false from fun t ht=>by
        by_cases e:t=j
        ·subst e;rw[ai.o];rfl
        ·exact an.o t eL)
       clear hu ai an a5;go_wp2_with fail;refine aR (fun w'=>w'=wr.drew) eQ eQ rfl ?_;generalize wr.drew=wd at *
       (repeat(first|refine bM ?_|refine bN ?_))
       refine lex_nil ?_;clear cJ aD c5;go_wp2
       go_roundg g2
       case measure=>omega
       case rel=>exact⟨j+1,by omega,rfl,by go_num,bk.o,aa.o⟩
      | false=>
       rw[hu] at aD ai;simp only[kO,if_false] at aD;obtain⟨p,ed,er,d7⟩:=SD set j eL eL;have ci:=cP.o set j bi ab;have k1:=Wq aa.o (k:=(k+1)*64+(set ||| 1 <<< j)) eL;rw[vg hM ci (.inl eL)] at k1;have k2:=Wq aa.o (k:=k*64+set) eL;rw[vg hM bi eL] at k2;have dj:=au (WR set j);generalize set ||| 1 <<< j=so at *
       have cV:=au (show ∃ x,x=TB cc J I nc m (k+1) so from⟨_,rfl⟩);obtain⟨T1,cW⟩:=cV.o;rw[<-cW] at k1 ai cG;generalize TB cc J I nc m k set=T0 at *
       have t1:IntKind.i64.wrap ((k:Int)+1)=((k+1:Nat):Int):=by rw[kp _ eL];omega
       have t2:IntKind.i64.wrap (cc k j+T1)=cc k j+T1:=kp _ eL;have ti:(0:Int)<=(k:Int)+1:=by omega
       have dy:(k:Int)<(nc:Int)+1:=by omega
       have ts:(so:Int)<64:=by omega
       have dt:(set:Int)<64:=by omega
       clear hu cW cV a5;by_cases a1:cc k j+T1=T0
       ·have HH:=dT.o j ab (by rw[ai.o];simp[a1]) an.o;have bx:=au (Lr (qs:=[]) HG.o HH.1);rw[<-dj.o] at bx;have t3:(cc k j+T1==T0)=true:=by simpa using a1
        have t4:IntKind.i64.wrap T0=T0:=kp _ eL;clear HH ai cG;go_wp2_with fail;refine aR (fun w'=>w'=wr.drew) eQ eQ rfl ?_;generalize wr.drew=wx at *
        (repeat(first|refine bM ?_|refine bN ?_))
        refine lex_nil ?_;have ac:=au aa.o;obtain⟨b0,b1,b2,b3,bf⟩:=mF ac.o;have ef:=bf 1;clear t1 t2 t3 t4 ti dy ts dt k1 k2 a1 cJ aD c5 b0 b2 b3 bf aa an dj;go_wp2_with (at_builtin;refine held ?_);obtain⟨F7,af,-,aw⟩:=(Ql (ac.o.below aO ((fe _ _).alloc (fy _) (.cells (fL j) 3)))).take dO (SS dO dO aC aC nO);refine lB.mk (jD rfl (.tmp 77) (.tmp 79) rfl oZ _ 0 (v:=.slice A1 ps.length c1) (n:=ps.length) (xs:=ints ps) rfl af.1 (A:=some ⟨wx.heap.size,0,none⟩) (m:=1) (c:=1) (news:=[.int .i64 j]) rfl (nU wx j) (by rw[bw.o];omega) eS (fw _) ?_);intro v8 w8 ae ar ap;have S8:=aw _ _ (je af ae ar ap);obtain⟨A8,c8,rfl⟩:=ig ae;obtain⟨FC,hC⟩:=(S8.perm (by ac_rfl:_=aj (av ga (gO K A1 ps.length c1 none 0 0 none 0 0) 89) (aj (aV 3 1 (.slice A8 (ps.length+1) c8) (ps.length+1) (ints ps++[.int .i64 j])) (aj (aX none 0 []) (aj (aX none 0 []) (aj (av g6 j4 89) (kE gt (nc+1) (jU cc J I nc m M 0 M)))))))).fst;have x1:=ay hC (i:=1) rfl;have f1:=aM hC 1;have S9:=au (Qk nO S8);clear ae ar ap aw af ac S8 hC;go_wp2
        go_roundg g1
        case measure=>omega
        case rel=>exact⟨k+1,so,A8,c8,ps++[((j:Nat):Int)],by omega,by go_num,ci,by go_num,by rw[gd,bw.o];rfl,by rw[dl.o];exact bx.o,S9.o⟩
       ·have bk:=au (show ∀ t,t<j+1->tst cc J I nc m a (bt set) t=false from fun t ht=>by
         by_cases e:t=j
         ·subst e;rw[ai.o];simp[a1]
         ·exact an.o t eL)
        have t3:(cc k j+T1==T0)=false:=by simpa using a1
        clear ai cG an a1;go_wp2_with fail;refine aR (fun w'=>w'=wr.drew) eQ eQ rfl ?_;generalize wr.drew=wd at *
        (repeat(first|refine bM ?_|refine bN ?_))
        refine lex_nil ?_;clear t1 t2 t3 ti dy ts dt k1 k2 cJ aD c5 ed er d7;go_wp2
        go_roundg g2
        case measure=>omega
        case rel=>exact⟨j+1,by omega,rfl,by go_num,bk.o,aa.o⟩
     | zero=>
      obtain rfl:j=m:=by omega
      have HM:=cp.o an.o;have bx:=au (Lr (qs:=[]) HG.o HM.1);have ac:=au a5.o;obtain⟨b0,b1,b2,b3,bf⟩:=mF ac.o;have ef:=bf 1;generalize wr=wx at *
      clear HM bf b0 b2 b3 a5 an;go_wp2_with (at_builtin;refine held ?_);obtain⟨F7,af,-,aw⟩:=(Ql (ac.o.below aO ((fe _ _).alloc (fy _) (.cells (fL j) 3)))).take dO (SS dO dO aC aC nO);refine lB.mk (jD rfl (.tmp 88) (.tmp 91) rfl oZ _ 0 (v:=.slice A1 ps.length c1) (n:=ps.length) (xs:=ints ps) rfl af.1 (A:=some ⟨wx.heap.size,0,none⟩) (m:=1) (c:=1) (news:=[.int .i64 j]) rfl (nU wx j) (by rw[bw.o];omega) eS (fw _) ?_);intro v8 w8 ae ar ap;have S8:=aw _ _ (je af ae ar ap);obtain⟨A8,c8,rfl⟩:=ig ae;obtain⟨FC,hC⟩:=(S8.perm (by ac_rfl:_=aj (av ga (gO K A1 ps.length c1 none 0 0 none 0 0) 89) (aj (aV 3 1 (.slice A8 (ps.length+1) c8) (ps.length+1) (ints ps++[.int .i64 j])) (aj (aX none 0 []) (aj (aX none 0 []) (aj (av g6 j4 89) (kE gt (nc+1) (jU cc J I nc j M 0 M)))))))).fst;have x1:=ay hC (i:=1) rfl;have f1:=aM hC 1;have S9:=au (Qk nO S8);clear ae ar ap aw af ac S8 hC;go_wp2
      go_roundg g1
      case measure=>omega
      case rel=>exact⟨k+1,set,A8,c8,ps++[((j:Nat):Int)],by omega,by go_num,bi,by go_num,by rw[gd,bw.o];rfl,by rw[dl.o];exact bx.o,S9.o⟩
   | zero=>
    obtain rfl:k=nc:=by omega
    have eh:=au (show Yp cc J I k m=ps by rw[HG.o,nn];exact mS ps);clear HG dc;obtain⟨X,hX⟩:∃ X,X=kE gt (k+1) (jU cc J I k m M 0 M):=⟨_,rfl⟩;rw[<-hX] at HR;have ad:=au (show X.Ok by rw[hX];exact nO);obtain⟨RV,cA,ax⟩:=HQ.o.rows;have cI:=au cA;have ch:=au ax;have eo:=au (show RV.length=k by have:=cA.1;omega);have d9:=au HQ.o.ds;have dk:Vec wr G ((List.range m).map I):=by
     unfold Vec;have e1:ints ((List.range m).map I)=fv m (fun j=>.int .i64 (I j)):=by simp[ints,fv]
     rw[e1,gh,ua];exact aY HQ.o.es HR.o.cZ
    have KC:=au (SQ (c:=e) dk sT);rw[gh,ua] at KC;have c4:M<=64:=hM;clear hX cA ax dk cP;go_wp2_with fail;refine KC.o.mono ?_;rintro e9 w3 ⟨A3,c3,rfl,a7⟩;have R5:=HR.o.fresh (aB nY ad.o) a7;have cU:=au (show ∃ vs:List Int,vs=(List.range m).map I/\vs.length=m from⟨_,rfl,by simp⟩);obtain⟨vs,aq,az⟩:=cU.o;rw[<-aq] at R5;have R6:aI eR w (aj (aX A3 c3 vs) (aj (gW g6 ga K A1 none none c1 0 0 ps [] []) X)) w3:=by
     have e1:aV 3 1 (.slice A3 m c3) m (ints vs)=aX A3 c3 vs:=by unfold aX;rw[az]
     rw[<-e1];exact R5
    obtain⟨b0,b1,b2,b3,bf⟩:=mF R6.drop;have el:=bf 3;have R7:=au (aae ad.o R6);rw[az] at R7;have ak:=au az;have aA:=au aq;clear a7 R5 R6 cU aq az KC HR b0 b1 b2 bf;go_wp2;clear b3 el
    go_loopg [100] k (fun g1 i wr=>∃ (j:Nat) (A2:eV) (c2:Nat) (us vs:List Int),j+g1=k/\i=.int .i64 j/\us.length=j/\us=(List.range j).map (zo cc J I k m)/\vs.length=m/\vs=(List.range m).map (fun y=>vH wV (fun i=>cc i y-zo cc J I k m i) (I y) j)/\aI eR w (aj (gW g6 ga K A1 A2 A3 c1 c2 c3 ps us vs) X) wr)
    case atStart=>exact⟨0,none,0,[],vs,mB _,rfl,rfl,rfl,ak.o,aA.o,R7.o⟩
    case round=>
     obtain⟨j,A2,c2,us,a6,dc,rfl,de,d2,ca,cm,hR⟩:=hrel;have ac:=au hR;have bo:=au de;have bn:=au d2;have ck:=au ca;have a0:=au cm;clear hR de d2 ca cm R7 ak aA;cases gk with
     | succ g1=>
      have ab:j<k:=by omega
      have aa:=au (ac.o.drew (aB nY ad.o));obtain⟨ba,oa,RR,cR,rfl,a2,dr⟩:=HQ.o.R j ab;have ec:=au dr
      have dw:=au (show RV[j]?=some (.slice RR m cR) by
       obtain⟨R9,eE,e9,-⟩:=ch.o j ab;obtain⟨b9,o9,e8,e7⟩:=yL cI.o ab e9;have h1:=e7 w (fe _ _);injection e8 with e8;injection e8 with e81 e82
       subst e81 e82;rw[a2 w (fe _ _)] at h1
       rw[e9,<-Option.some.inj h1])
      have c0:=a2 _ ac.o.cZ;obtain⟨bd,od,rfl,cT⟩:=HQ.o.D j ab
      have dx:=au (show ∀ W',Below w.heap.size w W'->Src W' (some ⟨bd,od+j,none⟩) 1 1 [.int .i64 (J j)] from fun W' hb=>⟨rfl,by simp[Value.oneCell'],fun _=>⟨_,rfl,fun q u hq=>by
       have ew:q=0:=by
        rcases q with _|q
        ·rfl
        ·simp at hq
       subst ew;simp at hq;subst hq;simp[Addr.add]
       exact cT W' hb⟩⟩)
      have hcut:=Wp bd od k d j ab ea;have t1:IntKind.i64.wrap ((j:Int)+1)=(j:Int)+1:=kp _ eL;clear a2 dr cT;go_wp2_with fail;refine wp_region_held (S:=fun w'=>Below w.heap.size w w') eQ (show wpAnyH _ _ _ _ _ _ _ _ wr.drew from ?_);refine wpAnyH_take (i:=0) (v:=.slice (some ⟨ba,oa,none⟩) k c) rfl eQ eQ eQ (fun _ _ _ h=>h) (.inl ⟨rfl,fun w' al=>?_⟩) aa.o.cZ ?_
      ·go_simp
      try simp only[Act.put,lw,lh,k8,ja,i6,i7]
      refine wpAnyH_take (i:=1) (v:=.slice RR m cR) rfl eQ eQ eQ (fun _ _ _ h=>h) (.inl ⟨rfl,fun w' al=>?_⟩) aa.o.cZ ?_
      ·go_simp
      try simp only[Act.put,lw,lh,k8,ja,i6,i7]
      refine wpAnyH_take (i:=5) (v:=.slice (some ⟨bd,od,none⟩) k d) rfl eQ eQ eQ (fun _ _ _ h=>h) (.inl ⟨rfl,fun w' al=>?_⟩) aa.o.cZ ?_
      ·go_simp
      try simp only[Act.put,lw,lh,k8,ja,i6,i7]
      refine wpAnyH_take (i:=6) (v:=.slice (some ⟨bd,od,none⟩) k d) rfl eQ eQ eQ (fun _ _ _ h=>h) (.inl ⟨rfl,fun w' al=>?_⟩) aa.o.cZ ?_
      ·go_simp
      try simp only[Act.put,lw,lh,k8,ja,i6,i7]
      refine wpAnyH_take (i:=7) (v:=.int .i64 (j:Int)) rfl eQ eQ eQ (fun _ _ _ h=>h) (.inl ⟨rfl,fun w' al=>?_⟩) aa.o.cZ ?_
      ·go_simp
      try simp only[Act.put,lw,lh,k8,ja,i6,i7]
      refine wpAnyH_take (i:=8) (v:=.int .i64 (j:Int)) rfl eQ eQ eQ (fun _ _ _ h=>h) (.inl ⟨rfl,fun w' al=>?_⟩) aa.o.cZ ?_
      ·go_simp
      try simp only[Act.put,lw,lh,k8,ja,i6,i7]
      refine wpAnyH_take (i:=9) (v:=.int .i64 ((j:Int)+1)) rfl eQ eQ eQ (fun _ _ _ h=>h) (.inl ⟨rfl,fun w' al=>?_⟩) aa.o.cZ ?_
      ·go_simp
      try simp only[Act.put,lw,lh,k8,ja,i6,i7]
      refine wpAnyH_take (i:=10) (v:=(.slice (some ⟨bd,od+j,none⟩) 1 (d-j))) rfl eQ eQ eQ (fun _ _ _ h=>h) (.inl ⟨rfl,fun w' al=>?_⟩) aa.o.cZ ?_
      ·go_simp
      try simp only[Act.put,lw,lh,k8,ja,i6,i7]
      refine wpAnyH_take (i:=13) (v:=.slice G m e) rfl eQ eQ eQ (fun _ _ _ h=>h) (.inl ⟨rfl,fun w' al=>?_⟩) aa.o.cZ ?_
      ·go_simp
      try simp only[Act.put,lw,lh,k8,ja,i6,i7]
      refine Oq [2,3,4] [11,12] (IJ (some ⟨ba,oa,none⟩) k c RV (.slice RR m cR)) (N7 (some ⟨bd,od,none⟩) k d (fv k fun i=>.int .i64 (J i)) (.int .i64 (J j)) (.slice (some ⟨bd,od+j,none⟩) 1 (d-j))) 2 eQ Z9 aac (aB nY ad.o) (fun O W h=>h.cZ) ?_ ?_ ?_ (Z8 aa.o)
      ·intro i o vs us hi ho hu Z W hZ hR;rcases vs with _|⟨v1,_|⟨v2,_|⟨v3,vs⟩⟩⟩
       ·obtain rfl:2=i:=by simpa using hi
        simp only[mj,oE,oS,Option.some.injEq] at ho;subst ho;exact acC rfl (by show(fS (fS _ [107,108,109] _) [116,117] _).eval (.tmp 106)=_;rw[bH 106 [116,117] _ _ eS,bH 106 [107,108,109] _ _ eS];rfl) (Lp RR m cR) hZ hR
       ·obtain rfl:3=i:=by simpa using hi
        simp only[mj,oE,oS,Option.some.injEq] at ho;subst ho;exact acD rfl (by show(fS (fS _ [107,108,109] _) [116,117] _).eval (.tmp 105)=_;rw[bH 105 [116,117] _ _ eS,bH 105 [107,108,109] _ _ eS];rfl) (by show(fS (fS _ [107,108,109] _) [116,117] _).eval (.tmp 107)=_;rw[bH 107 [116,117] _ _ eS];rfl) hZ hR
       ·obtain rfl:4=i:=by simpa using hi
        simp only[mj,oE,oS,Option.some.injEq] at ho;subst ho;exact acE rfl (by show(fS (fS _ [107,108,109] _) [116,117] _).eval (.tmp 108)=_;rw[bH 108 [116,117] _ _ eS];rfl) rfl eL (aY cI.o hR.cZ) hZ hR
       ·simp at hi
      ·intro i o vs us hi ho hv Z W hZ hR;rcases us with _|⟨v1,_|⟨v2,us⟩⟩
       ·obtain rfl:11=i:=by simpa using hi
        simp only[mj,oE,oS,Option.some.injEq] at ho;subst ho;exact acF rfl (by show(fS (fS _ [107,108,109] _) [116,117] _).eval (.tmp 110)=_;rw[bH 110 [116,117] _ _ eS,bH 110 [107,108,109] _ _ eS];rfl) (by show(fS (fS _ [107,108,109] _) [116,117] _).eval (.tmp 115)=_;rw[bH 115 [116,117] _ _ eS,bH 115 [107,108,109] _ _ eS];rfl) hZ hR
       ·obtain rfl:12=i:=by simpa using hi
        simp only[mj,oE,oS,Option.some.injEq] at ho;subst ho;have ey:∀ (a:Act) (v:Value),116<a.tmps.size->(fS (fS a [107,108,109] vs) [116,117] [v]).eval (.tmp 116)=v:=fun a v h=>oU v (by rw[oC];exact h);exact acG rfl (ey _ _ (show 116<156 by decide)) eL (aY d9.o hR.cZ) (dx.o _ hR.cZ) hZ hR
       ·simp at hi
      intro vs us W hv hu hR;obtain⟨v1,v2,v3,rfl⟩:=Wj hv;obtain⟨u1,u2,rfl⟩:=D3 hu;obtain⟨A5,c5,B5,d5,rfl,rfl,bc⟩:=aad hR;have a4:=au bc;clear hR hv hu;simp only[dQ,lk,pH,mj,oE,oS,CL,CN,fS,Act.put,ja,i6,i7];obtain⟨F1,dm⟩:=bc.fst;obtain⟨F2,dq⟩:=bc.kN.fst
      have cj:=iG dm (fun u hu=>by
       rcases List.mem_append.1 hu with h|h
       ·exact cI.o.2.1 u h
       ·obtain rfl:u=_:=by simpa using h
        rfl)
      have ce:=iG dq (fun u hu=>by
       rcases List.mem_append.1 hu with h|h
       ·obtain⟨r,_,rfl⟩:=List.mem_map.1 h;rfl
       ·obtain rfl:u=_:=by simpa using h
        rfl)
      have cy:=HQ.o.dup d1 ch.o eo.o ab dw.o bc.cZ cj ce;have KL:=au (Gj cy c5 d5 e);have df:=Gs cy (fy _) wV;have d6:=au (show zo cc J I k m j=mW (jW cc k j) (jX J k j) I (k+1) m-K by unfold zo;rw[<-cH.o];rfl);have dE:=au (show mW (jW cc k j) (jX J k j) I (k+1) m=L (jW cc k j) (jX J k j) I (k+1) m (k+1) wV from rfl);rw[<-dE.o] at df;clear dm dq cj ce cy bc;refine wpAnyH_all (rs:=[14]) eQ eS (fun i hi=>?_);obtain rfl:i=14:=by simpa using hi
      refine gH rfl rfl ?_;go_wp2_with fail;refine KL.o.mono ?_;rintro e9 w7 ⟨g7,rfl,hP7⟩;have bz:=au ((a4.o.drop.drop).fresh (aB nY ad.o) hP7);refine⟨bz.o.cZ,?_⟩;clear KL hP7 a4 aa;refine wpAnyH_all (rs:=[15]) eQ eS (fun i hi=>?_);obtain rfl:i=15:=by simpa using hi
      refine gH rfl rfl ?_;refine SV rfl fY ⟨bz.o.cZ,?_⟩;refine wpAnyH_done eQ ?_ _
      try simp only[Act.put,lw,lh,k8,ja,i6,i7]
      have bj:=bz.o.drew (aB nO (aB nY ad.o));obtain⟨F7,cS⟩:=bj.fst;have cz:=wK cS (k:=0) eL;have aE:0<M:=by omega
      have eJ:M<=64:=c4;rw[show(0:Nat)=0*64+0 from rfl,vg (by rw[bp.o];exact c4) (by rw[bp.o];exact aE) (.inr ⟨rfl,by rw[bp.o];exact aE⟩),Qn] at cz;simp only[sk,pk] at cz;have be:=bj.drop;have cf:=au be;obtain⟨b0,b1,b2,b3,bf⟩:=mF be;generalize mW (jW cc k j) (jX J k j) I (k+1) m=Bd at *
      have t2:IntKind.i64.wrap (Bd-K)=Bd-K:=kp _ eL;have co:(0:Int)<((k:Int)+1)+1:=by omega
      have ep:(0:Int)<=((k:Int)+1):=by omega
      have ei:=bf 2;clear hcut t1 df dE bz bj cS be b1 b3 bf dx dw ac c0;go_wp2_with fail;refine aR (fun w'=>w'=w7.drew) eQ eQ rfl ?_;generalize w7.drew=wx at *
      (repeat(first|refine bM ?_|refine bN ?_))
      refine lex_nil ?_;generalize da:Bd-K=u at *
      have em:=au da;clear t2 co ep cz b0 da;go_wp2_with (at_builtin;refine held ?_);obtain⟨F7,af,-,aw⟩:=(Z5 (cf.o.below (aB nY ad.o) ((fe _ _).alloc (fy _) (.cells (fL u) 3)))).take dO (SS dO dO aC aC ad.o);refine lB.mk (jD rfl (.tmp 128) (.tmp 130) rfl oZ _ 0 (v:=.slice A2 us.length c2) (n:=us.length) (xs:=ints us) rfl af.1 (A:=some ⟨wx.heap.size,0,none⟩) (m:=1) (c:=1) (news:=[.int .i64 u]) rfl (nU wx u) (by rw[bo.o];omega) eS (fw _) ?_);intro v8 w8 ae ar ap;have S8:=aw _ _ (je af ae ar ap);obtain⟨A8,c8,rfl⟩:=ig ae;obtain⟨FC,hC⟩:=(S8.perm (by ac_rfl:_=aj (av ga (gO K A1 ps.length c1 A2 us.length c2 A3 a6.length c3) 89) (aj (aV 3 1 (.slice A8 (us.length+1) c8) (us.length+1) (ints us++[.int .i64 u])) (aj (aX A1 c1 ps) (aj (aX A3 c3 a6) (aj (av g6 j4 89) X)))))).fst;have x2:=ay hC (i:=2) rfl;have f2:=aM hC 2;have S9:=au (Z4 ad.o S8);have br:=au (show u=zo cc J I k m j from d6.o.symm);have eA : -10000<=u/\u<=10000:=by
       rw[br.o];have h1:=(wX (c:=cc) (d:=J) (e:=I) (n:=k) (m:=m)).low (E:=10000) (fun i hi k hk=>(HQ.o.cb i hi k hk).1) (fun i hi=>(HQ.o.db i hi).1) HQ.o.eb eL ab;have h2:=(wX (c:=cc) (d:=J) (e:=I) (n:=k) (m:=m)).YA.d j ab;have:=HQ.o.db j ab;omega
      have di:=au (show ∀ y,y<m->-10000<=vH wV (fun i=>cc i y-zo cc J I k m i) (I y) j/\vH wV (fun i=>cc i y-zo cc J I k m i) (I y) j<=10000 by
       intro y hy;have h1:=sN (U:=wV) (f:=fun i=>cc i y-zo cc J I k m i) (a:=I y) (m:=j);have h3:=HQ.o.eb y hy;refine⟨?_,by omega⟩;rcases zk (U:=wV) (f:=fun i=>cc i y-zo cc J I k m i) (a:=I y) (m:=j) with h|⟨q,h1,_,h2⟩
       ·omega
       ·have h4:=(wX (c:=cc) (d:=J) (e:=I) (n:=k) (m:=m)).YA.d q eL;have:=HQ.o.db q eL;have:=HQ.o.cb q eL y hy
        omega)
      obtain⟨fo,b4⟩:∃ fo:Nat->Int,Hid (∀ t,fo t=vH wV (fun i=>cc i t-zo cc J I k m i) (I t) j):=⟨_,au fun _=>rfl⟩;obtain⟨fn,cx⟩:∃ fn:Nat->Int,Hid (∀ t,fn t=vH wV (fun i=>cc i t-zo cc J I k m i) (I t) (j+1)):=⟨_,au fun _=>rfl⟩;have d4:=au (show ∀ y,y<m->-10000<=fo y/\fo y<=10000 by intro y hy;rw[b4.o];exact di.o y hy);have du:=au (show ∀ y,fn y=min (fo y) (cc j y-u) by intro y;rw[b4.o,cx.o,br.o];rfl);have b6:=au (show us++[u]=(List.range (j+1)).map (zo cc J I k m) by rw[vp,km,<-bn.o,br.o];rfl)
      have cg:=au (show a6=(List.range m).map (fun t=>if t<0 then fn t else fo t) by
       rw[a0.o];exact nt fun t _=>by rw[if_neg (nB t),b4.o])
      have bb:=au (show(us++[u]).length=j+1 by rw[gd,bo.o];rfl)
      have cv:=au (show ∀ l:List Int,l=(List.range m).map (fun t=>if t<m then fn t else fo t)->l=(List.range m).map (fun y=>vH wV (fun i=>cc i y-zo cc J I k m i) (I y) (j+1)) from fun l h=>by
       rw[h];exact nt fun t ht=>by rw[if_pos (List.mem_range.1 ht),cx.o])
      obtain⟨a9,b5⟩:∃ a9,a9=us++[u]:=⟨_,rfl⟩;rw[<-b5] at S9 b6 bb;clear ae ar ap aw af S8 hC b2 ei cf d6 em br di b4 cx b5 a0;have e9:us.length+1=a9.length:=by rw[bb.o,bo.o]
      rw[e9] at S9 ⊢;clear e9 bn bo;go_wp2;clear x2 f2
      go_loopg [135] m (fun g2 x wr=>∃ (y:Nat) (vs:List Int),y+g2=m/\x=.int .i64 y/\vs.length=m/\vs=(List.range m).map (fun t=>if t<y then fn t else fo t)/\aI eR w (aj (gW g6 ga K A1 A8 A3 c1 c8 c3 ps a9 vs) X) wr)
      case atStart=>exact⟨0,a6,mB _,rfl,ck.o,cg.o,S9.o⟩
      case round=>
       obtain⟨y,vs,ej,rfl,az,d3,hR⟩:=hrel;have a4:=au hR;have ak:=au az;have aA:=au d3;clear hR az d3 S9 ck cg;cases gk with
       | succ g2=>
        have a8:y<m:=by omega
        obtain⟨b',o',rfl,a3⟩:=ec.o y a8;have en:=HQ.o.cb j ab y a8;have aa:=au (a4.o.drew (aB nY ad.o));have c5:=a3 _ a4.o.cZ;obtain⟨b0,b1,b2,b3,bf⟩:=mF aa.o;have a7:=Z6 aa.o;obtain⟨F3,bv⟩:=a7.fst;obtain⟨g3,rfl⟩:=Xe bv (by rw[ak.o];omega);have cQ:y<vs.length:=by rw[ak.o];exact a8
        have c6:=nH bv (i:=y) (DC cQ);have f6:=qV bv y (by rw[ak.o];omega);have b7:vs[y]=fo y:=by
         have h1:vs[y]?=some (fo y):=by rw[aA.o];simp[a8]
         exact(List.getElem?_eq_some_iff.1 h1).2
        rw[b7] at c6;have eC:=d4.o y a8;have aq:=du.o y;have dg:=aaf (x:=fn y) (SS dO dO aC aC ad.o) cQ a7;have am:=au (show vs.set y (fn y)=(List.range m).map (fun t=>if t<y+1 then fn t else fo t) by rw[aA.o];exact aag fo fn a8);have ao:=au (show(vs.set y (fn y)).length=m by rw[rq];exact ak.o);have ct:=aah (show vs.length=(vs.set y (fn y)).length from List.length_set.symm) dg;rw[aq] at ct;have ag:=au ct;have t5:IntKind.i64.wrap (cc j y-u)=cc j y-u:=kp _ eL;rw[<-aq] at ag;generalize et:fo y=q at *
        generalize hz:cc j y=z at *
        have b8:=au (show fn y=if z-u<q then z-u else q by rw[aq];omega);rw[b8.o] at ag am ao;clear b0 b1 b2 bf a7 bv b7 dg ct aq a3 aa et hz b8 aA ak;by_cases cn:z-u<q
        case pos=>
         rw[if_pos cn] at ag am ao;go_wp2_with fail;refine dZ (fun w'=>w'=wr.drew) eQ eQ eQ rfl ?_;generalize wr.drew=wd at *
         (repeat(first|refine bM ?_|refine bN ?_))
         refine jf rfl fY (fun KK hK=>?_);go_wp2_with fail;refine hK.o _ _ ?_;clear hK c6 f6 t5 b3 c5;go_wp2
         go_roundg g2
         case measure=>omega
         case rel=>exact⟨y+1,_,by omega,by go_num,ao.o,am.o,ag.o⟩
        case neg=>
         rw[if_neg cn] at ag am ao;go_wp2_with fail;refine dZ (fun w'=>w'=wr.drew) eQ eQ eQ rfl ?_;generalize wr.drew=wd at *
         (repeat(first|refine bM ?_|refine bN ?_))
         refine jf rfl fY (fun KK hK=>?_);go_wp2_with fail;refine hK.o _ _ ?_;clear hK c6 f6 t5 b3 c5;go_wp2
         go_roundg g2
         case measure=>omega
         case rel=>exact⟨y+1,_,by omega,by go_num,ao.o,am.o,ag.o⟩
       | zero=>
        obtain rfl:y=m:=by omega
        have ev:=au (cv.o vs aA.o);go_wp2
        go_roundg g1
        case measure=>omega
        case rel=>exact⟨j+1,A8,c8,a9,vs,by omega,by go_num,bb.o,b6.o,ak.o,ev.o,a4.o⟩
     | zero=>
      obtain rfl:j=k:=by omega
      obtain⟨b0,b1,b2,b3,-⟩:=mF ac.o;obtain⟨z0,z1,z2,z3,zf⟩:=Wl ac.o;have f0:=zf 0;have f1:=zf 1;have f2:=zf 2;have f3:=zf 3;have cN:=au (Wm ad.o ac.o);have ez:=au (show us=BE cc J I j m from bn.o);have d8:=au (show a6=BV cc J I j m from a0.o);clear zf bn a0 ac;go_wp2
      try rw[pD]
      refine bodyPost_ret_by (dz rfl _ _ g6 89 (gO K A1 ps.length c1 A2 us.length c2 A3 a6.length c3) (0,0) rfl ?_ Tryz.underlying89 eQ) rfl ?_
      ·obtain⟨F,hC⟩:=cN.o.fst;exact hC.1
      ·refine cd.o _ _ (by have:=cN.o.cZ;rwa [bh.o] at this) ?_;rw[ek.o,<-cH.o,eh.o,<-ez.o,<-d8.o];exact Wn cN.o
def bK (C:List (List Int)) (D E:List Int):Int:=mW (cF C) (lF D) (lF E) D.length E.length
def bU (C:List (List Int)) (D E:List Int):List Int:=BE (cF C) (lF D) (lF E) D.length E.length
def bV (C:List (List Int)) (D E:List Int):List Int:=BV (cF C) (lF D) (lF E) D.length E.length
section
variable {w w':World} {A B G UA WA LA:eV} {C:List (List Int)} {D E U W L:List Int} {nc n m c d e u v cl nu nv nl:Nat}
theorem WH:(bU C D E).length=D.length:=by unfold bU BE;simp
theorem WI:(bV C D E).length=E.length:=by unfold bV BV;simp
end
section
variable {C:List (List Int)} {D E U W:List Int}
theorem qx  {f:Nat->Int}  (hi:i<n):lF ((List.range n).map f) i=f i:=by
 unfold lF;rw[kj,lz,Cl hi];rfl
theorem Qt  (hi:i<D.length):lF (bU C D E) i=zo (cF C) (lF D) (lF E) D.length E.length i:=qx hi
theorem Qu  (hj:j<E.length):lF (bV C D E) j=vh (cF C) (lF D) (lF E) D.length E.length j:=qx hj
theorem oW {l:List Int} {lo hi:Int} (h:∀ i,i<l.length->lo<=lF l i/\lF l i<=hi):wi l lo hi=true:=by
 unfold wi;rw[j8];intro x hx;obtain⟨i,hi,rfl⟩:=List.mem_iff_getElem.1 hx;have:=h i hi;rw[lS hi] at this;simpa using this
theorem WJ (hv:mR C D E=true):kB C D E (bU C D E) (bV C D E)=(bK C D E,true):=by
 have J:=vo hv;have hp:dh (cF C) (lF D) (lF E) D.length E.length (bK C D E) (zo (cF C) (lF D) (lF E) D.length E.length) (vh (cF C) (lF D) (lF E) D.length E.length):=wX;have hf:=hp.YA;have M:∀ i,i<D.length->-10000<=zo (cF C) (lF D) (lF E) D.length E.length i:=fun i hi=>
  hp.low (E:=10000) (fun i hi j I=>(J.c i hi j I).1) (fun i hi=>(J.d i hi).1) (fun j I=>J.e j I) eL hi
 have hU:∀ i,i<D.length->-10000<=zo (cF C) (lF D) (lF E) D.length E.length i/\zo (cF C) (lF D) (lF E) D.length E.length i<=10000:=fun i hi=>⟨M i hi,by have:=hf.d i hi;have:=J.d i hi;omega⟩;have aa:∀ j,j<E.length->-10000<=vh (cF C) (lF D) (lF E) D.length E.length j/\vh (cF C) (lF D) (lF E) D.length E.length j<=10000:=fun j I=>by
  refine⟨?_,by have:=hf.e j I;have:=J.e j I;omega⟩;unfold vh;rcases zk (U:=wV) (f:=fun i=>cF C i j-zo (cF C) (lF D) (lF E) D.length E.length i) (a:=lF E j) (m:=D.length) with h|⟨i,hi,-,h⟩
  ·rw[h];have:=J.e j I;omega
  ·rw[h];have:=J.c i hi j I;have:=hU i hi;omega
 have ab:nR C D E (bU C D E) (bV C D E):=⟨fun i hi j I=>by rw[Qt hi,Qu I];exact hf.c i hi j I,fun i hi=>by rw[Qt hi];exact hf.d i hi,fun j I=>by rw[Qu I];exact hf.e j I⟩;have h0:IV C D E (bU C D E) (bV C D E)=true:=by
  unfold IV;rw[hv,decide_eq_true WH,decide_eq_true WI,oW,oW]
  ·rfl
  ·intro j I;rw[WI] at I;rw[Qu I];have:=aa j I;omega
  ·intro i hi;rw[WH] at hi;rw[Qt hi];have:=hU i hi;omega
 unfold kB;rw[if_pos ⟨h0,ab⟩];refine Prod.ext ?_ rfl
 show sg D.length (lF (bU C D E))+sg E.length (lF (bV C D E))=bK C D E
 rw[bJ (g:=zo (cF C) (lF D) (lF E) D.length E.length) (fun i hi=>Qt hi),bJ (g:=vh (cF C) (lF D) (lF E) D.length E.length) (fun j I=>Qu I)];exact hp.sum
theorem WK {x:Int} (h:kB C D E U W=(x,true)):mR C D E=true/\U.length=D.length/\W.length=E.length/\nR C D E U W/\x=sg D.length (lF U)+sg E.length (lF W):=by
 unfold kB at h;split at h
 ·rename_i M;obtain⟨I,J⟩:=M;unfold IV at I;simp at I;refine⟨I.1.1.1.1,I.1.1.1.2,I.1.1.2,J,?_⟩;exact(congrArg Prod.fst h).symm
 ·simp at h
end
section
variable {c:Nat→Nat→Int} {d e:Nat→Int} {n m:Nat}
theorem WB {r y:Nat} (hr:r<=n) (hy:y<=m):r*(m+1)+y<(n+1)*(m+1):=by
 have h8:(r+1)*(m+1)<=(n+1)*(m+1):=xp _ eL;rw[li] at h8;omega
theorem IQ  (hi:i<n) (hj:j<m):GR c d e n m (n-i) (m-j)=min (min (d i+GR c d e n m (n-(i+1)) (m-j)) (e j+GR c d e n m (n-i) (m-(j+1)))) (c i j+GR c d e n m (n-(i+1)) (m-(j+1))):=by
 obtain⟨a,ha⟩:∃ a,n-i=a+1:=⟨n-i-1,by omega⟩;obtain⟨b,M⟩:∃ b,m-j=b+1:=⟨m-j-1,by omega⟩;have I:n-(i+1)=a:=by omega
 have h:m-(j+1)=b:=by omega
 have h3:n-(a+1)=i:=by omega
 have J:m-(b+1)=j:=by omega
 rw[I,h,ha,M]
 show min (min (d (n-(a+1))+GR c d e n m a (b+1)) (e (m-(b+1))+GR c d e n m (a+1) b)) (c (n-(a+1)) (m-(b+1))+GR c d e n m a b)=_
 rw[h3,J]
theorem WC  (hi:i<n):GR c d e n m (n-i) (m-m)=d i+GR c d e n m (n-(i+1)) (m-m):=by
 obtain⟨a,ha⟩:∃ a,n-i=a+1:=⟨n-i-1,by omega⟩;have h1:n-(i+1)=a:=by omega
 have h3:n-(a+1)=i:=by omega
 rw[h1,ha,nn]
 show d (n-(a+1))+GR c d e n m a 0=_
 rw[h3]
theorem WE  (hj:j<m):GR c d e n m (n-n) (m-j)=e j+GR c d e n m (n-n) (m-(j+1)):=by
 obtain⟨b,hb⟩:∃ b,m-j=b+1:=⟨m-j-1,by omega⟩;have h2:m-(j+1)=b:=by omega
 have h4:m-(b+1)=j:=by omega
 rw[h2,hb,nn]
 show e (m-(b+1))+GR c d e n m 0 b=_
 rw[h4]
theorem WG:GR c d e n m (n-n) (m-m)=0:=by rw[nn,nn];rfl
end
section
variable {c:Nat→Nat→Int} {d e:Nat→Int} {n m:Nat} {L:List Int}
theorem aas (h:DJ c d e L n m ((n+1)*(m+1))=true)  (hi:i<=n) (hj:j<=m) :
  (i<n->lF L (i*(m+1)+j)<=d i+lF L ((i+1)*(m+1)+j))/\(j<m->lF L (i*(m+1)+j)<=e j+lF L (i*(m+1)+(j+1)))/\(i<n->j<m->lF L (i*(m+1)+j)<=c i j+lF L ((i+1)*(m+1)+(j+1))):=by
 have hp:=WB hi hj;have h0:∀ k,k<=(n+1)*(m+1)->DJ c d e L n m k=true:=fun k hk=>by
  cases hh:DJ c d e L n m k with
  | true=>rfl
  | false=>rw[Wz hh hk] at h;cases h
 have h1:=LP (i:=i) (j:=j) hj rfl (h0 (i*(m+1)+j) eL);rw[h0 _ eL] at h1;have h2:=h1.symm;simp only[gA] at h2;obtain⟨⟨M,a2⟩,a3⟩:=h2;unfold q1 at M;unfold q2 at a2;unfold q3 at a3;have e1:i*(m+1)+j+m+1=(i+1)*(m+1)+j:=by rw[li];omega
 have e2:i*(m+1)+j+m+2=(i+1)*(m+1)+(j+1):=by rw[li];omega
 rw[e1] at M;rw[e2] at a3;refine⟨fun I=>?_,fun J=>?_,fun I J=>?_⟩
 ·simp[I] at M;exact M
 ·simp[J] at a2;exact a2
 ·simp[I,J] at a3;exact a3
theorem acO (h:∀ i j,i<=n->j<=m->(i<n->lF L (i*(m+1)+j)<=d i+lF L ((i+1)*(m+1)+j))/\(j<m->lF L (i*(m+1)+j)<=e j+lF L (i*(m+1)+(j+1)))/\(i<n->j<m->lF L (i*(m+1)+j)<=c i j+lF L ((i+1)*(m+1)+(j+1)))) :
  ∀ k,k<=(n+1)*(m+1)->DJ c d e L n m k=true:=by
 intro k
 induction k with
 | zero=>intro _;rfl
 | succ k ih=>
  intro hk;obtain⟨i,j,e0,hi,M⟩:∃ i j,k=i*(m+1)+j/\i<=n/\j<=m:=by
   refine⟨k / (m+1),k % (m+1),?_,?_,?_⟩
   ·have:=Ax k (m+1);rw[oc] at this;exact this.symm
   ·have:k / (m+1)<n+1:=xt (by rw[oc];omega);omega
   ·have:=sn k (show 0<m+1 by omega);omega
  rw[LP M e0 (ih eL)];obtain⟨a1,a2,a3⟩:=h i j hi M;have e1:k+m+1=(i+1)*(m+1)+j:=by rw[li];omega
  have e2:k+m+2=(i+1)*(m+1)+(j+1):=by rw[li];omega
  have e3:k+1=i*(m+1)+(j+1):=by omega
  unfold q1 q2 q3;rw[e1,e2,e3,e0];simp only[gA,tc,B7,decide_eq_false_iff_not];refine⟨⟨?_,?_⟩,?_⟩
  ·by_cases I:i<n
   ·right;have:=a1 I;omega
   ·left;exact I
  ·by_cases J:j<m
   ·right;have:=a2 J;omega
   ·left;exact J
  ·by_cases I:i<n
   ·by_cases J:j<m
    ·right;have:=a3 I J;omega
    ·left;right;exact J
   ·left;left;exact I
theorem acP (h:DJ c d e L n m ((n+1)*(m+1))=true) (h0:lF L (n*(m+1)+m)<=0) :
  ∀ t i j,i<=n->j<=m->(n-i)+(m-j)<=t->lF L (i*(m+1)+j)<=GR c d e n m (n-i) (m-j):=by
 have hz:lF L (n*(m+1)+m)<=GR c d e n m (n-n) (m-m):=by rw[WG];exact h0
 intro t
 induction t with
 | zero=>
  intro i j hi M ht;obtain rfl:i=n:=by omega
  obtain rfl:j=m:=by omega
  exact hz
 | succ t ih=>
  intro i j hi M ht;obtain⟨a1,a2,a3⟩:=aas h hi M;by_cases J:i<n
  ·have b1:=ih (i+1) j eL M eL;have c1:=a1 J;by_cases I:j<m
   ·have b2:=ih i (j+1) hi eL eL;have c2:=a2 I;have c3:=a3 J I;have b3:=ih (i+1) (j+1) eL eL eL;rw[IQ J I];omega
   ·obtain rfl:j=m:=by omega
    rw[WC J];omega
  ·obtain rfl:i=n:=by omega
   by_cases I:j<m
   ·have b2:=ih i (j+1) hi eL eL;have c2:=a2 I;rw[WE I];omega
   ·obtain rfl:j=m:=by omega
    exact hz
end
section
variable {C:List (List Int)} {D E L ps:List Int}
theorem adZ {x:Int} (h:nZ C D E L=(x,true)):mR C D E=true/\x<=jP C D E:=by
 unfold nZ at h;split at h
 ·rename_i hh;simp only[gA] at hh;obtain⟨J,hF⟩:=hh;unfold yJ at J;simp only[gA,decide_eq_true_eq] at J;obtain⟨⟨⟨hv,hl⟩,hw⟩,I⟩:=J;refine⟨hv,?_⟩;have hx:x=lF L 0:=(congrArg Prod.fst h).symm;rw[hx];rw[hl] at hF I;have e1:(D.length+1)*(E.length+1)-1=D.length*(E.length+1)+E.length:=by rw[li];omega
  rw[e1] at I;have M:=acP hF I (D.length+E.length) 0 0 (fw _) (fw _) eL;rw[sk,mB,sb,sb] at M;unfold jP;rw[hv];exact M
 ·simp at h
theorem wL {c:Nat->Nat->Int} {d e:Nat->Int} {m:Nat} (hi:i<=n) (hj:j<=m):lF (Ta c d e n m) (i*(m+1)+j)=GR c d e n m (n-i) (m-j):=by
 unfold lF;rw[kj,aal hi hj];rfl
theorem aeF (hv:mR C D E=true) {a:Nat} (M:a<=D.length) (I:b<=E.length):0<=GR (cF C) (lF D) (lF E) D.length E.length a b/\GR (cF C) (lF D) (lF E) D.length E.length a b<=130000:=by
 have h:=vo hv;have h6:=h.n6;have h7:=h.m6;have key:∀ a,a<=D.length->∀ b,b<=E.length->0<=GR (cF C) (lF D) (lF E) D.length E.length a b/\GR (cF C) (lF D) (lF E) D.length E.length a b<=(a:Int)*10000+(b:Int)*10000:=by
  intro a
  induction a with
  | zero=>
   intro _ b
   induction b with
   | zero=>intro _;exact⟨ly _,ly _⟩
   | succ b ih=>
    intro I;have:=ih eL;have he:=h.e (E.length-(b+1)) eL;have J:GR (cF C) (lF D) (lF E) D.length E.length 0 (b+1)=lF E (E.length-(b+1))+GR (cF C) (lF D) (lF E) D.length E.length 0 b:=rfl;rw[J];omega
  | succ a iha=>
   intro M b;have hd:=h.d (D.length-(a+1)) eL
   induction b with
   | zero=>
    intro _;have h1:=iha eL 0 (fw _);have J:GR (cF C) (lF D) (lF E) D.length E.length (a+1) 0=lF D (D.length-(a+1))+GR (cF C) (lF D) (lF E) D.length E.length a 0:=rfl;rw[J];omega
   | succ b ihb=>
    intro I;have h1:=iha eL (b+1) I;have h2:=ihb eL;have h4:=iha eL b eL;have he:=h.e (E.length-(b+1)) eL;have hc:=h.c (D.length-(a+1)) eL (E.length-(b+1)) eL;have h3:GR (cF C) (lF D) (lF E) D.length E.length (a+1) (b+1)=min (min (lF D (D.length-(a+1))+GR (cF C) (lF D) (lF E) D.length E.length a (b+1)) (lF E (E.length-(b+1))+GR (cF C) (lF D) (lF E) D.length E.length (a+1) b)) (cF C (D.length-(a+1)) (E.length-(b+1))+GR (cF C) (lF D) (lF E) D.length E.length a b):=rfl;rw[h3];omega
 have:=key a M b I;omega
theorem aat (hv:mR C D E=true):nZ C D E (oV C D E)=(jP C D E,true):=by
 have hg:oV C D E=Ta (cF C) (lF D) (lF E) D.length E.length:=by unfold oV;rw[hv];rfl
 have hk:jP C D E=GR (cF C) (lF D) (lF E) D.length E.length D.length E.length:=by unfold jP;rw[hv];rfl
 rw[hg,hk];have hl:(Ta (cF C) (lF D) (lF E) D.length E.length).length=(D.length+1)*(E.length+1):=Qr;have M:=wL (c:=cF C) (d:=lF D) (e:=lF E) (fw D.length) (fw E.length);rw[sk,mB,sb,sb] at M;have J:=wL (c:=cF C) (d:=lF D) (e:=lF E) (fy D.length) (fy E.length);rw[WG] at J;have e1:(D.length+1)*(E.length+1)-1=D.length*(E.length+1)+E.length:=by rw[li];omega
 rw[LM,M]
 ·unfold yJ;rw[hv,hl,decide_eq_true rfl,e1,J,oW]
  ·rfl
  ·intro k aa;rw[hl] at aa;obtain⟨i,j,e0,hi,hj⟩:∃ i j,k=i*(E.length+1)+j/\i<=D.length/\j<=E.length:=by
    refine⟨k / (E.length+1),k % (E.length+1),?_,?_,?_⟩
    ·have:=Ax k (E.length+1);rw[oc] at this;exact this.symm
    ·have:k / (E.length+1)<D.length+1:=xt (by rw[oc];omega);omega
    ·have:=sn k (show 0<E.length+1 by omega);omega
   rw[e0,wL hi hj];have:=aeF hv (a:=D.length-i) (b:=E.length-j) eL eL;omega
 ·rw[hl];refine acO (fun i j hi hj=>?_) _ (fy _);rw[wL hi hj];refine⟨fun h=>?_,fun I=>?_,fun h I=>?_⟩
  ·rw[wL (i:=i+1) h hj];by_cases I:j<E.length
   ·rw[IQ h I];omega
   ·obtain rfl:j=E.length:=by omega
    rw[WC h];omega
  ·rw[wL (j:=j+1) hi I];by_cases h:i<D.length
   ·rw[IQ h I];omega
   ·obtain rfl:i=D.length:=by omega
    rw[WE I];omega
  ·rw[wL (i:=i+1) (j:=j+1) h I,IQ h I];omega
end
end Go.Proofs.YtbioiclabmbedaaGreatDoor.Asn
namespace Go.CH.Sil
open Go.CH.Scr Go.CH.dh Go.CH.Mtc
def raw (k:Int) (x:Bs):List Bs:=(aP k x).1
def rZ (ini:Int) (us vs:List Vr) (p q:List Bs) (x y:Bs):List Wy:=
 pU us vs++((if p.length=1 then [⟨2,-1,-1,ini,x,ic q⟩] else [])++(if q.length=1 then [⟨3,-1,-1,ini,ic p,y⟩] else []))
def eU (T:eW) (k:Int) (x:Bs) (k2:Int) (y:Bs):List Wy:=rZ T.ini (eX T k x) (eX T k2 y) (raw k x) (raw k2 y) x y
structure DG where
 kd:Int
 l:Int
 r:Int
 h:Int
 C:List Pt
structure Wb where
 i:Int
 j:Int
 h:Int
 ps:List DG
structure Sl where
 b:Int
 ws:List Wb
 U:List Int
 V:List Int
 G:List Int
def we:Sl:=⟨0,[],[],[],[]⟩
def LI:Wb:=⟨0,0,0,[]⟩
def pz (T:eW) (k k2 bd:Int) (w:Wy):Int:=match eZ T k w.x k2 w.y with
 | some d=>min bd (d.c+w.c)
 | none=>bd
def AB (T:eW) (k k2 bd:Int) (w:Wy) (p:DG):Prop:=
 p.kd=w.kd/\p.l=w.l/\p.r=w.r/\p.h=pz T k k2 bd w/\∃ e,Cv T k w.x k2 w.y (max 0 (p.h-w.c)) p.C e
def ED (T:eW) (k k2 bd:Int) (ws:List Wy):Int:=(ws.map (pz T k k2 bd)).foldl min bd
def hM (T:eW) (a b:aQ) (bd:Int) (i j:Nat):Int:=ED T a.k b.k bd (eU T a.k (wd a i) b.k (wd b j))
structure Dj (T:eW) (a b:aQ) (bd:Int) (i j:Nat) (z:Wb):Prop where
 ri:z.i=i
 rj:z.j=j
 rh:z.h=hM T a b bd i j
 len:z.ps.length=(eU T a.k (wd a i) b.k (wd b j)).length
 ps:∀ m (h:m<(eU T a.k (wd a i) b.k (wd b j)).length) (h':m<z.ps.length),AB T a.k b.k bd (eU T a.k (wd a i) b.k (wd b j))[m] z.ps[m]
def cL (f:Nat->Nat->Int) (n m:Nat):List (List Int):=(List.range n).map fun i=>(List.range m).map (f i)
def dL (T:eW) (a:aQ):List Int:=a.ws.map (bQ T a.k)
end Go.CH.Sil
namespace Go.Proofs.YtbioiclabmbedaaGreatDoor
open Go.CH Go.CH.Scr Go.CH.dh Go.CH.Mtc Go.CH.Sil
open Asn (kB nZ oV mR cF lF wi)
abbrev pR (C:List (List Int)) (D E:List Int):Asn.Wi:=Asn.fJ C D E
def hL (T:eW) (a b:aQ) (bd:Int):List (List Int):=cL (hM T a b bd) a.ws.length b.ws.length
inductive iJ (T:eW) (a b:aQ) (bd:Int):Sl->Int->Prop
 | arg (h:nK T a b=false\/bd<0\/100000<bd):iJ T a b bd we 1
 | none (h:nK T a b=true) (h0:0<=bd) (h1:bd<=100000) (h2:(fJ T a b).c<bd):iJ T a b bd we 11
 | some (h:nK T a b=true) (h0:0<=bd) (h1:bd<=100000) (h2:bd<=(fJ T a b).c) (ws:List Wb) (hl:ws.length=a.ws.length*b.ws.length)
   (hw:∀ k (h:k<ws.length),Dj T a b bd (k / b.ws.length) (k % b.ws.length) ws[k]) :
   iJ T a b bd ⟨bd,ws,(pR (hL T a b bd) (dL T a) (dL T b)).us,(pR (hL T a b bd) (dL T a) (dL T b)).vs,oV (hL T a b bd) (dL T a) (dL T b)⟩ 0
structure Dk (T:eW) (a b:aQ) (i j:Nat) (z:Wb):Prop where
 ri:z.i=i
 rj:z.j=j
 rh:0<=z.h
 len:z.ps.length=(eU T a.k (wd a i) b.k (wd b j)).length
 ps:∀ m (h:m<(eU T a.k (wd a i) b.k (wd b j)).length) (h':m<z.ps.length),
  (z.ps[m].kd=(eU T a.k (wd a i) b.k (wd b j))[m].kd/\z.ps[m].l=(eU T a.k (wd a i) b.k (wd b j))[m].l/\z.ps[m].r=(eU T a.k (wd a i) b.k (wd b j))[m].r)/\z.h<=z.ps[m].h/\z.ps[m].h<=100000 /\
  jl T a.k (eU T a.k (wd a i) b.k (wd b j))[m].x b.k (eU T a.k (wd a i) b.k (wd b j))[m].y (z.ps[m].h-(eU T a.k (wd a i) b.k (wd b j))[m].c) z.ps[m].C
def sH (s:Sl) (m i j:Nat):Int:=(s.ws.getD (i*m+j) LI).h
def sL (s:Sl) (a b:aQ):List (List Int):=cL (sH s b.ws.length) a.ws.length b.ws.length
structure fG (T:eW) (a b:aQ) (s:Sl):Prop where
 ok:nK T a b=true
 b0:0<=s.b
 b1:s.b<=100000
 len:s.ws.length=a.ws.length*b.ws.length
 ws:∀ k (h:k<s.ws.length),Dk T a b (k / b.ws.length) (k % b.ws.length) s.ws[k]
 fin:∃ x y,kB (sL s a b) (dL T a) (dL T b) s.U s.V=(x,true)/\nZ (sL s a b) (dL T a) (dL T b) s.G=(y,true)/\s.b<=x+T.ord/\s.b<=y
end Go.Proofs.YtbioiclabmbedaaGreatDoor
namespace Go.CH.bA
section
variable {c c':Nat→Nat→Int} {d e:Nat→Int} {n m:Nat} {bd:Int}
theorem adP {f:Nat->Int} (h:∀ i,i<n->0<=f i) {k:Nat} (hk:k<n):f k<=sg n f:=by
 have h1:=TE (f:=f) hk
 have h2:=wU (n:=n) (f:=fun i=>if i=k then f i else 0) (g:=f) (fun i hi=>by
  show(if i=k then f i else 0)<=f i
  split
  ·exact ly _
  ·exact h i hi)
 omega
theorem Sm (h:∀ i,i<n->∀ j,j<m->c i j<=c' i j) (P:Nat->Nat):cost c d e n m P<=cost c' d e n m P:=by
 unfold cost
 have:=wU (n:=n) (f:=fun i=>if P i<m then c i (P i) else d i) (g:=fun i=>if P i<m then c' i (P i) else d i) (fun i hi=>by
  show(if P i<m then c i (P i) else d i)<=(if P i<m then c' i (P i) else d i)
  split
  ·rename_i I;exact h i hi _ I
  ·exact ly _)
 omega
theorem KZ (M:∀ i j,0<=c i j) (hd:∀ i,0<=d i) (he:∀ j,0<=e j) (h0:0<=bd) (P:Nat->Nat) :
  bd<=cost (fun i j=>min bd (c i j)) d e n m P\/cost c d e n m P<=cost (fun i j=>min bd (c i j)) d e n m P:=by
 by_cases h:∃ i,i<n/\P i<m/\bd<=c i (P i)
 ·obtain⟨i,hi,I,J⟩:=h;left;unfold cost;dsimp only
  have h1:=adP (n:=n) (f:=fun i=>if P i<m then min bd (c i (P i)) else d i) (fun i _=>by
   show 0<=(if P i<m then min bd (c i (P i)) else d i)
   have:=M i (P i);have:=hd i
   split<;>omega) hi
  have h2:=qB (n:=m) (f:=fun j=>if used P n j then 0 else e j) (fun j _=>by
   show 0<=(if used P n j then 0 else e j)
   have:=he j
   split<;>omega)
  simp only[I,if_true] at h1;omega
 ·right;unfold cost;dsimp only
  have:=wU (n:=n) (f:=fun i=>if P i<m then c i (P i) else d i) (g:=fun i=>if P i<m then min bd (c i (P i)) else d i) (fun i hi=>by
   show(if P i<m then c i (P i) else d i)<=(if P i<m then min bd (c i (P i)) else d i)
   split
   ·rename_i I;have:¬ bd<=c i (P i):=fun J=>h ⟨i,hi,I,J⟩;omega
   ·exact ly _)
  omega
end
end Go.CH.bA
namespace Go.CH.Sil
open Go.CH.Scr Go.CH.dh Go.CH.Mtc
section
variable {T:eW} {k k2:Int} {x y:Bs} {a b:aQ} {bd:Int}
theorem K5 {x' y':Bs} (h1:word k x'=word k x) (h2:word k2 y'=word k2 y) (h3:lower x'=lower x) (h4:lower y'=lower y):eZ T k x' k2 y'=eZ T k x k2 y:=by
 unfold eZ okW bO;rw[h1,h2,h3,h4]
theorem PZ (h:word k x=true):bP k x=(raw k x).map lower:=by rw[uX h,xq h];rfl
theorem xY (h:word k x=true):(bP k x).length=(raw k x).length:=by rw[PZ h,gh]
theorem BJ (h:word k x=true):ic (bP k x)=lower (ic (raw k x)):=by
 rw[PZ h];unfold ic;cases raw k x<;>rfl
theorem qM (h:word k x=true):word k (ic (raw k x))=true:=by
 have I:=(eP.1 h).2;have e:=Cw (k:=k) x 0 1;rw[xF] at e;have J:((aP k x).1.take 1).flatten=ic (raw k x):=by
  unfold ic raw;cases hq:(aP k x).1 with
  | nil=>rw[hq] at I;simp at I
  | cons z l=>simp
 rw[J] at e;refine eP.2 ?_;rw[e];refine⟨rfl,?_,?_⟩
 ·show 1<=((aP k x).1.take 1).length
  rw[kt];omega
 ·show((aP k x).1.take 1).length<=12
  rw[kt];omega
theorem VJ {l:List Bs} (h:l.length=1):ic l=l.flatten:=by
 match l,h with
 | [z],_=>simp[ic]
theorem BK (h:word k x=true) (h1:(raw k x).length=1):ic (bP k x)=lower x:=by
 rw[VJ (by rw[xY h];exact h1),uY h]
theorem xZ (hx:word k x=true) (hy:word k2 y=true):eZ T k (lower x) k2 (lower y)=eZ T k x k2 y:=
 K5 (by rw[iV hx,hx]) (by rw[iV hy,hy]) (Ao _) (Ao _)
variable {w:Wy}{i j n:Nat}{f:Nat->Nat->Int}
theorem mo {ini:Int} {us vs:List Vr} {p q:List Bs} :w ∈ rZ ini us vs p q x y↔(∃ u ∈ us,∃ v ∈ vs,w=vK u v)\/(p.length=1/\w=⟨2,-1,-1,ini,x,ic q⟩)\/(q.length=1/\w=⟨3,-1,-1,ini,ic p,y⟩):=by
 unfold rZ pU;rw[z7,z7,FF];refine or_congr ?_ (or_congr ?_ ?_)
 ·constructor
  ·rintro⟨u,J,h⟩;obtain⟨v,I,rfl⟩:=List.mem_map.1 h;exact⟨u,J,v,I,rfl⟩
  ·rintro⟨u,J,v,I,rfl⟩;exact⟨u,J,List.mem_map.2 ⟨v,I,rfl⟩⟩
 ·split<;>simp[*]
 ·split<;>simp[*]
theorem P5 (M:word k x=true) (J:word k2 y=true)  (h:w ∈ eU T k x k2 y):∃ w' ∈ lu T k x k2 y,w'.c=w.c/\eZ T k w'.x k2 w'.y=eZ T k w.x k2 w.y:=by
 rcases mo.1 h with⟨u,hu,v,hv,rfl⟩|⟨I,rfl⟩|⟨I,rfl⟩
 ·exact⟨_,gD.2 (.inl ⟨u,hu,v,hv,rfl⟩),rfl,rfl⟩
 ·refine⟨_,gD.2 (.inr (.inl ⟨by rw[xY M];exact I,rfl⟩)),rfl,?_⟩
  show eZ T k (ic (bP k x)) k2 (ic (bP k2 y))=eZ T k x k2 (ic (raw k2 y))
  rw[BK M I,BJ J];exact xZ M (qM J)
 ·refine⟨_,gD.2 (.inr (.inr ⟨by rw[xY J];exact I,rfl⟩)),rfl,?_⟩
  show eZ T k (ic (bP k x)) k2 (ic (bP k2 y))=eZ T k (ic (raw k x)) k2 y
  rw[BK J I,BJ M];exact xZ (qM M) J
theorem P6 (M:word k x=true) (J:word k2 y=true) {w':Wy} (h:w' ∈ lu T k x k2 y):∃ w ∈ eU T k x k2 y,w.c=w'.c/\eZ T k w.x k2 w.y=eZ T k w'.x k2 w'.y:=by
 rcases gD.1 h with⟨u,hu,v,hv,rfl⟩|⟨I,rfl⟩|⟨I,rfl⟩
 ·exact⟨_,mo.2 (.inl ⟨u,hu,v,hv,rfl⟩),rfl,rfl⟩
 ·rw[xY M] at I;refine⟨_,mo.2 (.inr (.inl ⟨I,rfl⟩)),rfl,?_⟩
  show eZ T k x k2 (ic (raw k2 y))=eZ T k (ic (bP k x)) k2 (ic (bP k2 y))
  rw[BK M I,BJ J];exact(xZ M (qM J)).symm
 ·rw[xY J] at I;refine⟨_,mo.2 (.inr (.inr ⟨I,rfl⟩)),rfl,?_⟩
  show eZ T k (ic (raw k x)) k2 y=eZ T k (ic (bP k x)) k2 (ic (bP k2 y))
  rw[BK J I,BJ M];exact(xZ (qM M) J).symm
theorem yg (J:bL T=true) (M:word k x=true) (I:word k2 y=true)  (h:w ∈ eU T k x k2 y):okW T k w.x k2 w.y=true/\0<=w.c/\w.c<=2000:=by
 constructor
 ·rcases mo.1 h with⟨u,hu,v,aa,rfl⟩|⟨h1,rfl⟩|⟨h1,rfl⟩
  ·exact NV (Lg M hu).1 (Lg I aa).1 J
  ·exact NV M (qM I) J
  ·exact NV (qM M) I J
 ·obtain⟨w',h1,h2,-⟩:=P5 M I h;have:=Dq J h1;omega
theorem K6:0<(eU T k x k2 y).length:=
 List.length_pos_of_mem (mo.2 (.inl ⟨_,mz,_,mz,rfl⟩))
theorem BL:∀ (l:List Int) (m:Int),l.foldl min m<=m/\(∀ z ∈ l,l.foldl min m<=z)/\(l.foldl min m=m\/l.foldl min m ∈ l)
 | [],m=>⟨ly _,(fun z hz=>by cases hz),.inl rfl⟩
 | z::l,m=>by
  obtain⟨h1,M,I⟩:=BL l (min m z);rw[vn];refine⟨by omega,fun u J=>?_,?_⟩
  ·rcases List.mem_cons.1 J with rfl|J
   ·omega
   ·exact M u J
  ·rcases I with I|I
   ·rw[I];rcases Ln m z with h|h
    ·exact .inl eL
    ·exact .inr (List.mem_cons.2 (.inl eL))
   ·exact .inr (pP _ I)
theorem ZL (hx:word k x=true) (hy:word k2 y=true) (h1:bd<=100000):ED T k k2 bd (eU T k x k2 y)=min bd (((iL T k x k2 y).map (·.c)).getD 100000):=by
 unfold ED;obtain⟨e1,e2,J⟩:=BL ((eU T k x k2 y).map (pz T k k2 bd)) bd;generalize ((eU T k x k2 y).map (pz T k k2 bd)).foldl min bd=q at *
 have h:q<=((iL T k x k2 y).map (·.c)).getD 100000:=by
  cases M:iL T k x k2 y with
  | none=>show q<=100000;omega
  | some p=>
   show q<=p.c
   obtain⟨w',I,d,hd,he⟩:=mD.1 (eG M).1;obtain⟨w,hw,ac,hb⟩:=P6 hx hy I;have h2:=e2 _ (List.mem_map.2 ⟨w,hw,rfl⟩);unfold pz at h2;rw[hb,hd] at h2;simp only at h2;have ad:p.c=w'.c+d.c:=by rw[he]
   omega
 rcases J with J|J
 ·omega
 ·obtain⟨w,hw,hq⟩:=List.mem_map.1 J;unfold pz at hq;cases hd:eZ T k w.x k2 w.y with
  | none=>rw[hd] at hq;simp only at hq;omega
  | some d=>
   rw[hd] at hq;simp only at hq;obtain⟨w',I,ac,hb⟩:=P5 hx hy hw;obtain⟨p,ab,ae,aa⟩:=La (mD.2 ⟨w',I,d,by rw[hb];exact hd,rfl⟩);have M:iL T k x k2 y=some p:=ab;rw[M] at h ⊢;have h3:p.c<=w'.c+d.c:=aa;have h:q<=p.c:=h
   show q=min bd p.c
   omega
theorem jq (h:eT a=true)  (hi:i<a.ws.length):word a.k (wd a i)=true:=by
 have e:wd a i=a.ws[i]:=by unfold wd;rw[kj,gR hi];rfl
 rw[e];exact(aZ.1 h).1 _ (gv hi)
theorem dW:nK T a b=true↔bL T=true/\eT a=true/\eT b=true:=by unfold nK;rw[gA,gA]
theorem FY (h:nK T a b=true) (h1:bd<=100000)  (hi:i<a.ws.length) (hj:j<b.ws.length):hM T a b bd i j=min bd (cM T a b i j):=by
 obtain⟨hv,ha,hb⟩:=dW.1 h;unfold hM;rw[ZL (jq ha hi) (jq hb hj) h1,Gd]
theorem Ir (h:nK T a b=true) (h0:0<=bd) (h1:bd<=100000)  (hi:i<a.ws.length) (hj:j<b.ws.length):0<=hM T a b bd i j/\hM T a b bd i j<=100000:=by
 have:=wG (a:=a) (b:=b) (dW.1 h).1 i j;rw[FY h h1 hi hj];omega
theorem VK  {m:Nat}:(cL f n m).length=n:=by unfold cL;simp
theorem VL {g:Nat->Nat->Int} {m:Nat} (h:∀ i,i<n->∀ j,j<m->f i j=g i j):cL f n m=cL g n m:=by
 unfold cL;exact nt fun i hi=>nt fun j hj=>h i (List.mem_range.1 hi) j (List.mem_range.1 hj)
theorem jm:(dL T a).length=a.ws.length:=gh ..
theorem VN {m:Nat} (hi:i<n) (hj:j<m):i*m+j<n*m/\(i*m+j) / m=i/\(i*m+j) % m=j:=by
 have h1:(i+1)*m<=n*m:=xp _ hi;rw[li] at h1;refine⟨by omega,?_,?_⟩
 ·rw[oc,J0 eL,FO hj,pk]
 ·rw[oc,J1,Ge hj]
end
end Go.CH.Sil
namespace Go.Proofs.YtbioiclabmbedaaGreatDoor
open Go.CH Go.CH.Scr Go.CH.dh Go.CH.Mtc Go.CH.Sil
open Asn (kB nZ oV mR cF lF wi pX lS qx oW bU bV bK nR)
section
variable {T:eW} {a b:aQ} {bd:Int} {s:Sl}
variable {f:Nat->Nat->Int}{n i j:Nat}{k:Int}{w:Wy}
theorem adQ  {m:Nat} (hi:i<n) (hj:j<m):cF (cL f n m) i j=f i j:=by
 rw[pX (by rw[VK];exact hi)];unfold cL;rw[mA,It];exact qx hj
theorem VO  (hi:i<a.ws.length):lF (dL T a) i=dM T a i:=by
 unfold lF dL dM wd;rw[kj,kj,lz,gR hi];rfl
theorem NH (h:nK T a b=true)  (hf:∀ i,i<a.ws.length->∀ j,j<b.ws.length->0<=f i j/\f i j<=100000):mR (cL f a.ws.length b.ws.length) (dL T a) (dL T b)=true:=by
 obtain⟨hv,M,hb⟩:=dW.1 h;have h1:=(aZ.1 M).2.2;have h2:=(aZ.1 hb).2.2;have hd:∀ n:aQ,wi (dL T n) 0 10000=true:=fun n=>oW fun i hi=>by
  rw[jm] at hi;rw[VO hi];have:=mE (a:=n) hv i;omega
 unfold mR;simp only[gA,decide_eq_true_eq,j8];refine⟨⟨⟨⟨⟨by rw[VK,jm],by rw[jm];exact h1⟩,by rw[jm];exact h2⟩,hd a⟩,hd b⟩,fun r J=>?_⟩;unfold cL at J;obtain⟨i,hi,rfl⟩:=List.mem_map.1 J;refine⟨by rw[gh,ua,jm],oW fun j I=>?_⟩;rw[gh,ua] at I;rw[qx I];exact hf i (List.mem_range.1 hi) j I
theorem wF  (P:Nat->Nat):bA.cost (cF (cL f a.ws.length b.ws.length)) (lF (dL T a)) (lF (dL T b)) (dL T a).length (dL T b).length P=bA.cost f (dM T a) (dM T b) a.ws.length b.ws.length P:=by
 rw[jm,jm];exact bA.jy (fun i hi j hj=>adQ hi hj) (fun i hi=>VO hi) (fun j hj=>VO hj) P
theorem ZM (h:fG T a b s) {k:Nat} (hk:k<s.ws.length):0<=s.ws[k].h/\s.ws[k].h<=100000/\∀ p ∈ nN T a.k (wd a (k / b.ws.length)) b.k (wd b (k % b.ws.length)),s.ws[k].h<=p.c:=by
 obtain⟨hv,ha,hb⟩:=dW.1 h.ok;have hl:=h.len;have hm:0<b.ws.length:=(aZ.1 hb).2.1;have hi:k / b.ws.length<a.ws.length:=xt (by rw[oc];omega);have hj:k % b.ws.length<b.ws.length:=sn _ hm;have I:=h.ws k hk;generalize s.ws[k]=z at *
 have hx:=jq ha hi;have hy:=jq hb hj;have h0:=I.ps 0 K6 (by rw[I.len];exact K6);refine⟨I.rh,by omega,fun p hp=>?_⟩;obtain⟨w',aa,d,hd,he⟩:=mD.1 hp;obtain⟨w,hw,ab,J⟩:=P6 hx hy aa;obtain⟨q,hq,rfl⟩:=zp hw;obtain⟨-,g1,g2,g3⟩:=I.ps q hq (by rw[I.len];exact hq);rw[hd] at J;have M:=(Rv g3).1 (Iy J);have ac:p.c=w'.c+d.c:=by rw[he]
 rcases M with M|M
 ·exact absurd M eS
 ·omega
theorem ZN (h:fG T a b s)  (hi:i<a.ws.length) (hj:j<b.ws.length):sH s b.ws.length i j<=cM T a b i j:=by
 obtain⟨h1,h2,h3⟩:=VN hi hj;have J:i*b.ws.length+j<s.ws.length:=by rw[h.len];exact h1
 obtain⟨g1,g2,I⟩:=ZM h J;rw[h2,h3] at I;have e:sH s b.ws.length i j=s.ws[i*b.ws.length+j].h:=by unfold sH;rw[kj,gR J];rfl
 rw[e,Gd];cases M:iL T a.k (wd a i) b.k (wd b j) with
 | none=>exact g2
 | some p=>exact I p (eG M).1
theorem NI (h:fG T a b s):s.b<=(fJ T a b).c:=by
 obtain⟨x,y,hx,hy,h1,h2⟩:=h.fin;rw[wH];obtain⟨hv,-,-,hf,aa⟩:=Asn.WK hx;have J:∀ P,bA.bA a.ws.length b.ws.length P->bA.cost (cF (sL s a b)) (lF (dL T a)) (lF (dL T b)) (dL T a).length (dL T b).length P<=bA.cost (cM T a b) (dM T a) (dM T b) a.ws.length b.ws.length P:=fun P _=>by
  rw[show sL s a b=cL (sH s b.ws.length) a.ws.length b.ws.length from rfl,wF];exact bA.Sm (fun i hi j hj=>ZN h hi hj) P
 have M:∀ P,bA.bA a.ws.length b.ws.length P->bA.bA (dL T a).length (dL T b).length P:=fun P I=>by rw[jm,jm];exact I
 have hM:∀ P,bA.sP a.ws.length b.ws.length P->bA.sP (dL T a).length (dL T b).length P:=fun P I=>by rw[jm,jm];exact I
 have k1:x<=nD T a b:=by
  obtain⟨P,I,hc⟩:=(pV (T:=T) (a:=a) (b:=b)).has;have:=J P I;have:=bA.E3 hf (M P I);omega
 have k2:y<=jP T a b:=by
  obtain⟨P,I,hQ,hc⟩:=(nX (T:=T) (a:=a) (b:=b)).has;have h3:=J P I;have h4:=(Asn.adZ hy).2;unfold Asn.jP at h4;rw[if_pos hv] at h4;have:=(bA.MU (c:=cF (sL s a b)) (d:=lF (dL T a)) (e:=lF (dL T b)) (n:=(dL T a).length) (m:=(dL T b).length)).low P (M P I) (hM P hQ);omega
 omega
theorem ZO (hv:bL T=true) (h1:bd<=100000) {k2:Int}  {p:DG} (hw:okW T k w.x k2 w.y=true/\0<=w.c/\w.c<=2000) (h:AB T k k2 bd w p):jl T k w.x k2 w.y (p.h-w.c) p.C:=by
 obtain⟨-,-,-,hh,e,hm⟩:=h;obtain⟨I,hc,-⟩:=hw;have hg:=xE I;have ic:=gL hg oA;have aa:p.h<=bd/\(p.h-w.c<=(bO T k w.x k2 w.y).fi gC\/100000<(bO T k w.x k2 w.y).fi gC):=by
  rw[hh];unfold pz;cases hb:eZ T k w.x k2 w.y with
  | some d=>
   have:=(Fe (Iy hb)).1;simp only;omega
  | none=>
   refine⟨ly _,.inr ?_⟩;unfold eZ at hb;split at hb
   ·cases hb
   ·rename_i hn;have:¬ (bO T k w.x k2 w.y).fi gC<never:=fun g=>hn ⟨I,g⟩;unfold never at this;omega
 have J:∀ C,vW (bO T k w.x k2 w.y) (max 0 (p.h-w.c)) C->max 0 (p.h-w.c)<=(bO T k w.x k2 w.y).fi gC->jl T k w.x k2 w.y (p.h-w.c) C:=fun C M hl=>by
  rcases Ln 0 (p.h-w.c) with g|g
  ·have e1:max 0 (p.h-w.c)=p.h-w.c:=by omega
   rw[e1] at M hl;exact⟨I,cert_holds M hg (rF (fP.1 I).2.2).2 g eL hl⟩
  ·have e1:max 0 (p.h-w.c)=0:=by omega
   rw[e1] at M;rw[Fb M];exact⟨I,fun q hq=>(by cases hq),List.Pairwise.nil,fun q hq=>(by cases hq),g⟩
 generalize M:p.C=C at hm;cases hm with
 | arg g=>rw[I] at g;rcases g with g|g|g;cases g;all_goals omega
 | none _ _ _ g=>omega
 | some _ _ _ _ g1 g2=>exact J _ g2 g1
theorem ZP (h:nK T a b=true) (h0:0<=bd) (h1:bd<=100000)  (hi:i<a.ws.length) (hj:j<b.ws.length) {z:Wb} (J:Dj T a b bd i j z):Dk T a b i j z:=by
 obtain⟨hv,ha,hb⟩:=dW.1 h;have ac:=Ir h h0 h1 hi hj;refine⟨J.ri,J.rj,by rw[J.rh];exact ac.1,J.len,fun m g g'=>?_⟩;have M:=J.ps m g g';have I:=gv g;obtain⟨e1,e2,e3⟩:=BL ((eU T a.k (wd a i) b.k (wd b j)).map (pz T a.k b.k bd)) bd;have aa:z.h=((eU T a.k (wd a i) b.k (wd b j)).map (pz T a.k b.k bd)).foldl min bd:=J.rh;have e4:=e2 _ (List.mem_map.2 ⟨_,I,rfl⟩);rw[<-aa] at e4;have ab:=M.2.2.2.1;have ad:z.ps[m].h<=bd:=by
  rw[ab];unfold pz;split<;>omega
 exact⟨⟨M.1,M.2.1,M.2.2.1⟩,by omega,by omega,ZO hv h1 (yg hv (jq ha hi) (jq hb hj) I) M⟩
theorem yh {f:Int} (h:iJ T a b bd s f) (h0:f=0):s.b=bd/\fG T a b s/\∀ k (J:k<s.ws.length),Dj T a b bd (k / b.ws.length) (k % b.ws.length) s.ws[k]:=by
 cases h with
 | arg=>cases h0
 | none=>cases h0
 | some h g0 g1 h2 ws hl hw=>
  refine⟨rfl,?_,hw⟩;obtain⟨hv,ha,hb⟩:=dW.1 h;have hm:0<b.ws.length:=(aZ.1 hb).2.1;have aa:∀ k,k<ws.length->k / b.ws.length<a.ws.length/\k % b.ws.length<b.ws.length:=fun k J=>⟨xt (by rw[oc];omega),sn _ hm⟩;have hs:∀ U V G,sL ⟨bd,ws,U,V,G⟩ a b=hL T a b bd:=fun U V G=>by
   refine VL fun i hi j I=>?_;obtain⟨d1,d2,d3⟩:=VN hi I;have J:i*b.ws.length+j<ws.length:=by rw[hl];exact d1
   have h3:=(hw _ J).rh;rw[d2,d3] at h3
   show(ws.getD (i*b.ws.length+j) LI).h=_
   rw[kj,gR J];exact h3
  have M:mR (hL T a b bd) (dL T a) (dL T b)=true:=NH h fun i hi j I=>Ir h g0 g1 hi I;refine⟨h,g0,g1,hl,fun k J=>ZP h g0 g1 (aa k J).1 (aa k J).2 (hw k J),bK (hL T a b bd) (dL T a) (dL T b),Asn.jP (hL T a b bd) (dL T a) (dL T b),by rw[hs];exact Asn.WJ M,by rw[hs];exact Asn.aat M,?_,?_⟩
  ·have ho:=eu.1 (bW.1 hv).1.2.2.2.1;obtain⟨P,hP,hc⟩:=(bA.OP (c:=cF (hL T a b bd)) (d:=lF (dL T a)) (e:=lF (dL T b)) (n:=(dL T a).length) (m:=(dL T b).length)).has;have e1:bA.cost (cF (hL T a b bd)) (lF (dL T a)) (lF (dL T b)) (dL T a).length (dL T b).length P=bK (hL T a b bd) (dL T a) (dL T b):=hc;rw[show hL T a b bd=cL (hM T a b bd) a.ws.length b.ws.length from rfl,wF,bA.jy (fun i hi j I=>FY h g1 hi I) (fun i hi=>rfl) (fun j I=>rfl)] at e1
   show bd<=bK (cL (hM T a b bd) a.ws.length b.ws.length) (dL T a) (dL T b)+T.ord
   rw[jm,jm] at hP;have h3:=(pV (T:=T) (a:=a) (b:=b)).low P hP;have h4:=bA.KZ (c:=cM T a b) (d:=dM T a) (e:=dM T b) (n:=a.ws.length) (m:=b.ws.length) (fun i j=>(wG hv i j).1) (fun i=>(mE hv i).1) (fun j=>(mE hv j).1) g0 P;rw[wH] at h2;omega
  ·obtain⟨P,hP,hQ,hc⟩:=(bA.MU (c:=cF (hL T a b bd)) (d:=lF (dL T a)) (e:=lF (dL T b)) (n:=(dL T a).length) (m:=(dL T b).length)).has;have e1:bA.cost (cF (hL T a b bd)) (lF (dL T a)) (lF (dL T b)) (dL T a).length (dL T b).length P=Asn.jP (hL T a b bd) (dL T a) (dL T b):=by unfold Asn.jP;rw[if_pos M];exact hc
   rw[show hL T a b bd=cL (hM T a b bd) a.ws.length b.ws.length from rfl,wF,bA.jy (fun i hi j I=>FY h g1 hi I) (fun i hi=>rfl) (fun j I=>rfl)] at e1
   show bd<=Asn.jP (cL (hM T a b bd) a.ws.length b.ws.length) (dL T a) (dL T b)
   rw[jm,jm] at hP hQ;have h3:=(nX (T:=T) (a:=a) (b:=b)).low P hP hQ;have h4:=bA.KZ (c:=cM T a b) (d:=dM T a) (e:=dM T b) (n:=a.ws.length) (m:=b.ws.length) (fun i j=>(wG hv i j).1) (fun i=>(mE hv i).1) (fun j=>(mE hv j).1) g0 P;rw[wH] at h2;omega
end
end Go.Proofs.YtbioiclabmbedaaGreatDoor
