/- A part of the proof: lemmas. -/
import Derived.Test.YtbioiclabmbedaaGreatDoorProg
import Derived.Test.YtbioiclabmbedaaGreatDoorSJ2
import Derived.BigQuiet
import Derived.Deep.DeepCutAuto
import Derived.Lib.AppendZeros
set_option maxHeartbeats 16000000
set_option maxRecDepth 100000
set_option linter.all false
namespace Go.Proofs.YtbioiclabmbedaaGreatDoor.Asn
open Go.RowKit Go.CH Go.CH.bA
open Go.ChangeMaps (setBlock)
def aT(w:World)(v:Value)(e:Ending)(w':World):Prop:=e=.returned v/\Below w.heap.size w w'
def Quiet(w:World)(v:Value)(e:Ending)(w':World):Prop:=e=.returned v/\w=w'
variable{w w':World}{a b:Bool}{l:List Int}{k n:Nat}{A:eV}{xs:List Value}{C:List (List Int)}{V:List (eV × Nat)}{lo hi:Int}
theorem jD(h:a=b):Quiet w (.bool b) (.returned (.bool a)) w:=⟨by rw[h],rfl⟩
theorem aK(h:b=a)(hb:Below w.heap.size w w'):aT w (.bool b) (.returned (.bool a)) w':=⟨by rw[h],hb⟩
def ints(l:List Int):List Value:=l.map (Value.int .i64)
theorem Wz(l:List Int):∀ u ∈ ints l,u.oneCell'=true:=by
 intro u hu;obtain⟨s,_,rfl⟩:=List.mem_map.1 hu;rfl
theorem yJ(l:List Int):(ints l).length=l.length:=by simp[ints]
theorem DV(h:k<l.length):(ints l)[k]?=some (.int .i64 l[k]):=by simp[ints,h]
def Vec(w:World)(A:eV)(l:List Int):Prop:=Src w A l.length 1 (ints l)
theorem aZ{size:Nat}(h:Src w A n size xs)(hb:Below w.heap.size w w'):Src w' A n size xs:=
 ((aI.begin w).below aM hb).SO h
theorem Vec.below(h:Vec w A l)(hb:Below w.heap.size w w'):Vec w' A l:=aZ h hb
theorem Vec.drew(h:Vec w A l):Vec w.drew A l:=h.below (dB (fe _ _))
theorem Vec.at(h:Vec w A l)(hn:0<l.length):
  ∃ b o,A=some ⟨b,o,none⟩/\∀ w',Below w.heap.size w w'->∀ j (I:j<l.length),w'.cell? ⟨b,o+j,none⟩=some (.int .i64 l[j]):=by
 obtain⟨b,o,rfl,M⟩:=Src.open_ h hn eL;refine⟨b,o,rfl,fun w' hb j I=>?_⟩;have J:=M j _ (DV I);rw[hb.cell (py _ _ J)];exact J
structure uJ(w:World)(A:eV)(C:List (List Int))(V:List (eV × Nat)):Prop where
 len:V.length=C.length
 src:Src w A C.length 1 (V.mapIdx fun i x=>.slice x.1 (C.getD i []).length x.2)
 row:∀ i (hi:i<C.length) x,V[i]?=some x->Vec w x.1 C[i]/\C[i].length<=x.2
theorem uJ.below(h:uJ w A C V)(hb:Below w.heap.size w w'):uJ w' A C V:=
 ⟨h.len,aZ h.src hb,fun i hi x hx=>⟨(h.row i hi x hx).1.below hb,(h.row i hi x hx).2⟩⟩
theorem uJ.at(h:uJ w A C V)(hn:0<C.length):
  ∃ b o,A=some ⟨b,o,none⟩/\∀ j (I:j<C.length),∃ B c,C[j].length<=c/\Vec w B C[j]/\∀ w',Below w.heap.size w w'->w'.cell? ⟨b,o+j,none⟩=some (.slice B C[j].length c):=by
 obtain⟨b,o,rfl,hc⟩:=Src.open_ h.src hn eL;refine⟨b,o,rfl,fun j I=>?_⟩;have J:V[j]?=some (V[j]'(by rw[h.len];exact I)):=ic _;obtain⟨h1,h2⟩:=h.row j I _ J;refine⟨_,_,h2,h1,fun w' hb=>?_⟩
 have M:=hc j (.slice (V[j]'(by rw[h.len];exact I)).1 C[j].length (V[j]'(by rw[h.len];exact I)).2) (by
  rw[CC,J]
  simp[ki,I])
 rw[hb.cell (py _ _ M)];exact M
def wi(l:List Int)(lo hi:Int):Bool:=l.all fun n=>decide (lo<=n)&&decide (n<=hi)
theorem aan(h:k<l.length):wi (l.take (k+1)) lo hi=(wi (l.take k) lo hi&&(decide (lo<=l[k])&&decide (l[k]<=hi))):=by
 unfold wi;rw[kq h,List.all_append];simp
theorem aeh(h:wi (l.take (k+1)) lo hi=false):wi l lo hi=false:=by
 unfold wi at *
 rw[List.all_eq_false] at *
 obtain⟨x,hx,h1⟩:=h;exact⟨x,xv hx,h1⟩
theorem Qu(h:wi l lo hi=true)(hk:k<l.length):lo<=l[k]/\l[k]<=hi:=by
 unfold wi at h;rw[j7] at h;simpa using h l[k] (gw _)
def Se(C:List (List Int))(D E:List Int):Bool:=C.all (fun r=>decide (r.length<=20))&&(decide (C.length<=20)&&decide (D.length<=20)&&decide (E.length<=20))
def mJ(C:List (List Int))(D E:List Int):Bool:=
 decide (C.length=D.length)&&decide (D.length<=6)&&decide (E.length<=6)&&wi D 0 10000&&wi E 0 10000&&C.all (fun r=>decide (r.length=E.length)&&wi r 0 100000)
theorem Qv{a b:List Int}{k:Nat}(h:a.take k=b.take k)(ha:k<a.length)(hb:k<b.length)(he:a[k]=b[k]):a.take (k+1)=b.take (k+1):=by
 rw[kq ha,kq hb,h,he]
def EE(n nd ne:Nat)(D E:List Int):Bool:=decide (n=nd)&&decide (nd<=6)&&decide (ne<=6)&&wi D 0 10000&&wi E 0 10000
def YT(ne:Nat)(r:List Int):Bool:=decide (r.length=ne)&&wi r 0 100000
theorem ac6(C:List (List Int))(D E:List Int):mJ C D E=(EE C.length D.length E.length D E&&C.all (YT E.length)):=rfl
theorem WV{ne k:Nat}(h:k<C.length):(C.take (k+1)).all (YT ne)=((C.take k).all (YT ne)&&YT ne C[k]):=by
 rw[kq h,List.all_append];simp
variable{p:Addr}{c:Nat}{v:Value}
theorem aaL{q:Addr}(x lo hi:Int)(I:w.cell? p=some (.int .i64 lo))(h:w.cell? q=some (.int .i64 hi)):
  Calls Tryz.prog 80 #[.int .i64 x,.pointer (some p),.pointer (some q)] w (Quiet w (.bool (!(decide (lo<=x)&&decide (x<=hi))))):=by
 by_cases g1:x<lo
 ·go_enter Tryz.func80,Tryz.ntmps80
  go_wp2;go_ret;refine jD ?_;simp;omega
 ·by_cases g2:hi<x
  ·go_enter Tryz.func80,Tryz.ntmps80
   go_wp2;go_ret;refine jD ?_;simp;try omega
  ·go_enter Tryz.func80,Tryz.ntmps80
   go_wp2;go_ret;refine jD ?_;simp;try omega
theorem TH(h:Vec w A l)(hl:l.length<=1000000){q:Addr}(lo hi:Int)(h1:w.cell? p=some (.int .i64 lo))(h2:w.cell? q=some (.int .i64 hi)):
  Calls Tryz.prog 103 #[.slice A l.length c,.func (.func 80) #[] (s7 (some p) (some q))] w (fun e w'=>∃ r:Int,e=.returned (.int .i64 r)/\w'=w/\(0<=r↔wi l lo hi=false)):=by
 have HA:=au h;have HO:=au (fun x=>aaL x lo hi h1 h2);obtain⟨n,hn⟩:∃ n,n=l.length:=⟨_,rfl⟩;rw[<-hn] at hl;have HN:=au hn;rw[<-hn];clear h hn h1 h2
 go_enter Tryz.func103,Tryz.ntmps103
 go_wp2
 go_loop [8] (fun i=>∃ k:Nat,k<=n/\i=.int .i64 k/\wi (l.take k) lo hi=true) (fun i=>n-(intOf i).toNat)
 case atStart=>exact⟨0,fy _,rfl,rfl⟩
 case round=>
  obtain⟨k,hk,rfl,hw⟩:=hrel;have HW:=au hw;clear hw;by_cases aa:k<n
  ·have J:k<l.length:=by rw[<-HN.o];exact aa
   obtain⟨b,o,rfl,hc⟩:=HA.o.at eL;have c0:=hc w (fe _ _) k J;have I:=au (aan (lo:=lo) (hi:=hi) J);have M:=au (aeh (l:=l) (lo:=lo) (hi:=hi) (k:=k));have KO:=au (HO.o l[k]);generalize l[k]=x at *
   clear hc;rw[HW.o,lx] at I;cases hb:(decide (lo<=x)&&decide (x<=hi)) with
   | true=>
    rw[hb] at I KO;clear hb;go_wp2_with fail;refine KO.o.mono ?_;rintro e w' ⟨rfl,rfl⟩;go_wp2
    go_round
    case rel=>exact⟨k+1,by omega,by go_num,I.o⟩
    case measure=>simp[intOf];omega
   | false=>
    rw[hb] at I KO;clear hb;have HF:=au (M.o I.o);clear M I HW;go_wp2_with fail;refine KO.o.mono ?_;rintro e w' ⟨rfl,rfl⟩;go_wp2;go_ret;exact⟨k,rfl,rfl,by rw[HF.o];simp⟩
  ·obtain rfl:k=n:=by omega
   have HF:=au (show true=wi l lo hi by rw[<-HW.o,HN.o,kz]);clear HW;go_wp2;go_ret;exact⟨-1,rfl,rfl,by rw[<-HF.o];simp⟩
theorem Jb(h:Vec w A l)(hl:l.length<=1000000){q:Addr}(lo hi:Int)(M:w.cell? p=some (.int .i64 lo))(J:w.cell? q=some (.int .i64 hi)):
  Calls Tryz.prog 79 #[.slice A l.length c,.func (.func 80) #[] (s7 (some p) (some q))] w (Quiet w (.bool (!wi l lo hi))):=by
 have KI:=au (TH (c:=c) h hl lo hi M J);clear h M J
 go_enter Tryz.func79,Tryz.ntmps79
 go_wp2_with fail;refine KI.o.mono ?_;rintro e w' ⟨r,rfl,rfl,hr⟩;cases I:wi l lo hi with
 | false=>
  have:0<=r:=hr.2 I;go_wp2;go_ret;refine jD ?_;simp[I]
 | true=>
  have:¬ 0<=r:=fun h=>by rw[hr.1 h] at I;cases I
  go_wp2;go_ret;refine jD ?_;simp[I]
theorem aaM(w:World)(cs:Array Value)(t:TypeId)(o:Obj)(h:cs[0]?=some v):((w.alloc (.cells cs t)).alloc o).cell? ⟨w.heap.size,0,none⟩=some v:=by
 have J:((w.alloc (.cells cs t)).alloc o).heap[w.heap.size]?=(w.alloc (.cells cs t)).heap[w.heap.size]?:=V6 i7;rw[Fs (w:=w.alloc (.cells cs t)) J];obtain⟨F,I,-⟩:=dU w cs t;exact ay I h
theorem aaN(w:World)(o:Obj)(cs:Array Value)(t:TypeId)(h:cs[0]?=some v):((w.alloc o).alloc (.cells cs t)).cell? ⟨w.heap.size+1,0,none⟩=some v:=by
 obtain⟨F,hC,-⟩:=dU (w.alloc o) cs t;have:=ay hC h
 rwa [show(w.alloc o).heap.size=w.heap.size+1 by simp] at this
theorem mM(h:Vec w A l)(M:l.length<=1000000)(lo hi:Int):
  Calls Tryz.prog 52 #[.slice A l.length c,.int .i64 lo,.int .i64 hi] w (aT w (.bool (wi l lo hi))):=by
 have gE:Below w.heap.size w ((w.alloc (.cells (fR lo) 3)).alloc (.cells (fR hi) 3)):=((fe _ _).alloc (fL _) _).alloc i7 _;have I:=au (Jb (c:=c) (p:=⟨w.heap.size,0,none⟩) (q:=⟨w.heap.size+1,0,none⟩) (h.below gE) M lo hi (aaM w _ _ _ rfl) (aaN w _ _ _ rfl));have J:=au gE;clear h gE
 go_enter Tryz.func52,Tryz.ntmps52
 go_wp2_with fail;refine I.o.mono ?_;rintro e w' ⟨rfl,rfl⟩;go_wp2;go_ret;exact aK i7 J.o
theorem aC{w'':World}(h:Below w.heap.size w w')(h':Below w'.heap.size w' w''):Below w.heap.size w w'':=h.trans (h'.mono h.size)
theorem jL{B G:eV}{d e:Nat}{D E:List Int}(h:uJ w A C V)(hl:C.length<=maxLen)(hD:Vec w B D)(hE:Vec w G E):
  Calls Tryz.prog 43 #[.slice A C.length c,.slice B D.length d,.slice G E.length e] w (aT w (.bool (mJ C D E))):=by
 unfold maxLen at hl;have HA:=au h;have HV:=au (ac6 C D E);have HD:=au (fun hl=>mM (c:=d) hD hl 0 10000);have HE:=au (fun (w':World) (hb:Below w.heap.size w w') hl=>mM (c:=e) (hE.below hb) hl 0 10000);obtain⟨n,hn⟩:∃ n,n=C.length:=⟨_,rfl⟩;obtain⟨nd,ag⟩:∃ n,n=D.length:=⟨_,rfl⟩;obtain⟨ne,ai⟩:∃ n,n=E.length:=⟨_,rfl⟩;have HN:=au hn;rw[<-hn] at hl;rw[<-hn,<-ag,<-ai] at HV;rw[<-ag] at HD;rw[<-ai] at HE;rw[<-hn,<-ag,<-ai];have HB:=au (fe w.heap.size w);clear h hn ag ai hD hE;by_cases h1:n=nd
 case neg=>
  have HF:=au (show false=mJ C D E by rw[HV.o,EE,decide_eq_false h1];simp);clear HV HD HE
  go_enter Tryz.func43,Tryz.ntmps43
  go_wp2;go_loopw [7,35] (fun ok i wr=>∃ k:Nat,k<=n/\ok=.bool false/\i=.int .i64 k/\Below w.heap.size w wr) (fun _ i _=>n-(intOf i).toNat)
  case atStart=>exact⟨0,fy _,rfl,rfl,HB.o⟩
  case round=>
   obtain⟨k,hk,rfl,rfl,hb⟩:=hrel;have I:=au hb;clear HB;by_cases ab:k<n
   ·have aa:k<C.length:=by rw[<-HN.o];exact ab
    obtain⟨b1,o1,rfl,J⟩:=HA.o.at eL;obtain⟨Bk,ck,-,-,M⟩:=J k aa;have c1:=M _ hb;clear J M hb;go_wp2
    go_roundw
    case rel=>exact⟨k+1,by omega,rfl,by go_num,I.o⟩
    case measure=>simp[intOf];omega
   ·obtain rfl:k=n:=by omega
    clear hb;go_wp2;go_ret;exact aK HF.o.symm I.o
 by_cases h2:nd<=6
 case neg=>
  have HF:=au (show false=mJ C D E by rw[HV.o,EE,decide_eq_false h2];simp);clear HV HD HE
  go_enter Tryz.func43,Tryz.ntmps43
  go_wp2;go_loopw [7,35] (fun ok i wr=>∃ k:Nat,k<=n/\ok=.bool false/\i=.int .i64 k/\Below w.heap.size w wr) (fun _ i _=>n-(intOf i).toNat)
  case atStart=>exact⟨0,fy _,rfl,rfl,HB.o⟩
  case round=>
   obtain⟨k,hk,rfl,rfl,hb⟩:=hrel;have I:=au hb;clear HB;by_cases ab:k<n
   ·have aa:k<C.length:=by rw[<-HN.o];exact ab
    obtain⟨b1,o1,rfl,J⟩:=HA.o.at eL;obtain⟨Bk,ck,-,-,M⟩:=J k aa;have c1:=M _ hb;clear J M hb;go_wp2
    go_roundw
    case rel=>exact⟨k+1,by omega,rfl,by go_num,I.o⟩
    case measure=>simp[intOf];omega
   ·obtain rfl:k=n:=by omega
    clear hb;go_wp2;go_ret;exact aK HF.o.symm I.o
 by_cases h3:ne<=6
 case neg=>
  have HF:=au (show false=mJ C D E by rw[HV.o,EE,decide_eq_false h3];simp);clear HV HD HE
  go_enter Tryz.func43,Tryz.ntmps43
  go_wp2;go_loopw [7,35] (fun ok i wr=>∃ k:Nat,k<=n/\ok=.bool false/\i=.int .i64 k/\Below w.heap.size w wr) (fun _ i _=>n-(intOf i).toNat)
  case atStart=>exact⟨0,fy _,rfl,rfl,HB.o⟩
  case round=>
   obtain⟨k,hk,rfl,rfl,hb⟩:=hrel;have I:=au hb;clear HB;by_cases ab:k<n
   ·have aa:k<C.length:=by rw[<-HN.o];exact ab
    obtain⟨b1,o1,rfl,J⟩:=HA.o.at eL;obtain⟨Bk,ck,-,-,M⟩:=J k aa;have c1:=M _ hb;clear J M hb;go_wp2
    go_roundw
    case rel=>exact⟨k+1,by omega,rfl,by go_num,I.o⟩
    case measure=>simp[intOf];omega
   ·obtain rfl:k=n:=by omega
    clear hb;go_wp2;go_ret;exact aK HF.o.symm I.o
 have KD:=au (HD.o eL);have KE:=au (fun w' hb=>HE.o w' hb eL);have ac:=au (show mJ C D E=(wi D 0 10000&&wi E 0 10000&&C.all (YT ne)) by rw[HV.o,EE,decide_eq_true h1,decide_eq_true h2,decide_eq_true h3];simp);clear HD HE HV;cases h4:wi D 0 10000 with
 | false=>
  rw[h4] at KD ac;have HF:=au (show false=mJ C D E by rw[ac.o];simp);clear ac h4
  go_enter Tryz.func43,Tryz.ntmps43
  go_wp2_with fail;refine KD.o.mono ?_;rintro e w' ⟨rfl,hb'⟩;have ad:=au hb';clear HB hb' KD;go_wp2;go_loopw [7,35] (fun ok i wr=>∃ k:Nat,k<=n/\ok=.bool false/\i=.int .i64 k/\Below w.heap.size w wr) (fun _ i _=>n-(intOf i).toNat)
  case atStart=>exact⟨0,fy _,rfl,rfl,ad.o⟩
  case round=>
   obtain⟨k,hk,rfl,rfl,hb⟩:=hrel;have I:=au hb;clear ad;by_cases ab:k<n
   ·have aa:k<C.length:=by rw[<-HN.o];exact ab
    obtain⟨b1,o1,rfl,J⟩:=HA.o.at eL;obtain⟨Bk,ck,-,-,M⟩:=J k aa;have c1:=M _ hb;clear J M hb;go_wp2
    go_roundw
    case rel=>exact⟨k+1,by omega,rfl,by go_num,I.o⟩
    case measure=>simp[intOf];omega
   ·obtain rfl:k=n:=by omega
    clear hb;go_wp2;go_ret;exact aK HF.o.symm I.o
 | true=>
  rw[h4] at KD ac;clear h4;cases h5:wi E 0 10000 with
  | false=>
   rw[h5] at KE ac;have HF:=au (show false=mJ C D E by rw[ac.o];simp);clear ac h5
   go_enter Tryz.func43,Tryz.ntmps43
   go_wp2_with fail;refine KD.o.mono ?_;rintro e w' ⟨rfl,hb'⟩;have ad:=au hb';have af:=au (KE.o _ hb');clear HB hb' KD KE;go_wp2_with fail;refine af.o.mono ?_;rintro e w2 ⟨rfl,gE⟩;have ae:=au (aC ad.o gE);clear ad gE af;go_wp2;go_loopw [7,35] (fun ok i wr=>∃ k:Nat,k<=n/\ok=.bool false/\i=.int .i64 k/\Below w.heap.size w wr) (fun _ i _=>n-(intOf i).toNat)
   case atStart=>exact⟨0,fy _,rfl,rfl,ae.o⟩
   case round=>
    obtain⟨k,hk,rfl,rfl,hb⟩:=hrel;have I:=au hb;clear ae;by_cases ab:k<n
    ·have aa:k<C.length:=by rw[<-HN.o];exact ab
     obtain⟨b1,o1,rfl,J⟩:=HA.o.at eL;obtain⟨Bk,ck,-,-,M⟩:=J k aa;have c1:=M _ hb;clear J M hb;go_wp2
     go_roundw
     case rel=>exact⟨k+1,by omega,rfl,by go_num,I.o⟩
     case measure=>simp[intOf];omega
    ·obtain rfl:k=n:=by omega
     clear hb;go_wp2;go_ret;exact aK HF.o.symm I.o
  | true=>
   rw[h5] at KE ac;clear h5;have HF:=au (show mJ C D E=C.all (YT ne) by rw[ac.o];simp);clear ac
   go_enter Tryz.func43,Tryz.ntmps43
   go_wp2_with fail;refine KD.o.mono ?_;rintro e w' ⟨rfl,hb'⟩;have ad:=au hb';have af:=au (KE.o _ hb');clear HB hb' KD KE;go_wp2_with fail;refine af.o.mono ?_;rintro e w2 ⟨rfl,gE⟩;have ae:=au (aC ad.o gE);clear ad gE af;go_wp2;go_loopw [7,35] (fun ok i wr=>∃ k:Nat,k<=n/\ok=.bool ((C.take k).all (YT ne))/\i=.int .i64 k/\Below w.heap.size w wr) (fun _ i _=>n-(intOf i).toNat)
   case atStart=>exact⟨0,fy _,rfl,rfl,ae.o⟩
   case round=>
    obtain⟨k,hk,rfl,rfl,hb⟩:=hrel;have I:=au hb;clear ae;by_cases ab:k<n
    ·have aa:k<C.length:=by rw[<-HN.o];exact ab
     obtain⟨b1,o1,rfl,J⟩:=HA.o.at eL;obtain⟨Bk,ck,-,ak,M⟩:=J k aa;have c1:=M _ hb;have HX:=au (WV (ne:=ne) aa);have HK:=au (fun hl=>mM (c:=ck) (ak.below hb) hl 0 100000);have HZ:=au (show YT ne C[k]=(decide (C[k].length=ne)&&wi C[k] 0 100000) from rfl);generalize C[k]=x at *
     obtain⟨nx,al⟩:∃ n,n=x.length:=⟨_,rfl⟩;rw[<-al] at c1 HK HZ;clear J M ak al hb;cases ht:(C.take k).all (YT ne) with
     | false=>
      rw[ht] at HX;clear ht HZ HK;go_wp2
      go_roundw
      case rel=>exact⟨k+1,by omega,by rw[HX.o];rfl,by go_num,I.o⟩
      case measure=>simp[intOf];omega
     | true=>
      rw[ht,lx] at HX;clear ht;by_cases hx:nx=ne
      ·have KX:=au (HK.o eL);rw[decide_eq_true hx,lx] at HZ;clear HK;subst hx;go_wp2_with fail;refine KX.o.mono ?_;rintro e w' ⟨rfl,hb'⟩;have ad:=au (aC I.o hb');clear KX hb' I;go_wp2
       go_roundw
       case rel=>exact⟨k+1,by omega,by rw[HX.o,HZ.o],by go_num,ad.o⟩
       case measure=>simp[intOf];omega
      ·have HS:=au (show YT ne x=false by rw[HZ.o,decide_eq_false hx];rfl);clear HZ HK;go_wp2
       go_roundw
       case rel=>exact⟨k+1,by omega,by rw[HX.o,HS.o],by go_num,I.o⟩
       case measure=>simp[intOf];omega
    ·obtain rfl:k=n:=by omega
     have HS:=au (show C.take k=C by rw[HN.o,kz]);clear hb;go_wp2;go_ret;exact aK (by rw[HF.o,HS.o]) I.o
def lF(l:List Int)(i:Nat):Int:=l.getD i 0
def cF(C:List (List Int))(i j:Nat):Int:=lF (C.getD i []) j
variable{U W:List Int}{i j:Nat}{B G:eV}{f:Nat->Int}{a:Int}
theorem lI(h:i<l.length):lF l i=l[i]:=by simp[lF,ki,h]
theorem pG(h:i<C.length)(j:Nat):cF C i j=lF C[i] j:=by simp[cF,ki,h]
structure S4(C:List (List Int))(D E:List Int):Prop where
 n:C.length=D.length
 n6:D.length<=6
 m6:E.length<=6
 d:∀ i,i<D.length->0<=lF D i/\lF D i<=10000
 e:∀ i,i<E.length->0<=lF E i/\lF E i<=10000
 row:∀ i (hi:i<C.length),C[i].length=E.length
 c:∀ i,i<D.length->∀ j,j<E.length->0<=cF C i j/\cF C i j<=100000
theorem vG{D E:List Int}(h:mJ C D E=true):S4 C D E:=by
 simp only[mJ,gA,decide_eq_true_eq,j7] at h;obtain⟨⟨⟨⟨⟨h1,h2⟩,h3⟩,h4⟩,M⟩,J⟩:=h;refine⟨h1,h2,h3,fun i hi=>?_,fun i hi=>?_,fun i hi=>(J _ (gw hi)).1,fun i hi j hj=>?_⟩
 ·rw[lI hi];exact Qu h4 hi
 ·rw[lI hi];exact Qu M hi
 ·have I:i<C.length:=by omega
  obtain⟨g1,g2⟩:=J _ (gw I);rw[pG I,lI eL];exact Qu g2 eL
theorem Vec.yp(h:Vec w A l)(hn:0<l.length):
  ∃ b o,A=some ⟨b,o,none⟩/\∀ w',Below w.heap.size w w'->∀ j,j<l.length->w'.cell? ⟨b,o+j,none⟩=some (.int .i64 (lF l j)):=by
 obtain⟨b,o,h1,h2⟩:=h.at hn;exact⟨b,o,h1,fun w' hb j hj=>by rw[lI hj];exact h2 w' hb j hj⟩
theorem uJ.yp{m:Nat}(h:uJ w A C V)(hn:0<C.length)(hr:∀ i (hi:i<C.length),C[i].length=m):
  ∃ b o,A=some ⟨b,o,none⟩/\∀ i,i<C.length->∃ B c,m<=c/\(∀ w',Below w.heap.size w w'->w'.cell? ⟨b,o+i,none⟩=some (.slice B m c)) /\
   (0<m->∃ J I,B=some ⟨J,I,none⟩/\∀ w',Below w.heap.size w w'->∀ j,j<m->w'.cell? ⟨J,I+j,none⟩=some (.int .i64 (cF C i j))):=by
 obtain⟨b,o,h1,h2⟩:=h.at hn;refine⟨b,o,h1,fun i hi=>?_⟩;obtain⟨B,c,h3,h4,h5⟩:=h2 i hi;have hm:=hr i hi;refine⟨B,c,by omega,fun w' M=>by rw[<-hm];exact h5 w' M,fun h0=>?_⟩;obtain⟨J,I,g1,g2⟩:=h4.yp eL;exact⟨J,I,g1,fun w' M j hj=>by rw[pG hi];exact g2 w' M j eL⟩
theorem wS{b:Int}(h:∀ i,i<n->a<=f i/\f i<=b):(n:Int)*a<=sg n f/\sg n f<=(n:Int)*b:=by
 induction n with
 | zero=>simp[sg]
 | succ n ih=>
  have:=ih (fun i hi=>h i eL);have:=h n eL;have I:((n+1:Nat):Int)*a=n*a+a:=by rw[sl,Hb];simp
  have J:((n+1:Nat):Int)*b=n*b+b:=by rw[sl,Hb];simp
  rw[dK,I,J];omega
def Jc(C:List (List Int))(D E U W:List Int):Bool:=mJ C D E&&decide (U.length=D.length)&&decide (W.length=E.length)&&wi U (-1000000) 1000000&&wi W (-1000000) 1000000
def nJ(C:List (List Int))(D E U W:List Int):Prop:=Hl (cF C) (lF D) (lF E) D.length E.length (lF U) (lF W)
open Classical in
noncomputable def kx(C:List (List Int))(D E U W:List Int):Int × Bool:=if Jc C D E U W=true/\nJ C D E U W then(sg D.length (lF U)+sg E.length (lF W),true) else(0,false)
theorem yS{D E:List Int}(h:Jc C D E U W=false):kx C D E U W=(0,false):=by unfold kx;rw[if_neg (by simp[h])]
theorem aaQ{D E:List Int}(h:¬ nJ C D E U W):kx C D E U W=(0,false):=by unfold kx;rw[if_neg (fun g=>h g.2)]
theorem QJ{D E:List Int}(h:Jc C D E U W=true)(hF:nJ C D E U W):kx C D E U W=(sg D.length (lF U)+sg E.length (lF W),true):=by unfold kx;rw[if_pos ⟨h,hF⟩]
theorem Mn{lo hi:Int}(h:wi l lo hi=true):∀ i,i<l.length->lo<=lF l i/\lF l i<=hi:=fun i hi=>by rw[lI hi];exact Qu h hi
def rZ(w:World)(x:Int × Bool)(e:Ending)(w':World):Prop:=e=.returned (.tuple (o6 x.1 x.2))/\Below w.heap.size w w'
theorem kI{b:Bool}{x:Int × Bool}(h:x=(a,b))(hb:Below w.heap.size w w'):rZ w x (.returned (.tuple (o6 a b))) w':=⟨by rw[h],hb⟩
structure MX(w:World)(A B G:eV)(C:List (List Int))(D E:List Int)(n m:Nat):Prop where
 v:S4 C D E
 hn:C.length=n
 hd:D.length=n
 hm:E.length=m
 mat:∃ V,uJ w A C V
 vd:Vec w B D
 ve:Vec w G E
theorem MX.below{D E:List Int}{m:Nat}(h:MX w A B G C D E n m)(hb:Below w.heap.size w w'):MX w' A B G C D E n m:=by
 obtain⟨V,hV⟩:=h.mat;exact⟨h.v,h.hn,h.hd,h.hm,⟨V,hV.below hb⟩,h.vd.below hb,h.ve.below hb⟩
section
variable{w:World}{A B G:eV}{C:List (List Int)}{D E:List Int}{n m:Nat}
theorem MX.n6(h:MX w A B G C D E n m):n<=6:=h.hd ▸ h.v.n6
theorem MX.m6(h:MX w A B G C D E n m):m<=6:=h.hm ▸ h.v.m6
theorem MX.atD(h:MX w A B G C D E n m)(hi:i<n):∃ b o,B=some ⟨b,o,none⟩/\(∀ w',Below w.heap.size w w'->w'.cell? ⟨b,o+i,none⟩=some (.int .i64 (lF D i)))/\0<=lF D i/\lF D i<=10000:=by
 have:=h.hd;obtain⟨b,o,h1,h2⟩:=h.vd.yp eL;exact⟨b,o,h1,fun w' hb=>h2 w' hb i eL,h.v.d i eL⟩
theorem MX.atE(h:MX w A B G C D E n m)(hj:j<m):∃ b o,G=some ⟨b,o,none⟩/\(∀ w',Below w.heap.size w w'->w'.cell? ⟨b,o+j,none⟩=some (.int .i64 (lF E j)))/\0<=lF E j/\lF E j<=10000:=by
 have:=h.hm;obtain⟨b,o,h1,h2⟩:=h.ve.yp eL;exact⟨b,o,h1,fun w' hb=>h2 w' hb j eL,h.v.e j eL⟩
theorem MX.atR(h:MX w A B G C D E n m)(hi:i<n):∃ b o R c,A=some ⟨b,o,none⟩/\(∀ w',Below w.heap.size w w'->w'.cell? ⟨b,o+i,none⟩=some (.slice R m c)) /\
   ∀ j,j<m->∃ J I,R=some ⟨J,I,none⟩/\(∀ w',Below w.heap.size w w'->w'.cell? ⟨J,I+j,none⟩=some (.int .i64 (cF C i j)))/\0<=cF C i j/\cF C i j<=100000:=by
 obtain⟨V,hV⟩:=h.mat;have h0:=h.hn;have hm:=h.hm;have hd:=h.hd;obtain⟨b,o,h1,h2⟩:=hV.yp (m:=m) eL (fun i hi=>by rw[h.v.row i hi];exact hm);obtain⟨R,c,h3,h4,h5⟩:=h2 i eL;refine⟨b,o,R,c,h1,h4,fun j M=>?_⟩;obtain⟨J,I,g1,g2⟩:=h5 eL;exact⟨J,I,g1,fun w' hb=>g2 w' hb j M,h.v.c i eL j eL⟩
end
theorem DZ{D E:List Int}(hV:mJ C D E=true)(h:uJ w A C V)(hD:Vec w B D)(hE:Vec w G E):MX w A B G C D E D.length E.length:=
 ⟨vG hV,(vG hV).n,rfl,rfl,⟨V,h⟩,hD,hE⟩
theorem Mf(h:Vec w A l)(hn:l.length=n)(hi:i<n):∃ b o,A=some ⟨b,o,none⟩/\∀ w',Below w.heap.size w w'->w'.cell? ⟨b,o+i,none⟩=some (.int .i64 (lF l i)):=by
 obtain⟨b,o,h1,h2⟩:=h.yp eL;exact⟨b,o,h1,fun w' hb=>h2 w' hb i eL⟩
def Xj(C:List (List Int))(D U W:List Int)(m k:Nat):Prop:=∀ i,i<k->(∀ j,j<m->lF U i+lF W j<=cF C i j)/\lF U i<=lF D i
theorem Ou{D:List Int}{m k:Nat}(h:Xj C D U W m k)(h1:∀ j,j<m->lF U k+lF W j<=cF C k j)(h2:lF U k<=lF D k):Xj C D U W m (k+1):=by
 intro i hi;by_cases e:i=k
 ·subst e;exact⟨h1,h2⟩
 ·exact h i eL
theorem TI{B G UA WA:eV}{d e u v:Nat}{D E:List Int}(h:uJ w A C V)(hl:C.length<=maxLen)(hD:Vec w B D)(hE:Vec w G E)(hU:Vec w UA U)(hW:Vec w WA W):
  Calls Tryz.prog 33 #[.slice A C.length c,.slice B D.length d,.slice G E.length e,.slice UA U.length u,.slice WA W.length v] w (rZ w (kx C D E U W)):=by
 have KV:=au (jL (c:=c) (d:=d) (e:=e) h hl hD hE);have HP:=au (fun hv=>DZ (w:=w) (C:=C) (D:=D) (E:=E) hv h hD hE);have HU:=au hU;have HW:=au hW;have KU:=au (fun (w':World) (hb:Below w.heap.size w w') hl=>mM (c:=u) (hU.below hb) hl (-1000000) 1000000);have KW:=au (fun (w':World) (hb:Below w.heap.size w w') hl=>mM (c:=v) (hW.below hb) hl (-1000000) 1000000);have I:=au (show Jc C D E U W=(mJ C D E&&decide (U.length=D.length)&&decide (W.length=E.length)&&wi U (-1000000) 1000000&&wi W (-1000000) 1000000) from rfl);have H6:=au (fun hv=>vG (C:=C) (D:=D) (E:=E) hv);clear h hD hE hU hW;obtain⟨n,hn⟩:∃ n,n=D.length:=⟨_,rfl⟩;obtain⟨m,hm⟩:∃ n,n=E.length:=⟨_,rfl⟩;obtain⟨nc,aq⟩:∃ n,n=C.length:=⟨_,rfl⟩;obtain⟨nu,ar⟩:∃ n,n=U.length:=⟨_,rfl⟩;obtain⟨nw,ai⟩:∃ n,n=W.length:=⟨_,rfl⟩;have HN:=au hn;have HM:=au hm;have bh:=au aq;have a1:=au ar;have aA:=au ai;rw[<-hn,<-hm] at HP;rw[<-ar,<-ai,<-hn,<-hm] at I;rw[<-ar] at KU;rw[<-ai] at KW;rw[<-hn,<-hm,<-aq] at KV;rw[<-hn,<-hm,<-aq,<-ar,<-ai];have bi:nc<=maxLen:=aq ▸ hl;unfold maxLen at bi;clear hn hm aq ar ai hl;cases hv:mJ C D E with
 | false=>
  rw[hv] at KV I;have HF:=au (yS (C:=C) (D:=D) (E:=E) (U:=U) (W:=W) (by rw[I.o];rfl));clear hv I HP HU HW KU KW H6
  go_enter Tryz.func33,Tryz.ntmps33
  go_wp2_with fail;refine KV.o.mono ?_;rintro e w1 ⟨rfl,fX⟩;have HB:=au fX;clear fX KV;go_wp2
  go_ret2
  exact kI HF.o HB.o
 | true=>
  have ab:=au (HP.o hv);have bp:=ab.o.n6;have bv:=ab.o.m6;have a6:nc=n:=by rw[bh.o];exact ab.o.hn
  subst a6;rw[hv,lx] at I;rw[hv] at KV;clear hv HP H6;by_cases h1:nu=nc
  case neg=>
   have HF:=au (yS (C:=C) (D:=D) (E:=E) (U:=U) (W:=W) (by rw[I.o,decide_eq_false h1];rfl));clear I KU KW HU HW ab
   go_enter Tryz.func33,Tryz.ntmps33
   go_wp2_with fail;refine KV.o.mono ?_;rintro e w1 ⟨rfl,fX⟩;have HB:=au fX;clear fX KV;go_wp2
   go_ret2
   exact kI HF.o HB.o
  rw[decide_eq_true h1,lx] at I;subst h1;by_cases h2:nw=m
  case neg=>
   have HF:=au (yS (C:=C) (D:=D) (E:=E) (U:=U) (W:=W) (by rw[I.o,decide_eq_false h2];rfl));clear I KU KW HU HW ab
   go_enter Tryz.func33,Tryz.ntmps33
   go_wp2_with fail;refine KV.o.mono ?_;rintro e w1 ⟨rfl,fX⟩;have HB:=au fX;clear fX KV;go_wp2
   go_ret2
   exact kI HF.o HB.o
  rw[decide_eq_true h2,lx] at I;subst h2;have ac:=au (fun w' hb=>KU.o w' hb eL);have ag:=au (fun w' hb=>KW.o w' hb eL);clear KU KW;cases h3:wi U (-1000000) 1000000 with
  | false=>
   rw[h3] at ac I;have HF:=au (yS (C:=C) (D:=D) (E:=E) (U:=U) (W:=W) (by rw[I.o];rfl));clear I ag HU HW ab h3
   go_enter Tryz.func33,Tryz.ntmps33
   go_wp2_with fail;refine KV.o.mono ?_;rintro e w1 ⟨rfl,fX⟩;have HB:=au fX;have ad:=au (ac.o _ fX);clear fX KV ac;go_wp2_with fail;refine ad.o.mono ?_;rintro e w2 ⟨rfl,gE⟩;have M:=au (aC HB.o gE);clear HB gE ad;go_wp2
   go_ret2
   exact kI HF.o M.o
  | true=>
   rw[h3,lx] at I;rw[h3] at ac;have aE:=au (Mn h3);rw[<-a1.o] at aE;clear h3;cases h4:wi W (-1000000) 1000000 with
   | false=>
    rw[h4] at ag I;have HF:=au (yS (C:=C) (D:=D) (E:=E) (U:=U) (W:=W) (by rw[I.o]));clear I HU HW ab h4
    go_enter Tryz.func33,Tryz.ntmps33
    go_wp2_with fail;refine KV.o.mono ?_;rintro e w1 ⟨rfl,fX⟩;have HB:=au fX;have ad:=au (ac.o _ fX);clear fX KV ac;go_wp2_with fail;refine ad.o.mono ?_;rintro e w2 ⟨rfl,gE⟩;have M:=au (aC HB.o gE);have ap:=au (ag.o _ M.o);clear HB gE ad ag;go_wp2_with fail;refine ap.o.mono ?_;rintro e w3 ⟨rfl,mn⟩;have aa:=au (aC M.o mn);clear M mn ap;go_wp2
    go_ret2
    exact kI HF.o aa.o
   | true=>
    rw[h4] at ag I;have ax:=au (Mn h4);rw[<-aA.o] at ax;have ae:=au (fun hf=>aaQ (C:=C) (D:=D) (E:=E) (U:=U) (W:=W) hf);have J:=au (fun hf=>QJ (C:=C) (D:=D) (E:=E) (U:=U) (W:=W) I.o hf);have an:=au (show nJ C D E U W=Hl (cF C) (lF D) (lF E) D.length E.length (lF U) (lF W) from rfl);rw[<-HN.o,<-HM.o] at J an;clear I h4
    go_enter Tryz.func33,Tryz.ntmps33
    go_wp2_with fail;refine KV.o.mono ?_;rintro e w1 ⟨rfl,fX⟩;have HB:=au fX;have ad:=au (ac.o _ fX);clear fX KV ac;go_wp2_with fail;refine ad.o.mono ?_;rintro e w2 ⟨rfl,gE⟩;have M:=au (aC HB.o gE);have ap:=au (ag.o _ M.o);clear HB gE ad ag;go_wp2_with fail;refine ap.o.mono ?_;rintro e w3 ⟨rfl,mn⟩;have aa:=au (aC M.o mn);have aD:=au (ab.o.below aa.o);have bj:=au (HU.o.below aa.o);have a5:=au (HW.o.below aa.o);clear M mn ap ab HU HW;go_wp2
    go_loop [12,50] (fun s i=>∃ k:Nat,k<=nu/\s=.int .i64 (sg k (lF U))/\i=.int .i64 k/\Xj C D U W nw k) (fun _ i=>nu-(intOf i).toNat)
    case atStart=>exact⟨0,fy _,rfl,rfl,fun i hi=>absurd hi (oc i)⟩
    case round=>
     obtain⟨k,hk,rfl,rfl,hg⟩:=hrel;have HG:=au hg;have bb:=wS (n:=k) (fun i hi=>aE.o i eL);clear hg;by_cases am:k<nu
     ·obtain⟨bu,ou,rfl,a3⟩:=Mf bj.o a1.o.symm am;have c0:=a3 _ (fe _ _);have bm:=aE.o k eL;have HS:=au (dK (n:=k) (f:=lF U));generalize a4:lF U k=x at *
      have aw:=au a4;clear a3 a4;go_wp2
      go_loop [57] (fun i=>∃ j:Nat,j<=nw/\i=.int .i64 j/\∀ t,t<j->x+lF W t<=cF C k t) (fun i=>nw-(intOf i).toNat)
      case atStart=>exact⟨0,fy _,rfl,fun t ht=>absurd ht (oc t)⟩
      case round=>
       obtain⟨j,hj,rfl,ak⟩:=hrel;have ao:=au ak;clear ak;by_cases af:j<nw
       ·obtain⟨bw,ow,rfl,al⟩:=Mf a5.o aA.o.symm af;have c1:=al _ (fe _ _);have bf:=ax.o j eL;obtain⟨ba,oa,R,cR,rfl,a8,az⟩:=aD.o.atR am;obtain⟨b',o',rfl,a2,br⟩:=az j af;have c2:=a8 _ (fe _ _);have c3:=a2 _ (fe _ _)
        have HY:=au (show(∀ t,t<j+1->x+lF W t<=cF C k t)↔x+lF W j<=cF C k j from⟨fun h=>h j eL,fun h t ht=>by
         by_cases e:t=j
         ·subst e;exact h
         ·exact ao.o t eL⟩)
        have HZ:=au (show ¬ x+lF W j<=cF C k j->¬ nJ C D E U W from fun h hf=>by rw[an.o] at hf;exact h (aw.o ▸ hf.c k am j af));generalize lF W j=y at *
        generalize cF C k j=z at *
        clear al a8 az a2;by_cases a0:z<x+y
        ·have HR:=au (ae.o (HZ.o eL));clear ae HZ HY J;go_wp2
         go_ret2
         exact kI HR.o aa.o
        ·have HR:=au (HY.o.2 eL);clear HZ HY;go_wp2
         go_round
         case rel=>exact⟨j+1,by omega,by go_num,HR.o⟩
         case measure=>simp[intOf];omega
       ·obtain rfl:j=nw:=by omega
        obtain⟨bd,od,rfl,a7,bn⟩:=aD.o.atD am;have c4:=a7 _ (fe _ _);have HZ:=au (show ¬ x<=lF D k->¬ nJ C D E U W from fun h hf=>by rw[an.o] at hf;exact h (aw.o ▸ hf.d k am));have HR:=au (fun h2=>Ou HG.o (fun t ht=>aw.o.symm ▸ ao.o t ht) (aw.o.symm ▸ h2));generalize lF D k=z at *
        clear a7;by_cases a0:z<x
        ·have HR:=au (ae.o (HZ.o eL));clear ae HZ J;go_wp2
         go_ret2
         exact kI HR.o aa.o
        ·have bc:=au (HR.o eL);clear HZ HR;go_wp2
         go_round
         case rel=>exact⟨k+1,by omega,by rw[HS.o];try go_num,by go_num,bc.o⟩
         case measure=>simp[intOf];omega
     ·obtain rfl:k=nu:=by omega
      have bo:=au bb;go_wp2
      go_loop [12,86] (fun s i=>∃ j:Nat,j<=nw/\s=.int .i64 (sg k (lF U)+sg j (lF W))/\i=.int .i64 j/\∀ t,t<j->lF W t<=lF E t) (fun _ i=>nw-(intOf i).toNat)
      case atStart=>exact⟨0,fy _,by simp[sg],rfl,fun t ht=>absurd ht (oc t)⟩
      case round=>
       obtain⟨j,hj,rfl,rfl,ak⟩:=hrel;have ao:=au ak;have bk:=wS (n:=j) (fun i hi=>ax.o i eL);clear ak;by_cases af:j<nw
       ·obtain⟨bw,ow,rfl,al⟩:=Mf a5.o aA.o.symm af;have c1:=al _ (fe _ _);have bf:=ax.o j eL;obtain⟨be,oe,rfl,a9,bx⟩:=aD.o.atE af;have c2:=a9 _ (fe _ _);have HS:=au (dK (n:=j) (f:=lF W))
        have HY:=au (show(∀ t,t<j+1->lF W t<=lF E t)↔lF W j<=lF E j from⟨fun h=>h j eL,fun h t ht=>by
         by_cases e:t=j
         ·subst e;exact h
         ·exact ao.o t eL⟩)
        have HZ:=au (show ¬ lF W j<=lF E j->¬ nJ C D E U W from fun h hf=>by rw[an.o] at hf;exact h (hf.e j af));generalize lF W j=y at *
        generalize lF E j=z at *
        generalize sg k (lF U)=sU at *
        generalize sg j (lF W)=sW at *
        clear al a9;by_cases a0:z<y
        ·have HR:=au (ae.o (HZ.o eL));clear ae HZ HY J;go_wp2
         go_ret2
         exact kI HR.o aa.o
        ·have HR:=au (HY.o.2 eL);clear HZ HY;go_wp2
         go_round
         case rel=>exact⟨j+1,by omega,by rw[HS.o];try go_num,by go_num,HR.o⟩
         case measure=>simp[intOf];omega
       ·obtain rfl:j=nw:=by omega
        have HR:=au (J.o (by rw[an.o];exact⟨fun i hi=>(HG.o i hi).1,fun i hi=>(HG.o i hi).2,ao.o⟩));clear J ae;go_wp2
        go_ret2
        exact kI HR.o aa.o
theorem toList_madeCells_one(z:Value)(n:Nat):(madeCells #[z] n).toList=List.replicate n z:=by
 refine vr fun i=>?_;simp only[madeCells,J0,Array.toList_range,lB,CL];by_cases h:i<n
 ·simp[h,Nat.mod_one]
 ·simp[h]
variable{P:Program}{a:Act}{K:Act->World->Prop}{Q:Exit->Act->World->Prop}{t e:TypeId}{z:Value}{g:Nat}{F:Nat->Prop}
theorem QK{o:Oper}{bytes:Nat}(S:eO P t e z 1 bytes)(ab:bytes<=1000)(l:Operand)(J:o.op=Op.makeSlice t l l)(n:Nat)(hn:n<=1000)(hl:a.eval l=.int .i64 (n:Int))(hz:z.cells=#[z])(hK:∀ w',bT w eR (aV e 1 (.slice (some ⟨w.heap.size,0,none⟩) n n) n (List.replicate n z)) w'->K (a.put o.dst (.slice (some ⟨w.heap.size,0,none⟩) n n)) w'):o.wp P a w K Q:=by
 obtain⟨ht,hi,ad,ae⟩:=S;obtain⟨i,hi,ac,aa,M⟩:=info_parts hi;obtain⟨w',I,r1,r2⟩:=run_make_full (P:=P) w w.heap.size t e i z 1 ht hi ac aa .i64 .i64 n (by rw[M];have:=sT ab hn;omega) (by simp only[maxLen];omega) (fL _)
 have h2:=hK w' (vH (by
  rw[Bi,hz,toList_madeCells_one] at r1;exact r1) (Mod.below (F:=fun _=>False) (Mod.yu r2 (fun k hk=>by cases hk)) (fun _ _ h=>h)))
 unfold Oper.wp;simp[execOp,J,hl,I,Result.andThen];exact h2
theorem Mg{ops:Array Oper}{rest:List Oper}{o:Oper}(hg:o.guard=none){bytes:Nat}(S:eO P t e z 1 bytes)(J:bytes<=1000)(l:Operand)(I:o.op=Op.makeSlice t l l)(n:Nat)(hn:n<=1000)(hl:a.eval l=.int .i64 (n:Int))(hz:z.cells=#[z])(hK:∀ w',bT w eR (aV e 1 (.slice (some ⟨w.heap.size,0,none⟩) n n) n (List.replicate n z)) w'->wpList P ops Q rest (a.put o.dst (.slice (some ⟨w.heap.size,0,none⟩) n n)) w'):wpList P ops Q (o::rest) a w:=
 wpList_plain hg fun _ M=>QK S J l I n hn hl hz fun w' h=>M _ _ (hK w' h)
theorem pI:eO Tryz.prog 39 3 (.int .i64 0) 1 8:=⟨Tryz.underlying39,by kernel_rfl,rfl,by decide⟩
theorem Ov:eO Tryz.prog 78 39 (.slice none 0 0) 1 24:=⟨Tryz.underlying78,by kernel_rfl,rfl,by decide⟩
def fv(n:Nat)(f:Nat->Value):List Value:=(List.range n).map f
theorem Ai(n:Nat)(f:Nat->Value):(fv n f).length=n:=by simp[fv]
theorem qG(f:Nat->Value)(h:i<n):(fv n f)[i]?=some (f i):=by simp[fv,h]
def xe(f:Nat->Value)(k:Nat)(v:Value):Nat->Value:=fun i=>if i=k then v else f i
theorem Ow(n:Nat)(f:Nat->Value)(k:Nat)(v:Value):(fv n f).set k v=fv n (xe f k v):=by
 refine vr fun i=>?_;by_cases h:i<n
 ·rw[qG _ h,List.getElem?_set];by_cases e:k=i
  ·subst e;simp[Ai,h,xe]
  ·have:¬ i=k:=fun h=>e h.symm;simp[e,xe,this,qG _ h]
 ·rw[pP (by rw[rI,Ai];omega),pP (by rw[Ai];omega)]
theorem qY{f g:Nat->Value}(h:∀ i,i<n->f i=g i):fv n f=fv n g:=nB fun i hi=>h i (List.mem_range.1 hi)
theorem uN(n:Nat)(v:Value):List.replicate n v=fv n (fun _=>v):=by simp[fv,Lw]
def kJ(g n:Nat)(f:Nat->Int):CH.aU:=aV 3 1 (.slice (some ⟨g,0,none⟩) n n) n (fv n fun i=>.int .i64 (f i))
theorem Aj:(kJ g n f).Ok:=dQ
instance {g n:Nat} {f:Nat→Int}:(kJ g n f).Ok:=Aj
theorem aaR(h:kJ g n f w F)(J:k<n)(b:Int){T:Nat->Int}(I:∀ i,i<n->T i=if i=k then b else f i):bT w F (kJ g n T) (w.setCell ⟨g,k,none⟩ (.int .i64 b)):=by
 have:=vI h (i:=k) eL (.int .i64 b);rw[Ow] at this;unfold kJ;rw[qY (f:=fun i=>.int .i64 (T i)) (g:=xe (fun i=>.int .i64 (f i)) k (.int .i64 b)) (fun i hi=>by unfold xe;simp only[I i hi];split<;>rfl)];exact this
theorem adh(h:kJ g n f w F)(hk:k<n):w.cell? ⟨g,k,none⟩=some (.int .i64 (f k)):=nL h (qG _ hk)
theorem Xk(h:kJ g n f w F)(k:Nat)(hn:0<n):w.frozen? ⟨g,k,none⟩=false:=rC h k hn
structure GJ(w:World)(A B G:eV)(c:Nat->Nat->Int)(d e:Nat->Int)(n m:Nat):Prop where
 n7:n<=7
 m6:m<=6
 db:∀ i,i<n->0<=d i/\d i<=10000
 eb:∀ j,j<m->0<=e j/\e j<=10000
 cb:∀ i,i<n->∀ j,j<m->0<=c i j/\c i j<=100000
 ds:Src w B n 1 (fv n fun i=>.int .i64 (d i))
 es:Src w G m 1 (fv m fun j=>.int .i64 (e j))
 rows:∃ RV:List Value,Src w A n 1 RV/\∀ i,i<n->∃ R cp,RV[i]?=some (.slice R m cp) /\
   ∀ j,j<m->∃ b' o',R=some ⟨b',o',none⟩/\∀ w',Below w.heap.size w w'->w'.cell? ⟨b',o'+j,none⟩=some (.int .i64 (c i j))
section
variable{w w':World}{A B G:eV}{c:Nat→Nat→Int}{d e:Nat→Int}{n m:Nat}
theorem yT(h:Src w B n 1 xs)(hi:i<n)(J:xs[i]?=some v):∃ b o,B=some ⟨b,o,none⟩/\∀ w',Below w.heap.size w w'->w'.cell? ⟨b,o+i,none⟩=some v:=by
 obtain⟨b,o,rfl,M⟩:=Src.open_ h eL eL;refine⟨b,o,rfl,fun w' hb=>?_⟩;have I:=M i v J;rw[hb.cell (py _ _ I)];exact I
theorem GJ.D(h:GJ w A B G c d e n m)(i:Nat)(hi:i<n):∃ b o,B=some ⟨b,o,none⟩/\∀ w',Below w.heap.size w w'->w'.cell? ⟨b,o+i,none⟩=some (.int .i64 (d i)):=yT h.ds hi (qG _ hi)
theorem GJ.E(h:GJ w A B G c d e n m)(j:Nat)(hj:j<m):∃ b o,G=some ⟨b,o,none⟩/\∀ w',Below w.heap.size w w'->w'.cell? ⟨b,o+j,none⟩=some (.int .i64 (e j)):=yT h.es hj (qG _ hj)
theorem GJ.R(h:GJ w A B G c d e n m)(i:Nat)(hi:i<n):∃ b o R I,A=some ⟨b,o,none⟩/\(∀ w',Below w.heap.size w w'->w'.cell? ⟨b,o+i,none⟩=some (.slice R m I)) /\
   ∀ j,j<m->∃ M J,R=some ⟨M,J,none⟩/\∀ w',Below w.heap.size w w'->w'.cell? ⟨M,J+j,none⟩=some (.int .i64 (c i j)):=by
 obtain⟨RV,h1,h2⟩:=h.rows;obtain⟨R,I,h3,h4⟩:=h2 i hi;obtain⟨b,o,h5,h6⟩:=yT h1 hi h3;exact⟨b,o,R,I,h5,h6,h4⟩
theorem QL(l:List Int):ints l=fv l.length (fun i=>.int .i64 (lF l i)):=by
 refine vr fun i=>?_;by_cases h:i<l.length
 ·rw[DV h,qG _ h,lI h]
 ·rw[pP (by rw[yJ];omega),pP (by rw[Ai];omega)]
theorem MX.q{D E:List Int}(h:MX w A B G C D E n m):GJ w A B G (cF C) (lF D) (lF E) n m where
 n7:=by have:=h.n6;omega
 m6:=h.m6
 db:=fun i hi=>h.v.d i (by have:=h.hd;omega)
 eb:=fun i hi=>h.v.e i (by have:=h.hm;omega)
 cb:=fun i hi j hj=>h.v.c i (by have:=h.hd;omega) j (by have:=h.hm;omega)
 ds:=by have:=h.vd;unfold Vec at this;rw[QL,h.hd] at this;exact this
 es:=by have:=h.ve;unfold Vec at this;rw[QL,h.hm] at this;exact this
 rows:=by
  obtain⟨V,J⟩:=h.mat;have hs:=J.src;rw[h.hn] at hs;refine⟨_,hs,fun i hi=>?_⟩;have I:i<C.length:=by have:=h.hn;omega
  have M:V[i]?=some (V[i]'(by rw[J.len];exact I)):=ic _;obtain⟨h1,h2⟩:=J.row i I _ M;have hm:C[i].length=m:=by rw[h.v.row i I];exact h.hm
  refine⟨(V[i]'(by rw[J.len];exact I)).1,(V[i]'(by rw[J.len];exact I)).2,?_,fun j hj=>?_⟩
  ·rw[CC,M];simp[ki,I,hm]
  ·obtain⟨b',o',g1,g2⟩:=h1.yp eL;exact⟨b',o',g1,fun w' hb=>by rw[pG I];exact g2 w' hb j eL⟩
theorem GJ.below(h:GJ w A B G c d e n m)(I:Below w.heap.size w w'):GJ w' A B G c d e n m where
 n7:=h.n7
 m6:=h.m6
 db:=h.db
 eb:=h.eb
 cb:=h.cb
 ds:=aZ h.ds I
 es:=aZ h.es I
 rows:=by
  obtain⟨RV,h1,h2⟩:=h.rows;refine⟨RV,aZ h1 I,fun i hi=>?_⟩;obtain⟨R,cp,h3,h4⟩:=h2 i hi;exact⟨R,cp,h3,fun j J=>by obtain⟨b',M,g1,g2⟩:=h4 j J;exact⟨b',M,g1,fun w2 g=>g2 w2 (aC I g)⟩⟩
end
theorem Xl{U:Nat->Bool}{a:Int}{m:Nat}(ha:0<=a)(hf:∀ j,j<m->0<=f j):0<=vO U f a m:=by
 rcases zF (U:=U) (f:=f) (a:=a) (m:=m) with h|⟨j,h1,_,h2⟩
 ·omega
 ·have:=hf j h1;omega
theorem GK{B G:eV}{c:Nat->Nat->Int}{d e:Nat->Int}{m:Nat}(h:GJ w A B G c d e n m){k:Nat}(hk:k<=n)(U:Nat->Bool):0<=L c d e n m k U/\L c d e n m k U<=(k:Int)*10000+60000:=by
 induction k generalizing U with
 | zero=>
  have:=wS (n:=m) (f:=fun j=>if U j then 0 else e j) (a:=0) (b:=10000) (fun i hi=>by have:=h.eb i hi;split<;>omega);have:=h.m6;unfold L;omega
 | succ k ih=>
  have J:=tC (U:=U) (f:=fun j=>c (n-(k+1)) j+L c d e n m k (ins U j)) (a:=d (n-(k+1))+L c d e n m k U) (m:=m);have M:=ih eL U;have h3:=h.db (n-(k+1)) eL
  have h4:=Xl (U:=U) (f:=fun j=>c (n-(k+1)) j+L c d e n m k (ins U j)) (a:=d (n-(k+1))+L c d e n m k U) (m:=m) eL (fun j I=>by
   have:=ih eL (ins U j);have:=h.cb (n-(k+1)) eL j I;omega)
  show 0<=vO _ _ _ _/\vO _ _ _ _<=_
  rw[sl,Hb];omega
section
variable{w0:World}{A B G:eV}{c:Nat→Nat→Int}{d e:Nat→Int}{n m g:Nat}{X:CH.aU}
end
def bt(s:Nat):Nat->Bool:=fun j=>s.testBit j
theorem QM:bt 0=xw:=by funext j;simp[bt,xw]
theorem Xm(s j:Nat):bt (s ||| 1 <<< j)=ins (bt s) j:=by
 funext x;simp only[bt,ins,Nat.testBit_or,uA,Nat.testBit_two_pow];congr 1;rw[tB];simp;omega
theorem Xn(n:Nat)(hn:n<1000):bits .and .i64 (n:Int) 1=((n % 2:Nat):Int):=by
 have h1:∀ n:Fin 1000,bits .and .i64 ((n.val:Nat):Int) 1=((n.val % 2:Nat):Int):=by decide +kernel
 exact h1 ⟨n,hn⟩
theorem adi(a b:Nat)(ha:a<64)(hb:b<64):bits .or .i64 (a:Int) (b:Int)=((a ||| b:Nat):Int):=by
 have h1:∀ n m:Fin 64,bits .or .i64 ((n.val:Nat):Int) ((m.val:Nat):Int)=((n.val ||| m.val:Nat):Int):=by decide +kernel
 exact h1 ⟨a,ha⟩ ⟨b,hb⟩
theorem adj(s j:Nat):(s / 2 ^ j) % 2=if bt s j then 1 else 0:=by
 unfold bt;rw[Nat.testBit_eq_decide_div_mod_eq];have:=Nat.mod_two_eq_zero_or_one (s / 2 ^ j);by_cases h:s / 2 ^ j % 2=1
 ·simp[h]
 ·simp[h];omega
theorem Ox(s j:Nat)(hs:s<128):∃ q:Nat,(s:Int) / 2 ^ j=q/\bits .and .i64 (q:Int) 1=if bt s j then 1 else 0:=by
 refine⟨s / 2 ^ j,?_,?_⟩
 ·rw[Int.natCast_ediv,Ly];rfl
 ·rw[Xn _ (Nat.lt_of_le_of_lt (Nat.div_le_self _ _) eL),adj];split<;>rfl
theorem S5(s j:Nat)(hs:s<64)(M:j<6):∃ p:Nat,wrap64 (2 ^ j)=p/\IntKind.i64.wrap (2 ^ j)=p/\bits .or .i64 (s:Int) (p:Int)=((s ||| 1 <<< j:Nat):Int):=by
 have h:1 <<< j<64:=by
  rw[uA];exact Nat.pow_lt_pow_right eS M (a:=2)
 have I:(2:Int) ^ j=((1 <<< j:Nat):Int):=by rw[uA,Ly];rfl
 have J:∀ q:Nat,q<64->IntKind.i64.wrap (q:Int)=q:=fun q hq=>kj _ eL;refine⟨1 <<< j,?_,?_,adi s _ hs h⟩
 ·rw[<-IntWalk.i64_left,I];exact J _ h
 ·rw[I];exact J _ h
theorem adk(m:Nat)(hm:m<=6):wrap64 (2 ^ m)=((1 <<< m:Nat):Int):=by
 have J:1 <<< m<=64:=by
  rw[uA];exact Nat.pow_le_pow_right eS hm (n:=2)
 have h:(2:Int) ^ m=((1 <<< m:Nat):Int):=by rw[uA,Ly];rfl
 have I:∀ q:Nat,q<=64->IntKind.i64.wrap (q:Int)=q:=fun q hq=>kj _ eL;rw[<-IntWalk.i64_left,h];exact I _ J
def kF(g n:Nat)(f:Nat->Int):CH.aU:=aV 127 64 (.slice (some ⟨g,0,none⟩) n n) n (fv (n*64) fun i=>.int .i64 (f i))
variable{M s:Nat}{f':Nat->Int}{W:World}
theorem nS:(kF g n f).Ok:=dQ
instance {g n:Nat} {f:Nat→Int}:(kF g n f).Ok:=nS
theorem qX(h:∀ i,i<n*64->f i=f' i):kF g n f=kF g n f':=by
 unfold kF;rw[qY (fun i hi=>by rw[h i hi])]
def sZ(f:Nat->Int)(p:Nat)(v:Int):Nat->Int:=fun x=>if x=p then v else f x
theorem aao(h:kF g n f w F)(I:k<n*64)(b:Int):bT w F (kF g n (sZ f k b)) (w.setCell ⟨g,k,none⟩ (.int .i64 b)):=by
 have:=vI h (i:=k) I (.int .i64 b);rw[Ow] at this;unfold kF;rw[qY (f:=fun i=>.int .i64 (sZ f k b i)) (g:=xe (fun i=>.int .i64 (f i)) k (.int .i64 b)) (fun i hi=>by unfold xe sZ;split<;>rfl)];exact this
theorem wQ(h:kF g n f w F)(hk:k<n*64):w.cell? ⟨g,k,none⟩=some (.int .i64 (f k)):=nL h (qG _ hk)
theorem LH(h:kF g n f w F)(k:Nat)(hn:0<n):w.frozen? ⟨g,k,none⟩=false:=rC h k hn
theorem WB(n:Nat):(madeCells (Array.replicate 64 (Value.int .i64 0)) (n*64)).toList=fv (n*64) (fun _=>.int .i64 0):=by
 unfold fv;simp only[madeCells,J0,Array.toList_range];refine nB fun i _=>?_;have:i % (Array.replicate 64 (Value.int .i64 0)).size<(Array.replicate 64 (Value.int .i64 0)).size:=by
  simp;omega
 simp only[getElem!_def];rw[sR this];simp
theorem aap:eO Tryz.prog 124 127 (.agg (Array.replicate 64 (.int .i64 0))) 64 512:=⟨Tryz.underlying124,by kernel_rfl,by decide,by decide⟩
theorem I5{ops:Array Oper}{rest:List Oper}{o:Oper}(hg:o.guard=none)(l:Operand)(I:o.op=Op.makeSlice 124 l l)(n:Nat)(hn:n<=1000)(hl:a.eval l=.int .i64 (n:Int))(hK:∀ w',bT w eR (kF w.heap.size n (fun _=>0)) w'->wpList Tryz.prog ops Q rest (a.put o.dst (.slice (some ⟨w.heap.size,0,none⟩) n n)) w'):wpList Tryz.prog ops Q (o::rest) a w:=by
 obtain⟨ht,hi,ab,ac⟩:=aap;obtain⟨i,hi,aa,M,J⟩:=info_parts hi;refine wpList_make_full w hg l l 124 I w.heap.size 127 i _ 64 ht hi aa M .i64 .i64 n n n hl hl rfl rfl (by rw[J];omega) (by simp only[maxLen];omega) (fL _) (fun w' h1 h2=>?_);refine hK w' (vH ?_ (Mod.below (F:=fun _=>False) (Mod.yu h2 (fun k hk=>by cases hk)) (fun _ _ h=>h)));rw[<-WB];exact h1
section
variable{w:World}{A B G:eV}{c:Nat→Nat→Int}{d e:Nat→Int}{n m:Nat}
def TB(c:Nat->Nat->Int)(d e:Nat->Int)(n m r s:Nat):Int:=L c d e n m (n-r) (bt s)
def jX(c:Nat->Nat->Int)(d e:Nat->Int)(n m M i k:Nat):Nat->Int:=fun x=>if x % 64<M/\(i<x / 64\/(x / 64=i/\x % 64<k)) then TB c d e n m (x / 64) (x % 64) else 0
theorem Tj{x:Nat}(hx:x<(n+1)*64):jX c d e n m M n 0 x=0:=by
 unfold jX;rw[if_neg eL]
theorem LJ(hM:M<=64)(hk:k<M)(x:Nat):sZ (jX c d e n m M i k) (i*64+k) (TB c d e n m i k) x=jX c d e n m M i (k+1) x:=by
 unfold sZ jX;by_cases e:x=i*64+k
 ·have J:x / 64=i:=by omega
  have I:x % 64=k:=by omega
  rw[if_pos e,if_pos eL,J,I]
 ·rw[if_neg e];by_cases h:x % 64<M/\(i<x / 64\/(x / 64=i/\x % 64<k))
  ·rw[if_pos h,if_pos eL]
  ·rw[if_neg h,if_neg eL]
theorem Tk(x:Nat):jX c d e n m M (i+1) M x=jX c d e n m M i 0 x:=by
 unfold jX;by_cases h:x % 64<M/\(i+1<x / 64\/(x / 64=i+1/\x % 64<M))
 ·rw[if_pos h,if_pos eL]
 ·rw[if_neg h,if_neg eL]
theorem vE{r:Nat}(hM:M<=64)(hs:s<M)(h:i<r\/(r=i/\s<k)):jX c d e n m M i k (r*64+s)=TB c d e n m r s:=by
 unfold jX;have h1:(r*64+s) / 64=r:=by omega
 have h2:(r*64+s) % 64=s:=by omega
 rw[h1,h2,if_pos ⟨hs,h⟩]
theorem Gy(hM:M<=64)(hk:k<M):jX c d e n m M i k (i*64+k)=0:=by
 unfold jX;rw[if_neg eL]
theorem Tm(f:Nat->Int)(p x:Nat):sZ f p (f p) x=f x:=by
 unfold sZ;split
 ·rename_i h;rw[h]
 ·rfl
theorem Tn(f:Nat->Int)(p:Nat)(a b:Int)(x:Nat):sZ (sZ f p a) p b x=sZ f p b x:=by
 unfold sZ;split<;>rfl
theorem aaq(f:Nat->Int)(p:Nat)(a:Int):sZ f p a p=a:=by simp[sZ]
theorem aar(s:Nat):TB c d e n m n s=sg m (fun j=>if bt s j then 0 else e j):=by unfold TB;rw[nq];rfl
theorem acX(hi:i<n)(s:Nat):TB c d e n m i s=vO (bt s) (fun j=>c i j+TB c d e n m (i+1) (s ||| 1 <<< j)) (d i+TB c d e n m (i+1) s) m:=by
 unfold TB;have h1:n-i=(n-(i+1))+1:=by omega
 rw[h1,L];have h2:n-(n-(i+1)+1)=i:=by omega
 rw[h2];exact Fb (fun j _=>by rw[Xm]) (fun _ _=>rfl)
def WC(w:World)(c:Nat->Nat->Int)(d e:Nat->Int)(n m:Nat)(en:Ending)(w':World):Prop:=
 ∃ g,en=.returned (.slice (some ⟨g,0,none⟩) (n+1) (n+1))/\bT w eR (kF g (n+1) (jX c d e n m (1 <<< m) 0 (1 <<< m))) w'
theorem Qw{X:CH.aU}{N:Nat}(h:aI eR w (kF g N f) W){p:Nat}(hp:p<N*64)(v:Int)(hf:∀ x,sZ f p v x=f' x):aI eR w (kF g N f') (W.setCell ⟨g,p,none⟩ (.int .i64 v)):=by
 obtain⟨F1,h1,bk⟩:=h.all nS;have:=bk _ _ (aao h1 hp v)
 rwa [qX (fun x _=>hf x)] at this
theorem WE{m:Nat}(hm:m<=6)(hs:s<1 <<< m)(hj:j<m):s ||| 1 <<< j<1 <<< m:=by
 rw[uA] at *
 rw[uA];exact Nat.or_lt_two_pow hs (Nat.pow_lt_pow_right eS hj)
theorem WG{m:Nat}(hm:m<=6):1 <<< m<=64:=by
 rw[uA];exact Nat.pow_le_pow_right eS hm
theorem Gz(hq:GJ w A B G c d e n m)(ca cb cg:Nat):
  Calls Tryz.prog 45 #[.slice A n ca,.slice B n cb,.slice G m cg] w (WC w c d e n m):=by
 have HQ:=au hq;have bc:=hq.n7;have ai:=hq.m6;clear hq;have hM:=WG ai;have a2:=au (fun s j hs hj=>WE (m:=m) (s:=s) (j:=j) ai hs hj);have a9:=adk m ai;have aA:=au (show ∀ (g:Nat) w',aI eR w (kF g (n+1) (jX c d e n m (1 <<< m) 0 (1 <<< m))) w'->WC w c d e n m (.returned (.slice (some ⟨g,0,none⟩) (n+1) (n+1))) w' from fun g w' h=>⟨g,rfl,h.post nS⟩);generalize 1 <<< m=M at *
 go_enter Tryz.func45,Tryz.ntmps45
 go_wp2_with (refine I5 rfl (.tmp 18) rfl (n+1) eL (by simp[Act.eval]) ?_;refine held ?_);refine lO.mk fun w1 ar=>?_;have R1:=au (((aI.begin w).fresh aM ar).imp fun _ _ h=>ko h);clear ar;generalize hg:w.heap.size=g at *
 rw[qX (f:=fun _=>0) (f':=jX c d e n m M n 0) (fun x hx=>(Tj hx).symm)] at R1;go_wp2;go_loopw [23] (fun i wr=>∃ k:Nat,k<=M/\i=.int .i64 k/\aI eR w (kF g (n+1) (jX c d e n m M n k)) wr) (fun i _=>M-(intOf i).toNat)
 case atStart=>exact⟨0,fy _,rfl,R1.o⟩
 case round=>
  obtain⟨k,hk,rfl,I⟩:=hrel;have HR:=au I;clear I R1;by_cases af:k<M
  ·have R2:Hid (aI eR w (kF g (n+1) (sZ (jX c d e n m M n k) (n*64+k) 0)) wr):=au (by
    rw[qX (f':=jX c d e n m M n k) (fun x _=>by rw[<-Gy (c:=c) (d:=d) (e:=e) (n:=n) (m:=m) (i:=n) hM af,Tm])]
    exact HR.o)
   go_wp2;go_loopw [28] (fun x wr=>∃ j:Nat,j<=m/\x=.int .i64 j/\aI eR w (kF g (n+1) (sZ (jX c d e n m M n k) (n*64+k) (sg j (fun j=>if bt k j then 0 else e j)))) wr) (fun x _=>m-(intOf x).toNat)
   case atStart=>exact⟨0,fy _,rfl,R2.o⟩
   case round=>
    obtain⟨j,hj,rfl,I⟩:=hrel;have aa:=au I
    have bi:=wS (n:=j) (f:=fun j=>if bt k j then 0 else e j) (a:=0) (b:=10000) (fun i hi=>by
     have:=HQ.o.eb i eL
     split<;>omega)
    clear HR R2;by_cases ac:j<m
    ·obtain⟨be,oe,rfl,ax⟩:=HQ.o.E j ac;have bn:=HQ.o.eb j ac;have c0:=ax _ I.cK;obtain⟨q,a3,J⟩:=Ox k j eL;have HS:=au (dK (n:=j) (f:=fun j=>if bt k j then 0 else e j));generalize e j=y at *
     generalize sg j (fun j=>if bt k j=true then 0 else e j)=z at *
     clear ax;cases hu:bt k j with
     | true=>
      rw[hu] at J HS;simp only[if_true] at J;clear hu I;go_wp2
      go_roundw
      case rel=>exact⟨j+1,by omega,by go_num,by rw[HS.o];simpa using aa.o⟩
      case measure=>simp[intOf];omega
     | false=>
      rw[hu] at J HS;simp only[k7,if_false] at J;have R4:=I.drew nS;obtain⟨F,hF⟩:=R4.get;have c1:=wQ hF (k:=n*64+k) eL;rw[aaq] at c1;have aq:=LH hF (n*64+k) eL;have R5:=au (Qw (X:=bG) R4 (p:=n*64+k) eL (z+y) (f':=sZ (jX c d e n m M n k) (n*64+k) (z+y)) (fun x=>Tn _ _ _ _ _));have bb:(k:Int)<64:=by omega
      have tn:(n:Int)<(n:Int)+1:=by omega
      have t1:IntKind.i64.wrap (z+y)=z+y:=kj _ eL;clear hu hF R4 I;go_wp2_with fail;refine eG (fun w'=>w'=wr.drew) eQ eQ eQ rfl ?_;generalize wr.drew=wd at *
      (repeat(first|refine bM ?_|refine bN ?_))
      refine jl rfl gh (fun K hK=>?_);go_wp2_with fail;refine hK.o _ _ ?_;clear hK c1 aq;go_wp2
      go_roundw
      case rel=>exact⟨j+1,by omega,by go_num,by rw[HS.o];simpa using R5.o⟩
      case measure=>simp[intOf];omega
    ·obtain rfl:j=m:=by omega
     have R6:Hid (aI eR w (kF g (n+1) (jX c d e n j M n (k+1))) wr):=au (by
      rw[<-qX (f:=sZ (jX c d e n j M n k) (n*64+k) (TB c d e n j n k)) (fun x _=>LJ hM af x),aar]
      exact aa.o)
     clear aa I;go_wp2
     go_roundw
     case rel=>exact⟨k+1,by omega,by go_num,R6.o⟩
     case measure=>simp[intOf];omega
  ·obtain rfl:k=M:=by omega
   clear af;go_wp2;go_loopw [11] (fun x wr=>∃ (a:Nat) (x0:Int),a<=n/\x=.int .i64 x0/\x0=(a:Int)-1/\aI eR w (kF g (n+1) (jX c d e n m k a k)) wr) (fun x _=>(intOf x+1).toNat)
   case atStart=>exact⟨n,(n:Int)-1,fL _,by go_num,rfl,HR.o⟩
   case round=>
    obtain⟨a,x0,ha,rfl,ap,I⟩:=hrel;have aa:=au I;clear HR I;cases a with
    | zero=>
     have tx:¬ 0<=x0:=by omega
     clear ap;go_wp2;go_ret;exact aA.o _ _ aa.o
    | succ i=>
     obtain rfl:x0=(i:Int):=by omega
     have R4:Hid (aI eR w (kF g (n+1) (jX c d e n m k i 0)) wr):=au (by
      rw[<-qX (fun x _=>Tk x)];exact aa.o)
     clear aa ap;go_wp2;go_loopw [61] (fun x wr=>∃ s:Nat,s<=k/\x=.int .i64 s/\aI eR w (kF g (n+1) (jX c d e n m k i s)) wr) (fun x _=>k-(intOf x).toNat)
     case atStart=>exact⟨0,fy _,rfl,R4.o⟩
     case round=>
      obtain⟨s,hs,rfl,I⟩:=hrel;have an:=au I;clear R4;by_cases ad:s<k
      ·have R6:=I.drew nS;have ae:=au R6;obtain⟨bd,od,rfl,az⟩:=HQ.o.D i eL;have bh:=HQ.o.db i eL;have c0:=az _ R6.cK;obtain⟨F,hF⟩:=R6.get;have c1:=wQ hF (k:=(i+1)*64+s) eL;rw[vE hM ad (.inl eL)] at c1;have bj:0<=TB c d e n m (i+1) s/\TB c d e n m (i+1) s<=200000:=by
        have:=GK HQ.o (show n-(i+1)<=n by omega) (bt s);unfold TB;omega
       have ag:i<n:=by omega
       have a8:(s:Int)<64:=by omega
       have ti:(0:Int)<=(i:Int)+1:=by omega
       have t1:IntKind.i64.wrap ((i:Int)+1)=((i+1:Nat):Int):=by rw[kj _ eL];omega
       have t2:IntKind.i64.wrap (d i+TB c d e n m (i+1) s)=d i+TB c d e n m (i+1) s:=kj _ eL;have a6:=au (acX (c:=c) (d:=d) (e:=e) (m:=m) (show i<n by omega) s);clear hF az I R6 an;go_wp2_with fail;refine aP (fun w'=>w'=wr.drew) eQ eQ rfl ?_;generalize wr.drew=wd at *
       (repeat(first|refine bM ?_|refine bN ?_))
       refine lex_nil ?_;clear t1 t2 c0 c1 ti;obtain⟨ba,oa,R,cR,rfl,aD,ab⟩:=HQ.o.R i ag;have c2:=aD _ ae.o.cK;clear aD;go_wp2;go_loopw [13,81] (fun b x wr=>∃ j:Nat,j<=m/\b=.int .i64 (vO (bt s) (fun j=>c i j+TB c d e n m (i+1) (s ||| 1 <<< j)) (d i+TB c d e n m (i+1) s) j)/\x=.int .i64 j/\aI eR w (kF g (n+1) (jX c d e n m k i s)) wr) (fun _ x _=>m-(intOf x).toNat)
       case atStart=>exact⟨0,fy _,by simp[vO],rfl,ae.o⟩
       case round=>
        obtain⟨j,hj,rfl,rfl,I⟩:=hrel;have al:=au I;clear ae;by_cases ac:j<m
        ·obtain⟨b',o',rfl,ao⟩:=ab j ac;have c3:=ao _ I.cK;have bm:=HQ.o.cb i ag j ac;have aE:=tC (U:=bt s) (f:=fun j=>c i j+TB c d e n m (i+1) (s ||| 1 <<< j)) (a:=d i+TB c d e n m (i+1) s) (m:=j)
         have aw:=Xl (U:=bt s) (f:=fun j=>c i j+TB c d e n m (i+1) (s ||| 1 <<< j)) (a:=d i+TB c d e n m (i+1) s) (m:=j) eL (fun t ht=>by
          have:=GK HQ.o (show n-(i+1)<=n by omega) (bt (s ||| 1 <<< t));have:=HQ.o.cb i ag t eL;unfold TB;omega)
         have HS:=au (show vO (bt s) (fun j=>c i j+TB c d e n m (i+1) (s ||| 1 <<< j)) (d i+TB c d e n m (i+1) s) (j+1)=if bt s j then vO (bt s) (fun j=>c i j+TB c d e n m (i+1) (s ||| 1 <<< j)) (d i+TB c d e n m (i+1) s) j else min (vO (bt s) (fun j=>c i j+TB c d e n m (i+1) (s ||| 1 <<< j)) (d i+TB c d e n m (i+1) s) j) (c i j+TB c d e n m (i+1) (s ||| 1 <<< j)) from rfl);generalize vO (bt s) (fun j=>c i j+TB c d e n m (i+1) (s ||| 1 <<< j)) (d i+TB c d e n m (i+1) s) j=q at *
         obtain⟨z,a3,J⟩:=Ox s j eL;have a7:=au ab;clear ao ab;cases hu:bt s j with
         | true=>
          rw[hu] at J HS;simp only[if_true] at J;clear hu I aE aw;go_wp2
          go_roundw
          case rel=>exact⟨j+1,by omega,by rw[HS.o];simp,by go_num,al.o⟩
          case measure=>simp[intOf];omega
         | false=>
          rw[hu] at J HS;simp only[k7,if_false] at J;obtain⟨p,a5,a1,a4⟩:=S5 s j eL eL;have ak:=a2.o s j ad ac;have bf:0<=TB c d e n m (i+1) (s ||| 1 <<< j)/\TB c d e n m (i+1) (s ||| 1 <<< j)<=200000:=by
           have:=GK HQ.o (show n-(i+1)<=n by omega) (bt (s ||| 1 <<< j));unfold TB;omega
          have R8:=I.drew nS;have a0:=au R8;obtain⟨F,hF⟩:=R8.get;have c4:=wQ hF (k:=(i+1)*64+(s ||| 1 <<< j)) eL;rw[vE hM ak (.inl eL)] at c4;generalize s ||| 1 <<< j=so at *
          generalize TB c d e n m (i+1) so=T at *
          have am:=au (show min q (c i j+T)=if c i j+T<q then c i j+T else q by omega);have t1:IntKind.i64.wrap ((i:Int)+1)=((i+1:Nat):Int):=by rw[kj _ eL];omega
          have t2:IntKind.i64.wrap (c i j+T)=c i j+T:=kj _ eL;have ti:(0:Int)<=(i:Int)+1:=by omega
          have ts:(so:Int)<64:=by omega
          clear hu I hF R8 aE aw c2;go_wp2_with fail;refine aP (fun w'=>w'=wr.drew) eQ eQ rfl ?_;generalize wr.drew=wd at *
          (repeat(first|refine bM ?_|refine bN ?_))
          refine lex_nil ?_;clear t1 t2 ti ts c4 a5 a1 a4;go_wp2
          go_roundw
          case rel=>exact⟨j+1,by omega,by rw[HS.o,<-am.o];rfl,by go_num,a0.o⟩
          case measure=>simp[intOf];omega
        ·obtain rfl:j=m:=by omega
         obtain⟨F,hF⟩:=I.get;have c1:=wQ hF (k:=i*64+s) eL;rw[Gy hM ad] at c1;have aq:=LH hF (i*64+s) eL;rw[<-a6.o];have R9:=au (Qw (X:=bG) I (p:=i*64+s) eL (TB c d e n j i s) (fun x=>LJ hM ad x));have bk:(i:Int)<(n:Int)+1:=by omega
         clear hF I ab al;go_wp2
         go_roundw
         case rel=>exact⟨s+1,by omega,by go_num,R9.o⟩
         case measure=>simp[intOf];omega
      ·obtain rfl:s=k:=by omega
       clear I;go_wp2
       go_roundw
       case rel=>exact⟨i,(i:Int)-1,by omega,rfl,rfl,an.o⟩
       case measure=>simp[intOf];try omega
end
theorem DW{base:Nat}{size:Nat}{cur:Array Value}(hb:base<=g)(h:w.heap[g]?=some (.cells cur e (0,0)))(hs:cur.size=c*size)(hc:c<=maxLen):w.ownsRow base e size (.slice (some ⟨g,0,none⟩) 0 c) 0 []:=by
 refine⟨by simp,.inr ⟨g,c,cur,rfl,hb,h,fy _,?_⟩⟩;simp[hs,hc]
theorem size_zeroCells(z:Value)(n:Nat)(hz:z.cells=#[z]):(Builtin.zeroCells z.cells n).size=n:=by
 simp[Builtin.zeroCells,hz]
def Ag(w:World)(e:TypeId)(n:Nat)(xs:List Value)(en:Ending)(w':World):Prop:=∃ A c,en=.returned (.slice A n c)/\bT w eR (aV e 1 (.slice A n c) n xs) w'
structure Oi(w:World)(A:eV)(R:List (List Value))(V:List (eV × Nat)):Prop where
 len:V.length=R.length
 src:Src w A R.length 1 (V.mapIdx fun i x=>.slice x.1 (R.getD i []).length x.2)
 row:∀ i (hi:i<R.length) x,V[i]?=some x->Src w x.1 R[i].length 1 R[i]
theorem Oi.at{R:List (List Value)}(h:Oi w A R V)(hn:0<R.length):
  ∃ b o,A=some ⟨b,o,none⟩/\∀ j (I:j<R.length),∃ B c,Src w B R[j].length 1 R[j]/\∀ w',Below w.heap.size w w'->w'.cell? ⟨b,o+j,none⟩=some (.slice B R[j].length c):=by
 obtain⟨b,o,rfl,hc⟩:=Src.open_ h.src hn eL;refine⟨b,o,rfl,fun j I=>?_⟩;have J:V[j]?=some (V[j]'(by rw[h.len];exact I)):=ic _;have h1:=h.row j I _ J;refine⟨_,(V[j]'(by rw[h.len];exact I)).2,h1,fun w' hb=>?_⟩
 have M:=hc j (.slice (V[j]'(by rw[h.len];exact I)).1 R[j].length (V[j]'(by rw[h.len];exact I)).2) (by
  rw[CC,J]
  simp[ki,I])
 rw[hb.cell (py _ _ M)];exact M
def fl(R:List (List Value))(k:Nat):List Value:=(R.take k).flatten
def mN(R:List (List Value)):List Value:=R.flatten
theorem WH(R:List (List Value)):fl R R.length=mN R:=by unfold fl mN;rw[kz]
theorem jc{R:List (List Value)}{k:Nat}(h:k<R.length):fl R (k+1)=fl R k++R[k]:=by
 unfold fl;rw[kq h,zz];simp
theorem Qx{R:List (List Value)}(k:Nat):(fl R k).length<=(mN R).length:=by
 unfold fl mN;have:=congrArg (fun l=>l.flatten.length) (ua k R);simp only[zz,gj] at this;omega
theorem uJ.x(h:uJ w A C V):Oi w A (C.map ints) V where
 len:=by rw[h.len,fY]
 src:=by
  rw[fY];have e:(fun i (x:eV × Nat)=>Value.slice x.1 ((C.map ints).getD i []).length x.2)=fun i x=>Value.slice x.1 (C.getD i []).length x.2:=by
   funext i x;by_cases hi:i<C.length
   ·simp[ki,hi,yJ]
   ·simp[ki,hi]
  rw[e];exact h.src
 row:=fun i hi x J=>by
  have I:i<C.length:=by simpa using hi
  have M:=(h.row i I x J).1;have e:(C.map ints)[i]=ints C[i]:=by simp
  rw[e,yJ];exact M
theorem Tp(k:Nat)(ad:k<=1000)(w:World):Calls Tryz.prog 71 #[.slice none 0 0,.int .i64 k] w (Ag w 3 0 []):=by
 by_cases hk:0<k
 case neg=>
  obtain rfl:k=0:=by omega
  go_enter Tryz.func71,Tryz.ntmps71
  go_wp2;go_ret;exact⟨none,0,rfl,eR,gu _ _ _,Mod.refl _ _,fun i hi=>hi.elim⟩
 obtain⟨ht,hi,M,ae⟩:=pI;obtain⟨i,hi,J,aa,I⟩:=info_parts hi;have hr:=fun ty=>Lib.run_append_nil_zeros (P:=Tryz.prog) w 39 3 ty 3 i (Value.int .i64 0) .i64 .i64 ht Tryz.underlying3 hi J k hk eL eL (by rw[I];omega);have ab:=grownCap_ge w k 0 3;have h:=grownCap_le_maxLen w k 0 3 (by unfold maxLen;omega);have HP:Hid (bT w eR (aV 3 1 (.slice (some ⟨w.heap.size,0,none⟩) 0 (grownCap w k 0 3)) 0 []) (w.drew.alloc (.cells (Builtin.zeroCells (Value.int .i64 0).cells k++Builtin.zeroCells (Value.int .i64 0).cells (grownCap w k 0 3-k)) 3))):=by
  refine au (vH (DW (fL _) (heap_alloc_new _ _) ?_ h) ((dB (fe _ _)).alloc (fL _) _));rw[Jn,size_zeroCells _ _ rfl,size_zeroCells _ _ rfl];omega
 generalize grownCap w k 0 3=cap at *
 have ac:cap<=9223372036854775807:=h;clear hi J aa I M ht h
 go_enter Tryz.func71,Tryz.ntmps71
 go_wp2_with (at_builtin;refine Lib.wpList_append_run _ rfl _ _ _ _ rfl _ _ rfl rfl _ _ (hr _) ?_;refine held ?_);refine lO.mk ?_;go_wp2;go_ret;exact⟨_,_,rfl,HP.o⟩
theorem Tq(k:Nat)(ad:k<=1000)(w:World):Calls Tryz.prog 70 #[.slice none 0 0,.int .i64 k] w (Ag w 39 0 []):=by
 by_cases hk:0<k
 case neg=>
  obtain rfl:k=0:=by omega
  go_enter Tryz.func70,Tryz.ntmps70
  go_wp2;go_ret;exact⟨none,0,rfl,eR,gu _ _ _,Mod.refl _ _,fun i hi=>hi.elim⟩
 obtain⟨ht,hi,M,ae⟩:=Ov;obtain⟨i,hi,J,aa,I⟩:=info_parts hi;have hr:=fun ty=>Lib.run_append_nil_zeros (P:=Tryz.prog) w 78 3 ty 39 i (Value.slice none 0 0) .i64 .i64 ht Tryz.underlying3 hi J k hk eL eL (by rw[I];omega);have ab:=grownCap_ge w k 0 39;have h:=grownCap_le_maxLen w k 0 39 (by unfold maxLen;omega);have HP:Hid (bT w eR (aV 39 1 (.slice (some ⟨w.heap.size,0,none⟩) 0 (grownCap w k 0 39)) 0 []) (w.drew.alloc (.cells (Builtin.zeroCells (Value.slice none 0 0).cells k++Builtin.zeroCells (Value.slice none 0 0).cells (grownCap w k 0 39-k)) 39))):=by
  refine au (vH (DW (fL _) (heap_alloc_new _ _) ?_ h) ((dB (fe _ _)).alloc (fL _) _));rw[Jn,size_zeroCells _ _ rfl,size_zeroCells _ _ rfl];omega
 generalize grownCap w k 0 39=cap at *
 have ac:cap<=9223372036854775807:=h;clear hi J aa I M ht h
 go_enter Tryz.func70,Tryz.ntmps70
 go_wp2_with (at_builtin;refine Lib.wpList_append_run _ rfl _ _ _ _ rfl _ _ rfl rfl _ _ (hr _) ?_;refine held ?_);refine lO.mk ?_;go_wp2;go_ret;exact⟨_,_,rfl,HP.o⟩
theorem Bh{R:List (List Value)}(h:Oi w A R V)(h1:R.length<=1000)(h2:(mN R).length<=1000):
  Calls Tryz.prog 48 #[.slice A R.length c] w (Ag w 3 (mN R).length (mN R)):=by
 have HA:=au h;have J:=au (fun k=>Qx (R:=R) k);obtain⟨n,hn⟩:∃ n,n=R.length:=⟨_,rfl⟩;have HN:=au hn;rw[<-hn] at h1;rw[<-hn];clear h hn
 go_enter Tryz.func48,Tryz.ntmps48
 go_wp2
 go_loop [3,11] (fun s i=>∃ k:Nat,k<=n/\s=.int .i64 (((fl R k).length:Nat):Int)/\i=.int .i64 k) (fun _ i=>n-(intOf i).toNat)
 case atStart=>exact⟨0,fy _,rfl,rfl⟩
 case round=>
  obtain⟨k,hk,rfl,rfl⟩:=hrel;by_cases ao:k<n
  ·have ab:k<R.length:=by rw[<-HN.o];exact ao
   obtain⟨b,o,rfl,hc⟩:=HA.o.at eL;obtain⟨B,cp,-,I⟩:=hc k ab;have c0:=I _ (fe _ _);have am:=J.o k;have ac:=J.o (k+1);rw[jc ab,gj] at ac;have HT:=au (show(fl R (k+1)).length=(fl R k).length+R[k].length by rw[jc ab,gj]);generalize (fl R k).length=s at *
   generalize R[k].length=t at *
   clear hc I;go_wp2
   go_round
   case rel=>exact⟨k+1,by omega,by rw[HT.o];go_num,by go_num⟩
   case measure=>simp[intOf];omega
  ·obtain rfl:k=n:=by omega
   have HT:=au (show(fl R k)=(mN R) by rw[HN.o,WH]);rw[HT.o];have KG:=au (Tp (mN R).length h2 w);go_wp2_with fail;refine KG.o.mono ?_;rintro e w1 ⟨A1,c1,rfl,hP⟩;have HR:=au (((aI.begin w).fresh aM hP).imp fun _ _ h=>ko h);clear KG hP;go_wp2;go_loopw [6,27] (fun v i wr=>∃ (j:Nat) (B:eV) (d:Nat),j<=k/\v=.slice B (fl R j).length d/\i=.int .i64 j/\aI eR w (aV 3 1 (.slice B (fl R j).length d) (fl R j).length (fl R j)) wr) (fun _ i _=>k-(intOf i).toNat)
   case atStart=>exact⟨0,_,_,fy _,rfl,rfl,HR.o⟩
   case round=>
    obtain⟨j,B,d,hj,rfl,rfl,hR⟩:=hrel;have M:=au hR;clear HR;by_cases ap:j<k
    ·have af:j<R.length:=by rw[<-HN.o];exact ap
     obtain⟨b,o,rfl,hc⟩:=HA.o.at eL;obtain⟨B2,cp,aa,I⟩:=hc j af;have c0:=I _ hR.cK;have HS:=au (aZ aa hR.cK);have am:=J.o j;have ac:=J.o (j+1);rw[jc af,gj] at ac;have ak:=au (jc af);generalize (fl R j)=xs at *
     generalize R[j]=ys at *
     clear hc I aa hR;go_wp2_with (at_builtin;refine held ?_);obtain⟨F7,ae,al⟩:=M.o.all dQ;refine lO.mk (jF rfl (.tmp 31) (.tmp 32) rfl pI _ 0 (v:=.slice B xs.length d) (n:=xs.length) (xs:=xs) rfl ae.1 (A:=B2) (m:=ys.length) (c:=cp) (news:=ys) rfl HS.o eL eS (fy _) ?_);intro v8 w8 ad ai ag;have S8:=al _ _ (jk ae ad ai ag);obtain⟨A8,c8,rfl⟩:=iy ad;rw[<-gj,<-ak.o] at S8;have an:=au S8;have e9:xs.length+ys.length=(fl R (j+1)).length:=by rw[ak.o,gj]
     rw[e9];clear ad ai ag al ae HS S8 M e9;go_wp2
     go_roundw
     case rel=>exact⟨j+1,A8,c8,by omega,rfl,by go_num,an.o⟩
     case measure=>simp[intOf];omega
    ·obtain rfl:j=k:=by omega
     rw[HT.o] at M;rw[HT.o];clear hR;go_wp2;go_ret;exact⟨B,d,rfl,M.o.post dQ |> fun h=>h⟩
theorem LK{R:List (List Value)}(h:Oi w A R V)(h1:R.length<=1000)(h2:(mN R).length<=1000):
  Calls Tryz.prog 47 #[.slice A R.length c] w (Ag w 39 (mN R).length (mN R)):=by
 have HA:=au h;have J:=au (fun k=>Qx (R:=R) k);obtain⟨n,hn⟩:∃ n,n=R.length:=⟨_,rfl⟩;have HN:=au hn;rw[<-hn] at h1;rw[<-hn];clear h hn
 go_enter Tryz.func47,Tryz.ntmps47
 go_wp2
 go_loop [3,11] (fun s i=>∃ k:Nat,k<=n/\s=.int .i64 (((fl R k).length:Nat):Int)/\i=.int .i64 k) (fun _ i=>n-(intOf i).toNat)
 case atStart=>exact⟨0,fy _,rfl,rfl⟩
 case round=>
  obtain⟨k,hk,rfl,rfl⟩:=hrel;by_cases ao:k<n
  ·have ab:k<R.length:=by rw[<-HN.o];exact ao
   obtain⟨b,o,rfl,hc⟩:=HA.o.at eL;obtain⟨B,cp,-,I⟩:=hc k ab;have c0:=I _ (fe _ _);have am:=J.o k;have ac:=J.o (k+1);rw[jc ab,gj] at ac;have HT:=au (show(fl R (k+1)).length=(fl R k).length+R[k].length by rw[jc ab,gj]);generalize (fl R k).length=s at *
   generalize R[k].length=t at *
   clear hc I;go_wp2
   go_round
   case rel=>exact⟨k+1,by omega,by rw[HT.o];go_num,by go_num⟩
   case measure=>simp[intOf];omega
  ·obtain rfl:k=n:=by omega
   have HT:=au (show(fl R k)=(mN R) by rw[HN.o,WH]);rw[HT.o];have KG:=au (Tq (mN R).length h2 w);go_wp2_with fail;refine KG.o.mono ?_;rintro e w1 ⟨A1,c1,rfl,hP⟩;have HR:=au (((aI.begin w).fresh aM hP).imp fun _ _ h=>ko h);clear KG hP;go_wp2;go_loopw [6,27] (fun v i wr=>∃ (j:Nat) (B:eV) (d:Nat),j<=k/\v=.slice B (fl R j).length d/\i=.int .i64 j/\aI eR w (aV 39 1 (.slice B (fl R j).length d) (fl R j).length (fl R j)) wr) (fun _ i _=>k-(intOf i).toNat)
   case atStart=>exact⟨0,_,_,fy _,rfl,rfl,HR.o⟩
   case round=>
    obtain⟨j,B,d,hj,rfl,rfl,hR⟩:=hrel;have M:=au hR;clear HR;by_cases ap:j<k
    ·have af:j<R.length:=by rw[<-HN.o];exact ap
     obtain⟨b,o,rfl,hc⟩:=HA.o.at eL;obtain⟨B2,cp,aa,I⟩:=hc j af;have c0:=I _ hR.cK;have HS:=au (aZ aa hR.cK);have am:=J.o j;have ac:=J.o (j+1);rw[jc af,gj] at ac;have ak:=au (jc af);generalize (fl R j)=xs at *
     generalize R[j]=ys at *
     clear hc I aa hR;go_wp2_with (at_builtin;refine held ?_);obtain⟨F7,ae,al⟩:=M.o.all dQ;refine lO.mk (jF rfl (.tmp 31) (.tmp 32) rfl Ov _ 0 (v:=.slice B xs.length d) (n:=xs.length) (xs:=xs) rfl ae.1 (A:=B2) (m:=ys.length) (c:=cp) (news:=ys) rfl HS.o eL eS (fy _) ?_);intro v8 w8 ad ai ag;have S8:=al _ _ (jk ae ad ai ag);obtain⟨A8,c8,rfl⟩:=iy ad;rw[<-gj,<-ak.o] at S8;have an:=au S8;have e9:xs.length+ys.length=(fl R (j+1)).length:=by rw[ak.o,gj]
     rw[e9];clear ad ai ag al ae HS S8 M e9;go_wp2
     go_roundw
     case rel=>exact⟨j+1,A8,c8,by omega,rfl,by go_num,an.o⟩
     case measure=>simp[intOf];omega
    ·obtain rfl:j=k:=by omega
     rw[HT.o] at M;rw[HT.o];clear hR;go_wp2;go_ret;exact⟨B,d,rfl,M.o.post dQ |> fun h=>h⟩
theorem Tt(h:Vec w A l)(hl:l.length<=1000):
  Calls Tryz.prog 46 #[.slice A l.length c] w (Ag w 3 l.length (ints l)):=by
 cases A with
 | none=>
  have h0:l.length=0:=by
   rcases FA l.length with e|e
   ·exact e
   ·obtain⟨b,o,h1,_⟩:=h.at e;cases h1
  obtain rfl:=List.length_eq_zero_iff.1 h0;clear h;have af:∀ (w:World),(binOp .eql 39 (.slice none 0 c) (.slice none 0 0)).run Tryz.prog w=.ok (.bool true) w:=fun w=>Lib.run_eql_slice_nil w _ _ none _ c 0 0 Tryz.underlying39
  show Calls Tryz.prog 46 #[.slice none 0 c] w (Ag w 3 0 [])
  go_enter Tryz.func46,Tryz.ntmps46
  go_wp2;go_ret;exact⟨none,0,rfl,eR,gu _ _ _,Mod.refl _ _,fun i hi=>hi.elim⟩
 | some ad=>
  have M:=(aI.begin w).fresh aM (DU w 3 1);have HR:=au (M.imp (fun _ _ h=>ko h));have HS:=au (aZ h (show Below w.heap.size w (w.alloc (.cells #[] 3)) from(fe _ _).alloc (fL _) _));have af:∀ (w:World),(binOp .eql 39 (.slice (some ad) l.length c) (.slice none 0 0)).run Tryz.prog w=.ok (.bool false) w:=fun w=>Lib.run_eql_slice_nil w _ _ (some ad) _ c 0 0 Tryz.underlying39;clear h M
  go_enter Tryz.func46,Tryz.ntmps46
  go_wp2_with (at_builtin;refine held ?_);obtain⟨F7,J,ac⟩:=HR.o.all dQ;refine lO.mk (jF rfl (.tmp 5) (.tmp 6) rfl pI _ 0 (v:=.slice (some ⟨w.heap.size,0,none⟩) 0 0) (n:=0) (xs:=[]) rfl J.1 (A:=some ad) (m:=l.length) (c:=c) (news:=ints l) rfl HS.o eL eS (fy _) ?_);intro v8 w8 I ab aa;have S8:=ac _ _ (jk J I ab aa);obtain⟨A8,c8,rfl⟩:=iy I;rw[mB,me] at S8;have ae:=au S8;rw[mB];clear I ab aa ac J HS S8 HR;go_wp2;go_ret;exact⟨A8,c8,rfl,ae.o.post dQ⟩
theorem cZ{fn:Func}{p u:Tmp}{I:TypeId}(h:fn.results=#[.cell p I,.tmp u]){P:Program}(tmps:Array Value)(w:World)(g:Nat)(t:TypeId)(cs:Array Value)(J:Nat × Nat){d:Array Field}(M:tmps.getD p undef=.pointer (some ⟨g,0,none⟩))(hg:w.heap[g]?=some (.cells cs t J))(hu:P.underlying I=some (.struct d))(hi:(P.info? I).map (·.size)=some cs.size):
  (results fn tmps).run P w=.ok (.tuple #[.agg cs,tmps.getD u undef]) w:=by
 rw[results_cell_tmp h,M];simp[asAddr,run_loadVar_row w g t I cs J (.struct d) hg hu rfl hi]
def kg:Array Value:=(gR 0 none 0 0 none 0 0 none 0 0)
def aY(A:eV)(c:Nat)(l:List Int):CH.aU:=aV 3 1 (.slice A l.length c) l.length (ints l)
variable{A1 A2 A3 J:eV}{g6 c1 c2 c3 I:Nat}{ps us vs:List Int}{k:Int}
theorem dS:(aY A c l).Ok:=dQ
instance {A:eV} {c:Nat} {l:List Int}:(aY A c l).Ok:=dS
theorem yK{x:Int}:aV 3 1 (.slice A (l.length+1) c) (l.length+1) (ints l++[.int .i64 x])=aY A c (l++[x]):=by
 unfold aY;have e:ints (l++[x])=ints l++[.int .i64 x]:=by simp[ints]
 rw[e,gj,pD]
theorem fE(h:aY A c l w F):Vec w A l:=iK h (Wz l)
theorem lH(w:World):aY none 0 [] w eR:=gu w 3 1
def iw(g6 ga:Nat)(k:Int)(A1 A2 A3:eV)(c1 c2 c3:Nat)(ps us vs:List Int):CH.aU:=
 aj (aY A1 c1 ps) (aj (aY A2 c2 us) (aj (aY A3 c3 vs) (aj (av ga (gR k A1 ps.length c1 A2 us.length c2 A3 vs.length c3) 89) (av g6 kg 89))))
theorem oz{ga:Nat}:(iw g6 ga k A1 A2 A3 c1 c2 c3 ps us vs).Ok:=aB dS (aB dS (aB dS (aB aF aF)))
instance {g6 ga:Nat} {k:Int} {A1 A2 A3:eV} {c1 c2 c3:Nat} {ps us vs:List Int}:(iw g6 ga k A1 A2 A3 c1 c2 c3 ps us vs).Ok:=oz
structure WI where
 k:Int
 ps:List Int
 us:List Int
 vs:List Int
def fO(C:List (List Int))(D E:List Int):WI:=⟨mZ (cF C) (lF D) (lF E) D.length E.length,YO (cF C) (lF D) (lF E) D.length E.length,B7 (cF C) (lF D) (lF E) D.length E.length,B8 (cF C) (lF D) (lF E) D.length E.length⟩
def Mb(w0 w:World)(v:Value)(x:WI):Prop:=
 ∃ A1 A2 A3 c1 c2 c3,v=.agg (gR x.k A1 x.ps.length c1 A2 x.us.length c2 A3 x.vs.length c3)/\Vec w A1 x.ps/\Vec w A2 x.us/\Vec w A3 x.vs/\bT w0 eR (aj (aY A2 c2 x.us) (aY A3 c3 x.vs)) w
def qg(w:World)(C:List (List Int))(D E:List Int)(e:Ending)(w':World):Prop:=
 ∃ v,e=.returned (.tuple #[v,.int .i64 (if mJ C D E then 0 else 1)])/\Below w.heap.size w w'/\Mb w w' v (if mJ C D E then fO C D E else ⟨0,[],[],[]⟩)
section
variable{w0 W:World}{X Y:CH.aU}
theorem jd{cs cs':Array Value}(hY:Y.Ok)(h:aI eR w0 (aj (av g cs t) Y) W)(i:Nat)(v:Value)(he:cs.setIfInBounds i v=cs'):aI eR w0 (aj (av g cs' t) Y) (W.setCell ⟨g,i,none⟩ v):=by
 obtain⟨F,hC,-,bk⟩:=h.take aF hY;rw[<-he];exact bk _ _ (uI hC i v)
theorem Qy{x:Int}(hX:X.Ok)(h:aI eR w0 (aj (aV 3 1 (.slice J (ps.length+1) I) (ps.length+1) (ints ps++[.int .i64 x])) (aj (aY A2 c2 us) (aj (aY A3 c3 vs) (aj (av M (gR k A1 ps.length c1 A2 us.length c2 A3 vs.length c3) 89) (aj (av g6 kg 89) X))))) W):
  aI eR w0 (aj (iw g6 M k J A2 A3 I c2 c3 (ps++[x]) us vs) X) (W.setCell ⟨M,1,none⟩ (.slice J (ps.length+1) I)):=by
 rw[yK] at h;have h1:=jd aO (h.perm (by ac_rfl:_=aj (av M (gR k A1 ps.length c1 A2 us.length c2 A3 vs.length c3) 89) (aj (aY J I (ps++[x])) (aj (aY A2 c2 us) (aj (aY A3 c3 vs) (aj (av g6 kg 89) X)))))) 1 (.slice J (ps.length+1) I) (cs':=(gR k J (ps++[x]).length I A2 us.length c2 A3 vs.length c3)) (by rw[gj,pD];rfl);unfold iw;exact h1.perm (by ac_rfl)
theorem aas{x:Int}(hX:X.Ok)(h:aI eR w0 (aj (aV 3 1 (.slice J (us.length+1) I) (us.length+1) (ints us++[.int .i64 x])) (aj (aY A1 c1 ps) (aj (aY A3 c3 vs) (aj (av M (gR k A1 ps.length c1 A2 us.length c2 A3 vs.length c3) 89) (aj (av g6 kg 89) X))))) W):
  aI eR w0 (aj (iw g6 M k A1 J A3 c1 I c3 ps (us++[x]) vs) X) (W.setCell ⟨M,2,none⟩ (.slice J (us.length+1) I)):=by
 rw[yK] at h;have h1:=jd aO (h.perm (by ac_rfl:_=aj (av M (gR k A1 ps.length c1 A2 us.length c2 A3 vs.length c3) 89) (aj (aY A1 c1 ps) (aj (aY J I (us++[x])) (aj (aY A3 c3 vs) (aj (av g6 kg 89) X)))))) 2 (.slice J (us.length+1) I) (cs':=(gR k A1 ps.length c1 J (us++[x]).length I A3 vs.length c3)) (by rw[gj,pD];rfl);unfold iw;exact h1.perm (by ac_rfl)
theorem mK(h:aI eR w0 (aj (iw g6 I k A1 A2 A3 c1 c2 c3 ps us vs) X) W):
  W.cell? ⟨I,0,none⟩=some (.int .i64 k)/\W.cell? ⟨I,1,none⟩=some (.slice A1 ps.length c1)/\W.cell? ⟨I,2,none⟩=some (.slice A2 us.length c2)/\W.cell? ⟨I,3,none⟩=some (.slice A3 vs.length c3)/\∀ i,W.frozen? ⟨I,i,none⟩=false:=by
 have M:=h;unfold iw at M;obtain⟨F,J⟩:=(M.perm (by ac_rfl:_=aj (av I (gR k A1 ps.length c1 A2 us.length c2 A3 vs.length c3) 89) (aj (aY A1 c1 ps) (aj (aY A2 c2 us) (aj (aY A3 c3 vs) (aj (av g6 kg 89) X)))))).fst;exact⟨ay J rfl,ay J rfl,ay J rfl,ay J rfl,aN J⟩
theorem Qz(h:aI eR w0 (aj (iw g6 I k A1 A2 A3 c1 c2 c3 ps us vs) X) W):
  aI eR w0 (aj (aY A1 c1 ps) (aj (aY A2 c2 us) (aj (aY A3 c3 vs) (aj (av I (gR k A1 ps.length c1 A2 us.length c2 A3 vs.length c3) 89) (aj (av g6 kg 89) X))))) W:=by
 unfold iw at h;exact h.perm (by ac_rfl)
theorem aat(h:aI eR w0 (aj (iw g6 I k A1 A2 A3 c1 c2 c3 ps us vs) X) W):
  aI eR w0 (aj (aY A2 c2 us) (aj (aY A1 c1 ps) (aj (aY A3 c3 vs) (aj (av I (gR k A1 ps.length c1 A2 us.length c2 A3 vs.length c3) 89) (aj (av g6 kg 89) X))))) W:=by
 unfold iw at h;exact h.perm (by ac_rfl)
theorem aau(h:aI eR w0 (aj (iw g6 I k A1 A2 A3 c1 c2 c3 ps us vs) X) W):
  aI eR w0 (aj (aY A3 c3 vs) (aj (aY A1 c1 ps) (aj (aY A2 c2 us) (aj (av I (gR k A1 ps.length c1 A2 us.length c2 A3 vs.length c3) 89) (aj (av g6 kg 89) X))))) W:=by
 unfold iw at h;exact h.perm (by ac_rfl)
theorem Tv{a b c d:CH.aU}(h1:a.Ok)(h2:b.Ok)(h3:c.Ok)(h4:d.Ok)(hX:X.Ok):(aj a (aj b (aj c (aj d X)))).Ok:=aB h1 (aB h2 (aB h3 (aB h4 hX)))
instance {a b c d:CH.aU} [h1:a.Ok] [h2:b.Ok] [h3:c.Ok] [h4:d.Ok] [hX:X.Ok]:(aj a (aj b (aj c (aj d X)))).Ok:=Tv h1 h2 h3 h4 hX
theorem og(W:World)(x:Int):Src (W.alloc (.cells (fR x) 3)) (some ⟨W.heap.size,0,none⟩) 1 1 [.int .i64 x]:=Src.one (heap_alloc_new W _) rfl
end
def I6(p:Prop)(O:CH.aU):CH.aU:=fun w F=>p/\O w F
variable{O X:CH.aU}{F0:Nat->Prop}{w0:World}{vs:List Value}
theorem vF{p:Prop}(h:O.Ok):(I6 p O).Ok:=⟨fun⟨_,h1⟩=>h.lt h1,fun⟨h0,h1⟩ hk=>⟨h0,h.keep h1 hk⟩⟩
instance {p:Prop} {O:CH.aU} [h:O.Ok]:(I6 p O).Ok:=vF h
def vl{α:Type}(O:α->CH.aU):CH.aU:=fun w F=>∃ x,O x w F
theorem Ah{α:Type}{O:α->CH.aU}(h:∀ x,(O x).Ok):(vl O).Ok:=⟨fun⟨x,h1⟩=>(h x).lt h1,fun⟨x,h1⟩ hk=>⟨x,(h x).keep h1 hk⟩⟩
instance {α:Type} {O:α→CH.aU} [h:∀ x,(O x).Ok]:(vl O).Ok:=Ah h
theorem DX{α:Type}{O:α->CH.aU}(h:aI F0 w0 (aj (vl O) X) W):∃ x,aI F0 w0 (aj (O x) X) W:=by
 obtain⟨F,⟨F1,F2,⟨x,h1⟩,h2,h3,h4⟩,h5⟩:=h.own;exact⟨x,⟨F,⟨F1,F2,h1,h2,h3,h4⟩,h5⟩,h.mod⟩
theorem yL{p:Prop}(h:aI F0 w0 (aj (I6 p O) X) W):p/\aI F0 w0 (aj O X) W:=by
 obtain⟨F,⟨F1,F2,⟨h0,h1⟩,h2,h3,h4⟩,h5⟩:=h.own;exact⟨h0,⟨F,⟨F1,F2,h1,h2,h3,h4⟩,h5⟩,h.mod⟩
theorem run_mk{α:Type}{p:α->Prop}{O:α->CH.aU}(x:α)(hp:p x)(h:aI F0 w0 (aj (O x) X) W):aI F0 w0 (aj (vl fun x=>I6 (p x) (O x)) X) W:=
 h.imp fun w F hh=>bD hh (fun F h1=>⟨x,hp,h1⟩) (fun _ h=>h)
theorem GA(h:aI F0 w0 (aj bG X) W):aI F0 w0 X W:=h.drop
section
variable{w0 W:World}{F0:Nat→Prop}{Z:CH.aU}{ops:Array Oper}{a:Act}{Q:Exit→Act→World→Prop}
end
theorem pE{d:Nat}(v:Value)(h:d<a.tmps.size):(a.put (some d) v).eval (.tmp d)=v:=by
 simp[Act.put,Act.eval,h]
section
variable{w W:World}{A B G A1 B1:eV}{c:Nat→Nat→Int}{d e:Nat→Int}{n m i:Nat}{RV:List Value}{x:Value}
theorem GJ.dup(h:GJ w A B G c d e n m)(hn:n<=6)(I:∀ i,i<n->∃ R cp,RV[i]?=some (.slice R m cp)/\∀ j,j<m->∃ b' M,R=some ⟨b',M,none⟩/\∀ w',Below w.heap.size w w'->w'.cell? ⟨b',M+j,none⟩=some (.int .i64 (c i j)))(hl:RV.length=n)(hi:i<n)(hx:RV[i]?=some x)(hb:Below w.heap.size w W)(h1:Src W A1 (n+1) 1 (RV++[x]))(h2:Src W B1 (n+1) 1 ((fv n fun j=>.int .i64 (d j))++[.int .i64 (d i)])):
  GJ W A1 B1 G (jZ c n i) (j3 d n i) e (n+1) m where
 n7:=by omega
 m6:=h.m6
 db:=fun r hr=>by unfold j3;split;exact h.db i hi;exact h.db r eL
 eb:=h.eb
 cb:=fun r hr j J=>by unfold jZ;split;exact h.cb i hi j J;exact h.cb r eL j J
 ds:=by
  have e:(fv (n+1) fun r=>Value.int .i64 (j3 d n i r))=(fv n fun j=>.int .i64 (d j))++[.int .i64 (d i)]:=by
   unfold fv;rw[vu,kp];congr 1
   ·exact nB fun r hr=>by
     have:r≠n:=by have:=List.mem_range.1 hr;omega
     simp[j3,this]
   ·simp[j3]
  rw[e];exact h2
 es:=aZ h.es hb
 rows:=by
  refine⟨_,h1,fun r hr=>?_⟩;by_cases e:r=n
  ·obtain⟨R,cp,g1,g2⟩:=I i hi;rw[hx] at g1;refine⟨R,cp,?_,fun j J=>?_⟩
   ·rw[e,B9 eL,hl,nq];simpa using g1
   ·obtain⟨b',M,k1,k2⟩:=g2 j J;exact⟨b',M,k1,fun w2 gE=>by simp only[jZ,if_pos e];exact k2 w2 (aC hb gE)⟩
  ·obtain⟨R,cp,g1,g2⟩:=I r eL;refine⟨R,cp,?_,fun j J=>?_⟩
   ·rw[xp eL];exact g1
   ·obtain⟨b',M,k1,k2⟩:=g2 j J;exact⟨b',M,k1,fun w2 gE=>by simp only[jZ,if_neg e];exact k2 w2 (aC hb gE)⟩
end
theorem aaw{R:CH.aU}(h:aI eR w0 R W):aI eR w0 (aj bG (aj bG R)) W:=by
 have h1:aI eR w0 (aj bG R) W:=h.one.imp fun _ _ h=>je h;exact h1.one.imp fun _ _ h=>je h
theorem fS(h:vs.length=1):∃ a,vs=[a]:=by
 match vs,h with
 | [a],_=>exact⟨a,rfl⟩
theorem Ex(h:vs.length=2):∃ a b,vs=[a,b]:=by
 match vs,h with
 | [a,b],_=>exact⟨a,b,rfl⟩
theorem WJ(h:vs.length=3):∃ a b c,vs=[a,b,c]:=by
 match vs,h with
 | [a,b,c],_=>exact⟨a,b,c,rfl⟩
theorem LM(A:eV)(n c:Nat)(w:World):(Instr.buildSlice 78 1 #[(0,.slice A n c)]).run Tryz.prog w=.ok (.slice (some ⟨w.heap.size,0,none⟩) 1 1) (w.alloc (.cells (il A n c) 39)):=by go_simp
theorem uK(x:Int)(w:World):(Instr.buildSlice 39 1 #[(0,.int .i64 x)]).run Tryz.prog w=.ok (.slice (some ⟨w.heap.size,0,none⟩) 1 1) (w.alloc (.cells (fR x) 3)):=by go_simp
section
variable{w0 W:World}{F0:Nat→Prop}{Z:CH.aU}{ops:Array Oper}{a:Act}{Q:Exit→Act→World→Prop}
theorem oJ{o:Oper}(hrun:(execOp a.eval o).run Tryz.prog W=.ok (.value v) w')(h:K (a.put o.dst v) w'):o.wp Tryz.prog a W K Q:=by
 unfold Oper.wp;rw[hrun];exact h
theorem jI{o:Oper}{I:TypeId}{x:Operand}{r:Value}(h:o.op=.buildSlice I 1 #[(0,x)])(J:a.eval x=v)(M:(Instr.buildSlice I 1 #[(0,v)]).run Tryz.prog w=.ok r w'):(execOp a.eval o).run Tryz.prog w=.ok (.value r) w':=by
 unfold execOp;simp only[h,AF,lk,pL,J];simp only[j9,M,ky,kB]
theorem Tw{o:Oper}{x:Operand}(ho:o.op=.assign x)(hx:a.eval x=v)(h:K (a.put o.dst v) W):o.wp Tryz.prog a W K Q:=by
 refine oJ (v:=v) (w':=W) ?_ h;unfold execOp;simp only[ho,hx,kB]
end
theorem WK{J:Nat}{vs:List Int}(h:aI eR w0 (aj (iw g6 J k A1 A2 A3 c1 c2 c3 ps us vs) X) W):
  W.cell? ⟨g6,0,none⟩=some (.int .i64 0)/\W.cell? ⟨g6,1,none⟩=some (.slice none 0 0)/\W.cell? ⟨g6,2,none⟩=some (.slice none 0 0)/\W.cell? ⟨g6,3,none⟩=some (.slice none 0 0)/\∀ i,W.frozen? ⟨g6,i,none⟩=false:=by
 unfold iw at h;obtain⟨F,I⟩:=(h.perm (by ac_rfl:_=aj (av g6 kg 89) (aj (aY A1 c1 ps) (aj (aY A2 c2 us) (aj (aY A3 c3 vs) (aj (av J (gR k A1 ps.length c1 A2 us.length c2 A3 vs.length c3) 89) X)))))).fst;exact⟨ay I rfl,ay I rfl,ay I rfl,ay I rfl,aN I⟩
theorem WM{I:Nat}{vs:List Int}(hX:X.Ok)(h:aI eR w0 (aj (iw g6 I k A1 A2 A3 c1 c2 c3 ps us vs) X) W):
  aI eR w0 (aj (av g6 (gR k A1 ps.length c1 A2 us.length c2 A3 vs.length c3) 89) (aj (aY A1 c1 ps) (aj (aY A2 c2 us) (aj (aY A3 c3 vs) X)))) ((((W.setCell ⟨g6,0,none⟩ (.int .i64 k)).setCell ⟨g6,1,none⟩ (.slice A1 ps.length c1)).setCell ⟨g6,2,none⟩ (.slice A2 us.length c2)).setCell ⟨g6,3,none⟩ (.slice A3 vs.length c3)):=by
 unfold iw at h;have h1:=h.perm (by ac_rfl:_=aj (av g6 kg 89) (aj (aY A1 c1 ps) (aj (aY A2 c2 us) (aj (aY A3 c3 vs) (aj (av I (gR k A1 ps.length c1 A2 us.length c2 A3 vs.length c3) 89) X)))));have J:(aj (aY A1 c1 ps) (aj (aY A2 c2 us) (aj (aY A3 c3 vs) (aj (av I (gR k A1 ps.length c1 A2 us.length c2 A3 vs.length c3) 89) X)))).Ok:=Tv dS dS dS aF hX;have h2:=jd J h1 0 (.int .i64 k) (cs':=(gR k none 0 0 none 0 0 none 0 0)) rfl;have h3:=jd J h2 1 (.slice A1 ps.length c1) (cs':=(gR k A1 ps.length c1 none 0 0 none 0 0)) rfl;have h4:=jd J h3 2 (.slice A2 us.length c2) (cs':=(gR k A1 ps.length c1 A2 us.length c2 none 0 0)) rfl;have h5:=jd J h4 3 (.slice A3 vs.length c3) (cs':=(gR k A1 ps.length c1 A2 us.length c2 A3 vs.length c3)) rfl;have M:=h5.perm (by ac_rfl:_=aj (av I (gR k A1 ps.length c1 A2 us.length c2 A3 vs.length c3) 89) (aj (av g6 (gR k A1 ps.length c1 A2 us.length c2 A3 vs.length c3) 89) (aj (aY A1 c1 ps) (aj (aY A2 c2 us) (aj (aY A3 c3 vs) X)))));exact M.drop
theorem WO{cs:Array Value}{vs:List Int}(h:aI eR w0 (aj (av g6 cs 89) (aj (aY A1 c1 ps) (aj (aY A2 c2 us) (aj (aY A3 c3 vs) X)))) W):
  Mb w0 W (.agg (gR k A1 ps.length c1 A2 us.length c2 A3 vs.length c3)) ⟨k,ps,us,vs⟩:=by
 obtain⟨F1,I⟩:=h.kQ.fst;obtain⟨F2,J⟩:=(h.perm (by ac_rfl:_=aj (aY A2 c2 us) (aj (av g6 cs 89) (aj (aY A1 c1 ps) (aj (aY A3 c3 vs) X))))).fst;obtain⟨F3,M⟩:=(h.perm (by ac_rfl:_=aj (aY A3 c3 vs) (aj (av g6 cs 89) (aj (aY A1 c1 ps) (aj (aY A2 c2 us) X))))).fst;exact⟨A1,A2,A3,c1,c2,c3,rfl,fE I,fE J,fE M,((h.perm (by ac_rfl:_=aj (aj (av g6 cs 89) (aj (aY A1 c1 ps) X)) (aj (aY A2 c2 us) (aY A3 c3 vs)))).drop).post aO⟩
theorem WQ(h:aI eR w0 (av g6 (gR 0 none 0 0 none 0 0 none 0 0) 89) W):
  aI eR w0 (av g6 (gR 0 none 0 0 none 0 0 none 0 0) 89) ((((W.setCell ⟨g6,0,none⟩ (.int .i64 0)).setCell ⟨g6,1,none⟩ (.slice none 0 0)).setCell ⟨g6,2,none⟩ (.slice none 0 0)).setCell ⟨g6,3,none⟩ (.slice none 0 0)):=by
 have h0:aI eR w0 (aj (av g6 (gR 0 none 0 0 none 0 0 none 0 0) 89) bG) W:=h.one;have J:=jd aM h0 0 (.int .i64 0) (cs':=(gR 0 none 0 0 none 0 0 none 0 0)) rfl;have M:=jd aM J 1 (.slice none 0 0) (cs':=(gR 0 none 0 0 none 0 0 none 0 0)) rfl;have h4:=jd aM M 2 (.slice none 0 0) (cs':=(gR 0 none 0 0 none 0 0 none 0 0)) rfl;have I:=jd aM h4 3 (.slice none 0 0) (cs':=(gR 0 none 0 0 none 0 0 none 0 0)) rfl;exact I.imp fun _ _ h=>ko h
theorem LP{c:Nat->Nat->Int}{d e:Nat->Int}{m k:Nat}{x:Int}{qs:List Int}{U T:Nat->Bool}(h:YO c d e n m=ps++gr c d e n m (k+1) U)(hg:gr c d e n m (k+1) U=x::gr c d e n m k T):YO c d e n m=(ps++[x])++gr c d e n m k T:=by
 rw[h,hg];simp
variable{u v1 v2:Value}{d b:Nat}{J ox M:Operand}{vs:List Int}
theorem LQ{o:Oper}{x:Operand}(ho:o.op=.call { callee:=.value (.func 47),args:=#[x],argTypes:=#[178] })(hx:a.eval x=v)(W:World):(execOp a.eval o).run Tryz.prog W=.ok (.enter 47 #[v]) W:=by
 unfold execOp;simp only[ho,resolve,AF,lk,pL,hx];go_simp
theorem LU{o:Oper}{x:Operand}(ho:o.op=.call { callee:=.value (.func 48),args:=#[x],argTypes:=#[78] })(hx:a.eval x=v)(W:World):(execOp a.eval o).run Tryz.prog W=.ok (.enter 48 #[v]) W:=by
 unfold execOp;simp only[ho,resolve,AF,lk,pL,hx];go_simp
theorem LV{o:Oper}{f:FuncId}{args:Array Value}(I:(execOp a.eval o).run Tryz.prog W=.ok (.enter f args) W)(h:Calls Tryz.prog f args W (fun e w'=>∃ r,e=.returned r/\K (a.put o.dst r) w')):o.wp Tryz.prog a W K Q:=by
 unfold Oper.wp;rw[I];refine C6 h ?_;rintro e w' ⟨r,rfl,hK⟩;exact hK
theorem LW(v1 v2:Value)(A B:eV)(n c m d:Nat)(w:World)(h1:v1=.slice A n c)(h2:v2=.slice B m d):(Instr.buildSlice 178 2 #[(0,v1),(1,v2)]).run Tryz.prog w=.ok (.slice (some ⟨w.heap.size,0,none⟩) 2 2) (w.alloc (.cells #[v1,v2] 78)):=by
 subst h1 h2;go_simp
theorem EW(v1 v2:Value)(A B:eV)(n c m d:Nat)(w:World)(h1:v1=.slice A n c)(h2:v2=.slice B m d):(Instr.buildSlice 78 2 #[(0,v1),(1,v2)]).run Tryz.prog w=.ok (.slice (some ⟨w.heap.size,0,none⟩) 2 2) (w.alloc (.cells #[v1,v2] 39)):=by
 subst h1 h2;go_simp
theorem Bj{o:Oper}{I:TypeId}{x y:Operand}{r:Value}(h:o.op=.buildSlice I 2 #[(0,x),(1,y)])(J:a.eval x=v)(M:a.eval y=u)(hb:(Instr.buildSlice I 2 #[(0,v),(1,u)]).run Tryz.prog w=.ok r w'):(execOp a.eval o).run Tryz.prog w=.ok (.value r) w':=by
 unfold execOp;simp only[h,AF,lk,pL,J,M];simp only[j9,hb,ky,kB]
theorem QA(h:av g #[u,v] t W F)(M:u.oneCell'=true)(J:v.oneCell'=true):Src W (some ⟨g,0,none⟩) 2 1 [u,v]:=by
 refine⟨rfl,fun x I=>?_,fun _=>⟨_,rfl,fun j x I=>?_⟩⟩
 ·simp at I;rcases I with rfl|rfl<;>assumption
 ·rw[Addr.Ad];exact ay h (by simpa using I)
theorem LX{D:eV}{m:Nat}{ys:List Value}(h:Src W D 2 1 [.slice A n c,.slice B m d])(J:Src W A n 1 xs)(h2:Src W B m 1 ys):Oi W D [xs,ys] [(A,c),(B,d)]:=by
 have M:xs.length=n:=by have:=J.1;omega
 have e2:ys.length=m:=by have:=h2.1;omega
 refine⟨rfl,?_,fun i hi x I=>?_⟩
 ·have:([(A,c),(B,d)]:List (eV × Nat)).mapIdx (fun i x=>Value.slice x.1 (([xs,ys]:List (List Value)).getD i []).length x.2)=[.slice A n c,.slice B m d]:=by
   simp[M,e2]
  rw[this];exact h
 ·match i,hi,I with
  | 0,_,I=>simp at I;subst I;simpa[M] using J
  | 1,_,I=>simp at I;subst I;simpa[e2] using h2
def I7(A:eV)(n c:Nat)(RV:List Value)(x:Value):List Value->CH.aU
 | []=>bG
 | [v]=>vl fun g:Nat=>I6 (v=.slice (some ⟨g,0,none⟩) 1 1) (av g #[x] 39)
 | [v1,v2]=>vl fun p:Nat × Nat=>I6 (v1=.slice (some ⟨p.1,0,none⟩) 1 1/\v2=.slice (some ⟨p.2,0,none⟩) 2 2) (aj (av p.1 #[x] 39) (av p.2 #[.slice A n c,v1] 78))
 | [_,_,v3]=>vl fun p:eV × Nat=>I6 (v3=.slice p.1 (n+1) p.2) (aV 39 1 v3 (n+1) (RV++[x]))
 | _=>bG
def Oj(B:eV)(n d:Nat)(dv:List Value)(y v115:Value):List Value->CH.aU
 | []=>bG
 | [v]=>vl fun g:Nat=>I6 (v=.slice (some ⟨g,0,none⟩) 2 2) (av g #[.slice B n d,v115] 39)
 | [_,v]=>vl fun p:eV × Nat=>I6 (v=.slice p.1 (n+1) p.2) (aV 3 1 v (n+1) (dv++[y]))
 | _=>bG
theorem aax{RV:List Value}{x:Value}:∀ vs,(I7 A n c RV x vs).Ok
 | []=>aM
 | [_]=>Ah fun _=>vF aF
 | [_,_]=>Ah fun _=>vF aO
 | [_,_,_]=>Ah fun _=>vF dQ
 | _::_::_::_::_=>aM
theorem aay{dv:List Value}{y v115:Value}:∀ vs,(Oj B n d dv y v115 vs).Ok
 | []=>aM
 | [_]=>Ah fun _=>vF aF
 | [_,_]=>Ah fun _=>vF dQ
 | _::_::_::_=>aM
section
variable{w0 W:World}{Z:CH.aU}{a:Act}{o:Oper}{Q:Exit→Act→World→Prop}{A B B':eV}{n c d c':Nat}{RV dv:List Value}{x y:Value}
theorem acZ(I:o.op=.buildSlice 78 1 #[(0,J)])(M:a.eval J=x)(hb:∀ w:World,(Instr.buildSlice 78 1 #[(0,x)]).run Tryz.prog w=.ok (.slice (some ⟨w.heap.size,0,none⟩) 1 1) (w.alloc (.cells #[x] 39)))(hZ:Z.Ok)(h:aI eR w0 (aj (I7 A n c RV x []) Z) W):
  o.wp Tryz.prog a W (fun a' w'=>∃ v,a'=a.put o.dst v/\aI eR w0 (aj (I7 A n c RV x ([]++[v])) Z) w') Q:=by
 refine oJ (jI I M (hb W)) ⟨_,rfl,?_⟩;exact run_mk (p:=fun g:Nat=>(Value.slice (some ⟨W.heap.size,0,none⟩) 1 1)=.slice (some ⟨g,0,none⟩) 1 1) W.heap.size rfl ((GA h).fresh hZ (dU W #[x] 39))
theorem ac0{J:Value}(I:o.op=.buildSlice 178 2 #[(0,ox),(1,M)])(hx:a.eval ox=.slice A n c)(hy:a.eval M=J)(hZ:Z.Ok)(h:aI eR w0 (aj (I7 A n c RV x [J]) Z) W):
  o.wp Tryz.prog a W (fun a' w'=>∃ v,a'=a.put o.dst v/\aI eR w0 (aj (I7 A n c RV x ([J]++[v])) Z) w') Q:=by
 obtain⟨g,h1⟩:=DX h;obtain⟨rfl,h2⟩:=yL h1;refine oJ (Bj I hx hy (LW _ _ _ _ _ _ _ _ W rfl rfl)) ⟨_,rfl,?_⟩;exact run_mk (p:=fun p:Nat × Nat=>(Value.slice (some ⟨g,0,none⟩) 1 1)=.slice (some ⟨p.1,0,none⟩) 1 1/\(Value.slice (some ⟨W.heap.size,0,none⟩) 2 2)=.slice (some ⟨p.2,0,none⟩) 2 2) (O:=fun p=>aj (av p.1 #[x] 39) (av p.2 (fx A n c (some ⟨g,0,none⟩) 1 1) 78)) (g,W.heap.size) ⟨rfl,rfl⟩
  ((h2.fresh aO (dU W (fx A n c (some ⟨g,0,none⟩) 1 1) 78)).perm (by ac_rfl))
theorem ac1(M:o.op=.call { callee:=.value (.func 47),args:=#[ox],argTypes:=#[178] })(hx:a.eval ox=v2)(h1:x.oneCell'=true)(hn:n<=100)(hRV:Src W A n 1 RV)(hZ:Z.Ok)(h:aI eR w0 (aj (I7 A n c RV x [v1,v2]) Z) W):
  o.wp Tryz.prog a W (fun a' w'=>∃ v,a'=a.put o.dst v/\aI eR w0 (aj (I7 A n c RV x ([v1,v2]++[v])) Z) w') Q:=by
 obtain⟨⟨g,g2⟩,e1⟩:=DX h;obtain⟨⟨rfl,rfl⟩,e2⟩:=yL e1;have e3:=e2.assoc;obtain⟨F1,J⟩:=e3.fst;obtain⟨F2,aa⟩:=e3.kQ.fst;have hM:=LX (QA aa rfl rfl) hRV (Src.one J.1 h1);have hl:RV.length=n:=by have:=hRV.1;omega
 have I:mN [RV,[x]]=RV++[x]:=by simp[mN]
 have K:=LK (c:=2) hM i7 (by rw[I];simp;omega);refine LV (LQ M hx W) (K.mono ?_);rintro e w' ⟨A5,c5,rfl,hP⟩;rw[I,gj,hl] at hP;exact⟨_,by rw[I,gj,hl];rfl,_,rfl,run_mk (p:=fun p:eV × Nat=>(Value.slice A5 (n+1) c5)=.slice p.1 (n+1) p.2) (A5,c5) rfl (e3.drop.drop.fresh hZ hP)⟩
theorem ac2(I:o.op=.buildSlice 78 2 #[(0,M),(1,J)])(hx:a.eval M=.slice B n d)(hy:a.eval J=.slice B' 1 c')(hZ:Z.Ok)(h:aI eR w0 (aj (Oj B n d dv y (.slice B' 1 c') []) Z) W):
  o.wp Tryz.prog a W (fun a' w'=>∃ v,a'=a.put o.dst v/\aI eR w0 (aj (Oj B n d dv y (.slice B' 1 c') ([]++[v])) Z) w') Q:=by
 refine oJ (Bj I hx hy (EW _ _ _ _ _ _ _ _ W rfl rfl)) ⟨_,rfl,?_⟩;exact run_mk (p:=fun g:Nat=>(Value.slice (some ⟨W.heap.size,0,none⟩) 2 2)=.slice (some ⟨g,0,none⟩) 2 2) W.heap.size rfl ((GA h).fresh hZ (dU W (fx B n d B' 1 c') 39))
theorem ac3{J:Value}(M:o.op=.call { callee:=.value (.func 48),args:=#[ox],argTypes:=#[78] })(hx:a.eval ox=J)(hn:n<=100)(hdv:Src W B n 1 dv)(hy:Src W B' 1 1 [y])(hZ:Z.Ok)(h:aI eR w0 (aj (Oj B n d dv y (.slice B' 1 c') [J]) Z) W):
  o.wp Tryz.prog a W (fun a' w'=>∃ v,a'=a.put o.dst v/\aI eR w0 (aj (Oj B n d dv y (.slice B' 1 c') ([J]++[v])) Z) w') Q:=by
 obtain⟨g,e1⟩:=DX h;obtain⟨rfl,e3⟩:=yL e1;obtain⟨F2,aa⟩:=e3.fst;have hM:=LX (QA aa rfl rfl) hdv hy;have hl:dv.length=n:=by have:=hdv.1;omega
 have I:mN [dv,[y]]=dv++[y]:=by simp[mN]
 have K:=Bh (c:=2) hM i7 (by rw[I];simp;omega);refine LV (LU M hx W) (K.mono ?_);rintro e w' ⟨A5,c5,rfl,hP⟩;rw[I,gj,hl] at hP;exact⟨_,by rw[I,gj,hl];rfl,_,rfl,run_mk (p:=fun p:eV × Nat=>(Value.slice A5 (n+1) c5)=.slice p.1 (n+1) p.2) (A5,c5) rfl (e3.drop.fresh hZ hP)⟩
theorem aaz{R:CH.aU}{v3 u1 u2:Value}(h:aI eR w0 (aj (I7 A n c RV x [v1,v2,v3]) (aj (Oj B n d dv y (.slice B' 1 c') [u1,u2]) R)) W):
  ∃ M c5 I J,v3=.slice M (n+1) c5/\u2=.slice I (n+1) J/\aI eR w0 (aj (aV 39 1 (.slice M (n+1) c5) (n+1) (RV++[x])) (aj (aV 3 1 (.slice I (n+1) J) (n+1) (dv++[y])) R)) W:=by
 obtain⟨⟨M,c5⟩,e1⟩:=DX h;obtain⟨rfl,e2⟩:=yL e1;obtain⟨⟨I,J⟩,e3⟩:=DX e2.kQ;obtain⟨rfl,e4⟩:=yL e3;exact⟨M,c5,I,J,rfl,rfl,e4.kQ⟩
end
theorem WR(bd J n d i:Nat)(hi:i<n)(hn:n<=d)(w:World):(Instr.slice 39 (.slice (some ⟨bd,J,none⟩) n d) (some (.int .i64 (i:Int))) (some (.int .i64 ((i:Int)+1))) none).run Tryz.prog w=.ok (.slice (some ⟨bd,J+i,none⟩) 1 (d-i)) w:=by
 obtain⟨ht,h,hz,ac⟩:=pI;obtain⟨ad,h,ab,I,aa⟩:=info_parts h;have h0:(0:Int)<=i:=by omega
 have h1:(0:Int)<=(i:Int)+1:=by omega
 have h2:((i:Int)+1).toNat=i+1:=by omega
 have h3:(i:Int)+1<=(d:Int):=by omega
 have h4:(i:Int)<=(i:Int)+1:=by omega
 have h5:i≠d:=by omega
 have M:i+1-i=1:=by omega
 have h7:¬ d<=i:=by omega
 have h8:¬ d=i:=by omega
 have h9:d-i≠0:=by omega
 simp[Instr.slice,run_underlying ht,Instr.sliceBounds,Instr.sliceBound,asIntOf,sizeOf,typeInfo,h,I,Addr.add,h0,h1,h2,h3,h4,h5,M,h7,h8,h9]
theorem oK:∀ (ds:List Nat) (vs:List Value) (a:Act),(fW a ds vs).tmps.size=a.tmps.size
 | [],_,_=>by simp[fW]
 | _::_,[],_=>rfl
 | e::ds,u::vs,a=>by
  simp only[fW];rw[oK ds vs];simp[Act.put]
theorem aaA(hX:X.Ok)(h:aI eR w0 (aj (aY A3 c3 vs) (aj (iw g6 I k A1 A2 none c1 c2 0 ps us []) X)) W):
  aI eR w0 (aj (iw g6 I k A1 A2 A3 c1 c2 c3 ps us vs) X) (W.setCell ⟨I,3,none⟩ (.slice A3 vs.length c3)):=by
 unfold iw at h;have J:=(h.perm (by ac_rfl:_=aj (aY none 0 []) (aj (aY A3 c3 vs) (aj (aY A1 c1 ps) (aj (aY A2 c2 us) (aj (av I (gR k A1 ps.length c1 A2 us.length c2 none 0 0) 89) (aj (av g6 kg 89) X))))))).drop;have M:=jd aO (J.perm (by ac_rfl:_=aj (av I (gR k A1 ps.length c1 A2 us.length c2 none 0 0) 89) (aj (aY A3 c3 vs) (aj (aY A1 c1 ps) (aj (aY A2 c2 us) (aj (av g6 kg 89) X)))))) 3 (.slice A3 vs.length c3) (cs':=(gR k A1 ps.length c1 A2 us.length c2 A3 vs.length c3)) rfl;unfold iw;exact M.perm (by ac_rfl)
theorem aaB{Y:CH.aU}{x:Int}(hY:Y.Ok)(hi:i<l.length)(h:aI eR w0 (aj (aY (some ⟨b,0,none⟩) c l) Y) W):aI eR w0 (aj (aY (some ⟨b,0,none⟩) c (l.set i x)) Y) (W.setCell ⟨b,i,none⟩ (.int .i64 x)):=by
 obtain⟨F,M,-,bk⟩:=h.take dS hY;have I:=vI M (i:=i) eL (.int .i64 x);have e:(ints l).set i (.int .i64 x)=ints (l.set i x):=by simp[ints,vz]
 rw[e] at I;have J:=bk (aY (some ⟨b,0,none⟩) c (l.set i x)) _ (by unfold aY;rw[rI];exact I);exact J
theorem aaC{m y:Nat}(f g:Nat->Int)(J:y<m):((List.range m).map (fun t=>if t<y then g t else f t)).set y (g y)=(List.range m).map (fun t=>if t<y+1 then g t else f t):=by
 refine Kf i7 fun i M I=>?_;rw[Kp];simp only[mx,I0];by_cases e:y=i
 ·subst e;simp
 ·rw[if_neg e];by_cases h:i<y
  ·rw[if_pos h,if_pos eL]
  ·rw[if_neg h,if_neg eL]
theorem aaD(hn:n=vs.length)(h:aI eR w0 (aj (aY A3 c3 vs) (aj (aY A1 c1 ps) (aj (aY A2 c2 us) (aj (av I (gR k A1 ps.length c1 A2 us.length c2 A3 n c3) 89) (aj (av g6 kg 89) X))))) W):
  aI eR w0 (aj (iw g6 I k A1 A2 A3 c1 c2 c3 ps us vs) X) W:=by
 subst hn;unfold iw;exact h.perm (by ac_rfl)
def gI(pg gg:Nat)(rb:Nat->Nat)(f:Nat->Nat->Int)(i n m:Nat):CH.aU:=
 aj (av pg (il (some ⟨gg,0,none⟩) (n+1) (n+1)) 78)
  (aj (aV 39 1 (.slice (some ⟨gg,0,none⟩) (n+1) (n+1)) (n+1) (fv (n+1) fun r=>if i<=r then .slice (some ⟨rb r,0,none⟩) (m+1) (m+1) else .slice none 0 0))
   (nK (List.range' i (n+1-i)) fun r=>kJ (rb r) (m+1) (f r)))
variable{r y:Nat}
theorem uL{pg gg:Nat}{rb:Nat->Nat}{f:Nat->Nat->Int}{m:Nat}:(gI pg gg rb f i n m).Ok:=aB aF (aB dQ (Ce fun _=>Aj))
instance {pg gg:Nat} {rb:Nat→Nat} {f:Nat→Nat→Int} {i n m:Nat}:(gI pg gg rb f i n m).Ok:=uL
section
variable{w0 W:World}{X:CH.aU}{pg gg:Nat}{rb:Nat→Nat}{f:Nat→Nat→Int}{i n m:Nat}
theorem yM(h:aI eR w0 (aj (gI pg gg rb f i n m) X) W):W.cell? ⟨pg,0,none⟩=some (.slice (some ⟨gg,0,none⟩) (n+1) (n+1)):=by
 unfold gI at h;obtain⟨F,hC⟩:=h.assoc.fst;exact ay hC rfl
theorem yN(h:aI eR w0 (aj (gI pg gg rb f i n m) X) W)(I:i<=r)(M:r<=n):W.cell? ⟨gg,r,none⟩=some (.slice (some ⟨rb r,0,none⟩) (m+1) (m+1)):=by
 unfold gI at h;obtain⟨F,J⟩:=h.assoc.kQ.assoc.fst;have:=nL J (qG (fun r=>if i<=r then Value.slice (some ⟨rb r,0,none⟩) (m+1) (m+1) else .slice none 0 0) (show r<n+1 by omega));rw[if_pos I] at this;exact this
theorem yO(h:aI eR w0 (aj (gI pg gg rb f i n m) X) W)(hr:i<=r)(J:r<=n):
  aI eR w0 (aj (kJ (rb r) (m+1) (f r)) (aj (nK ((List.range' i (n+1-i)).erase r) fun r=>kJ (rb r) (m+1) (f r)) (aj (av pg (il (some ⟨gg,0,none⟩) (n+1) (n+1)) 78)
  (aj (aV 39 1 (.slice (some ⟨gg,0,none⟩) (n+1) (n+1)) (n+1) (fv (n+1) fun r=>if i<=r then .slice (some ⟨rb r,0,none⟩) (m+1) (m+1) else .slice none 0 0)) X)))) W:=by
 unfold gI at h
 have M:=h.perm (by ac_rfl:_=aj (nK (List.range' i (n+1-i)) fun r=>kJ (rb r) (m+1) (f r)) (aj (av pg (il (some ⟨gg,0,none⟩) (n+1) (n+1)) 78)
  (aj (aV 39 1 (.slice (some ⟨gg,0,none⟩) (n+1) (n+1)) (n+1) (fv (n+1) fun r=>if i<=r then .slice (some ⟨rb r,0,none⟩) (m+1) (m+1) else .slice none 0 0)) X)))
 have hm:r ∈ List.range' i (n+1-i):=by rw[Jx];omega
 exact(M.imp fun w F I=>bD I (fun F h=>Ms hm h) (fun _ h=>h)).assoc
theorem yP(h:aI eR w0 (aj (gI pg gg rb f i n m) X) W)(hr:i<=r)(hr2:r<=n)(hy:y<=m):W.cell? ⟨rb r,y,none⟩=some (.int .i64 (f r y)):=by
 obtain⟨F,hN⟩:=(yO h hr hr2).fst;exact adh hN eL
theorem Tz(h:aI eR w0 (aj (gI pg gg rb f i n m) X) W)(hr:i<=r)(hr2:r<=n)(y:Nat):W.frozen? ⟨rb r,y,none⟩=false:=by
 obtain⟨F,hN⟩:=(yO h hr hr2).fst;exact Xk hN y eL
theorem LY(hX:X.Ok)(h:aI eR w0 (aj (gI pg gg rb f i n m) X) W)(hr:i<=r)(I:r<=n)(hy:y<=m)(x:Int){f':Nat->Nat->Int}(hf:∀ a b,f' a b=if a=r/\b=y then x else f a b):
  aI eR w0 (aj (gI pg gg rb f' i n m) X) (W.setCell ⟨rb r,y,none⟩ (.int .i64 x)):=by
 have h1:=yO h hr I
 have oY:(aj (nK ((List.range' i (n+1-i)).erase r) fun r=>kJ (rb r) (m+1) (f r)) (aj (av pg (il (some ⟨gg,0,none⟩) (n+1) (n+1)) 78)
  (aj (aV 39 1 (.slice (some ⟨gg,0,none⟩) (n+1) (n+1)) (n+1) (fv (n+1) fun r=>if i<=r then .slice (some ⟨rb r,0,none⟩) (m+1) (m+1) else .slice none 0 0)) X))).Ok:=aB (Ce fun _=>Aj) aO
 obtain⟨F,hN,-,bk⟩:=h1.take Aj oY;have h2:=bk _ _ (aaR hN (k:=y) eL x (T:=f' r) (fun j _=>by rw[hf];simp));have J:(List.range' i (n+1-i)).Nodup:=List.nodup_range';have hb:nK ((List.range' i (n+1-i)).erase r) (fun r=>kJ (rb r) (m+1) (f r))=nK ((List.range' i (n+1-i)).erase r) (fun r=>kJ (rb r) (m+1) (f' r)):=D7 fun a ha=>by
  have M:a≠r:=by
   intro e;subst e;exact(List.Nodup.not_mem_erase J) ha
  have:f' a=f a:=by funext b;rw[hf];simp[M]
  rw[this]
 rw[hb] at h2;have hm:r ∈ List.range' i (n+1-i):=by rw[Jx];omega
 have h3:aI eR w0 (aj (nK (List.range' i (n+1-i)) fun r=>kJ (rb r) (m+1) (f' r)) (aj (av pg (il (some ⟨gg,0,none⟩) (n+1) (n+1)) 78)
  (aj (aV 39 1 (.slice (some ⟨gg,0,none⟩) (n+1) (n+1)) (n+1) (fv (n+1) fun r=>if i<=r then .slice (some ⟨rb r,0,none⟩) (m+1) (m+1) else .slice none 0 0)) X))) _:=
  (h2.perm (by ac_rfl:_=aj (aj (kJ (rb r) (m+1) (f' r)) (nK ((List.range' i (n+1-i)).erase r) fun r=>kJ (rb r) (m+1) (f' r))) (aj (av pg (il (some ⟨gg,0,none⟩) (n+1) (n+1)) 78)
  (aj (aV 39 1 (.slice (some ⟨gg,0,none⟩) (n+1) (n+1)) (n+1) (fv (n+1) fun r=>if i<=r then .slice (some ⟨rb r,0,none⟩) (m+1) (m+1) else .slice none 0 0)) X)))).imp fun w F hh=>bD hh (fun F h=>Mv hm h) (fun _ h=>h)
 unfold gI;exact h3.perm (by ac_rfl)
end
def L6(b v:Int):Int:=if b<0 then v else if v<b then v else b
section
variable{w0 W:World}{X:CH.aU}{pg gg pb:Nat}{rb:Nat→Nat}{f:Nat→Nat→Int}{i n m:Nat}
def QC(pg gg pb:Nat)(rb:Nat->Nat)(f:Nat->Nat->Int)(i n m:Nat)(b:Int)(X:CH.aU):CH.aU:=aj (gI pg gg rb f i n m) (aj (av pb (fR b) 3) X)
def SP(w0:World)(pg gg pb:Nat)(rb:Nat->Nat)(f:Nat->Nat->Int)(i n m:Nat)(b:Int)(X:CH.aU)(e:Ending)(w':World):Prop:=e=.returned (.tuple #[])/\aI eR w0 (QC pg gg pb rb f i n m b X) w'
variable{b:Int}
theorem SU(hX:X.Ok):(QC pg gg pb rb f i n m b X).Ok:=aB uL (aB aF hX)
instance {b:Int} [hX:X.Ok]:(QC pg gg pb rb f i n m b X).Ok:=SU hX
theorem QD(h:aI eR w0 (QC pg gg pb rb f i n m b X) W):W.cell? ⟨pb,0,none⟩=some (.int .i64 b)/\W.frozen? ⟨pb,0,none⟩=false:=by
 unfold QC at h;obtain⟨F,hC⟩:=h.kQ.fst;exact⟨ay hC rfl,aN hC 0⟩
theorem ac4(hX:X.Ok)(h:aI eR w0 (QC pg gg pb rb f i n m b X) W)(v:Int):aI eR w0 (QC pg gg pb rb f i n m v X) (W.setCell ⟨pb,0,none⟩ (.int .i64 v)):=by
 unfold QC at *
 exact(jd aO h.kQ 0 (.int .i64 v) rfl).kQ
theorem Ol{q:Int}{x y:Nat}(hX:X.Ok)(h:aI eR w0 (QC pg gg pb rb f i n m b X) W)(hx:i<=x)(I:x<=n)(hy:y<=m)(hn:n<=100)(hm:m<=100)(hq:0<=q/\q<=100000)(hf:0<=f x y/\f x y<=10000000):
  Calls Tryz.prog 69 #[.int .i64 (x:Int),.int .i64 (y:Int),.int .i64 q,.pointer (some ⟨pg,0,none⟩),.pointer (some ⟨pb,0,none⟩)] W (SP w0 pg gg pb rb f i n m (L6 b (q+f x y)) X):=by
 have HR:=au h;have c0:=yM (show aI eR w0 (aj (gI pg gg rb f i n m) (aj (av pb (fR b) 3) X)) W from h);have c1:=yN (show aI eR w0 (aj (gI pg gg rb f i n m) (aj (av pb (fR b) 3) X)) W from h) hx I;have c2:=yP (show aI eR w0 (aj (gI pg gg rb f i n m) (aj (av pb (fR b) 3) X)) W from h) hx I hy;obtain⟨c3,f3⟩:=QD h;have HP:=au (ac4 hX h (q+f x y));have ab:(x:Int)<(n:Int)+1:=by omega
 have aa:(y:Int)<(m:Int)+1:=by omega
 generalize f x y=z at *
 clear h;by_cases M:b<0
 ·have J:=au (show L6 b (q+z)=q+z by simp[L6,M])
  go_enter Tryz.func69,Tryz.ntmps69
  go_wp2
  go_end0
  exact⟨rfl,by rw[J.o];exact HP.o⟩
 ·by_cases hv:q+z<b
  ·have J:=au (show L6 b (q+z)=q+z by simp[L6,M,hv])
   go_enter Tryz.func69,Tryz.ntmps69
   go_wp2
   go_end0
   exact⟨rfl,by rw[J.o];exact HP.o⟩
  ·have J:=au (show L6 b (q+z)=b by simp[L6,M,hv])
   go_enter Tryz.func69,Tryz.ntmps69
   go_wp2
   go_end0
   exact⟨rfl,by rw[J.o];exact HR.o⟩
end
section
variable{w0 W:World}{X:CH.aU}{pg gg pb:Nat}{rb:Nat→Nat}{f:Nat→Nat→Int}{A B G:eV}{c:Nat→Nat→Int}{d e:Nat→Int}{n m:Nat}
def GD(d:Nat->Int)(f:Nat->Nat->Int)(n i j:Nat)(b:Int):Int:=if i<n then L6 b (d i+f (i+1) j) else b
def I8(e:Nat->Int)(f:Nat->Nat->Int)(m i j:Nat)(b:Int):Int:=if j<m then L6 b (e j+f i (j+1)) else b
def MW(c:Nat->Nat->Int)(f:Nat->Nat->Int)(n m i j:Nat)(b:Int):Int:=if i<n/\j<m then L6 b (c i j+f (i+1) (j+1)) else b
variable{b:Int}
theorem aaE(hq:GJ w0 A B G c d e n m)(hX:X.Ok)(h:aI eR w0 (QC pg gg pb rb f i n m b X) W)(hi:i<=n)(hj:j<=m)(hf:∀ r y,i<=r->r<=n->y<=m->0<=f r y/\f r y<=10000000)(ca cb cg:Nat):
  Calls Tryz.prog 53 #[.slice A n ca,.slice B n cb,.slice G m cg,.int .i64 (i:Int),.int .i64 (j:Int),.func (.func 69) #[] (s7 (some ⟨pg,0,none⟩) (some ⟨pb,0,none⟩))] W (SP w0 pg gg pb rb f i n m (MW c f n m i j (I8 e f m i j (GD d f n i j b))) X):=by
 have HQ:=au hq;have HR:=au h;have ao:=hq.n7;have aq:=hq.m6;have HV:=au (fun (b q:Int) (x y:Nat) (W:World) (h:aI eR w0 (QC pg gg pb rb f i n m b X) W) (hx:i<=x) (hx2:x<=n) (hy:y<=m) (hq:0<=q/\q<=100000)=>Ol hX h hx hx2 hy eL eL hq (hf x y hx hx2 hy));clear h hq;by_cases J:i<n
 ·obtain⟨bd,od,rfl,ae⟩:=HQ.o.D i J;have ap:=HQ.o.db i J;have c0:=ae _ HR.o.cK;have K1:=au (HV.o b (d i) (i+1) j W HR.o eL eL hj eL);rw[show((i+1:Nat):Int)=(i:Int)+1 by omega] at K1;have H1:=au (show GD d f n i j b=L6 b (d i+f (i+1) j) by simp[GD,J]);rw[<-H1.o] at K1;clear ae H1;by_cases I:j<m
  ·have am:=HQ.o.eb j I;have K2:=au (fun W h=>HV.o (GD d f n i j b) (e j) i (j+1) W h eL eL eL eL);rw[show((j+1:Nat):Int)=(j:Int)+1 by omega] at K2;have H2:=au (show I8 e f m i j (GD d f n i j b)=L6 (GD d f n i j b) (e j+f i (j+1)) by simp[I8,I]);rw[<-H2.o] at K2;have an:=HQ.o.cb i J j I;have K3:=au (fun W h=>HV.o (I8 e f m i j (GD d f n i j b)) (c i j) (i+1) (j+1) W h eL eL eL eL);rw[show((j+1:Nat):Int)=(j:Int)+1 by omega,show((i+1:Nat):Int)=(i:Int)+1 by omega] at K3;have H3:=au (show MW c f n m i j (I8 e f m i j (GD d f n i j b))=L6 (I8 e f m i j (GD d f n i j b)) (c i j+f (i+1) (j+1)) by simp[MW,J,I]);rw[<-H3.o] at K3;clear H2 H3 HV;obtain⟨be,oe,rfl,aa⟩:=HQ.o.E j I;obtain⟨ba,oa,RR,cR,rfl,af,ab⟩:=HQ.o.R i J;obtain⟨b',o',rfl,ac⟩:=ab j I;have ak:=au aa;have ai:=au af;have al:=au ac;clear aa af ab ac
   go_enter Tryz.func53,Tryz.ntmps53
   go_wp2_with fail;refine K1.o.mono ?_;rintro e9 w1 ⟨rfl,h1⟩;have c1:=ak.o _ h1.cK;have ad:=au (K2.o _ h1);clear K1 K2 h1 c0;go_wp2_with fail;refine ad.o.mono ?_;rintro e9 w2 ⟨rfl,h2⟩;have c2:=ai.o _ h2.cK;have c3:=al.o _ h2.cK;have ag:=au (K3.o _ h2);clear ad K3 h2 c1;go_wp2_with fail;refine ag.o.mono ?_;rintro e9 w3 ⟨rfl,h3⟩;have M:=au h3;clear ag h3 c2 c3;go_wp2
   go_end0
   exact⟨rfl,M.o⟩
  ·have H2:=au (show MW c f n m i j (I8 e f m i j (GD d f n i j b))=GD d f n i j b by simp[MW,I8,I]);rw[H2.o];clear H2 HV
   go_enter Tryz.func53,Tryz.ntmps53
   go_wp2_with fail;refine K1.o.mono ?_;rintro e9 w1 ⟨rfl,h1⟩;have M:=au h1;clear K1 h1 c0;go_wp2
   go_end0
   exact⟨rfl,M.o⟩
 ·have H1:=au (show GD d f n i j b=b by simp[GD,J]);rw[H1.o];by_cases I:j<m
  ·have am:=HQ.o.eb j I;have K2:=au (HV.o b (e j) i (j+1) W HR.o eL eL eL eL);rw[show((j+1:Nat):Int)=(j:Int)+1 by omega] at K2;have H2:=au (show MW c f n m i j (I8 e f m i j b)=L6 b (e j+f i (j+1)) by simp[MW,I8,J,I]);rw[H2.o];obtain⟨be,oe,rfl,aa⟩:=HQ.o.E j I;have c1:=aa _ HR.o.cK;clear H2 HV aa H1
   go_enter Tryz.func53,Tryz.ntmps53
   go_wp2_with fail;refine K2.o.mono ?_;rintro e9 w1 ⟨rfl,h1⟩;have M:=au h1;clear K2 h1 c1;go_wp2
   go_end0
   exact⟨rfl,M.o⟩
  ·have H2:=au (show MW c f n m i j (I8 e f m i j b)=b by simp[MW,I8,J,I]);rw[H2.o];clear H2 HV H1
   go_enter Tryz.func53,Tryz.ntmps53
   go_wp2
   go_end0
   exact⟨rfl,HR.o⟩
end
section
variable{c:Nat→Nat→Int}{d e:Nat→Int}{n m:Nat}
theorem uM(h:GJ w A B G c d e n m){a:Nat}(ha:a<=n)(hb:b<=m):0<=GR c d e n m a b/\GR c d e n m a b<=(a:Int)*10000+(b:Int)*10000:=by
 induction a generalizing b with
 | zero=>
  induction b with
  | zero=>show 0<=(0:Int)/\_;exact⟨by omega,by show(0:Int)<=_;omega⟩
  | succ b ih=>
   have J:=ih eL;have M:=h.eb (m-(b+1)) eL;have I:GR c d e n m 0 (b+1)=e (m-(b+1))+GR c d e n m 0 b:=rfl;rw[I];omega
 | succ a iha=>
  have h5:=h.db (n-(a+1)) eL
  induction b with
  | zero=>
   have J:=iha eL (b:=0) eL;have I:GR c d e n m (a+1) 0=d (n-(a+1))+GR c d e n m a 0:=rfl;rw[I];omega
  | succ b ihb=>
   have J:=iha eL (b:=b+1) hb;have M:=ihb eL;have h6:=iha eL (b:=b) eL;have h7:=h.eb (m-(b+1)) eL;have h8:=h.cb (n-(a+1)) eL (m-(b+1)) eL;have I:GR c d e n m (a+1) (b+1)=min (min (d (n-(a+1))+GR c d e n m a (b+1)) (e (m-(b+1))+GR c d e n m (a+1) b)) (c (n-(a+1)) (m-(b+1))+GR c d e n m a b):=rfl;rw[I];omega
theorem ac5(h:GJ w A B G c d e n m){f:Nat->Nat->Int}(hi:i<=n)(hj:j<=m)(h1:i<n->f (i+1) j=GR c d e n m (n-(i+1)) (m-j))(h2:j<m->f i (j+1)=GR c d e n m (n-i) (m-(j+1)))(h3:i<n->j<m->f (i+1) (j+1)=GR c d e n m (n-(i+1)) (m-(j+1))):
  (if MW c f n m i j (I8 e f m i j (GD d f n i j (-1)))<0 then 0 else MW c f n m i j (I8 e f m i j (GD d f n i j (-1))))=GR c d e n m (n-i) (m-j):=by
 by_cases J:i<n
 ·have e1:=h1 J;have b1:=uM h (a:=n-(i+1)) (b:=m-j) eL eL;have hd:=h.db i J;obtain⟨a,ha⟩:∃ a,n-i=a+1:=⟨n-i-1,by omega⟩;have aa:n-(i+1)=a:=by omega
  have ab:n-(a+1)=i:=by omega
  rw[aa] at e1 b1;by_cases I:j<m
  ·have e2:=h2 I;have e3:=h3 J I;have he:=h.eb j I;have hc:=h.cb i J j I;obtain⟨b,hb⟩:∃ b,m-j=b+1:=⟨m-j-1,by omega⟩;have fX:m-(j+1)=b:=by omega
   have gE:m-(b+1)=j:=by omega
   have b2:=uM h (a:=n-i) (b:=m-(j+1)) eL eL;have b3:=uM h (a:=n-(i+1)) (b:=m-(j+1)) eL eL;rw[ha,fX] at e2 b2;rw[aa,fX] at e3 b3;rw[ha,hb];rw[hb] at e1 b1;have M:GR c d e n m (a+1) (b+1)=min (min (d (n-(a+1))+GR c d e n m a (b+1)) (e (m-(b+1))+GR c d e n m (a+1) b)) (c (n-(a+1)) (m-(b+1))+GR c d e n m a b):=rfl;rw[ab,gE] at M;rw[M];simp only[MW,I8,GD,J,I,if_true,and_self,e1,e2,e3,L6];simp only[show((-1:Int)<0) from by omega,if_true];rw[if_neg (show ¬ d i+GR c d e n m a (b+1)<0 by omega)];by_cases g1:e j+GR c d e n m (a+1) b<d i+GR c d e n m a (b+1)
   ·rw[if_pos g1,if_neg (show ¬ e j+GR c d e n m (a+1) b<0 by omega)];by_cases g2:c i j+GR c d e n m a b<e j+GR c d e n m (a+1) b
    ·rw[if_pos g2,if_neg eL];omega
    ·rw[if_neg g2,if_neg eL];omega
   ·rw[if_neg g1,if_neg (show ¬ d i+GR c d e n m a (b+1)<0 by omega)];by_cases g2:c i j+GR c d e n m a b<d i+GR c d e n m a (b+1)
    ·rw[if_pos g2,if_neg eL];omega
    ·rw[if_neg g2,if_neg eL];omega
  ·obtain rfl:j=m:=by omega
   rw[ha,nq];rw[nq] at e1 b1;have M:GR c d e n j (a+1) 0=d (n-(a+1))+GR c d e n j a 0:=rfl;rw[ab] at M;rw[M];simp only[MW,I8,GD,J,my,if_true,if_false,and_false,e1,L6];simp only[show((-1:Int)<0) from by omega,if_true];rw[if_neg eL]
 ·obtain rfl:i=n:=by omega
  rw[nq];by_cases I:j<m
  ·have e2:=h2 I;have he:=h.eb j I;obtain⟨b,hb⟩:∃ b,m-j=b+1:=⟨m-j-1,by omega⟩;have fX:m-(j+1)=b:=by omega
   have gE:m-(b+1)=j:=by omega
   have b2:=uM h (a:=0) (b:=b) eL eL;rw[nq,fX] at e2;rw[hb];have M:GR c d e i m 0 (b+1)=e (m-(b+1))+GR c d e i m 0 b:=rfl;rw[gE] at M;rw[M];simp only[MW,I8,GD,I,my,if_true,if_false,false_and,e2,L6];simp only[show((-1:Int)<0) from by omega,if_true];rw[if_neg eL]
  ·obtain rfl:j=m:=by omega
   rw[nq];simp only[MW,I8,GD,my,if_false,false_and];rfl
end
section
variable{w0 W:World}{X:CH.aU}{pg gg:Nat}{rb:Nat→Nat}{f:Nat→Nat→Int}{i n m:Nat}
theorem Om{i n:Nat}(h:i<=n):List.range' i (n+1-i)=i::List.range' (i+1) (n+1-(i+1)):=by
 have e:n+1-i=(n+1-(i+1))+1:=by omega
 rw[e,J1]
theorem WT(hX:X.Ok)(hi:i<=n){r:Nat}(h:aI eR w0 (aj (kJ r (m+1) (fun _=>0)) (aj (gI pg gg rb f (i+1) n m) X)) W):
  aI eR w0 (aj (gI pg gg (fun a=>if a=i then r else rb a) (fun a b=>if a=i then 0 else f a b) i n m) X) (W.setCell ⟨gg,i,none⟩ (.slice (some ⟨r,0,none⟩) (m+1) (m+1))):=by
 unfold gI at h;have oY:(aj (kJ r (m+1) (fun _=>0)) (aj (av pg (il (some ⟨gg,0,none⟩) (n+1) (n+1)) 78) (aj (nK (List.range' (i+1) (n+1-(i+1))) fun r=>kJ (rb r) (m+1) (f r)) X))).Ok:=aB Aj (aB aF (aB (Ce fun _=>Aj) hX));obtain⟨F,hR,-,bk⟩:=(h.perm (by ac_rfl:_=aj (aV 39 1 (.slice (some ⟨gg,0,none⟩) (n+1) (n+1)) (n+1) (fv (n+1) fun r=>if i+1<=r then .slice (some ⟨rb r,0,none⟩) (m+1) (m+1) else .slice none 0 0)) (aj (kJ r (m+1) (fun _=>0)) (aj (av pg (il (some ⟨gg,0,none⟩) (n+1) (n+1)) 78) (aj (nK (List.range' (i+1) (n+1-(i+1))) fun r=>kJ (rb r) (m+1) (f r)) X))))).take dQ oY;have I:=bk _ _ (vI hR (i:=i) eL (.slice (some ⟨r,0,none⟩) (m+1) (m+1)));rw[Ow] at I
 rw[qY (g:=fun a=>if i<=a then Value.slice (some ⟨(if a=i then r else rb a),0,none⟩) (m+1) (m+1) else .slice none 0 0) (fun a J=>by
  unfold xe;by_cases e:a=i
  ·subst e;simp
  ·rw[if_neg e]
   show(if i+1<=a then Value.slice (some ⟨rb a,0,none⟩) (m+1) (m+1) else .slice none 0 0)=_
   by_cases M:i+1<=a
   ·rw[if_pos M,if_pos eL,if_neg e]
   ·rw[if_neg M,if_neg eL])] at I
 unfold gI;rw[Om hi];have hb:nK (List.range' (i+1) (n+1-(i+1))) (fun r=>kJ (rb r) (m+1) (f r))=nK (List.range' (i+1) (n+1-(i+1))) (fun a=>kJ (if a=i then r else rb a) (m+1) (fun b=>if a=i then 0 else f a b)):=D7 fun a J=>by
  have:a≠i:=by rw[Jx] at J;omega
  simp[this]
 rw[hb] at I;have hk:nK (i::List.range' (i+1) (n+1-(i+1))) (fun a=>kJ (if a=i then r else rb a) (m+1) (fun b=>if a=i then 0 else f a b))=aj (kJ r (m+1) (fun _=>0)) (nK (List.range' (i+1) (n+1-(i+1))) (fun a=>kJ (if a=i then r else rb a) (m+1) (fun b=>if a=i then 0 else f a b))):=by
  show aj (kJ (if i=i then r else rb i) (m+1) (fun b=>if i=i then 0 else f i b)) (nK (List.range' (i+1) (n+1-(i+1))) (fun a=>kJ (if a=i then r else rb a) (m+1) (fun b=>if a=i then 0 else f a b)))=_
  rw[if_pos rfl];have e:(fun b:Nat=>if i=i then(0:Int) else f i b)=fun _=>0:=by funext b;rw[if_pos rfl]
  rw[e]
 rw[hk];exact I.perm (by ac_rfl)
end
def QE(w:World)(c:Nat->Nat->Int)(d e:Nat->Int)(n m:Nat)(en:Ending)(w':World):Prop:=
 ∃ pg gg rb f,en=.returned (.slice (some ⟨gg,0,none⟩) (n+1) (n+1))/\aI eR w (aj (gI pg gg rb f 0 n m) bG) w'/\∀ r y,r<=n->y<=m->f r y=GR c d e n m (n-r) (m-y)
theorem aaF{o:Oper}(l:Operand)(I:o.op=Op.makeSlice 39 l l)(n:Nat)(hn:n<=1000)(J:a.eval l=.int .i64 (n:Int))(M:∀ w',bT w eR (kJ w.heap.size n (fun _=>0)) w'->K (a.put o.dst (.slice (some ⟨w.heap.size,0,none⟩) n n)) w'):o.wp Tryz.prog a w K Q:=
 QK pI eS l I n hn J rfl fun w' h=>M w' (by unfold kJ;rw[<-show List.replicate n (Value.int .i64 0)=fv n (fun _=>.int .i64 0) from uN n _];exact h)
theorem qz{ops:Array Oper}{rest:List Oper}{o:Oper}(J:o.guard=none)(l:Operand)(I:o.op=Op.makeSlice 78 l l)(n:Nat)(hn:n<=1000)(M:a.eval l=.int .i64 (n:Int))(hK:∀ w',bT w eR (aV 39 1 (.slice (some ⟨w.heap.size,0,none⟩) n n) n (fv n fun _=>.slice none 0 0)) w'->wpList Tryz.prog ops Q rest (a.put o.dst (.slice (some ⟨w.heap.size,0,none⟩) n n)) w'):wpList Tryz.prog ops Q (o::rest) a w:=
 Mg J Ov eS l I n hn M rfl fun w' h=>hK w' (by rw[<-uN n _];exact h)
section
variable{w:World}{A B G:eV}{c:Nat→Nat→Int}{d e:Nat→Int}{n m:Nat}
theorem L8(hq:GJ w A B G c d e n m)(ca cb cg:Nat):Calls Tryz.prog 44 #[.slice A n ca,.slice B n cb,.slice G m cg] w (QE w c d e n m):=by
 have HQ:=au hq;have a5:=hq.n7;have a8:=hq.m6;clear hq;have aE:=au (show ∀ (pg gg:Nat) (rb:Nat->Nat) (f:Nat->Nat->Int) w',aI eR w (aj (gI pg gg rb f 0 n m) bG) w'->(∀ r y,r<=n->y<=m->f r y=GR c d e n m (n-r) (m-y))->QE w c d e n m (.returned (.slice (some ⟨gg,0,none⟩) (n+1) (n+1))) w' from fun pg gg rb f w' I J=>⟨pg,gg,rb,f,rfl,I,J⟩)
 go_enter Tryz.func44,Tryz.ntmps44
 go_wp2_with (refine qz rfl (.tmp 13) rfl (n+1) eL (by simp[Act.eval]) ?_;refine held ?_);refine lO.mk fun w1 aA=>?_;have R1:=((aI.begin w).fresh aM aA);have R2:=R1.fresh aO (dU w1 (il (some ⟨w.heap.size,0,none⟩) (n+1) (n+1)) 78)
 have R3:Hid (aI eR w (aj (gI w1.heap.size w.heap.size (fun _=>0) (fun _ _=>0) (n+1) n m) bG) _):=au (by
  have e1:gI w1.heap.size w.heap.size (fun _=>0) (fun _ _=>0) (n+1) n m=aj (av w1.heap.size (il (some ⟨w.heap.size,0,none⟩) (n+1) (n+1)) 78) (aj (aV 39 1 (.slice (some ⟨w.heap.size,0,none⟩) (n+1) (n+1)) (n+1) (fv (n+1) fun _=>.slice none 0 0)) bG):=by
   unfold gI;rw[nq];rw[qY (g:=fun _=>Value.slice none 0 0) (fun r hr=>by rw[if_neg eL])];rfl
  rw[e1]
  exact R2.one)
 clear aA R1 R2;go_wp2_with fail;generalize w1.heap.size=pg at *
 generalize w.heap.size=gg at *
 go_wp2
 go_loopg [8] (n+1) (fun g s8 wr=>∃ (x0:Int) (rb:Nat->Nat) (f:Nat->Nat->Int),s8=.int .i64 x0/\x0=(g:Int)-1/\g<=n+1/\aI eR w (aj (gI pg gg rb f g n m) bG) wr/\∀ r y,g<=r->r<=n->y<=m->f r y=GR c d e n m (n-r) (m-y))
 case atStart=>exact⟨(n:Int),_,_,rfl,by omega,fL _,R3.o,fun r y I J=>by omega⟩
 case round=>
  obtain⟨x0,rb,f,rfl,ae,hg,hR,hf⟩:=hrel;have HR:=au hR;have HF:=au hf;clear hf R3;cases gk with
  | zero=>
   have tx:¬ 0<=x0:=by omega
   have c0:=yM hR;have a1:=au (fun r y I J=>HF.o r y (fy _) I J);clear ae hR;go_wp2;go_ret;exact aE.o _ _ _ _ _ HR.o a1.o
  | succ i=>
   obtain rfl:x0=(i:Int):=by omega
   have hi:i<=n:=by omega
   have am:=hR.drew aO;have az:=au am;have c0:=yM am;have a3:(i:Int)<(n:Int)+1:=by omega
   have tm:IntKind.i64.wrap ((m:Int)+1)=(m:Int)+1:=kj _ eL;clear ae hR am HR;go_wp2_with fail;refine eG (fun w'=>w'.cell? ⟨pg,0,none⟩=some (.slice (some ⟨gg,0,none⟩) (n+1) (n+1))) eQ eQ eQ c0 ?_
   (repeat(first|refine bM ?_|refine bN ?_))
   refine dG rfl gh (fun KK hK=>?_);obtain⟨ri,aq⟩:∃ ri,ri=wr.drew.heap.size:=⟨_,rfl⟩;refine aaF (.tmp 25) rfl (m+1) eL (by simp[Act.eval,tm]) ?_;intro w2 an;rw[<-aq] at an ⊢;clear aq;have R4:=az.o.fresh aO an;have c1:=yM R4.drop;have R5:=WT aM hi R4;have ax:=au R5;have al:w2.cell? ⟨gg,i,none⟩=some (.slice none 0 0)/\w2.frozen? ⟨gg,i,none⟩=false:=by
    have h9:=R4.drop;unfold gI at h9;obtain⟨F,hC⟩:=h9.assoc.kQ.assoc.fst;refine⟨?_,rC hC i eL⟩;have:=nL hC (qG (fun r=>if i+1<=r then Value.slice (some ⟨rb r,0,none⟩) (m+1) (m+1) else .slice none 0 0) (show i<n+1 by omega))
    rwa [if_neg eL] at this
   obtain⟨z0,z1⟩:=al;refine hK.o _ _ c1 ?_;clear hK an R4 R5 c0 c1 az
   (repeat(first|refine bM ?_|refine bN ?_))
   refine jl rfl gh (fun KK hK=>?_);go_wp2_with fail;refine hK.o _ _ ?_;clear hK z0 z1 tm;have aD:=au (show ∀ r y,i<r->r<=n->y<=m->(if r=i then 0 else f r y)=GR c d e n m (n-r) (m-y) from fun r y I J h3=>by rw[if_neg eL];exact HF.o r y eL J h3);clear HF;go_wp2
   go_loopg [9] (m+1) (fun g2 s9 wr=>∃ (x0:Int) (f:Nat->Nat->Int),s9=.int .i64 x0/\x0=(g2:Int)-1/\g2<=m+1/\aI eR w (aj (gI pg gg (fun a=>if a=i then ri else rb a) f i n m) bG) wr/\(∀ r y,i<r->r<=n->y<=m->f r y=GR c d e n m (n-r) (m-y))/\(∀ y,g2<=y->y<=m->f i y=GR c d e n m (n-i) (m-y))/\∀ y,y<g2->f i y=0)
   case atStart=>exact⟨(m:Int),_,rfl,by omega,fL _,ax.o,aD.o,fun y I J=>by omega,fun y _=>by simp⟩
   case round=>
    obtain⟨x0,f2,rfl,ae,a7,hR,ar,aw,a0⟩:=hrel;have ab:=au ar;have ac:=au aw;have af:=au a0;clear ar aw a0 ax aD;cases gk with
    | zero=>
     have tx:¬ 0<=x0:=by omega
     have a4:=au hR
     have a2:=au (show ∀ r y,i<=r->r<=n->y<=m->f2 r y=GR c d e n m (n-r) (m-y) from fun r y I J h3=>by
      by_cases e:r=i
      ·subst e;exact ac.o y (fy _) h3
      ·exact ab.o r y eL J h3)
     clear ae hR;go_wp2
     go_roundg i
     case measure=>omega
     case rel=>exact⟨(i:Int)-1,_,f2,by go_num,rfl,by omega,a4.o,a2.o⟩
    | succ j=>
     obtain rfl:x0=(j:Int):=by omega
     have hj:j<=m:=by omega
     have R6:aI eR w (QC pg gg wr.heap.size (fun a=>if a=i then ri else rb a) f2 i n m (-1) bG) (wr.alloc (.cells (fR (-1)) 3)):=by
      unfold QC;exact(hR.fresh aO (dU wr (fR (-1)) 3)).kQ
     have ao:=au (show ∀ r y,i<=r->r<=n->y<=m->0<=f2 r y/\f2 r y<=10000000 from fun r y I J h3=>by
      by_cases e:r=i
      ·subst e;by_cases h4:y<j+1
       ·rw[af.o y h4];omega
       ·rw[ac.o y eL h3];have:=uM HQ.o (a:=n-r) (b:=m-y) eL eL;omega
      ·rw[ab.o r y eL J h3];have:=uM HQ.o (a:=n-r) (b:=m-y) eL eL;omega)
     have KN:=au (aaE HQ.o aM R6 hi hj ao.o ca cb cg);have M:=au (ac5 HQ.o (f:=f2) (i:=i) (j:=j) hi hj (fun h=>ab.o (i+1) j eL eL hj) (fun h=>ac.o (j+1) eL eL) (fun I J=>ab.o (i+1) (j+1) eL eL eL));generalize MW c f2 n m i j (I8 e f2 m i j (GD d f2 n i j (-1)))=val at *
     clear ae hR R6;go_wp2_with fail;refine KN.o.mono ?_;rintro e9 w4 ⟨rfl,hR4⟩;have aa:=hR4.drew (SU aM);obtain⟨c3,-⟩:=QD aa;unfold QC at aa;have c1:=yM aa;have c2:=yN aa (fL i) hi;have c4:=yP aa (fL i) hi hj;have f4:=Tz aa (fL i) hi j;simp only[if_true] at c2 c4 f4;have ag:=aa.kQ.drop;have a3:(i:Int)<(n:Int)+1:=by omega
     have a6:(j:Int)<(m:Int)+1:=by omega
     generalize wr.heap.size=pb at *
     by_cases hv:val<0
     ·rw[if_pos hv] at M;have ad:=au (LY aM ag (fL i) hi hj 0 (f':=fun a b=>if a=i/\b=j then 0 else f2 a b) (fun _ _=>rfl));simp only[if_true] at ad;have ap:=au (show ∀ r y,i<r->r<=n->y<=m->(if r=i/\y=j then 0 else f2 r y)=GR c d e n m (n-r) (m-y) from fun r y I J h3=>by rw[if_neg eL];exact ab.o r y I J h3)
      have ai:=au (show ∀ y,j<=y->y<=m->(if i=i/\y=j then 0 else f2 i y)=GR c d e n m (n-i) (m-y) from fun y I J=>by
       by_cases e:y=j
       ·subst e;rw[if_pos ⟨rfl,rfl⟩];exact M.o
       ·rw[if_neg eL];exact ac.o y eL J)
      have ak:=au (show ∀ y,y<j->(if i=i/\y=j then 0 else f2 i y)=0 from fun y I=>by rw[if_neg eL];exact af.o y eL);clear hR4 aa ag M ab ac af ao KN;go_wp2_with fail;refine eG (fun w'=>w'=w4.drew) eQ eQ eQ rfl ?_;generalize w4.drew=wd at *
      (repeat(first|refine bM ?_|refine bN ?_))
      refine jl rfl gh (fun KK hK=>?_);go_wp2_with fail;refine hK.o _ _ ?_;clear hK c1 c2 c3 c4 f4;go_wp2
      go_roundg j
      case measure=>omega
      case rel=>exact⟨(j:Int)-1,_,by go_num,rfl,by omega,ad.o,ap.o,fun y I J=>by have:=ai.o y I J;simpa using this,fun y I=>by have:=ak.o y I;simpa using this⟩
     ·rw[if_neg hv] at M;have ad:=au (LY aM ag (fL i) hi hj val (f':=fun a b=>if a=i/\b=j then val else f2 a b) (fun _ _=>rfl));simp only[if_true] at ad;have ap:=au (show ∀ r y,i<r->r<=n->y<=m->(if r=i/\y=j then val else f2 r y)=GR c d e n m (n-r) (m-y) from fun r y I J h3=>by rw[if_neg eL];exact ab.o r y I J h3)
      have ai:=au (show ∀ y,j<=y->y<=m->(if i=i/\y=j then val else f2 i y)=GR c d e n m (n-i) (m-y) from fun y I J=>by
       by_cases e:y=j
       ·subst e;rw[if_pos ⟨rfl,rfl⟩];exact M.o
       ·rw[if_neg eL];exact ac.o y eL J)
      have ak:=au (show ∀ y,y<j->(if i=i/\y=j then val else f2 i y)=0 from fun y I=>by rw[if_neg eL];exact af.o y eL);clear hR4 aa ag M ab ac af ao KN;go_wp2_with fail;refine eG (fun w'=>w'=w4.drew) eQ eQ eQ rfl ?_;generalize w4.drew=wd at *
      (repeat(first|refine bM ?_|refine bN ?_))
      refine jl rfl gh (fun KK hK=>?_);go_wp2_with fail;refine hK.o _ _ ?_;clear hK c1 c2 c3 c4 f4;go_wp2
      go_roundg j
      case measure=>omega
      case rel=>exact⟨(j:Int)-1,_,by go_num,rfl,by omega,ad.o,ap.o,fun y I J=>by have:=ai.o y I J;simpa using this,fun y I=>by have:=ak.o y I;simpa using this⟩
end
end Go.Proofs.YtbioiclabmbedaaGreatDoor.Asn
namespace Go.CH.bA
section
variable{c:Nat→Nat→Int}{d e:Nat→Int}{n m:Nat}
def Oo(c:Nat->Nat->Int)(d e:Nat->Int)(n m a b t:Nat):Bool:=decide (sg t (fun x=>e (m-b+x))+c (n-(a+1)) (m-b+t)+GR c d e n m a (b-(t+1))=GR c d e n m (a+1) b)
variable{a b:Nat}
theorem aaG{t:Nat}(I:t<b)(h:Oo c d e n m a b t=true)(J:∀ u,u<t->Oo c d e n m a b u=false):xg c d e n m (a+1) b=((m-b+t:Nat):Int)::xg c d e n m a (b-(t+1)):=by
 rw[xg];have:=JC (p:=fun t=>decide (sg t (fun x=>e (m-b+x))+c (n-(a+1)) (m-b+t)+GR c d e n m a (b-(t+1))=GR c d e n m (a+1) b)) I h J;rw[this]
theorem WU(hb:∀ u,u<b->Oo c d e n m a b u=false):xg c d e n m (a+1) b=(m:Int)::xg c d e n m a b:=by
 rw[xg];have:=Fj (m:=b) (p:=fun t=>decide (sg t (fun x=>e (m-b+x))+c (n-(a+1)) (m-b+t)+GR c d e n m a (b-(t+1))=GR c d e n m (a+1) b)) hb;rw[this]
end
end Go.CH.bA
namespace Go.Proofs.YtbioiclabmbedaaGreatDoor.Asn
open Go.RowKit Go.CH Go.CH.bA
open Go.ChangeMaps (setBlock)
def SZ(w:World)(v:Value)(l:List Int):Prop:=∃ A c,v=.slice A l.length c/\Vec w A l
def vS(C:List (List Int))(D E:List Int):List Int:=if mJ C D E then xg (cF C) (lF D) (lF E) D.length E.length D.length E.length else []
def jR(C:List (List Int))(D E:List Int):Int:=if mJ C D E then GR (cF C) (lF D) (lF E) D.length E.length D.length E.length else 0
def L9(C:List (List Int))(D E:List Int):Int:=if mJ C D E then 0 else 1
def Oq(w:World)(C:List (List Int))(D E:List Int)(e:Ending)(w':World):Prop:=
 ∃ v,e=.returned (.tuple #[v,.int .i64 (jR C D E),.int .i64 (L9 C D E)])/\Below w.heap.size w w'/\SZ w' v (vS C D E)
variable{w0 W:World}{A:eV}{c n a b:Nat}{l ps:List Int}
theorem GH{Y:CH.aU}{x:Int}(h:aI eR w0 (aj (aV 3 1 (.slice A (l.length+1) c) (l.length+1) (ints l++[.int .i64 x])) Y) W):aI eR w0 (aj (aY A c (l++[x])) Y) W:=by
 rw[yK] at h;exact h
theorem GI{c:Nat->Nat->Int}{d e:Nat->Int}{m b':Nat}{x:Int}{L:List Int}(h:L=ps++xg c d e n m (a+1) b)(hg:xg c d e n m (a+1) b=x::xg c d e n m a b'):L=(ps++[x])++xg c d e n m a b':=by
 rw[h,hg];simp
variable{w:World}{V:List (eV × Nat)}{C:List (List Int)}
theorem Ma{B G:eV}{d e:Nat}{D E:List Int}(h:uJ w A C V)(hl:C.length<=maxLen)(hD:Vec w B D)(hE:Vec w G E):
  Calls Tryz.prog 26 #[.slice A C.length c,.slice B D.length d,.slice G E.length e] w (Oq w C D E):=by
 have KV:=au (jL (c:=c) (d:=d) (e:=e) h hl hD hE);have HP:=au (fun hv=>DZ (w:=w) (C:=C) (D:=D) (E:=E) hv h hD hE);clear h hD hE hl;cases hv:mJ C D E with
 | false=>
  have HR:=au (show ∀ w':World,Below w.heap.size w w'->Oq w C D E (.returned (.tuple #[.slice none 0 0,.int .i64 0,.int .i64 1])) w' from fun w' hb=>⟨_,by simp only[jR,L9,hv];rfl,hb,by simp only[vS,hv];exact⟨none,0,rfl,Src.none_⟩⟩);rw[hv] at KV;clear HP hv
  go_enter Tryz.func26,Tryz.ntmps26
  go_wp2
  go_step3
  go_wp2_with fail;refine KV.o.mono ?_;rintro e9 w1 ⟨rfl,fX⟩;have HB:=au fX;clear fX KV;go_wp2
  try rw[pH]
  go_ret3
  exact HR.o _ HB.o
 | true=>
  rw[hv] at KV;have hP:=HP.o hv;have b0:=hP.n6;have b4:=hP.m6;obtain⟨nc,ax⟩:∃ n,n=C.length:=⟨_,rfl⟩;obtain⟨n,hn⟩:∃ n,n=D.length:=⟨_,rfl⟩;obtain⟨m,hm⟩:∃ n,n=E.length:=⟨_,rfl⟩;have b5:nc=n:=by rw[ax,hn];exact hP.hn
  have bm:=au (show ∀ (v:Value) (w':World),Below w.heap.size w w'->SZ w' v (xg (cF C) (lF D) (lF E) n m n m)->Oq w C D E (.returned (.tuple #[v,.int .i64 (GR (cF C) (lF D) (lF E) n m n m),.int .i64 0])) w' from fun v w' hb ha=>⟨v,by simp only[jR,L9,hv,hn,hm];rfl,hb,by simp only[vS,hv,<-hn,<-hm];exact ha⟩);rw[<-hn,<-hm] at hP;rw[<-hn] at b0;rw[<-hm] at b4;have HQ:=au hP.q;rw[<-ax,<-hn,<-hm] at KV;rw[<-ax,<-hn,<-hm];subst b5;clear HP hv hP ax hn hm;generalize cF C=cc at *
  generalize lF D=dd at *
  generalize lF E=M at *
  go_enter Tryz.func26,Tryz.ntmps26
  go_wp2
  go_step3
  go_wp2_with fail;refine KV.o.mono ?_;rintro e9 w1 ⟨rfl,fX⟩;have b1:=au fX;have KG:=au (L8 (HQ.o.below fX) c d e);clear fX KV;go_wp2_with fail;refine KG.o.mono ?_;rintro e9 w2 ⟨pg,gg,rb,f,rfl,hR2,hf⟩;have HF:=au hf;have a6:aI eR w (aj (aY none 0 []) (gI pg gg rb f 0 nc m)) w2:=by
   have h2:=((aI.begin w).below aM b1.o).fresh aM ((hR2.imp fun _ _ h=>ko h).post uL);exact(h2.imp fun _ _ h=>ko h).imp fun W F hh=>⟨fun _=>False,F,lH W,hh,fun _ h=>h.elim,fun i=>by simp⟩
  have bo:=au a6;clear KG hR2 hf a6;go_wp2
  go_step3
  go_wp2
  go_loopg [10,11,27] nc (fun g1 p s i wr=>∃ (k I:Nat) (A1:eV) (c1:Nat) (ps:List Int),k+g1=nc/\I<=m/\p=.slice A1 ps.length c1/\s=.int .i64 I/\i=.int .i64 k/\ps.length=k/\xg cc dd M nc m nc m=ps++xg cc dd M nc m (nc-k) (m-I)/\aI eR w (aj (aY A1 c1 ps) (gI pg gg rb f 0 nc m)) wr)
  case atStart=>exact⟨0,0,none,0,[],mB _,fy _,rfl,rfl,rfl,rfl,rfl,bo.o⟩
  case round=>
   obtain⟨k,I,A1,c1,ps,bu,a8,rfl,rfl,rfl,bb,hg,hR⟩:=hrel;have HR:=au hR;have ar:=au bb;have HG:=au hg;clear hR bb hg bo;cases gk with
   | succ g1=>
    have bf:k<nc:=by omega
    obtain⟨a,ha⟩:∃ a,nc=a+1+k:=⟨nc-k-1,by omega⟩;have a3:nc-k=a+1:=by omega
    have bk:nc-(a+1)=k:=by omega
    have am:nc-(k+1)=a:=by omega
    rw[a3] at HG;have a1:m-(m-I)=I:=by omega
    have aD:=au (fun (t:Nat) ht hp hb=>aaG (c:=cc) (d:=dd) (e:=M) (n:=nc) (m:=m) (a:=a) (b:=m-I) (t:=t) ht hp hb);have a2:=au (fun hb=>WU (c:=cc) (d:=dd) (e:=M) (n:=nc) (m:=m) (a:=a) (b:=m-I) hb);have bj:=au (fun (t:Nat)=>show Oo cc dd M nc m a (m-I) t=decide (sg t (fun x=>M (I+x))+cc k (I+t)+GR cc dd M nc m a (m-I-(t+1))=GR cc dd M nc m (a+1) (m-I)) by unfold Oo;rw[bk,a1]);rw[a1] at aD;have bz:=au (show f k I=GR cc dd M nc m (a+1) (m-I) by rw[HF.o k I eL a8,a3]);have b3:=au (show ∀ j,j<m->f (k+1) (j+1)=GR cc dd M nc m a (m-(j+1)) from fun j hj=>by rw[HF.o (k+1) (j+1) eL eL,am]);have b2:=au (uM HQ.o (a:=a+1) (b:=m-I) eL eL);have bw:=au (fun j=>uM HQ.o (a:=a) (b:=m-(j+1)) eL eL);have bp:=au (show nc-(k+1)=a from am);have b6:a<=6:=by omega
    clear a3 bk am a1 ha;obtain⟨ba,oa,RR,cR,rfl,br,aA⟩:=HQ.o.R k bf;have aE:=au aA;have c0:=br _ HR.o.cK;clear br aA;go_wp2
    go_loopg [10,11,14,15] (m-I) (fun g2 p s q x wr=>∃ t:Nat,I+t+g2=m/\p=.slice A1 ps.length c1/\s=.int .i64 I/\q=.int .i64 (sg t (fun x=>M (I+x)))/\x=.int .i64 ((I+t:Nat):Int)/\(∀ u,u<t->Oo cc dd M nc m a (m-I) u=false)/\aI eR w (aj (aY A1 c1 ps) (gI pg gg rb f 0 nc m)) wr)
    case atStart=>exact⟨0,by omega,rfl,rfl,rfl,rfl,fun t ht=>absurd ht (oc t),HR.o⟩
    case round=>
     obtain⟨t,b8,rfl,rfl,rfl,rfl,a9,hR⟩:=hrel;have ao:=au a9;have aq:=au hR;clear HR hR a9 c0;have a4:=au (wS (n:=t) (f:=fun x=>M (I+x)) (a:=0) (b:=10000) (fun x hx=>HQ.o.eb (I+x) eL));cases gk with
     | succ g2=>
      obtain⟨j,hj⟩:∃ j,j=I+t:=⟨_,rfl⟩;have ag:j<m:=by omega
      obtain⟨b',o',rfl,a7⟩:=aE.o j ag;have b9:=HQ.o.cb k bf j ag;obtain⟨be,oe,rfl,bi⟩:=HQ.o.E j ag;have ca:=HQ.o.eb j ag;have J:=aq.o.drew aO;have ac:=au J;have c5:=a7 _ J.cK;have c6:=bi _ J.cK;have al:=J.swap;have k1:=yN al (r:=k+1) (fy _) eL;have k2:=yN al (r:=k) (fy _) eL;have k3:=yP al (r:=k+1) (y:=j+1) (fy _) eL eL;have k4:=yP al (r:=k) (y:=I) (fy _) eL a8;rw[b3.o j ag] at k3;rw[bz.o] at k4;have ak:=au (bj.o t);have bv:=a4.o;have HS:=au (dK (n:=t) (f:=fun x=>M (I+x)));have gE:=bw.o j;have a5:=b2.o;rw[show m-I-(t+1)=m-(j+1) by omega,<-hj] at ak;rw[<-hj] at HS ⊢;generalize sg t (fun x=>M (I+x))=ss at *
      generalize GR cc dd M nc m a (m-(j+1))=T1 at *
      generalize GR cc dd M nc m (a+1) (m-I)=T0 at *
      have b7:(t:Int)<=6:=by omega
      have t1:IntKind.i64.wrap ((k:Int)+1)=((k+1:Nat):Int):=by rw[kj _ eL];omega
      have bn:IntKind.i64.wrap ((j:Int)+1)=((j+1:Nat):Int):=by rw[kj _ eL];omega
      have t2:IntKind.i64.wrap (ss+cc k j)=ss+cc k j:=kj _ eL;have t3:IntKind.i64.wrap (ss+cc k j+T1)=ss+cc k j+T1:=kj _ eL;have ti:(0:Int)<=(k:Int)+1:=by omega
      have aw:(k:Int)<(nc:Int)+1:=by omega
      have bh:(0:Int)<=(j:Int)+1:=by omega
      have az:(I:Int)<(m:Int)+1:=by omega
      clear a7 bi J al aq a4;by_cases ad:ss+cc k j+T1=T0
      ·have HH:=aD.o t eL (by rw[ak.o];simp[ad]) ao.o;rw[show m-I-(t+1)=m-(j+1) by omega,<-hj] at HH;have af:=au (GI HG.o HH);rw[<-bp.o] at af;have t4:(ss+cc k j+T1==T0)=true:=by simpa using ad
       have t5:IntKind.i64.wrap T0=T0:=kj _ eL;clear HH ak bv gE a5 hj;go_wp2_with fail;refine aP (fun w'=>w'=wr.drew) eQ eQ rfl ?_;generalize wr.drew=wx at *
       (repeat(first|refine bM ?_|refine bN ?_))
       refine lex_nil ?_;have an:=au ac.o;clear t1 bn t2 t3 t4 t5 ti aw bh az k1 k2 k3 k4 ad c5 c6 ac ao HS;go_wp2_with (at_builtin;refine held ?_);obtain⟨F7,ab,-,ap⟩:=(an.o.below aO ((fe _ _).alloc (fL _) (.cells (fR j) 3))).take dS uL;refine lO.mk (jF rfl (.tmp 63) (.tmp 65) rfl pI _ 0 (v:=.slice A1 ps.length c1) (n:=ps.length) (xs:=ints ps) rfl ab.1 (A:=some ⟨wx.heap.size,0,none⟩) (m:=1) (c:=1) (news:=[.int .i64 j]) rfl (og wx j) (by rw[ar.o];omega) eS (fy _) ?_);intro v8 w8 aa ai ae;have S8:=ap _ _ (jk ab aa ai ae);obtain⟨A8,c8,rfl⟩:=iy aa;have S9:=au (GH S8);have a0:=au (show ps.length+1=(ps++[((j:Nat):Int)]).length by simp);clear aa ai ae ap ab an S8;go_wp2
       go_roundg g1
       case measure=>omega
       case rel=>exact⟨k+1,j+1,A8,c8,ps++[((j:Nat):Int)],by omega,by omega,by rw[a0.o],by go_num,by go_num,by rw[gj,ar.o];rfl,af.o,S9.o⟩
      ·have bc:=au (show ∀ u,u<t+1->Oo cc dd M nc m a (m-I) u=false from fun u hu=>by
        by_cases e:u=t
        ·subst e;rw[ak.o];simp[ad]
        ·exact ao.o u eL)
       have t4:(ss+cc k j+T1==T0)=false:=by simpa using ad
       have HJ:=au hj;clear ak ad gE a5 hj;go_wp2_with fail;refine aP (fun w'=>w'=wr.drew) eQ eQ rfl ?_;generalize wr.drew=wd at *
       (repeat(first|refine bM ?_|refine bN ?_))
       refine lex_nil ?_;clear t1 bn t2 t3 t4 ti aw bh az k1 k2 k3 k4 c5;go_wp2
       go_roundg g2
       case measure=>omega
       case rel=>exact⟨t+1,by omega,rfl,rfl,by rw[HS.o];try go_num,by rw[HJ.o];go_num,bc.o,ac.o⟩
     | zero=>
      obtain⟨j,hj⟩:∃ j,j=I+t:=⟨_,rfl⟩;obtain rfl:j=m:=by omega
      have HH:=a2.o (fun u hu=>ao.o u eL);have af:=au (GI HG.o HH);rw[<-bp.o] at af;have an:=au aq.o;rw[<-hj];generalize wr=wx at *
      clear HH aq ao hj a4;go_wp2_with (at_builtin;refine held ?_);obtain⟨F7,ab,-,ap⟩:=(an.o.below aO ((fe _ _).alloc (fL _) (.cells (fR j) 3))).take dS uL;refine lO.mk (jF rfl (.tmp 75) (.tmp 78) rfl pI _ 0 (v:=.slice A1 ps.length c1) (n:=ps.length) (xs:=ints ps) rfl ab.1 (A:=some ⟨wx.heap.size,0,none⟩) (m:=1) (c:=1) (news:=[.int .i64 j]) rfl (og wx j) (by rw[ar.o];omega) eS (fy _) ?_);intro v8 w8 aa ai ae;have S8:=ap _ _ (jk ab aa ai ae);obtain⟨A8,c8,rfl⟩:=iy aa;have S9:=au (GH S8);have a0:=au (show ps.length+1=(ps++[((j:Nat):Int)]).length by simp);clear aa ai ae ap ab an S8;go_wp2
      go_roundg g1
      case measure=>omega
      case rel=>exact⟨k+1,I,A8,c8,ps++[((j:Nat):Int)],by omega,by omega,by rw[a0.o],by go_num,by go_num,by rw[gj,ar.o];rfl,af.o,S9.o⟩
   | zero=>
    obtain rfl:k=nc:=by omega
    have bx:=au (show xg cc dd M k m k m=ps by rw[HG.o,nq];exact mT ps);have J:=HR.o.drew aO;have ac:=au J;have k2:=yN J.swap (r:=0) (fy _) (fy _);have k4:=yP J.swap (r:=0) (y:=0) (fy _) (fy _) (fy _);rw[HF.o 0 0 (fy _) (fy _),sn,sn] at k4;have aw:(0:Int)<(k:Int)+1:=by omega
    have az:(0:Int)<(m:Int)+1:=by omega
    clear HG bu J HR;go_wp2_with fail;refine aP (fun w'=>w'=wr.drew) eQ eQ rfl ?_;generalize wr.drew=wd at *
    (repeat(first|refine bM ?_|refine bN ?_))
    refine lex_nil ?_;clear k2 k4 aw az;go_wp2
    try rw[pH]
    go_ret3
    refine bm.o _ _ ac.o.cK ?_;rw[bx.o];obtain⟨F,hV⟩:=ac.o.fst;exact⟨A1,c1,rfl,fE hV⟩
def yQ(c:Nat->Nat->Int)(d e:Nat->Int)(n m:Nat):List (List Int):=(List.range (n+1)).map fun r=>(List.range (m+1)).map fun y=>GR c d e n m (n-r) (m-y)
def TD(c:Nat->Nat->Int)(d e:Nat->Int)(n m:Nat):List Int:=(yQ c d e n m).flatten
variable{i j:Nat}{d e:Nat->Int}
theorem kX{m:Nat}(f:Nat->Nat->Int):(((List.range n).map fun r=>(List.range m).map fun y=>f r y).flatten).length=n*m:=by
 induction n with
 | zero=>simp
 | succ n ih=>rw[vu,kp,zz,gj,ih];simp[li]
theorem QF{c:Nat->Nat->Int}{m:Nat}:(TD c d e n m).length=(n+1)*(m+1):=kX _
theorem flat_get{m:Nat}(f:Nat->Nat->Int)(hi:i<n)(I:j<m):(((List.range n).map fun r=>(List.range m).map fun y=>f r y).flatten)[i*m+j]?=some (f i j):=by
 induction n with
 | zero=>omega
 | succ n ih=>
  rw[vu,kp,zz];by_cases h:i<n
  ·rw[xp (by rw[kX];have:(i+1)*m<=n*m:=xy m h;rw[li] at this;omega)];exact ih h
  ·obtain rfl:i=n:=by omega
   rw[B9 (by rw[kX];omega),kX,Nat.add_sub_cancel_left];simp[I]
theorem aaH{c:Nat->Nat->Int}{m:Nat}(hi:i<=n)(hj:j<=m):(TD c d e n m)[i*(m+1)+j]?=some (GR c d e n m (n-i) (m-j)):=flat_get _ eL eL
theorem WX(R:List (List Int)):mN (R.map ints)=ints R.flatten:=by
 unfold mN ints;rw[List.map_flatten]
theorem aek{pg gg:Nat}{rb:Nat->Nat}{f:Nat->Nat->Int}{c:Nat->Nat->Int}{m:Nat}(h:aI eR w (aj (gI pg gg rb f 0 n m) bG) W)(hf:∀ r y,r<=n->y<=m->f r y=GR c d e n m (n-r) (m-y)):
  Oi W (some ⟨gg,0,none⟩) ((yQ c d e n m).map ints) ((List.range (n+1)).map fun r=>(some ⟨rb r,0,none⟩,m+1)) where
 len:=by simp[yQ]
 src:=by
  unfold gI at h;obtain⟨F,hC⟩:=h.assoc.kQ.assoc.fst
  have J:=iK hC (by
   intro u hu;obtain⟨r,_,rfl⟩:=List.mem_map.1 hu
   simp only[fy,if_true];rfl)
  have I:((yQ c d e n m).map ints).length=n+1:=by simp[yQ]
  rw[I];have M:(((List.range (n+1)).map fun r=>((some ⟨rb r,0,none⟩:eV),m+1)).mapIdx fun i x=>Value.slice x.1 (((yQ c d e n m).map ints).getD i []).length x.2)=fv (n+1) fun r=>if 0<=r then .slice (some ⟨rb r,0,none⟩) (m+1) (m+1) else .slice none 0 0:=by
   apply vr;intro i;rw[CC];by_cases hi:i<n+1
   ·rw[qG _ hi];simp[yQ,ki,hi,ints]
   ·rw[pP (l:=fv _ _) (by rw[Ai];omega),pP tb];rfl
  rw[M];exact J
 row:=fun i hi x hx=>by
  have ab:i<n+1:=by simpa[yQ] using hi
  obtain⟨F,hN⟩:=(yO h (r:=i) (fy _) eL).fst;have aa:x=(some ⟨rb i,0,none⟩,m+1):=by
   rw[lB,CL ab] at hx;simpa using hx.symm
  subst aa
  have J:=iK hN (by
   intro u hu;obtain⟨r,_,rfl⟩:=List.mem_map.1 hu
   rfl)
  have I:((yQ c d e n m).map ints)[i]=fv (m+1) fun y=>.int .i64 (f i y):=by
   rw[mx];unfold yQ;rw[mx,I0];unfold ints;rw[qu];exact qY (fun y hy=>by show Value.int .i64 _=_;rw[hf i y eL eL])
  have M:((yQ c d e n m).map ints)[i].length=m+1:=by rw[I,Ai]
  rw[M,I];exact J
def oC(C:List (List Int))(D E:List Int):List Int:=if mJ C D E then TD (cF C) (lF D) (lF E) D.length E.length else []
def Mm(w w':World)(v:Value)(l:List Int):Prop:=∃ A c,v=.slice A l.length c/\bT w eR (aY A c l) w'
def Ot(w:World)(C:List (List Int))(D E:List Int)(en:Ending)(w':World):Prop:=
 ∃ v,en=.returned (.tuple #[v,.int .i64 (L9 C D E)])/\Below w.heap.size w w'/\Mm w w' v (oC C D E)
theorem TF{B G:eV}{d e:Nat}{D E:List Int}(h:uJ w A C V)(hl:C.length<=maxLen)(hD:Vec w B D)(hE:Vec w G E):
  Calls Tryz.prog 31 #[.slice A C.length c,.slice B D.length d,.slice G E.length e] w (Ot w C D E):=by
 have KV:=au (jL (c:=c) (d:=d) (e:=e) h hl hD hE);have HP:=au (fun I=>DZ (w:=w) (C:=C) (D:=D) (E:=E) I h hD hE);clear h hD hE hl;cases I:mJ C D E with
 | false=>
  have HR:=au (show ∀ w':World,Below w.heap.size w w'->Ot w C D E (.returned (.tuple (pC none 0 0 1))) w' from fun w' hb=>⟨_,by simp only[L9,I];rfl,hb,by simp only[oC,I];exact⟨none,0,rfl,fun _=>False,lH w',Mod.of_below hb,fun _ h=>h.elim⟩⟩);rw[I] at KV;clear HP I
  go_enter Tryz.func31,Tryz.ntmps31
  go_wp2_with fail;refine KV.o.mono ?_;rintro e9 w1 ⟨rfl,fX⟩;have HB:=au fX;clear fX KV;go_wp2
  try rw[pH]
  go_ret2
  exact HR.o _ HB.o
 | true=>
  rw[I] at KV;have hP:=HP.o I;have ag:=hP.n6;have af:=hP.m6;obtain⟨nc,J⟩:∃ n,n=C.length:=⟨_,rfl⟩;obtain⟨n,hn⟩:∃ n,n=D.length:=⟨_,rfl⟩;obtain⟨m,hm⟩:∃ n,n=E.length:=⟨_,rfl⟩;have ai:nc=n:=by rw[J,hn];exact hP.hn
  have aa:=au (show ∀ (v:Value) (w':World),Below w.heap.size w w'->Mm w w' v (TD (cF C) (lF D) (lF E) n m)->Ot w C D E (.returned (.tuple #[v,.int .i64 0])) w' from fun v w' hb ha=>⟨v,by simp only[L9,I];rfl,hb,by simp only[oC,I,<-hn,<-hm];exact ha⟩);rw[<-hn,<-hm] at hP;rw[<-hn] at ag;rw[<-hm] at af;have HQ:=au hP.q;rw[<-J,<-hn,<-hm] at KV;rw[<-J,<-hn,<-hm];subst ai;clear HP I hP J hn hm;generalize cF C=cc at *
  generalize lF D=dd at *
  generalize lF E=M at *
  go_enter Tryz.func31,Tryz.ntmps31
  go_wp2_with fail;refine KV.o.mono ?_;rintro e9 w1 ⟨rfl,fX⟩;have ac:=au fX;have KG:=au (L8 (HQ.o.below fX) c d e);clear fX KV;go_wp2_with fail;refine KG.o.mono ?_;rintro e9 w2 ⟨pg,gg,rb,f,rfl,hR2,hf⟩;have hX:=aek hR2 hf;have gE:=au (aC ac.o hR2.cK);have e1:((yQ cc dd M nc m).map ints).length=nc+1:=by simp[yQ]
  have e2:(mN ((yQ cc dd M nc m).map ints))=ints (TD cc dd M nc m):=WX _;have e3:(ints (TD cc dd M nc m)).length=(TD cc dd M nc m).length:=yJ _;have e4:(TD cc dd M nc m).length<=1000:=by
   rw[QF];have:(nc+1)*(m+1)<=7*7:=sT eL eL;omega
  have KC:=au (Bh (c:=nc+1) hX (by rw[e1];omega) (by rw[e2,e3];exact e4));rw[e1,e2,e3] at KC;clear KG hR2 hf hX e1 e2 e3 e4 HQ ac;go_wp2_with fail;refine KC.o.mono ?_;rintro e9 w3 ⟨A3,c3,rfl,hP3⟩;have ab:=au (aC gE.o ((aI.begin w2).fresh aM hP3).cK)
  have ae:=au (show Mm w w3 (.slice A3 (TD cc dd M nc m).length c3) (TD cc dd M nc m) from by
   obtain⟨F,hF,-,ad⟩:=hP3
   exact⟨A3,c3,rfl,F,hF,Mod.of_below ab.o,fun i hi=>(ad i hi).elim (fun h=>h.elim) (fun h=>.inr ⟨j8 gE.o.size h.1,h.2⟩)⟩)
  clear hP3 KC gE;go_wp2
  try rw[pH]
  go_ret2
  exact aa.o _ _ ab.o ae.o
section
variable{w0 W:World}{X:CH.aU}{po pn pl pw cl:Nat}{LA:eV}{L:List Int}{n m:Nat}{z:Int}
def QG(po pn pl pw:Nat)(LA:eV)(cl len m:Nat)(z:Int)(b:Bool)(X:CH.aU):CH.aU:=
 aj (av po (gv b) 4) (aj (av pn (fR z) 3) (aj (av pl (il LA len cl) 39) (aj (av pw (fR ((m:Int)+1)) 3) X)))
def S3(w0:World)(po pn pl pw:Nat)(LA:eV)(cl len m:Nat)(z:Int)(b:Bool)(X:CH.aU)(e:Ending)(w':World):Prop:=e=.returned (.tuple #[])/\aI eR w0 (QG po pn pl pw LA cl len m z b X) w'
variable{b:Bool}{len:Nat}
theorem WY(hX:X.Ok):(QG po pn pl pw LA cl len m z b X).Ok:=aB aF (aB aF (aB aF (aB aF hX)))
instance {b:Bool} {len:Nat} [hX:X.Ok]:(QG po pn pl pw LA cl len m z b X).Ok:=WY hX
theorem Mc(h:aI eR w0 (QG po pn pl pw LA cl len m z b X) W):
  W.cell? ⟨po,0,none⟩=some (.bool b)/\W.frozen? ⟨po,0,none⟩=false/\W.cell? ⟨pn,0,none⟩=some (.int .i64 z)/\W.cell? ⟨pl,0,none⟩=some (.slice LA len cl)/\W.cell? ⟨pw,0,none⟩=some (.int .i64 ((m:Int)+1)):=by
 unfold QG at h;obtain⟨F,hC⟩:=h.fst;obtain⟨F2,J⟩:=h.drop.fst;obtain⟨F3,I⟩:=h.drop.drop.fst;obtain⟨F4,M⟩:=h.drop.drop.drop.fst;exact⟨ay hC rfl,aN hC 0,ay J rfl,ay I rfl,ay M rfl⟩
theorem ac8(hX:X.Ok)(h:aI eR w0 (QG po pn pl pw LA cl len m z b X) W)(v:Bool):aI eR w0 (QG po pn pl pw LA cl len m z v X) (W.setCell ⟨po,0,none⟩ (.bool v)):=by
 unfold QG at *
 exact jd aO h 0 (.bool v) rfl
theorem aaI{q:Int}{x y:Nat}(hX:X.Ok)(h:aI eR w0 (QG po pn pl pw LA cl L.length m z b X) W)(hL:Vec w0 LA L)(J:L.length=(n+1)*(m+1))(ad:x<=n)(hy:y<=m)(hn:n<=7)(hm:m<=6)(hq:0<=q/\q<=100000)(hf:∀ i,i<L.length->-1000000<=lF L i/\lF L i<=1000000):
  Calls Tryz.prog 54 #[.int .i64 (x:Int),.int .i64 (y:Int),.int .i64 q,.pointer (some ⟨po,0,none⟩),.pointer (some ⟨pn,0,none⟩),.pointer (some ⟨pl,0,none⟩),.pointer (some ⟨pw,0,none⟩)] W (S3 w0 po pn pl pw LA cl L.length m z (b&&decide (z<=q+lF L (x*(m+1)+y))) X):=by
 have hR:=h.drew (WY hX);have HP:=au (ac8 hX hR);obtain⟨c1,f1,c2,c3,c4⟩:=Mc hR;have ab:x*(m+1)<=n*(m+1):=xy _ ad;rw[li] at J;obtain⟨a,ha⟩:∃ a,a=x*(m+1):=⟨_,rfl⟩;have ac:(x:Int)*((m:Int)+1)=(a:Int):=by rw[ha];push_cast;rfl
 rw[<-ha] at ab ⊢;obtain⟨s,hs⟩:∃ s,s=a+y:=⟨_,rfl⟩;have M:s<L.length:=by omega
 have ag:=hf s M;have ae:a<=49:=by
  have:n*(m+1)<=7*7:=sT eL eL;omega
 obtain⟨bl,ol,rfl,aa⟩:=Mf hL rfl M;have c5:=aa _ hR.cK;have t1:IntKind.i64.wrap ((x:Int)*((m:Int)+1))=(a:Int):=by rw[ac];exact kj _ eL
 have t2:IntKind.i64.wrap ((a:Int)+(y:Int))=(s:Int):=by rw[kj _ eL];omega
 have t3:IntKind.i64.wrap (q+lF L s)=q+lF L s:=kj _ eL;rw[<-hs];have af:(s:Int)<((L.length:Nat):Int):=by omega
 generalize lF L s=v at *
 generalize L.length=len at *
 clear h hR hL hf aa ha ac ab hs J;cases b with
 | false=>
  go_enter Tryz.func54,Tryz.ntmps54
  go_wp2_with fail;refine eG (fun w'=>w'=W.drew) eQ eQ eQ rfl ?_;generalize W.drew=wd at *
  (repeat(first|refine bM ?_|refine bN ?_))
  refine jl rfl gh (fun KK I=>?_);go_wp2_with fail;refine I.o _ _ ?_;clear I;go_wp2
  go_end0
  exact⟨rfl,HP.o _⟩
 | true=>
  by_cases hz:z<=q+v
  ·have td:decide (z<=q+v)=true:=decide_eq_true hz;rw[td]
   go_enter Tryz.func54,Tryz.ntmps54
   go_wp2_with fail;refine eG (fun w'=>w'=W.drew) eQ eQ eQ rfl ?_;generalize W.drew=wd at *
   (repeat(first|refine bM ?_|refine bN ?_))
   refine jl rfl gh (fun KK I=>?_);go_wp2_with fail;refine I.o _ _ ?_;clear I;go_wp2
   go_end0
   exact⟨rfl,HP.o _⟩
  ·have td:decide (z<=q+v)=false:=decide_eq_false hz;rw[td]
   go_enter Tryz.func54,Tryz.ntmps54
   go_wp2_with fail;refine eG (fun w'=>w'=W.drew) eQ eQ eQ rfl ?_;generalize W.drew=wd at *
   (repeat(first|refine bM ?_|refine bN ?_))
   refine jl rfl gh (fun KK I=>?_);go_wp2_with fail;refine I.o _ _ ?_;clear I;go_wp2
   go_end0
   exact⟨rfl,HP.o _⟩
end
def fX(d:Nat->Int)(L:List Int)(n m i j:Nat)(z:Int)(b:Bool):Bool:=if i<n then b&&decide (z<=d i+lF L ((i+1)*(m+1)+j)) else b
def gE(e:Nat->Int)(L:List Int)(m i j:Nat)(z:Int)(b:Bool):Bool:=if j<m then b&&decide (z<=e j+lF L (i*(m+1)+(j+1))) else b
def mn(c:Nat->Nat->Int)(L:List Int)(n m i j:Nat)(z:Int)(b:Bool):Bool:=if i<n/\j<m then b&&decide (z<=c i j+lF L ((i+1)*(m+1)+(j+1))) else b
section
variable{w0 W:World}{X:CH.aU}{po pn pl pw cl:Nat}{LA:eV}{L:List Int}{A B G:eV}{c:Nat→Nat→Int}{d e:Nat→Int}{n m:Nat}{z:Int}
theorem aaJ{b:Bool}(hq:GJ w0 A B G c d e n m)(hX:X.Ok)(h:aI eR w0 (QG po pn pl pw LA cl L.length m z b X) W)(hL:Vec w0 LA L)(ab:L.length=(n+1)*(m+1))(hi:i<=n)(hj:j<=m)(hf:∀ i,i<L.length->-1000000<=lF L i/\lF L i<=1000000)(ca cb cg:Nat):
  Calls Tryz.prog 53 #[.slice A n ca,.slice B n cb,.slice G m cg,.int .i64 (i:Int),.int .i64 (j:Int),.func (.func 54) #[] #[.pointer (some ⟨po,0,none⟩),.pointer (some ⟨pn,0,none⟩),.pointer (some ⟨pl,0,none⟩),.pointer (some ⟨pw,0,none⟩)]] W (S3 w0 po pn pl pw LA cl L.length m z (mn c L n m i j z (gE e L m i j z (fX d L n m i j z b))) X):=by
 have HQ:=au hq;have HR:=au h;have ar:=hq.n7;have aq:=hq.m6;have HV:=au (fun (b:Bool) (q:Int) (x y:Nat) (W:World) (h:aI eR w0 (QG po pn pl pw LA cl L.length m z b X) W) (hx2:x<=n) (hy:y<=m) (hq:0<=q/\q<=100000)=>aaI hX h hL ab hx2 hy eL eL hq hf);clear h hq hL ab hf;by_cases J:i<n
 ·obtain⟨bd,od,rfl,af⟩:=HQ.o.D i J;have ap:=HQ.o.db i J;have c0:=af _ HR.o.cK;have K1:=au (HV.o b (d i) (i+1) j W HR.o eL hj eL);rw[show((i+1:Nat):Int)=(i:Int)+1 by omega] at K1;have H1:=au (show fX d L n m i j z b=(b&&decide (z<=d i+lF L ((i+1)*(m+1)+j))) by simp[fX,J]);rw[<-H1.o] at K1;clear af H1;by_cases I:j<m
  ·have an:=HQ.o.eb j I;have K2:=au (fun W h=>HV.o (fX d L n m i j z b) (e j) i (j+1) W h eL eL eL);rw[show((j+1:Nat):Int)=(j:Int)+1 by omega] at K2;have H2:=au (show gE e L m i j z (fX d L n m i j z b)=(fX d L n m i j z b&&decide (z<=e j+lF L (i*(m+1)+(j+1)))) by simp[gE,I]);rw[<-H2.o] at K2;have ao:=HQ.o.cb i J j I;have K3:=au (fun W h=>HV.o (gE e L m i j z (fX d L n m i j z b)) (c i j) (i+1) (j+1) W h eL eL eL);rw[show((j+1:Nat):Int)=(j:Int)+1 by omega,show((i+1:Nat):Int)=(i:Int)+1 by omega] at K3;have H3:=au (show mn c L n m i j z (gE e L m i j z (fX d L n m i j z b))=(gE e L m i j z (fX d L n m i j z b)&&decide (z<=c i j+lF L ((i+1)*(m+1)+(j+1)))) by simp[mn,J,I]);rw[<-H3.o] at K3;clear H2 H3 HV;obtain⟨be,oe,rfl,aa⟩:=HQ.o.E j I;obtain⟨ba,oa,RR,cR,rfl,ag,ac⟩:=HQ.o.R i J;obtain⟨b',o',rfl,ad⟩:=ac j I;have al:=au aa;have ak:=au ag;have am:=au ad;clear aa ag ac ad
   go_enter Tryz.func53,Tryz.ntmps53
   go_wp2_with fail;refine K1.o.mono ?_;rintro e9 w1 ⟨rfl,h1⟩;have c1:=al.o _ h1.cK;have ae:=au (K2.o _ h1);clear K1 K2 h1 c0;go_wp2_with fail;refine ae.o.mono ?_;rintro e9 w2 ⟨rfl,h2⟩;have c2:=ak.o _ h2.cK;have c3:=am.o _ h2.cK;have ai:=au (K3.o _ h2);clear ae K3 h2 c1;go_wp2_with fail;refine ai.o.mono ?_;rintro e9 w3 ⟨rfl,h3⟩;have M:=au h3;clear ai h3 c2 c3;go_wp2
   go_end0
   exact⟨rfl,M.o⟩
  ·have H2:=au (show mn c L n m i j z (gE e L m i j z (fX d L n m i j z b))=fX d L n m i j z b by simp[mn,gE,I]);rw[H2.o];clear H2 HV
   go_enter Tryz.func53,Tryz.ntmps53
   go_wp2_with fail;refine K1.o.mono ?_;rintro e9 w1 ⟨rfl,h1⟩;have M:=au h1;clear K1 h1 c0;go_wp2
   go_end0
   exact⟨rfl,M.o⟩
 ·have H1:=au (show fX d L n m i j z b=b by simp[fX,J]);rw[H1.o];by_cases I:j<m
  ·have an:=HQ.o.eb j I;have K2:=au (HV.o b (e j) i (j+1) W HR.o eL eL eL);rw[show((j+1:Nat):Int)=(j:Int)+1 by omega] at K2;have H2:=au (show mn c L n m i j z (gE e L m i j z b)=(b&&decide (z<=e j+lF L (i*(m+1)+(j+1)))) by simp[mn,gE,J,I]);rw[H2.o];obtain⟨be,oe,rfl,aa⟩:=HQ.o.E j I;have c1:=aa _ HR.o.cK;clear H2 HV aa H1
   go_enter Tryz.func53,Tryz.ntmps53
   go_wp2_with fail;refine K2.o.mono ?_;rintro e9 w1 ⟨rfl,h1⟩;have M:=au h1;clear K2 h1 c1;go_wp2
   go_end0
   exact⟨rfl,M.o⟩
  ·have H2:=au (show mn c L n m i j z (gE e L m i j z b)=b by simp[mn,gE,J,I]);rw[H2.o];clear H2 HV H1
   go_enter Tryz.func53,Tryz.ntmps53
   go_wp2
   go_end0
   exact⟨rfl,HR.o⟩
end
def BE(c:Nat->Nat->Int)(d e:Nat->Int)(L:List Int)(n m k:Nat)(b:Bool):Bool:=mn c L n m (k / (m+1)) (k % (m+1)) (lF L k) (gE e L m (k / (m+1)) (k % (m+1)) (lF L k) (fX d L n m (k / (m+1)) (k % (m+1)) (lF L k) b))
def DY(c:Nat->Nat->Int)(d e:Nat->Int)(L:List Int)(n m:Nat):Nat->Bool
 | 0=>true
 | k+1=>BE c d e L n m k (DY c d e L n m k)
def yR(C:List (List Int))(D E L:List Int):Bool:=mJ C D E&&decide (L.length=(D.length+1)*(E.length+1))&&wi L (-1000000) 1000000&&decide (lF L (L.length-1)<=0)
def nT(C:List (List Int))(D E L:List Int):Int × Bool:=if(yR C D E L&&DY (cF C) (lF D) (lF E) L D.length E.length L.length)=true then(lF L 0,true) else(0,false)
variable{pw len:Nat}{LA:eV}
theorem I9{D E L:List Int}(h:yR C D E L=false):nT C D E L=(0,false):=by unfold nT;rw[if_neg (by simp[h])]
theorem WZ{D E L:List Int}(h:DY (cF C) (lF D) (lF E) L D.length E.length L.length=false):nT C D E L=(0,false):=by unfold nT;rw[if_neg (by simp[h])]
theorem Md{D E L:List Int}(h:yR C D E L=true)(hF:DY (cF C) (lF D) (lF E) L D.length E.length L.length=true):nT C D E L=(lF L 0,true):=by unfold nT;rw[if_pos (by simp[h,hF])]
def EX(pl pw:Nat)(LA:eV)(cl len m:Nat):CH.aU:=aj (av pl (il LA len cl) 39) (aj (av pw (fR ((m:Int)+1)) 3) bG)
theorem qF{pl:Nat}{cl m:Nat}:(EX pl pw LA cl len m).Ok:=aB aF (aB aF aM)
instance {pl pw:Nat} {LA:eV} {cl len m:Nat}:(EX pl pw LA cl len m).Ok:=qF
theorem jo{pl:Nat}{cl m:Nat}(h:aI eR w0 (EX pl pw LA cl len m) W):W.cell? ⟨pl,0,none⟩=some (.slice LA len cl)/\W.cell? ⟨pw,0,none⟩=some (.int .i64 ((m:Int)+1)):=by
 unfold EX at h;obtain⟨F,hC⟩:=h.fst;obtain⟨F2,hC2⟩:=h.drop.fst;exact⟨ay hC rfl,ay hC2 rfl⟩
theorem aaK(w:World)(LA:eV)(cl len m:Nat):aI eR w (EX w.heap.size (w.heap.size+1) LA cl len m) ((w.alloc (.cells (il LA len cl) 39)).alloc (.cells (fR ((m:Int)+1)) 3)):=by
 have J:=(aI.begin w).fresh aM (dU w (il LA len cl) 39);have h:=J.fresh aO (dU _ (fR ((m:Int)+1)) 3);have I:(w.alloc (.cells (il LA len cl) 39)).heap.size=w.heap.size+1:=by simp
 rw[I] at h;exact h.perm (by unfold EX;ac_rfl)
theorem EY{B G LA:eV}{d e cl:Nat}{D E L:List Int}(h:uJ w A C V)(hl:C.length<=maxLen)(hD:Vec w B D)(hE:Vec w G E)(hL:Vec w LA L)(a5:L.length<=1000000)(bi:E.length<=1000000)(be:D.length<=1000000):
  Calls Tryz.prog 34 #[.slice A C.length c,.slice B D.length d,.slice G E.length e,.slice LA L.length cl] w (rZ w (nT C D E L)):=by
 have KV:=au (fun (w':World) (hb:Below w.heap.size w w')=>jL (c:=c) (d:=d) (e:=e) (h.below hb) hl (hD.below hb) (hE.below hb));have KW:=au (fun (w':World) (hb:Below w.heap.size w w')=>mM (c:=cl) (hL.below hb) a5 (-1000000) 1000000);have HP:=au (fun hv=>DZ (w:=w) (C:=C) (D:=D) (E:=E) hv h hD hE);have H6:=au (fun hv=>vG (C:=C) (D:=D) (E:=E) hv);have HL:=au hL;have J:=au (show yR C D E L=(mJ C D E&&decide (L.length=(D.length+1)*(E.length+1))&&wi L (-1000000) 1000000&&decide (lF L (L.length-1)<=0)) from rfl);have af:=au (fun hf=>I9 (C:=C) (D:=D) (E:=E) (L:=L) hf);have ab:=au (fun hf=>WZ (C:=C) (D:=D) (E:=E) (L:=L) hf);have ae:=au (fun h0 hf=>Md (C:=C) (D:=D) (E:=E) (L:=L) h0 hf);have al:=au (fun h0=>Mn (l:=L) (lo:=-1000000) (hi:=1000000) h0);obtain⟨n,hn⟩:∃ n,n=D.length:=⟨_,rfl⟩;obtain⟨m,hm⟩:∃ n,n=E.length:=⟨_,rfl⟩;obtain⟨nc,ar⟩:∃ n,n=C.length:=⟨_,rfl⟩;obtain⟨nl,ak⟩:∃ n,n=L.length:=⟨_,rfl⟩;have am:=au (fun (i:Nat) hi=>Mf (n:=nl) (i:=i) hL ak.symm hi);have ai:=au ak;have a1:=au ar;have an:=au (aaK w LA cl nl m);rw[<-hn,<-hm] at HP ab J;rw[<-ak] at ab J al KW;rw[<-hn,<-hm,<-ak] at ae;rw[<-hn] at be;rw[<-hm] at bi;rw[<-hn,<-hm,<-ar] at KV;rw[<-ak] at a5;rw[<-hn,<-hm,<-ar,<-ak];have tw:IntKind.i64.wrap ((m:Int)+1)=(m:Int)+1:=kj _ eL;have tn:IntKind.i64.wrap ((n:Int)+1)=(n:Int)+1:=kj _ eL;clear h hl hD hE hL hn hm ar ak;cases hv:mJ C D E with
 | false=>
  rw[hv] at J;have HF:=au (af.o (by rw[J.o];rfl));have M:=au an.o;have ac:=au (KV.o _ an.o.cK);rw[hv] at ac;clear J af ab ae KW HP H6 an KV hv al am HL ai a1
  go_enter Tryz.func34,Tryz.ntmps34
  go_wp2_with fail;refine ac.o.mono ?_;rintro e9 w1 ⟨rfl,fX⟩;obtain⟨pl,aa⟩:∃ pl,pl=w.heap.size:=⟨_,rfl⟩;rw[<-aa] at M ⊢;have I:=au (M.o.below qF fX);obtain⟨k1,k2⟩:=jo I.o;clear ac M fX aa;have HB:=au I.o.cK;clear I k1 k2;go_wp2
  go_ret2
  exact kI HF.o HB.o
 | true=>
  rw[hv,lx] at J;have hP:=HP.o hv;have br:=hP.n6;have bv:=hP.m6;have HQ:=au hP.q;have bn:n=nc:=by rw[a1.o];exact hP.hn.symm
  subst bn;have M:=au an.o;have ac:=au (KV.o _ an.o.cK);rw[hv] at ac;clear HP hP H6 an KV hv a1;generalize cF C=cc at *
  generalize lF D=dd at *
  generalize lF E=ee at *
  obtain⟨K,hK⟩:∃ K,K=(n+1)*(m+1):=⟨_,rfl⟩;have bw:1<=K:=by rw[hK];exact Ha (Nat.succ_pos _) (Nat.succ_pos _)
  have bu:K<=49:=by rw[hK];exact sT (show n+1<=7 by omega) (show m+1<=7 by omega)
  have a9:((n:Int)+1)*((m:Int)+1)=(K:Int):=by rw[hK];push_cast;rfl
  have tk:IntKind.i64.wrap (((n:Int)+1)*((m:Int)+1))=(K:Int):=by rw[a9];exact kj _ eL
  rw[<-hK] at J;have HK:=au hK;clear hK a9;by_cases h1:nl=K
  case neg=>
   have HF:=au (af.o (by rw[J.o,decide_eq_false h1];rfl));clear af ab ae KW al am ai J HQ HK HL
   go_enter Tryz.func34,Tryz.ntmps34
   go_wp2_with fail;refine ac.o.mono ?_;rintro e9 w1 ⟨rfl,fX⟩;obtain⟨pl,aa⟩:∃ pl,pl=w.heap.size:=⟨_,rfl⟩;rw[<-aa] at M ⊢;have I:=au (M.o.below qF fX);obtain⟨k1,k2⟩:=jo I.o;clear ac M fX aa;have HB:=au I.o.cK;clear I;go_wp2
   go_ret2
   exact kI HF.o HB.o
  rw[decide_eq_true h1,lx] at J;obtain⟨s,hs⟩:∃ s,nl=s+1:=⟨nl-1,by omega⟩;have ts:IntKind.i64.wrap ((nl:Int)-1)=(s:Int):=by rw[kj _ eL];omega
  have a3:nl-1=s:=by omega
  have bp:(s:Int)<(nl:Int):=by omega
  have bm:s<nl:=by omega
  rw[a3] at J;subst h1;clear hs a3;cases h3:wi L (-1000000) 1000000 with
  | false=>
   rw[h3] at J KW;have HF:=au (af.o (by rw[J.o];rfl));clear af ab ae al am ai J HQ HK h3 HL
   go_enter Tryz.func34,Tryz.ntmps34
   go_wp2_with fail;refine ac.o.mono ?_;rintro e9 w1 ⟨rfl,fX⟩;obtain⟨pl,aa⟩:∃ pl,pl=w.heap.size:=⟨_,rfl⟩;rw[<-aa] at M ⊢;have I:=au (M.o.below qF fX);obtain⟨k1,k2⟩:=jo I.o;clear ac M fX aa;have ag:=au (KW.o _ I.o.cK);clear KW;go_wp2_with fail;refine ag.o.mono ?_;rintro e9 w2 ⟨rfl,gE⟩;have ad:=au (I.o.below qF gE);clear ag k1 k2 I gE;obtain⟨k1,k2⟩:=jo ad.o;have HB:=au ad.o.cK;clear ad;go_wp2
   go_ret2
   exact kI HF.o HB.o
  | true=>
   rw[h3,lx] at J;rw[h3] at KW;have a2:=au (al.o h3);clear h3;obtain⟨bl,ol,rfl,a8⟩:=am.o s bm;have a6:=au a8;clear a8;by_cases h4:lF L s<=0
   case neg=>
    have HF:=au (af.o (by rw[J.o,decide_eq_false h4]));clear af ab ae al am ai J HQ HK a2 HL
    go_enter Tryz.func34,Tryz.ntmps34
    go_wp2_with fail;refine ac.o.mono ?_;rintro e9 w1 ⟨rfl,fX⟩;obtain⟨pl,aa⟩:∃ pl,pl=w.heap.size:=⟨_,rfl⟩;rw[<-aa] at M ⊢;have I:=au (M.o.below qF fX);obtain⟨k1,k2⟩:=jo I.o;clear ac M fX aa;have ag:=au (KW.o _ I.o.cK);clear KW;go_wp2_with fail;refine ag.o.mono ?_;rintro e9 w2 ⟨rfl,gE⟩;have ad:=au (I.o.below qF gE);clear ag k1 k2 I gE;obtain⟨k1,k2⟩:=jo ad.o;have HB:=au ad.o.cK;have c5:=a6.o _ HB.o;clear ad;go_wp2
    go_ret2
    exact kI HF.o HB.o
   have HY:=au (ae.o (by rw[J.o,decide_eq_true h4]));clear af ae J al
   go_enter Tryz.func34,Tryz.ntmps34
   go_wp2_with fail;refine ac.o.mono ?_;rintro e9 w1 ⟨rfl,fX⟩;obtain⟨pl,aa⟩:∃ pl,pl=w.heap.size:=⟨_,rfl⟩;rw[<-aa] at M ⊢;have I:=au (M.o.below qF fX);obtain⟨k1,k2⟩:=jo I.o;clear ac M fX aa;have ag:=au (KW.o _ I.o.cK);clear KW;go_wp2_with fail;refine ag.o.mono ?_;rintro e9 w2 ⟨rfl,gE⟩;have ad:=au (I.o.below qF gE);clear ag k1 k2 I gE;obtain⟨k1,k2⟩:=jo ad.o;have c5:=a6.o _ ad.o.cK;have aw:=ad.o.fresh qF (dU w2 (gv true) 4);have a7:=au aw;obtain⟨k3,-⟩:=jo aw.drop;clear aw ad;go_wp2;generalize w2.heap.size=po at *
   go_loopg [48] nl (fun g1 s wr=>∃ k:Nat,k+g1=nl/\s=.int .i64 k/\aI eR w (aj (av po (gv (DY cc dd ee L n m k)) 4) (EX pl (pl+1) (some ⟨bl,ol,none⟩) cl nl m)) wr)
   case atStart=>exact⟨0,mB _,rfl,a7.o⟩
   case round=>
    obtain⟨k,bo,rfl,hR⟩:=hrel;have HR:=au hR;clear hR a7;cases gk with
    | succ g1=>
     have aE:k<nl:=by omega
     have hz:=a2.o k aE;obtain⟨aq,ap,e0,ao⟩:=am.o k aE;obtain⟨rfl,rfl⟩:aq=bl/\ap=ol:=by simpa[eq_comm] using e0
     have c6:=ao _ HR.o.cK;obtain⟨z,aA⟩:∃ z,z=lF L k:=⟨_,rfl⟩;have HZ:=au aA;rw[<-aA] at c6 hz
     have a4:=au (show aI eR w (QG po wr.heap.size pl (pl+1) (some ⟨aq,ap,none⟩) cl nl m z (DY cc dd ee L n m k) bG) (wr.alloc (.cells (fR z) 3)) from
      ((HR.o.fresh aO (dU wr (fR z) 3)).perm (by unfold QG EX;ac_rfl)))
     obtain⟨i,hi⟩:∃ i,i=k / (m+1):=⟨_,rfl⟩;obtain⟨j,hj⟩:∃ j,j=k % (m+1):=⟨_,rfl⟩;have bk:i<=n:=by
      have h8:k<(m+1)*(n+1):=by rw[mC,<-HK.o];exact aE
      have h9:=ui h8;omega
     have ba:j<=m:=by have:=qS k (show 0<m+1 by omega);omega
     have HA:=au (show DY cc dd ee L n m (k+1)=mn cc L n m i j z (gE ee L m i j z (fX dd L n m i j z (DY cc dd ee L n m k))) by rw[hi,hj,HZ.o];rfl);have td:wrap64 ((k:Int) / ((m:Int)+1))=(i:Int):=by
      have e8:(k:Int) / ((m:Int)+1)=(i:Int):=by rw[hi];push_cast;rfl
      rw[e8];exact qk (i:Int) eL
     have tm:(k:Int) % ((m:Int)+1)=(j:Int):=by rw[hj];push_cast;rfl
     have tz:((m:Int)+1==0)=false:=by simp;omega
     have bh:¬ ((m:Int)+1=0):=by omega
     clear ao e0 aA hi hj;go_wp2_with fail;generalize (wr.alloc (.cells (fR z) 3))=wx at *
     generalize wr.heap.size=pn at *
     have az:=a4.o.drew (WY aM);have bf:=au az;obtain⟨-,-,-,q2,q3⟩:=Mc az;have KN:=aaJ (L:=L) (z:=z) (b:=DY cc dd ee L n m k) (m:=m) (n:=n) HQ.o aM (W:=wx.drew) (by rw[<-ai.o];exact bf.o) HL.o (by rw[<-ai.o];exact HK.o) bk ba (by rw[<-ai.o];exact a2.o) c d e;rw[<-ai.o,<-HA.o] at KN;have a0:=au KN;obtain⟨bb,ax⟩:∃ bb,bb=DY cc dd ee L n m (k+1):=⟨_,rfl⟩;rw[<-ax] at a0;have bj:=au ax;clear KN az a4 HA c6 ax;refine eG (fun w'=>w'=wx.drew) eQ eQ eQ rfl ?_;generalize wx.drew=wd at *
     (repeat(first|refine bM ?_|refine bN ?_))
     refine jl rfl gh (fun KK hK=>?_);go_wp2_with fail;rw[td,tm];refine a0.o.mono ?_;rintro e9 w4 ⟨rfl,hR4⟩;have bc:=au (show aI eR w (aj (av po (gv bb) 4) (EX pl (pl+1) (some ⟨aq,ap,none⟩) cl nl m)) w4 from by unfold QG at hR4;unfold EX;exact hR4.kQ.drop);clear hR4 a0 q2 q3 td tm tz bh;go_wp2_with fail;refine hK.o _ _ ?_;clear hK;go_wp2
     go_roundg g1
     case measure=>omega
     case rel=>exact⟨k+1,by omega,by go_num,by rw[<-bj.o];exact bc.o⟩
    | zero=>
     obtain rfl:k=nl:=by omega
     obtain⟨F,hC⟩:=HR.o.fst;have c1:wr.cell? ⟨po,0,none⟩=some (.bool (DY cc dd ee L n m k)):=ay hC rfl;obtain⟨c2,-⟩:=jo HR.o.drop;have aD:=au HR.o.cK;clear hC HR;cases hb:DY cc dd ee L n m k with
     | false=>
      have HF:=au (ab.o hb);rw[hb] at c1;clear hb ab HY;go_wp2
      go_ret2
      exact kI HF.o aD.o
     | true=>
      have HF:=au (HY.o hb);obtain⟨aq,ap,e0,ao⟩:=am.o 0 eL;obtain⟨rfl,rfl⟩:aq=bl/\ap=ol:=by simpa[eq_comm] using e0
      have c3:=ao _ aD.o;rw[pk] at c3;rw[hb] at c1;have t0:(0:Int)<(k:Int):=by omega
      generalize lF L 0=z0 at *
      clear hb ab HY ao e0;go_wp2
      go_ret2
      exact kI HF.o aD.o
variable{k:Nat}
theorem ac9{m:Nat}(hj:j<=m):(i*(m+1)+j) / (m+1)=i:=by
 rw[mC,Ln eL,GB eL];rfl
theorem ada{m:Nat}(hj:j<=m):(i*(m+1)+j) % (m+1)=j:=by
 rw[mC,Lq,GC eL]
section
variable{c:Nat→Nat→Int}{d e:Nat→Int}{L:List Int}{n m:Nat}
def q1(d:Nat->Int)(L:List Int)(n m i p:Nat):Bool:=!(decide (i<n)&&decide (d i+lF L (p+m+1)<lF L p))
def q2(e:Nat->Int)(L:List Int)(m j p:Nat):Bool:=!(decide (j<m)&&decide (e j+lF L (p+1)<lF L p))
def q3(c:Nat->Nat->Int)(L:List Int)(n m i j p:Nat):Bool:=!(decide (i<n)&&decide (j<m)&&decide (c i j+lF L (p+m+2)<lF L p))
theorem Me{p:Nat}(J:j<=m)(I:p=i*(m+1)+j)(hb:DY c d e L n m p=true):DY c d e L n m (p+1)=(q1 d L n m i p&&q2 e L m j p&&q3 c L n m i j p):=by
 show BE c d e L n m p (DY c d e L n m p)=_
 rw[hb];unfold BE;rw[I,ac9 J,ada J,<-I];have e1:(i+1)*(m+1)+j=p+m+1:=by rw[I,li];omega
 have e2:i*(m+1)+(j+1)=p+1:=by rw[I];omega
 have M:(i+1)*(m+1)+(j+1)=p+m+2:=by rw[I,li];omega
 unfold fX gE mn q1 q2 q3;rw[e1,e2,M];have t:∀ a b:Int,decide (a<=b)=!decide (b<a):=fun a b=>by
  by_cases h:a<=b
  ·rw[decide_eq_true h,decide_eq_false eL];rfl
  ·rw[decide_eq_false h,decide_eq_true eL];rfl
 simp only[t];by_cases h1:i<n<;>by_cases h2:j<m<;>simp[h1,h2]
theorem TG:BE c d e L n m k false=false:=by
 unfold BE fX gE mn;simp
theorem Xa{r:Nat}(h:DY c d e L n m k=false)(hr:k<=r):DY c d e L n m r=false:=by
 induction r with
 | zero=>(obtain rfl:k=0:=by omega);exact h
 | succ r ih=>
  by_cases e1:k=r+1
  ·rw[<-e1];exact h
  ·show BE c d e L n m r (DY c d e L n m r)=false
   rw[ih eL];exact TG
end
variable{w':World}{X:CH.aU}{g:Nat}{f:Nat->Int}
theorem WS{N:Nat}(h:aI eR w0 (aj X (kF g N f)) W){k:Nat}(hk:k<N*64):W.cell? ⟨g,k,none⟩=some (.int .i64 (f k)):=by
 obtain⟨F,hF⟩:=h.swap.fst;exact wQ hF hk
theorem Tx(hb:Below w.heap.size w w'):bT w eR (aj (aY none 0 []) (aY none 0 [])) w':=⟨fun _=>False,⟨fun _=>False,fun _=>False,lH w',lH w',fun _ h=>h.elim,fun i=>by simp⟩,Mod.of_below hb,fun _ h=>h.elim⟩
theorem QB(c:Nat->Nat->Int)(d e:Nat->Int)(n m:Nat):TB c d e n m 0 0=mZ c d e n m:=by unfold TB mZ;rw[sn,QM]
theorem uD{B G:eV}{d e:Nat}{D E:List Int}(h:uJ w A C V)(hl:C.length<=maxLen)(hD:Vec w B D)(hE:Vec w G E)(cH:D.length<=d):
  Calls Tryz.prog 27 #[.slice A C.length c,.slice B D.length d,.slice G E.length e] w (qg w C D E):=by
 have bo:Below w.heap.size w (w.alloc (.cells kg 89)):=(fe _ _).alloc (fL _) _;have KV:=au (jL (c:=c) (d:=d) (e:=e) (h.below bo) hl (hD.below bo) (hE.below bo));have HP:=au (fun hv=>DZ (w:=w) (C:=C) (D:=D) (E:=E) hv h hD hE);have R0:Hid (aI eR w (av w.heap.size kg 89) _):=au (((aI.begin w).fresh aM (dU w kg 89)).imp fun _ _ h=>ko h);unfold kg at KV R0;clear h hD hE bo hl;cases hv:mJ C D E with
 | false=>
  have HR:=au (show ∀ w':World,Below w.heap.size w w'->qg w C D E (.returned (.tuple #[.agg (gR 0 none 0 0 none 0 0 none 0 0),.int .i64 1])) w' from fun w' hb=>⟨_,by rw[hv];rfl,hb,by rw[hv];exact⟨none,none,none,0,0,0,rfl,Src.none_,Src.none_,Src.none_,Tx hb⟩⟩);rw[hv] at KV;obtain⟨g6,a9⟩:∃ g6,Hid (w.heap.size=g6):=⟨_,au rfl⟩;clear HP hv cH
  go_enter Tryz.func27,Tryz.ntmps27
  go_wp2
  go_step3
  go_wp2_with fail;refine KV.o.mono ?_;rintro e9 w1 ⟨rfl,fX⟩;have R1:=au (R0.o.below aF fX);obtain⟨F,hC⟩:=R1.o.get;have z0:=ay hC (i:=0) rfl;have z1:=ay hC (i:=1) rfl;have z2:=ay hC (i:=2) rfl;have z3:=ay hC (i:=3) rfl;have f0:=aN hC 0;have f1:=aN hC 1;have f2:=aN hC 2;have f3:=aN hC 3;have R2:=au (WQ R1.o);rw[a9.o] at HR R2 z0 z1 z2 z3 f0 f1 f2 f3 ⊢;clear hC fX KV R1 R0;go_wp2
  try rw[pH]
  refine bodyPost_ret_by (cZ rfl _ _ g6 89 (gR 0 none 0 0 none 0 0 none 0 0) (0,0) rfl ?_ Tryz.underlying89 eQ) rfl ?_
  ·obtain⟨F,hC⟩:=R2.o.get;exact hC.1
  ·exact HR.o _ (by have:=R2.o.cK;rwa [a9.o] at this)
 | true=>
  rw[hv] at KV;have hP:=HP.o hv;have dw:=hP.n6;have cw:=hP.m6;obtain⟨nc,br⟩:∃ n,n=C.length:=⟨_,rfl⟩;obtain⟨n,hn⟩:∃ n,n=D.length:=⟨_,rfl⟩;obtain⟨m,hm⟩:∃ n,n=E.length:=⟨_,rfl⟩;have ez:nc=n:=by rw[br,hn];exact hP.hn
  have ce:=au (show ∀ (v:Value) (w':World),Below w.heap.size w w'->Mb w w' v (fO C D E)->qg w C D E (.returned (.tuple #[v,.int .i64 0])) w' from fun v w' hb ha=>⟨v,by rw[hv];rfl,hb,by rw[hv];exact ha⟩);have em:=au (show fO C D E=⟨mZ (cF C) (lF D) (lF E) n m,YO (cF C) (lF D) (lF E) n m,B7 (cF C) (lF D) (lF E) n m,B8 (cF C) (lF D) (lF E) n m⟩ by rw[hn,hm];rfl);rw[<-hn,<-hm] at hP;rw[<-hn] at dw;have el:n<=d:=by rw[hn];exact cH
  clear cH;rw[<-hm] at cw;have HQ:=au hP.q;rw[<-br,<-hn,<-hm] at KV;rw[<-br,<-hn,<-hm];subst ez;clear HP hv hP br hn hm;generalize cF C=cc at *
  generalize lF D=J at *
  generalize lF E=I at *
  have df:=GK HQ.o (fL nc) xw;have dm:=au (show mZ cc J I nc m=L cc J I nc m nc xw from rfl);rw[<-dm.o] at df;obtain⟨K,hK⟩:∃ K,K=mZ cc J I nc m:=⟨_,rfl⟩;rw[<-hK] at df dm;have cv:=au hK;have hM:=WG cw;have aE:0<1 <<< m:=by rw[uA];exact Nat.pow_pos eS
  have cD:=au (fun s j hs hj=>WE (m:=m) (s:=s) (j:=j) cw hs hj);clear hK
  go_enter Tryz.func27,Tryz.ntmps27
  go_wp2
  go_step3
  go_wp2_with fail;refine KV.o.mono ?_;rintro e9 w1 ⟨rfl,fX⟩;have R1:=au (R0.o.below aF fX);have KT:=au (Gz (HQ.o.below R1.o.cK) c d e);clear fX R0 KV;go_wp2_with fail;refine KT.o.mono ?_;rintro e9 w2 ⟨gt,rfl,hP2⟩;have R2:=R1.o.fresh aF hP2;obtain⟨M,bp⟩:∃ M,Hid (1 <<< m=M):=⟨_,au rfl⟩;rw[bp.o] at hM aE cD R2;obtain⟨F,hF⟩:=R2.fst;have cP:=wQ hF (k:=0) eL;rw[show(0:Nat)=0*64+0 from rfl,vE hM aE (.inr ⟨rfl,aE⟩),QB,<-cv.o] at cP;simp only[sx,pk] at cP;have R3:=(R2.fresh aO (dU w2 (gR K none 0 0 none 0 0 none 0 0) 89))
  have R4:=au (show aI eR w (aj (iw w.heap.size w2.heap.size K none none none 0 0 0 [] [] []) (kF gt (nc+1) (jX cc J I nc m M 0 M))) _ from
   (R3.perm (by ac_rfl:_=aj (aj (av w2.heap.size (gR K none 0 0 none 0 0 none 0 0) 89) (av w.heap.size (gR 0 none 0 0 none 0 0 none 0 0) 89)) (kF gt (nc+1) (jX cc J I nc m M 0 M)))).imp fun W F hh=>bD hh (fun F hh=>by
   unfold iw
   exact⟨fun _=>False,F,lH W,⟨fun _=>False,F,lH W,⟨fun _=>False,F,lH W,hh,fun _ h=>h.elim,fun i=>by simp⟩,fun _ h=>h.elim,fun i=>by simp⟩,fun _ h=>h.elim,fun i=>by simp⟩) (fun _ h=>h))
  obtain⟨g6,a9⟩:∃ g6,Hid (w.heap.size=g6):=⟨_,au rfl⟩;have cI:(0:Int)<(nc:Int)+1:=by omega
  clear hP2 R2 R3 hF KT R1;go_wp2_with fail;rw[a9.o] at ce R4 ⊢;generalize w2.heap.size=ga at *
  clear cP cI;go_wp2
  go_step3
  go_wp2
  go_loopg [10,38] nc (fun g1 s i wr=>∃ (k set:Nat) (A1:eV) (c1:Nat) (ps:List Int),k+g1=nc/\s=.int .i64 set/\set<M/\i=.int .i64 k/\ps.length=k/\YO cc J I nc m=ps++gr cc J I nc m (nc-k) (bt set)/\aI eR w (aj (iw g6 ga K A1 none none c1 0 0 ps [] []) (kF gt (nc+1) (jX cc J I nc m M 0 M))) wr)
  case atStart=>exact⟨0,0,none,0,[],mB _,rfl,aE,rfl,rfl,by rw[QM];rfl,R4.o⟩
  case round=>
   obtain⟨k,set,A1,c1,ps,dT,rfl,bc,rfl,cS,hg,hR⟩:=hrel;have HR:=au hR;have bn:=au cS;have HG:=au hg;clear hR cS hg R4;cases gk with
   | succ g1=>
    have dt:k<nc:=by omega
    obtain⟨a,ha⟩:∃ a,nc=a+1+k:=⟨nc-k-1,by omega⟩;have cN:nc-k=a+1:=by omega
    have dg:nc-(a+1)=k:=by omega
    have di:=au (show nc-(k+1)=a by omega);have eE:a<=6:=by omega
    rw[cN] at HG;have c4:=au (fun (j:Nat) hj hp hb=>VM (c:=cc) (d:=J) (e:=I) (n:=nc) (m:=m) (a:=a) (j:=j) (U:=bt set) hj hp hb);have cr:=au (fun hb=>Y6 (c:=cc) (d:=J) (e:=I) (n:=nc) (m:=m) (a:=a) (U:=bt set) hb)
    have dy:=au (fun j=>show tst cc J I nc m a (bt set) j=(!bt set j&&decide (cc k j+TB cc J I nc m (k+1) (set ||| 1 <<< j)=TB cc J I nc m k set)) by
     unfold tst TB;rw[dg,cN,show nc-(k+1)=a by omega,Xm])
    have ey:=au (fun s=>show 0<=TB cc J I nc m (k+1) s/\TB cc J I nc m (k+1) s<=200000 by
     have:=GK HQ.o (show nc-(k+1)<=nc by omega) (bt s);unfold TB;omega)
    clear cN dg ha;obtain⟨ba,oa,RR,cR,rfl,a6,aw⟩:=HQ.o.R k dt;have co:=au aw;have c0:=a6 _ HR.o.cK;clear a6 aw;go_wp2
    go_loopg [10,45] m (fun g2 s x wr=>∃ j:Nat,j+g2=m/\s=.int .i64 set/\x=.int .i64 j/\(∀ t,t<j->tst cc J I nc m a (bt set) t=false)/\aI eR w (aj (iw g6 ga K A1 none none c1 0 0 ps [] []) (kF gt (nc+1) (jX cc J I nc m M 0 M))) wr)
    case atStart=>exact⟨0,mB _,rfl,rfl,fun t ht=>absurd ht (oc t),HR.o⟩
    case round=>
     obtain⟨j,ew,rfl,rfl,cQ,hR⟩:=hrel;have ax:=au cQ;have a1:=au hR;clear HR hR cQ c0;cases gk with
     | succ g2=>
      have ab:j<m:=by omega
      obtain⟨b',o',rfl,a2⟩:=co.o j ab;have ed:=HQ.o.cb k dt j ab;have eI:=au a2;have c5:=a2 _ a1.o.cK;have ak:=au (dy.o j);obtain⟨q,cG,aD⟩:=Ox set j eL;have cq:=ey.o (set ||| 1 <<< j);have aa:=au (a1.o.drew aO);clear a2;cases hu:bt set j with
      | true=>
       rw[hu] at aD ak;simp only[if_true] at aD
       have bj:=au (show ∀ t,t<j+1->tst cc J I nc m a (bt set) t=false from fun t ht=>by
        by_cases e:t=j
        ·subst e;rw[ak.o];rfl
        ·exact ax.o t eL)
       clear hu ak ax a1;go_wp2_with fail;refine aP (fun w'=>w'=wr.drew) eQ eQ rfl ?_;generalize wr.drew=wd at *
       (repeat(first|refine bM ?_|refine bN ?_))
       refine lex_nil ?_;clear cG aD c5;go_wp2
       go_roundg g2
       case measure=>omega
       case rel=>exact⟨j+1,by omega,rfl,by go_num,bj.o,aa.o⟩
      | false=>
       rw[hu] at aD ak;simp only[k7,if_false] at aD;obtain⟨p,et,eo,ej⟩:=S5 set j eL eL;have b6:=cD.o set j bc ab;have k1:=WS aa.o (k:=(k+1)*64+(set ||| 1 <<< j)) eL;rw[vE hM b6 (.inl eL)] at k1;have k2:=WS aa.o (k:=k*64+set) eL;rw[vE hM bc eL] at k2;have dj:=au (Xm set j);generalize set ||| 1 <<< j=so at *
       have dE:=au (show ∃ x,x=TB cc J I nc m (k+1) so from⟨_,rfl⟩);obtain⟨T1,dr⟩:=dE.o;rw[<-dr] at k1 ak cq;generalize TB cc J I nc m k set=T0 at *
       have t1:IntKind.i64.wrap ((k:Int)+1)=((k+1:Nat):Int):=by rw[kj _ eL];omega
       have t2:IntKind.i64.wrap (cc k j+T1)=cc k j+T1:=kj _ eL;have ti:(0:Int)<=(k:Int)+1:=by omega
       have d4:(k:Int)<(nc:Int)+1:=by omega
       have ts:(so:Int)<64:=by omega
       have de:(set:Int)<64:=by omega
       clear hu dr dE a1;by_cases a5:cc k j+T1=T0
       ·have HH:=c4.o j ab (by rw[ak.o];simp[a5]) ax.o;have bv:=au (LP (qs:=[]) HG.o HH.1);rw[<-dj.o] at bv;have t3:(cc k j+T1==T0)=true:=by simpa using a5
        have t4:IntKind.i64.wrap T0=T0:=kj _ eL;clear HH ak cq;go_wp2_with fail;refine aP (fun w'=>w'=wr.drew) eQ eQ rfl ?_;generalize wr.drew=wx at *
        (repeat(first|refine bM ?_|refine bN ?_))
        refine lex_nil ?_;have ac:=au aa.o;obtain⟨b0,b1,b2,b3,bf⟩:=mK ac.o;have ev:=bf 1;clear t1 t2 t3 t4 ti d4 ts de k1 k2 a5 cG aD c5 b0 b2 b3 bf aa ax dj;go_wp2_with (at_builtin;refine held ?_);obtain⟨F7,af,-,ap⟩:=(Qz (ac.o.below aO ((fe _ _).alloc (fL _) (.cells (fR j) 3)))).take dS (Tv dS dS aF aF nS);refine lO.mk (jF rfl (.tmp 77) (.tmp 79) rfl pI _ 0 (v:=.slice A1 ps.length c1) (n:=ps.length) (xs:=ints ps) rfl af.1 (A:=some ⟨wx.heap.size,0,none⟩) (m:=1) (c:=1) (news:=[.int .i64 j]) rfl (og wx j) (by rw[bn.o];omega) eS (fy _) ?_);intro v8 w8 ae al aq;have S8:=ap _ _ (jk af ae al aq);obtain⟨A8,c8,rfl⟩:=iy ae;obtain⟨FC,hC⟩:=(S8.perm (by ac_rfl:_=aj (av ga (gR K A1 ps.length c1 none 0 0 none 0 0) 89) (aj (aV 3 1 (.slice A8 (ps.length+1) c8) (ps.length+1) (ints ps++[.int .i64 j])) (aj (aY none 0 []) (aj (aY none 0 []) (aj (av g6 kg 89) (kF gt (nc+1) (jX cc J I nc m M 0 M)))))))).fst;have x1:=ay hC (i:=1) rfl;have f1:=aN hC 1;have S9:=au (Qy nS S8);clear ae al aq ap af ac S8 hC;go_wp2
        go_roundg g1
        case measure=>omega
        case rel=>exact⟨k+1,so,A8,c8,ps++[((j:Nat):Int)],by omega,by go_num,b6,by go_num,by rw[gj,bn.o];rfl,by rw[di.o];exact bv.o,S9.o⟩
       ·have bj:=au (show ∀ t,t<j+1->tst cc J I nc m a (bt set) t=false from fun t ht=>by
         by_cases e:t=j
         ·subst e;rw[ak.o];simp[a5]
         ·exact ax.o t eL)
        have t3:(cc k j+T1==T0)=false:=by simpa using a5
        clear ak cq ax a5;go_wp2_with fail;refine aP (fun w'=>w'=wr.drew) eQ eQ rfl ?_;generalize wr.drew=wd at *
        (repeat(first|refine bM ?_|refine bN ?_))
        refine lex_nil ?_;clear t1 t2 t3 ti d4 ts de k1 k2 cG aD c5 et eo ej;go_wp2
        go_roundg g2
        case measure=>omega
        case rel=>exact⟨j+1,by omega,rfl,by go_num,bj.o,aa.o⟩
     | zero=>
      obtain rfl:j=m:=by omega
      have HM:=cr.o ax.o;have bv:=au (LP (qs:=[]) HG.o HM.1);have ac:=au a1.o;obtain⟨b0,b1,b2,b3,bf⟩:=mK ac.o;have ev:=bf 1;generalize wr=wx at *
      clear HM bf b0 b2 b3 a1 ax;go_wp2_with (at_builtin;refine held ?_);obtain⟨F7,af,-,ap⟩:=(Qz (ac.o.below aO ((fe _ _).alloc (fL _) (.cells (fR j) 3)))).take dS (Tv dS dS aF aF nS);refine lO.mk (jF rfl (.tmp 88) (.tmp 91) rfl pI _ 0 (v:=.slice A1 ps.length c1) (n:=ps.length) (xs:=ints ps) rfl af.1 (A:=some ⟨wx.heap.size,0,none⟩) (m:=1) (c:=1) (news:=[.int .i64 j]) rfl (og wx j) (by rw[bn.o];omega) eS (fy _) ?_);intro v8 w8 ae al aq;have S8:=ap _ _ (jk af ae al aq);obtain⟨A8,c8,rfl⟩:=iy ae;obtain⟨FC,hC⟩:=(S8.perm (by ac_rfl:_=aj (av ga (gR K A1 ps.length c1 none 0 0 none 0 0) 89) (aj (aV 3 1 (.slice A8 (ps.length+1) c8) (ps.length+1) (ints ps++[.int .i64 j])) (aj (aY none 0 []) (aj (aY none 0 []) (aj (av g6 kg 89) (kF gt (nc+1) (jX cc J I nc j M 0 M)))))))).fst;have x1:=ay hC (i:=1) rfl;have f1:=aN hC 1;have S9:=au (Qy nS S8);clear ae al aq ap af ac S8 hC;go_wp2
      go_roundg g1
      case measure=>omega
      case rel=>exact⟨k+1,set,A8,c8,ps++[((j:Nat):Int)],by omega,by go_num,bc,by go_num,by rw[gj,bn.o];rfl,by rw[di.o];exact bv.o,S9.o⟩
   | zero=>
    obtain rfl:k=nc:=by omega
    have eg:=au (show YO cc J I k m=ps by rw[HG.o,nq];exact mT ps);clear HG dT;obtain⟨X,hX⟩:∃ X,X=kF gt (k+1) (jX cc J I k m M 0 M):=⟨_,rfl⟩;rw[<-hX] at HR;have ad:=au (show X.Ok by rw[hX];exact nS);obtain⟨RV,cJ,aw⟩:=HQ.o.rows;have cx:=au cJ;have b8:=au aw;have ek:=au (show RV.length=k by have:=cJ.1;omega);have en:=au HQ.o.ds;have cX:Vec wr G ((List.range m).map I):=by
     unfold Vec;have e1:ints ((List.range m).map I)=fv m (fun j=>.int .i64 (I j)):=by simp[ints,fv]
     rw[e1,fY,uv];exact aZ HQ.o.es HR.o.cK
    have KC:=au (Tt (c:=e) cX tb);rw[fY,uv] at KC;have dx:M<=64:=hM;clear hX cJ aw cX cD;go_wp2_with fail;refine KC.o.mono ?_;rintro e9 w3 ⟨A3,c3,rfl,a8⟩;have R5:=HR.o.fresh (aB oz ad.o) a8;have dc:=au (show ∃ vs:List Int,vs=(List.range m).map I/\vs.length=m from⟨_,rfl,by simp⟩);obtain⟨vs,am,aA⟩:=dc.o;rw[<-am] at R5;have R6:aI eR w (aj (aY A3 c3 vs) (aj (iw g6 ga K A1 none none c1 0 0 ps [] []) X)) w3:=by
     have e1:aV 3 1 (.slice A3 m c3) m (ints vs)=aY A3 c3 vs:=by unfold aY;rw[aA]
     rw[<-e1];exact R5
    obtain⟨b0,b1,b2,b3,bf⟩:=mK R6.drop;have ef:=bf 3;have R7:=au (aaA ad.o R6);rw[aA] at R7;have ai:=au aA;have az:=au am;clear a8 R5 R6 dc am aA KC HR b0 b1 b2 bf;go_wp2;clear b3 ef
    go_loopg [100] k (fun g1 i wr=>∃ (j:Nat) (A2:eV) (c2:Nat) (us vs:List Int),j+g1=k/\i=.int .i64 j/\us.length=j/\us=(List.range j).map (zH cc J I k m)/\vs.length=m/\vs=(List.range m).map (fun y=>vO xw (fun i=>cc i y-zH cc J I k m i) (I y) j)/\aI eR w (aj (iw g6 ga K A1 A2 A3 c1 c2 c3 ps us vs) X) wr)
    case atStart=>exact⟨0,none,0,[],vs,mB _,rfl,rfl,rfl,ai.o,az.o,R7.o⟩
    case round=>
     obtain⟨j,A2,c2,us,a4,dT,rfl,cV,c7,ch,cf,hR⟩:=hrel;have ac:=au hR;have bu:=au cV;have bx:=au c7;have cg:=au ch;have a0:=au cf;clear hR cV c7 ch cf R7 ai az;cases gk with
     | succ g1=>
      have ab:j<k:=by omega
      have aa:=au (ac.o.drew (aB oz ad.o));obtain⟨ba,oa,RR,cR,rfl,a6,da⟩:=HQ.o.R j ab;have d7:=au da
      have d3:=au (show RV[j]?=some (.slice RR m cR) by
       obtain⟨R9,eC,e9,-⟩:=b8.o j ab;obtain⟨b9,o9,e8,e7⟩:=yT cx.o ab e9;have h1:=e7 w (fe _ _);injection e8 with e8;injection e8 with e81 e82
       subst e81 e82;rw[a6 w (fe _ _)] at h1
       rw[e9,<-Option.some.inj h1])
      have c0:=a6 _ ac.o.cK;obtain⟨bd,od,rfl,cU⟩:=HQ.o.D j ab
      have d6:=au (show ∀ W',Below w.heap.size w W'->Src W' (some ⟨bd,od+j,none⟩) 1 1 [.int .i64 (J j)] from fun W' hb=>⟨rfl,by simp[Value.oneCell'],fun _=>⟨_,rfl,fun q u hq=>by
       have eq:q=0:=by
        rcases q with _|q
        ·rfl
        ·simp at hq
       subst eq;simp at hq;subst hq;simp[Addr.add]
       exact cU W' hb⟩⟩)
      have hcut:=WR bd od k d j ab el;have t1:IntKind.i64.wrap ((j:Int)+1)=(j:Int)+1:=kj _ eL;clear a6 da cU;go_wp2_with fail;refine wp_region_held (S:=fun w'=>Below w.heap.size w w') eQ (show wpAnyH _ _ _ _ _ _ _ _ wr.drew from ?_);refine wpAnyH_take (i:=0) (v:=.slice (some ⟨ba,oa,none⟩) k c) rfl eQ eQ eQ (fun _ _ _ h=>h) (.inl ⟨rfl,fun w' ao=>?_⟩) aa.o.cK ?_
      ·go_simp
      try simp only[Act.put,lw,k6,kO,ja,iz,i6]
      refine wpAnyH_take (i:=1) (v:=.slice RR m cR) rfl eQ eQ eQ (fun _ _ _ h=>h) (.inl ⟨rfl,fun w' ao=>?_⟩) aa.o.cK ?_
      ·go_simp
      try simp only[Act.put,lw,k6,kO,ja,iz,i6]
      refine wpAnyH_take (i:=5) (v:=.slice (some ⟨bd,od,none⟩) k d) rfl eQ eQ eQ (fun _ _ _ h=>h) (.inl ⟨rfl,fun w' ao=>?_⟩) aa.o.cK ?_
      ·go_simp
      try simp only[Act.put,lw,k6,kO,ja,iz,i6]
      refine wpAnyH_take (i:=6) (v:=.slice (some ⟨bd,od,none⟩) k d) rfl eQ eQ eQ (fun _ _ _ h=>h) (.inl ⟨rfl,fun w' ao=>?_⟩) aa.o.cK ?_
      ·go_simp
      try simp only[Act.put,lw,k6,kO,ja,iz,i6]
      refine wpAnyH_take (i:=7) (v:=.int .i64 (j:Int)) rfl eQ eQ eQ (fun _ _ _ h=>h) (.inl ⟨rfl,fun w' ao=>?_⟩) aa.o.cK ?_
      ·go_simp
      try simp only[Act.put,lw,k6,kO,ja,iz,i6]
      refine wpAnyH_take (i:=8) (v:=.int .i64 (j:Int)) rfl eQ eQ eQ (fun _ _ _ h=>h) (.inl ⟨rfl,fun w' ao=>?_⟩) aa.o.cK ?_
      ·go_simp
      try simp only[Act.put,lw,k6,kO,ja,iz,i6]
      refine wpAnyH_take (i:=9) (v:=.int .i64 ((j:Int)+1)) rfl eQ eQ eQ (fun _ _ _ h=>h) (.inl ⟨rfl,fun w' ao=>?_⟩) aa.o.cK ?_
      ·go_simp
      try simp only[Act.put,lw,k6,kO,ja,iz,i6]
      refine wpAnyH_take (i:=10) (v:=(.slice (some ⟨bd,od+j,none⟩) 1 (d-j))) rfl eQ eQ eQ (fun _ _ _ h=>h) (.inl ⟨rfl,fun w' ao=>?_⟩) aa.o.cK ?_
      ·go_simp
      try simp only[Act.put,lw,k6,kO,ja,iz,i6]
      refine wpAnyH_take (i:=13) (v:=.slice G m e) rfl eQ eQ eQ (fun _ _ _ h=>h) (.inl ⟨rfl,fun w' ao=>?_⟩) aa.o.cK ?_
      ·go_simp
      try simp only[Act.put,lw,k6,kO,ja,iz,i6]
      refine OG [2,3,4] [11,12] (I7 (some ⟨ba,oa,none⟩) k c RV (.slice RR m cR)) (Oj (some ⟨bd,od,none⟩) k d (fv k fun i=>.int .i64 (J i)) (.int .i64 (J j)) (.slice (some ⟨bd,od+j,none⟩) 1 (d-j))) 2 eQ aax aay (aB oz ad.o) (fun O W h=>h.cK) ?_ ?_ ?_ (aaw aa.o)
      ·intro i o vs us hi ho hu Z W hZ hR;rcases vs with _|⟨v1,_|⟨v2,_|⟨v3,vs⟩⟩⟩
       ·obtain rfl:2=i:=by simpa using hi
        simp only[mr,oS,oT,Option.some.injEq] at ho;subst ho;exact acZ rfl (by show(fW (fW _ [107,108,109] _) [116,117] _).eval (.tmp 106)=_;rw[bH 106 [116,117] _ _ eS,bH 106 [107,108,109] _ _ eS];rfl) (LM RR m cR) hZ hR
       ·obtain rfl:3=i:=by simpa using hi
        simp only[mr,oS,oT,Option.some.injEq] at ho;subst ho;exact ac0 rfl (by show(fW (fW _ [107,108,109] _) [116,117] _).eval (.tmp 105)=_;rw[bH 105 [116,117] _ _ eS,bH 105 [107,108,109] _ _ eS];rfl) (by show(fW (fW _ [107,108,109] _) [116,117] _).eval (.tmp 107)=_;rw[bH 107 [116,117] _ _ eS];rfl) hZ hR
       ·obtain rfl:4=i:=by simpa using hi
        simp only[mr,oS,oT,Option.some.injEq] at ho;subst ho;exact ac1 rfl (by show(fW (fW _ [107,108,109] _) [116,117] _).eval (.tmp 108)=_;rw[bH 108 [116,117] _ _ eS];rfl) rfl eL (aZ cx.o hR.cK) hZ hR
       ·simp at hi
      ·intro i o vs us hi ho hv Z W hZ hR;rcases us with _|⟨v1,_|⟨v2,us⟩⟩
       ·obtain rfl:11=i:=by simpa using hi
        simp only[mr,oS,oT,Option.some.injEq] at ho;subst ho;exact ac2 rfl (by show(fW (fW _ [107,108,109] _) [116,117] _).eval (.tmp 110)=_;rw[bH 110 [116,117] _ _ eS,bH 110 [107,108,109] _ _ eS];rfl) (by show(fW (fW _ [107,108,109] _) [116,117] _).eval (.tmp 115)=_;rw[bH 115 [116,117] _ _ eS,bH 115 [107,108,109] _ _ eS];rfl) hZ hR
       ·obtain rfl:12=i:=by simpa using hi
        simp only[mr,oS,oT,Option.some.injEq] at ho;subst ho;have er:∀ (a:Act) (v:Value),116<a.tmps.size->(fW (fW a [107,108,109] vs) [116,117] [v]).eval (.tmp 116)=v:=fun a v h=>pE v (by rw[oK];exact h);exact ac3 rfl (er _ _ (show 116<156 by decide)) eL (aZ en.o hR.cK) (d6.o _ hR.cK) hZ hR
       ·simp at hi
      intro vs us W hv hu hR;obtain⟨v1,v2,v3,rfl⟩:=WJ hv;obtain⟨u1,u2,rfl⟩:=Ex hu;obtain⟨A5,c5,B5,d5,rfl,rfl,be⟩:=aaz hR;have a3:=au be;clear hR hv hu;simp only[dV,lk,pL,mr,oS,oT,C2,C4,fW,Act.put,ja,iz,i6];obtain⟨F1,cW⟩:=be.fst;obtain⟨F2,cY⟩:=be.kQ.fst
      have ck:=iK cW (fun u hu=>by
       rcases List.mem_append.1 hu with h|h
       ·exact cx.o.2.1 u h
       ·obtain rfl:u=_:=by simpa using h
        rfl)
      have ci:=iK cY (fun u hu=>by
       rcases List.mem_append.1 hu with h|h
       ·obtain⟨r,_,rfl⟩:=List.mem_map.1 h;rfl
       ·obtain rfl:u=_:=by simpa using h
        rfl)
      have cE:=HQ.o.dup dw b8.o ek.o ab d3.o be.cK ck ci;have KL:=au (Gz cE c5 d5 e);have cT:=GK cE (fL _) xw;have d2:=au (show zH cc J I k m j=mZ (jZ cc k j) (j3 J k j) I (k+1) m-K by unfold zH;rw[<-cv.o];rfl);have dq:=au (show mZ (jZ cc k j) (j3 J k j) I (k+1) m=L (jZ cc k j) (j3 J k j) I (k+1) m (k+1) xw from rfl);rw[<-dq.o] at cT;clear cW cY ck ci cE be;refine wpAnyH_all (rs:=[14]) eQ eS (fun i hi=>?_);obtain rfl:i=14:=by simpa using hi
      refine eB rfl rfl ?_;go_wp2_with fail;refine KL.o.mono ?_;rintro e9 w7 ⟨g7,rfl,hP7⟩;have b4:=au ((a3.o.drop.drop).fresh (aB oz ad.o) hP7);refine⟨b4.o.cK,?_⟩;clear KL hP7 a3 aa;refine wpAnyH_all (rs:=[15]) eQ eS (fun i hi=>?_);obtain rfl:i=15:=by simpa using hi
      refine eB rfl rfl ?_;refine Tw rfl gh ⟨b4.o.cK,?_⟩;refine wpAnyH_done eQ ?_ _
      try simp only[Act.put,lw,k6,kO,ja,iz,i6]
      have bi:=b4.o.drew (aB nS (aB oz ad.o));obtain⟨F7,d1⟩:=bi.fst;have cp:=wQ d1 (k:=0) eL;have aE:0<M:=by omega
      have eK:M<=64:=dx;rw[show(0:Nat)=0*64+0 from rfl,vE (by rw[bp.o];exact dx) (by rw[bp.o];exact aE) (.inr ⟨rfl,by rw[bp.o];exact aE⟩),QB] at cp;simp only[sx,pk] at cp;have bk:=bi.drop;have cj:=au bk;obtain⟨b0,b1,b2,b3,bf⟩:=mK bk;generalize mZ (jZ cc k j) (j3 J k j) I (k+1) m=Bd at *
      have t2:IntKind.i64.wrap (Bd-K)=Bd-K:=kj _ eL;have cI:(0:Int)<((k:Int)+1)+1:=by omega
      have eh:(0:Int)<=((k:Int)+1):=by omega
      have ei:=bf 2;clear hcut t1 cT dq b4 bi d1 bk b1 b3 bf d6 d3 ac c0;go_wp2_with fail;refine aP (fun w'=>w'=w7.drew) eQ eQ rfl ?_;generalize w7.drew=wx at *
      (repeat(first|refine bM ?_|refine bN ?_))
      refine lex_nil ?_;generalize dk:Bd-K=u at *
      have d8:=au dk;clear t2 cI eh cp b0 dk;go_wp2_with (at_builtin;refine held ?_);obtain⟨F7,af,-,ap⟩:=(aat (cj.o.below (aB oz ad.o) ((fe _ _).alloc (fL _) (.cells (fR u) 3)))).take dS (Tv dS dS aF aF ad.o);refine lO.mk (jF rfl (.tmp 128) (.tmp 130) rfl pI _ 0 (v:=.slice A2 us.length c2) (n:=us.length) (xs:=ints us) rfl af.1 (A:=some ⟨wx.heap.size,0,none⟩) (m:=1) (c:=1) (news:=[.int .i64 u]) rfl (og wx u) (by rw[bu.o];omega) eS (fy _) ?_);intro v8 w8 ae al aq;have S8:=ap _ _ (jk af ae al aq);obtain⟨A8,c8,rfl⟩:=iy ae;obtain⟨FC,hC⟩:=(S8.perm (by ac_rfl:_=aj (av ga (gR K A1 ps.length c1 A2 us.length c2 A3 a4.length c3) 89) (aj (aV 3 1 (.slice A8 (us.length+1) c8) (us.length+1) (ints us++[.int .i64 u])) (aj (aY A1 c1 ps) (aj (aY A3 c3 a4) (aj (av g6 kg 89) X)))))).fst;have x2:=ay hC (i:=2) rfl;have f2:=aN hC 2;have S9:=au (aas ad.o S8);have bw:=au (show u=zH cc J I k m j from d2.o.symm);have eA : -10000<=u/\u<=10000:=by
       rw[bw.o];have h1:=(xE (c:=cc) (d:=J) (e:=I) (n:=k) (m:=m)).low (E:=10000) (fun i hi k hk=>(HQ.o.cb i hi k hk).1) (fun i hi=>(HQ.o.db i hi).1) HQ.o.eb eL ab;have h2:=(xE (c:=cc) (d:=J) (e:=I) (n:=k) (m:=m)).YZ.d j ab;have:=HQ.o.db j ab;omega
      have du:=au (show ∀ y,y<m->-10000<=vO xw (fun i=>cc i y-zH cc J I k m i) (I y) j/\vO xw (fun i=>cc i y-zH cc J I k m i) (I y) j<=10000 by
       intro y hy;have h1:=tC (U:=xw) (f:=fun i=>cc i y-zH cc J I k m i) (a:=I y) (m:=j);have h3:=HQ.o.eb y hy;refine⟨?_,by omega⟩;rcases zF (U:=xw) (f:=fun i=>cc i y-zH cc J I k m i) (a:=I y) (m:=j) with h|⟨q,h1,_,h2⟩
       ·omega
       ·have h4:=(xE (c:=cc) (d:=J) (e:=I) (n:=k) (m:=m)).YZ.d q eL;have:=HQ.o.db q eL;have:=HQ.o.cb q eL y hy
        omega)
      obtain⟨fo,bz⟩:∃ fo:Nat->Int,Hid (∀ t,fo t=vO xw (fun i=>cc i t-zH cc J I k m i) (I t) j):=⟨_,au fun _=>rfl⟩;obtain⟨fn,cA⟩:∃ fn:Nat->Int,Hid (∀ t,fn t=vO xw (fun i=>cc i t-zH cc J I k m i) (I t) (j+1)):=⟨_,au fun _=>rfl⟩;have d0:=au (show ∀ y,y<m->-10000<=fo y/\fo y<=10000 by intro y hy;rw[bz.o];exact du.o y hy);have c9:=au (show ∀ y,fn y=min (fo y) (cc j y-u) by intro y;rw[bz.o,cA.o,bw.o];rfl);have cm:=au (show us++[u]=(List.range (j+1)).map (zH cc J I k m) by rw[vu,kp,<-bx.o,bw.o];rfl)
      have cn:=au (show a4=(List.range m).map (fun t=>if t<0 then fn t else fo t) by
       rw[a0.o];exact nB fun t _=>by rw[if_neg (oc t),bz.o])
      have bb:=au (show(us++[u]).length=j+1 by rw[gj,bu.o];rfl)
      have cy:=au (show ∀ l:List Int,l=(List.range m).map (fun t=>if t<m then fn t else fo t)->l=(List.range m).map (fun y=>vO xw (fun i=>cc i y-zH cc J I k m i) (I y) (j+1)) from fun l h=>by
       rw[h];exact nB fun t ht=>by rw[if_pos (List.mem_range.1 ht),cA.o])
      obtain⟨bh,cd⟩:∃ bh,bh=us++[u]:=⟨_,rfl⟩;rw[<-cd] at S9 cm bb;clear ae al aq ap af S8 hC b2 ei cj d2 d8 bw du bz cA cd a0;have e9:us.length+1=bh.length:=by rw[bb.o,bu.o]
      rw[e9] at S9 ⊢;clear e9 bx bu;go_wp2;clear x2 f2
      go_loopg [135] m (fun g2 x wr=>∃ (y:Nat) (vs:List Int),y+g2=m/\x=.int .i64 y/\vs.length=m/\vs=(List.range m).map (fun t=>if t<y then fn t else fo t)/\aI eR w (aj (iw g6 ga K A1 A8 A3 c1 c8 c3 ps bh vs) X) wr)
      case atStart=>exact⟨0,a4,mB _,rfl,cg.o,cn.o,S9.o⟩
      case round=>
       obtain⟨y,vs,ew,rfl,aA,dl,hR⟩:=hrel;have a3:=au hR;have ai:=au aA;have az:=au dl;clear hR aA dl S9 cg cn;cases gk with
       | succ g2=>
        have a7:y<m:=by omega
        obtain⟨b',o',rfl,a2⟩:=d7.o y a7;have ed:=HQ.o.cb j ab y a7;have aa:=au (a3.o.drew (aB oz ad.o));have c5:=a2 _ a3.o.cK;obtain⟨b0,b1,b2,b3,bf⟩:=mK aa.o;have a8:=aau aa.o;obtain⟨F3,bm⟩:=a8.fst;obtain⟨g3,rfl⟩:=Xy bm (by rw[ai.o];omega);have dC:y<vs.length:=by rw[ai.o];exact a7
        have c6:=nL bm (i:=y) (DV dC);have f6:=rC bm y (by rw[ai.o];omega);have ca:vs[y]=fo y:=by
         have h1:vs[y]?=some (fo y):=by rw[az.o];simp[a7]
         exact(List.getElem?_eq_some_iff.1 h1).2
        rw[ca] at c6;have eJ:=d0.o y a7;have am:=c9.o y;have dp:=aaB (x:=fn y) (Tv dS dS aF aF ad.o) dC a8;have an:=au (show vs.set y (fn y)=(List.range m).map (fun t=>if t<y+1 then fn t else fo t) by rw[az.o];exact aaC fo fn a7);have ar:=au (show(vs.set y (fn y)).length=m by rw[rI];exact ai.o);have ct:=aaD (show vs.length=(vs.set y (fn y)).length from List.length_set.symm) dp;rw[am] at ct;have ag:=au ct;have t5:IntKind.i64.wrap (cc j y-u)=cc j y-u:=kj _ eL;rw[<-am] at ag;generalize d9:fo y=q at *
        generalize hz:cc j y=z at *
        have b7:=au (show fn y=if z-u<q then z-u else q by rw[am];omega);rw[b7.o] at ag an ar;clear b0 b1 b2 bf a8 bm ca dp ct am a2 aa d9 hz b7 az ai;by_cases b5:z-u<q
        case pos=>
         rw[if_pos b5] at ag an ar;go_wp2_with fail;refine eG (fun w'=>w'=wr.drew) eQ eQ eQ rfl ?_;generalize wr.drew=wd at *
         (repeat(first|refine bM ?_|refine bN ?_))
         refine jl rfl gh (fun KK hK=>?_);go_wp2_with fail;refine hK.o _ _ ?_;clear hK c6 f6 t5 b3 c5;go_wp2
         go_roundg g2
         case measure=>omega
         case rel=>exact⟨y+1,_,by omega,by go_num,ar.o,an.o,ag.o⟩
        case neg=>
         rw[if_neg b5] at ag an ar;go_wp2_with fail;refine eG (fun w'=>w'=wr.drew) eQ eQ eQ rfl ?_;generalize wr.drew=wd at *
         (repeat(first|refine bM ?_|refine bN ?_))
         refine jl rfl gh (fun KK hK=>?_);go_wp2_with fail;refine hK.o _ _ ?_;clear hK c6 f6 t5 b3 c5;go_wp2
         go_roundg g2
         case measure=>omega
         case rel=>exact⟨y+1,_,by omega,by go_num,ar.o,an.o,ag.o⟩
       | zero=>
        obtain rfl:y=m:=by omega
        have ep:=au (cy.o vs az.o);go_wp2
        go_roundg g1
        case measure=>omega
        case rel=>exact⟨j+1,A8,c8,bh,vs,by omega,by go_num,bb.o,cm.o,ai.o,ep.o,a3.o⟩
     | zero=>
      obtain rfl:j=k:=by omega
      obtain⟨b0,b1,b2,b3,-⟩:=mK ac.o;obtain⟨z0,z1,z2,z3,zf⟩:=WK ac.o;have f0:=zf 0;have f1:=zf 1;have f2:=zf 2;have f3:=zf 3;have cz:=au (WM ad.o ac.o);have ec:=au (show us=B7 cc J I j m from bx.o);have ea:=au (show a4=B8 cc J I j m from a0.o);clear zf bx a0 ac;go_wp2
      try rw[pH]
      refine bodyPost_ret_by (cZ rfl _ _ g6 89 (gR K A1 ps.length c1 A2 us.length c2 A3 a4.length c3) (0,0) rfl ?_ Tryz.underlying89 eQ) rfl ?_
      ·obtain⟨F,hC⟩:=cz.o.fst;exact hC.1
      ·refine ce.o _ _ (by have:=cz.o.cK;rwa [a9.o] at this) ?_;rw[em.o,<-cv.o,eg.o,<-ec.o,<-ea.o];exact WO cz.o
def bK(C:List (List Int))(D E:List Int):Int:=mZ (cF C) (lF D) (lF E) D.length E.length
def bU(C:List (List Int))(D E:List Int):List Int:=B7 (cF C) (lF D) (lF E) D.length E.length
def bV(C:List (List Int))(D E:List Int):List Int:=B8 (cF C) (lF D) (lF E) D.length E.length
section
variable{w w':World}{A B G UA WA LA:eV}{C:List (List Int)}{D E U W L:List Int}{nc n m c d e u v cl nu nv nl:Nat}
theorem Xf:(bU C D E).length=D.length:=by unfold bU B7;simp
theorem Xg:(bV C D E).length=E.length:=by unfold bV B8;simp
end
section
variable{C:List (List Int)}{D E U W:List Int}
theorem pF{f:Nat->Int}(hi:i<n):lF ((List.range n).map f) i=f i:=by
 unfold lF;rw[ki,lB,CL hi];rfl
theorem QH(hi:i<D.length):lF (bU C D E) i=zH (cF C) (lF D) (lF E) D.length E.length i:=pF hi
theorem QI(hj:j<E.length):lF (bV C D E) j=vp (cF C) (lF D) (lF E) D.length E.length j:=pF hj
theorem nU{l:List Int}{lo hi:Int}(h:∀ i,i<l.length->lo<=lF l i/\lF l i<=hi):wi l lo hi=true:=by
 unfold wi;rw[j7];intro x hx;obtain⟨i,hi,rfl⟩:=List.mem_iff_getElem.1 hx;have:=h i hi;rw[lI hi] at this;simpa using this
theorem Xh(hv:mJ C D E=true):kx C D E (bU C D E) (bV C D E)=(bK C D E,true):=by
 have J:=vG hv;have hp:dh (cF C) (lF D) (lF E) D.length E.length (bK C D E) (zH (cF C) (lF D) (lF E) D.length E.length) (vp (cF C) (lF D) (lF E) D.length E.length):=xE;have hf:=hp.YZ;have M:∀ i,i<D.length->-10000<=zH (cF C) (lF D) (lF E) D.length E.length i:=fun i hi=>
  hp.low (E:=10000) (fun i hi j I=>(J.c i hi j I).1) (fun i hi=>(J.d i hi).1) (fun j I=>J.e j I) eL hi
 have hU:∀ i,i<D.length->-10000<=zH (cF C) (lF D) (lF E) D.length E.length i/\zH (cF C) (lF D) (lF E) D.length E.length i<=10000:=fun i hi=>⟨M i hi,by have:=hf.d i hi;have:=J.d i hi;omega⟩;have aa:∀ j,j<E.length->-10000<=vp (cF C) (lF D) (lF E) D.length E.length j/\vp (cF C) (lF D) (lF E) D.length E.length j<=10000:=fun j I=>by
  refine⟨?_,by have:=hf.e j I;have:=J.e j I;omega⟩;unfold vp;rcases zF (U:=xw) (f:=fun i=>cF C i j-zH (cF C) (lF D) (lF E) D.length E.length i) (a:=lF E j) (m:=D.length) with h|⟨i,hi,-,h⟩
  ·rw[h];have:=J.e j I;omega
  ·rw[h];have:=J.c i hi j I;have:=hU i hi;omega
 have ab:nJ C D E (bU C D E) (bV C D E):=⟨fun i hi j I=>by rw[QH hi,QI I];exact hf.c i hi j I,fun i hi=>by rw[QH hi];exact hf.d i hi,fun j I=>by rw[QI I];exact hf.e j I⟩;have h0:Jc C D E (bU C D E) (bV C D E)=true:=by
  unfold Jc;rw[hv,decide_eq_true Xf,decide_eq_true Xg,nU,nU]
  ·rfl
  ·intro j I;rw[Xg] at I;rw[QI I];have:=aa j I;omega
  ·intro i hi;rw[Xf] at hi;rw[QH hi];have:=hU i hi;omega
 unfold kx;rw[if_pos ⟨h0,ab⟩];refine Prod.ext ?_ rfl
 show sg D.length (lF (bU C D E))+sg E.length (lF (bV C D E))=bK C D E
 rw[bL (g:=zH (cF C) (lF D) (lF E) D.length E.length) (fun i hi=>QH hi),bL (g:=vp (cF C) (lF D) (lF E) D.length E.length) (fun j I=>QI I)];exact hp.sum
theorem Xi{x:Int}(h:kx C D E U W=(x,true)):mJ C D E=true/\U.length=D.length/\W.length=E.length/\nJ C D E U W/\x=sg D.length (lF U)+sg E.length (lF W):=by
 unfold kx at h;split at h
 ·rename_i J;obtain⟨I,M⟩:=J;unfold Jc at I;simp at I;refine⟨I.1.1.1.1,I.1.1.1.2,I.1.1.2,M,?_⟩;exact(congrArg Prod.fst h).symm
 ·simp at h
end
section
variable{c:Nat→Nat→Int}{d e:Nat→Int}{n m:Nat}
theorem Xb{r y:Nat}(hr:r<=n)(hy:y<=m):r*(m+1)+y<(n+1)*(m+1):=by
 have h8:(r+1)*(m+1)<=(n+1)*(m+1):=xy _ eL;rw[li] at h8;omega
theorem Ja(hi:i<n)(hj:j<m):GR c d e n m (n-i) (m-j)=min (min (d i+GR c d e n m (n-(i+1)) (m-j)) (e j+GR c d e n m (n-i) (m-(j+1)))) (c i j+GR c d e n m (n-(i+1)) (m-(j+1))):=by
 obtain⟨a,h⟩:∃ a,n-i=a+1:=⟨n-i-1,by omega⟩;obtain⟨b,hb⟩:∃ b,m-j=b+1:=⟨m-j-1,by omega⟩;have M:n-(i+1)=a:=by omega
 have I:m-(j+1)=b:=by omega
 have J:n-(a+1)=i:=by omega
 have h4:m-(b+1)=j:=by omega
 rw[M,I,h,hb]
 show min (min (d (n-(a+1))+GR c d e n m a (b+1)) (e (m-(b+1))+GR c d e n m (a+1) b)) (c (n-(a+1)) (m-(b+1))+GR c d e n m a b)=_
 rw[J,h4]
theorem Xc(hi:i<n):GR c d e n m (n-i) (m-m)=d i+GR c d e n m (n-(i+1)) (m-m):=by
 obtain⟨a,ha⟩:∃ a,n-i=a+1:=⟨n-i-1,by omega⟩;have h1:n-(i+1)=a:=by omega
 have h3:n-(a+1)=i:=by omega
 rw[h1,ha,nq]
 show d (n-(a+1))+GR c d e n m a 0=_
 rw[h3]
theorem Xd(hj:j<m):GR c d e n m (n-n) (m-j)=e j+GR c d e n m (n-n) (m-(j+1)):=by
 obtain⟨b,hb⟩:∃ b,m-j=b+1:=⟨m-j-1,by omega⟩;have h2:m-(j+1)=b:=by omega
 have h4:m-(b+1)=j:=by omega
 rw[h2,hb,nq]
 show e (m-(b+1))+GR c d e n m 0 b=_
 rw[h4]
theorem Xe:GR c d e n m (n-n) (m-m)=0:=by rw[nq,nq];rfl
end
section
variable{c:Nat→Nat→Int}{d e:Nat→Int}{n m:Nat}{L:List Int}
theorem aaO(h:DY c d e L n m ((n+1)*(m+1))=true)(hi:i<=n)(hj:j<=m):
  (i<n->lF L (i*(m+1)+j)<=d i+lF L ((i+1)*(m+1)+j))/\(j<m->lF L (i*(m+1)+j)<=e j+lF L (i*(m+1)+(j+1)))/\(i<n->j<m->lF L (i*(m+1)+j)<=c i j+lF L ((i+1)*(m+1)+(j+1))):=by
 have hp:=Xb hi hj;have h0:∀ k,k<=(n+1)*(m+1)->DY c d e L n m k=true:=fun k hk=>by
  cases hh:DY c d e L n m k with
  | true=>rfl
  | false=>rw[Xa hh hk] at h;cases h
 have h1:=Me (i:=i) (j:=j) hj rfl (h0 (i*(m+1)+j) eL);rw[h0 _ eL] at h1;have h2:=h1.symm;simp only[gA] at h2;obtain⟨⟨M,a2⟩,a3⟩:=h2;unfold q1 at M;unfold q2 at a2;unfold q3 at a3;have e1:i*(m+1)+j+m+1=(i+1)*(m+1)+j:=by rw[li];omega
 have e2:i*(m+1)+j+m+2=(i+1)*(m+1)+(j+1):=by rw[li];omega
 rw[e1] at M;rw[e2] at a3;refine⟨fun J=>?_,fun I=>?_,fun J I=>?_⟩
 ·simp[J] at M;exact M
 ·simp[I] at a2;exact a2
 ·simp[J,I] at a3;exact a3
theorem adb(h:∀ i j,i<=n->j<=m->(i<n->lF L (i*(m+1)+j)<=d i+lF L ((i+1)*(m+1)+j))/\(j<m->lF L (i*(m+1)+j)<=e j+lF L (i*(m+1)+(j+1)))/\(i<n->j<m->lF L (i*(m+1)+j)<=c i j+lF L ((i+1)*(m+1)+(j+1)))):
  ∀ k,k<=(n+1)*(m+1)->DY c d e L n m k=true:=by
 intro k
 induction k with
 | zero=>intro _;rfl
 | succ k ih=>
  intro hk;obtain⟨i,j,e0,hi,M⟩:∃ i j,k=i*(m+1)+j/\i<=n/\j<=m:=by
   refine⟨k / (m+1),k % (m+1),?_,?_,?_⟩
   ·have:=AI k (m+1);rw[mC] at this;exact this.symm
   ·have:k / (m+1)<n+1:=ui (by rw[mC];omega);omega
   ·have:=qS k (show 0<m+1 by omega);omega
  rw[Me M e0 (ih eL)];obtain⟨a1,a2,a3⟩:=h i j hi M;have e1:k+m+1=(i+1)*(m+1)+j:=by rw[li];omega
  have e2:k+m+2=(i+1)*(m+1)+(j+1):=by rw[li];omega
  have e3:k+1=i*(m+1)+(j+1):=by omega
  unfold q1 q2 q3;rw[e1,e2,e3,e0];simp only[gA,tv,Cp,decide_eq_false_iff_not];refine⟨⟨?_,?_⟩,?_⟩
  ·by_cases J:i<n
   ·right;have:=a1 J;omega
   ·left;exact J
  ·by_cases I:j<m
   ·right;have:=a2 I;omega
   ·left;exact I
  ·by_cases J:i<n
   ·by_cases I:j<m
    ·right;have:=a3 J I;omega
    ·left;right;exact I
   ·left;left;exact J
theorem ade(h:DY c d e L n m ((n+1)*(m+1))=true)(h0:lF L (n*(m+1)+m)<=0):
  ∀ t i j,i<=n->j<=m->(n-i)+(m-j)<=t->lF L (i*(m+1)+j)<=GR c d e n m (n-i) (m-j):=by
 have hz:lF L (n*(m+1)+m)<=GR c d e n m (n-n) (m-m):=by rw[Xe];exact h0
 intro t
 induction t with
 | zero=>
  intro i j hi M ht;obtain rfl:i=n:=by omega
  obtain rfl:j=m:=by omega
  exact hz
 | succ t ih=>
  intro i j hi M ht;obtain⟨a1,a2,a3⟩:=aaO h hi M;by_cases J:i<n
  ·have b1:=ih (i+1) j eL M eL;have c1:=a1 J;by_cases I:j<m
   ·have b2:=ih i (j+1) hi eL eL;have c2:=a2 I;have c3:=a3 J I;have b3:=ih (i+1) (j+1) eL eL eL;rw[Ja J I];omega
   ·obtain rfl:j=m:=by omega
    rw[Xc J];omega
  ·obtain rfl:i=n:=by omega
   by_cases I:j<m
   ·have b2:=ih i (j+1) hi eL eL;have c2:=a2 I;rw[Xd I];omega
   ·obtain rfl:j=m:=by omega
    exact hz
end
section
variable{C:List (List Int)}{D E L ps:List Int}
theorem ael{x:Int}(h:nT C D E L=(x,true)):mJ C D E=true/\x<=jR C D E:=by
 unfold nT at h;split at h
 ·rename_i hh;simp only[gA] at hh;obtain⟨J,hF⟩:=hh;unfold yR at J;simp only[gA,decide_eq_true_eq] at J;obtain⟨⟨⟨M,hl⟩,hw⟩,I⟩:=J;refine⟨M,?_⟩;have hx:x=lF L 0:=(congrArg Prod.fst h).symm;rw[hx];rw[hl] at hF I;have e1:(D.length+1)*(E.length+1)-1=D.length*(E.length+1)+E.length:=by rw[li];omega
  rw[e1] at I;have h8:=ade hF I (D.length+E.length) 0 0 (fy _) (fy _) eL;rw[sx,mB,sn,sn] at h8;unfold jR;rw[M];exact h8
 ·simp at h
theorem wR{c:Nat->Nat->Int}{d e:Nat->Int}{m:Nat}(hi:i<=n)(hj:j<=m):lF (TD c d e n m) (i*(m+1)+j)=GR c d e n m (n-i) (m-j):=by
 unfold lF;rw[ki,aaH hi hj];rfl
theorem ae0(hv:mJ C D E=true){a:Nat}(M:a<=D.length)(I:b<=E.length):0<=GR (cF C) (lF D) (lF E) D.length E.length a b/\GR (cF C) (lF D) (lF E) D.length E.length a b<=130000:=by
 have h:=vG hv;have h6:=h.n6;have h7:=h.m6;have key:∀ a,a<=D.length->∀ b,b<=E.length->0<=GR (cF C) (lF D) (lF E) D.length E.length a b/\GR (cF C) (lF D) (lF E) D.length E.length a b<=(a:Int)*10000+(b:Int)*10000:=by
  intro a
  induction a with
  | zero=>
   intro _ b
   induction b with
   | zero=>intro _;exact⟨lz _,lz _⟩
   | succ b ih=>
    intro I;have:=ih eL;have he:=h.e (E.length-(b+1)) eL;have J:GR (cF C) (lF D) (lF E) D.length E.length 0 (b+1)=lF E (E.length-(b+1))+GR (cF C) (lF D) (lF E) D.length E.length 0 b:=rfl;rw[J];omega
  | succ a iha=>
   intro M b;have hd:=h.d (D.length-(a+1)) eL
   induction b with
   | zero=>
    intro _;have h1:=iha eL 0 (fy _);have J:GR (cF C) (lF D) (lF E) D.length E.length (a+1) 0=lF D (D.length-(a+1))+GR (cF C) (lF D) (lF E) D.length E.length a 0:=rfl;rw[J];omega
   | succ b ihb=>
    intro I;have h1:=iha eL (b+1) I;have h2:=ihb eL;have h4:=iha eL b eL;have he:=h.e (E.length-(b+1)) eL;have hc:=h.c (D.length-(a+1)) eL (E.length-(b+1)) eL;have h3:GR (cF C) (lF D) (lF E) D.length E.length (a+1) (b+1)=min (min (lF D (D.length-(a+1))+GR (cF C) (lF D) (lF E) D.length E.length a (b+1)) (lF E (E.length-(b+1))+GR (cF C) (lF D) (lF E) D.length E.length (a+1) b)) (cF C (D.length-(a+1)) (E.length-(b+1))+GR (cF C) (lF D) (lF E) D.length E.length a b):=rfl;rw[h3];omega
 have:=key a M b I;omega
theorem aaP(hv:mJ C D E=true):nT C D E (oC C D E)=(jR C D E,true):=by
 have hg:oC C D E=TD (cF C) (lF D) (lF E) D.length E.length:=by unfold oC;rw[hv];rfl
 have hk:jR C D E=GR (cF C) (lF D) (lF E) D.length E.length D.length E.length:=by unfold jR;rw[hv];rfl
 rw[hg,hk];have hl:(TD (cF C) (lF D) (lF E) D.length E.length).length=(D.length+1)*(E.length+1):=QF;have J:=wR (c:=cF C) (d:=lF D) (e:=lF E) (fy D.length) (fy E.length);rw[sx,mB,sn,sn] at J;have M:=wR (c:=cF C) (d:=lF D) (e:=lF E) (fL D.length) (fL E.length);rw[Xe] at M;have e1:(D.length+1)*(E.length+1)-1=D.length*(E.length+1)+E.length:=by rw[li];omega
 rw[Md,J]
 ·unfold yR;rw[hv,hl,decide_eq_true rfl,e1,M,nU]
  ·rfl
  ·intro k aa;rw[hl] at aa;obtain⟨i,j,e0,hi,hj⟩:∃ i j,k=i*(E.length+1)+j/\i<=D.length/\j<=E.length:=by
    refine⟨k / (E.length+1),k % (E.length+1),?_,?_,?_⟩
    ·have:=AI k (E.length+1);rw[mC] at this;exact this.symm
    ·have:k / (E.length+1)<D.length+1:=ui (by rw[mC];omega);omega
    ·have:=qS k (show 0<E.length+1 by omega);omega
   rw[e0,wR hi hj];have:=ae0 hv (a:=D.length-i) (b:=E.length-j) eL eL;omega
 ·rw[hl];refine adb (fun i j hi hj=>?_) _ (fL _);rw[wR hi hj];refine⟨fun I=>?_,fun h=>?_,fun I h=>?_⟩
  ·rw[wR (i:=i+1) I hj];by_cases h:j<E.length
   ·rw[Ja I h];omega
   ·obtain rfl:j=E.length:=by omega
    rw[Xc I];omega
  ·rw[wR (j:=j+1) hi h];by_cases I:i<D.length
   ·rw[Ja I h];omega
   ·obtain rfl:i=D.length:=by omega
    rw[Xd h];omega
  ·rw[wR (i:=i+1) (j:=j+1) I h,Ja I h];omega
end
end Go.Proofs.YtbioiclabmbedaaGreatDoor.Asn
namespace Go.CH.Sil
open Go.CH.Scr Go.CH.dh Go.CH.Mtc
def raw(k:Int)(x:Bs):List Bs:=(aQ k x).1
def sN(ini:Int)(us vs:List Vr)(p q:List Bs)(x y:Bs):List Wy:=
 qx us vs++((if p.length=1 then [⟨2,-1,-1,ini,x,ie q⟩] else [])++(if q.length=1 then [⟨3,-1,-1,ini,ie p,y⟩] else []))
def eZ(T:eW)(k:Int)(x:Bs)(k2:Int)(y:Bs):List Wy:=sN T.ini (fq T k x) (fq T k2 y) (raw k x) (raw k2 y) x y
structure Eg where
 kd:Int
 l:Int
 r:Int
 h:Int
 C:List Pt
structure Wb where
 i:Int
 j:Int
 h:Int
 ps:List Eg
structure Sl where
 b:Int
 ws:List Wb
 U:List Int
 V:List Int
 G:List Int
def wA:Sl:=⟨0,[],[],[],[]⟩
def L2:Wb:=⟨0,0,0,[]⟩
def pR(T:eW)(k k2 bd:Int)(w:Wy):Int:=match fB T k w.x k2 w.y with
 | some d=>min bd (d.c+w.c)
 | none=>bd
def AZ(T:eW)(k k2 bd:Int)(w:Wy)(p:Eg):Prop:=
 p.kd=w.kd/\p.l=w.l/\p.r=w.r/\p.h=pR T k k2 bd w/\∃ e,CO T k w.x k2 w.y (max 0 (p.h-w.c)) p.C e
def ER(T:eW)(k k2 bd:Int)(ws:List Wy):Int:=(ws.map (pR T k k2 bd)).foldl min bd
def hM(T:eW)(a b:aR)(bd:Int)(i j:Nat):Int:=ER T a.k b.k bd (eZ T a.k (wd a i) b.k (wd b j))
structure Dx(T:eW)(a b:aR)(bd:Int)(i j:Nat)(z:Wb):Prop where
 ri:z.i=i
 rj:z.j=j
 rh:z.h=hM T a b bd i j
 len:z.ps.length=(eZ T a.k (wd a i) b.k (wd b j)).length
 ps:∀ m (h:m<(eZ T a.k (wd a i) b.k (wd b j)).length) (h':m<z.ps.length),AZ T a.k b.k bd (eZ T a.k (wd a i) b.k (wd b j))[m] z.ps[m]
def cL(f:Nat->Nat->Int)(n m:Nat):List (List Int):=(List.range n).map fun i=>(List.range m).map (f i)
def dL(T:eW)(a:aR):List Int:=a.ws.map (bQ T a.k)
end Go.CH.Sil
namespace Go.Proofs.YtbioiclabmbedaaGreatDoor
open Go.CH Go.CH.Scr Go.CH.dh Go.CH.Mtc Go.CH.Sil
open Asn (kx nT oC mJ cF lF wi)
abbrev qp(C:List (List Int))(D E:List Int):Asn.WI:=Asn.fO C D E
def hL(T:eW)(a b:aR)(bd:Int):List (List Int):=cL (hM T a b bd) a.ws.length b.ws.length
inductive iM(T:eW)(a b:aR)(bd:Int):Sl->Int->Prop
 | arg (h:nO T a b=false\/bd<0\/100000<bd):iM T a b bd wA 1
 | none (h:nO T a b=true) (h0:0<=bd) (h1:bd<=100000) (h2:(fO T a b).c<bd):iM T a b bd wA 11
 | some (h:nO T a b=true) (h0:0<=bd) (h1:bd<=100000) (h2:bd<=(fO T a b).c) (ws:List Wb) (hl:ws.length=a.ws.length*b.ws.length)
   (hw:∀ k (h:k<ws.length),Dx T a b bd (k / b.ws.length) (k % b.ws.length) ws[k]) :
   iM T a b bd ⟨bd,ws,(qp (hL T a b bd) (dL T a) (dL T b)).us,(qp (hL T a b bd) (dL T a) (dL T b)).vs,oC (hL T a b bd) (dL T a) (dL T b)⟩ 0
structure Dy(T:eW)(a b:aR)(i j:Nat)(z:Wb):Prop where
 ri:z.i=i
 rj:z.j=j
 rh:0<=z.h
 len:z.ps.length=(eZ T a.k (wd a i) b.k (wd b j)).length
 ps:∀ m (h:m<(eZ T a.k (wd a i) b.k (wd b j)).length) (h':m<z.ps.length),
  (z.ps[m].kd=(eZ T a.k (wd a i) b.k (wd b j))[m].kd/\z.ps[m].l=(eZ T a.k (wd a i) b.k (wd b j))[m].l/\z.ps[m].r=(eZ T a.k (wd a i) b.k (wd b j))[m].r)/\z.h<=z.ps[m].h/\z.ps[m].h<=100000 /\
  jq T a.k (eZ T a.k (wd a i) b.k (wd b j))[m].x b.k (eZ T a.k (wd a i) b.k (wd b j))[m].y (z.ps[m].h-(eZ T a.k (wd a i) b.k (wd b j))[m].c) z.ps[m].C
def sH(s:Sl)(m i j:Nat):Int:=(s.ws.getD (i*m+j) L2).h
def sL(s:Sl)(a b:aR):List (List Int):=cL (sH s b.ws.length) a.ws.length b.ws.length
structure fD(T:eW)(a b:aR)(s:Sl):Prop where
 ok:nO T a b=true
 b0:0<=s.b
 b1:s.b<=100000
 len:s.ws.length=a.ws.length*b.ws.length
 ws:∀ k (h:k<s.ws.length),Dy T a b (k / b.ws.length) (k % b.ws.length) s.ws[k]
 fin:∃ x y,kx (sL s a b) (dL T a) (dL T b) s.U s.V=(x,true)/\nT (sL s a b) (dL T a) (dL T b) s.G=(y,true)/\s.b<=x+T.ord/\s.b<=y
end Go.Proofs.YtbioiclabmbedaaGreatDoor
namespace Go.CH.bA
section
variable{c c':Nat→Nat→Int}{d e:Nat→Int}{n m:Nat}{bd:Int}
theorem aeb{f:Nat->Int}(h:∀ i,i<n->0<=f i){k:Nat}(hk:k<n):f k<=sg n f:=by
 have h1:=T8 (f:=f) hk
 have h2:=xu (n:=n) (f:=fun i=>if i=k then f i else 0) (g:=f) (fun i hi=>by
  show(if i=k then f i else 0)<=f i
  split
  ·exact lz _
  ·exact h i hi)
 omega
theorem SQ(h:∀ i,i<n->∀ j,j<m->c i j<=c' i j)(P:Nat->Nat):cost c d e n m P<=cost c' d e n m P:=by
 unfold cost
 have:=xu (n:=n) (f:=fun i=>if P i<m then c i (P i) else d i) (g:=fun i=>if P i<m then c' i (P i) else d i) (fun i hi=>by
  show(if P i<m then c i (P i) else d i)<=(if P i<m then c' i (P i) else d i)
  split
  ·rename_i I;exact h i hi _ I
  ·exact lz _)
 omega
theorem Lg(M:∀ i j,0<=c i j)(hd:∀ i,0<=d i)(he:∀ j,0<=e j)(h0:0<=bd)(P:Nat->Nat):
  bd<=cost (fun i j=>min bd (c i j)) d e n m P\/cost c d e n m P<=cost (fun i j=>min bd (c i j)) d e n m P:=by
 by_cases h:∃ i,i<n/\P i<m/\bd<=c i (P i)
 ·obtain⟨i,hi,I,J⟩:=h;left;unfold cost;dsimp only
  have h1:=aeb (n:=n) (f:=fun i=>if P i<m then min bd (c i (P i)) else d i) (fun i _=>by
   show 0<=(if P i<m then min bd (c i (P i)) else d i)
   have:=M i (P i);have:=hd i
   split<;>omega) hi
  have h2:=qI (n:=m) (f:=fun j=>if used P n j then 0 else e j) (fun j _=>by
   show 0<=(if used P n j then 0 else e j)
   have:=he j
   split<;>omega)
  simp only[I,if_true] at h1;omega
 ·right;unfold cost;dsimp only
  have:=xu (n:=n) (f:=fun i=>if P i<m then c i (P i) else d i) (g:=fun i=>if P i<m then min bd (c i (P i)) else d i) (fun i hi=>by
   show(if P i<m then c i (P i) else d i)<=(if P i<m then min bd (c i (P i)) else d i)
   split
   ·rename_i I;have:¬ bd<=c i (P i):=fun J=>h ⟨i,hi,I,J⟩;omega
   ·exact lz _)
  omega
end
end Go.CH.bA
namespace Go.CH.Sil
open Go.CH.Scr Go.CH.dh Go.CH.Mtc
section
variable{T:eW}{k k2:Int}{x y:Bs}{a b:aR}{bd:Int}
theorem Lh{x' y':Bs}(h1:word k x'=word k x)(h2:word k2 y'=word k2 y)(h3:lower x'=lower x)(h4:lower y'=lower y):fB T k x' k2 y'=fB T k x k2 y:=by
 unfold fB okW bO;rw[h1,h2,h3,h4]
theorem Qh(h:word k x=true):bP k x=(raw k x).map lower:=by rw[vv h,xJ h];rfl
theorem yD(h:word k x=true):(bP k x).length=(raw k x).length:=by rw[Qh h,fY]
theorem BZ(h:word k x=true):ie (bP k x)=lower (ie (raw k x)):=by
 rw[Qh h];unfold ie;cases raw k x<;>rfl
theorem qV(h:word k x=true):word k (ie (raw k x))=true:=by
 have I:=(eX.1 h).2;have e:=CP (k:=k) x 0 1;rw[xT] at e;have J:((aQ k x).1.take 1).flatten=ie (raw k x):=by
  unfold ie raw;cases hq:(aQ k x).1 with
  | nil=>rw[hq] at I;simp at I
  | cons z l=>simp
 rw[J] at e;refine eX.2 ?_;rw[e];refine⟨rfl,?_,?_⟩
 ·show 1<=((aQ k x).1.take 1).length
  rw[kt];omega
 ·show((aQ k x).1.take 1).length<=12
  rw[kt];omega
theorem Wh{l:List Bs}(h:l.length=1):ie l=l.flatten:=by
 match l,h with
 | [z],_=>simp[ie]
theorem Ca(h:word k x=true)(h1:(raw k x).length=1):ie (bP k x)=lower x:=by
 rw[Wh (by rw[yD h];exact h1),vB h]
theorem yE(hx:word k x=true)(hy:word k2 y=true):fB T k (lower x) k2 (lower y)=fB T k x k2 y:=
 Lh (by rw[iY hx,hx]) (by rw[iY hy,hy]) (AJ _) (AJ _)
variable{w:Wy}{i j n:Nat}{f:Nat->Nat->Int}
theorem mF{ini:Int}{us vs:List Vr}{p q:List Bs}:w ∈ sN ini us vs p q x y↔(∃ u ∈ us,∃ v ∈ vs,w=vR u v)\/(p.length=1/\w=⟨2,-1,-1,ini,x,ie q⟩)\/(q.length=1/\w=⟨3,-1,-1,ini,ie p,y⟩):=by
 unfold sN qx;rw[AH,AH,Gr];refine or_congr ?_ (or_congr ?_ ?_)
 ·constructor
  ·rintro⟨u,J,h⟩;obtain⟨v,I,rfl⟩:=List.mem_map.1 h;exact⟨u,J,v,I,rfl⟩
  ·rintro⟨u,J,v,I,rfl⟩;exact⟨u,J,List.mem_map.2 ⟨v,I,rfl⟩⟩
 ·split<;>simp[*]
 ·split<;>simp[*]
theorem Qi(I:word k x=true)(J:word k2 y=true)(h:w ∈ eZ T k x k2 y):∃ w' ∈ lD T k x k2 y,w'.c=w.c/\fB T k w'.x k2 w'.y=fB T k w.x k2 w.y:=by
 rcases mF.1 h with⟨u,hu,v,hv,rfl⟩|⟨M,rfl⟩|⟨M,rfl⟩
 ·exact⟨_,gH.2 (.inl ⟨u,hu,v,hv,rfl⟩),rfl,rfl⟩
 ·refine⟨_,gH.2 (.inr (.inl ⟨by rw[yD I];exact M,rfl⟩)),rfl,?_⟩
  show fB T k (ie (bP k x)) k2 (ie (bP k2 y))=fB T k x k2 (ie (raw k2 y))
  rw[Ca I M,BZ J];exact yE I (qV J)
 ·refine⟨_,gH.2 (.inr (.inr ⟨by rw[yD J];exact M,rfl⟩)),rfl,?_⟩
  show fB T k (ie (bP k x)) k2 (ie (bP k2 y))=fB T k (ie (raw k x)) k2 y
  rw[Ca J M,BZ I];exact yE (qV I) J
theorem Qj(J:word k x=true)(M:word k2 y=true){w':Wy}(h:w' ∈ lD T k x k2 y):∃ w ∈ eZ T k x k2 y,w.c=w'.c/\fB T k w.x k2 w.y=fB T k w'.x k2 w'.y:=by
 rcases gH.1 h with⟨u,hu,v,hv,rfl⟩|⟨I,rfl⟩|⟨I,rfl⟩
 ·exact⟨_,mF.2 (.inl ⟨u,hu,v,hv,rfl⟩),rfl,rfl⟩
 ·rw[yD J] at I;refine⟨_,mF.2 (.inr (.inl ⟨I,rfl⟩)),rfl,?_⟩
  show fB T k x k2 (ie (raw k2 y))=fB T k (ie (bP k x)) k2 (ie (bP k2 y))
  rw[Ca J I,BZ M];exact(yE J (qV M)).symm
 ·rw[yD M] at I;refine⟨_,mF.2 (.inr (.inr ⟨I,rfl⟩)),rfl,?_⟩
  show fB T k (ie (raw k x)) k2 y=fB T k (ie (bP k x)) k2 (ie (bP k2 y))
  rw[Ca M I,BZ J];exact(yE (qV J) M).symm
theorem yF(I:bI T=true)(J:word k x=true)(M:word k2 y=true)(h:w ∈ eZ T k x k2 y):okW T k w.x k2 w.y=true/\0<=w.c/\w.c<=2000:=by
 constructor
 ·rcases mF.1 h with⟨u,hu,v,aa,rfl⟩|⟨h1,rfl⟩|⟨h1,rfl⟩
  ·exact IX (LC J hu).1 (LC M aa).1 I
  ·exact IX J (qV M) I
  ·exact IX (qV J) M I
 ·obtain⟨w',h1,h2,-⟩:=Qi J M h;have:=DI I h1;omega
theorem Li:0<(eZ T k x k2 y).length:=
 List.length_pos_of_mem (mF.2 (.inl ⟨_,mA,_,mA,rfl⟩))
theorem Cb:∀ (l:List Int) (m:Int),l.foldl min m<=m/\(∀ z ∈ l,l.foldl min m<=z)/\(l.foldl min m=m\/l.foldl min m ∈ l)
 | [],m=>⟨lz _,(fun z hz=>by cases hz),.inl rfl⟩
 | z::l,m=>by
  obtain⟨h1,M,I⟩:=Cb l (min m z);rw[vt];refine⟨by omega,fun u J=>?_,?_⟩
  ·rcases List.mem_cons.1 J with rfl|J
   ·omega
   ·exact M u J
  ·rcases I with I|I
   ·rw[I];rcases LN m z with h|h
    ·exact .inl eL
    ·exact .inr (List.mem_cons.2 (.inl eL))
   ·exact .inr (pS _ I)
theorem aag(hx:word k x=true)(hy:word k2 y=true)(h1:bd<=100000):ER T k k2 bd (eZ T k x k2 y)=min bd (((gK T k x k2 y).map (·.c)).getD 100000):=by
 unfold ER;obtain⟨e1,e2,J⟩:=Cb ((eZ T k x k2 y).map (pR T k k2 bd)) bd;generalize ((eZ T k x k2 y).map (pR T k k2 bd)).foldl min bd=q at *
 have h:q<=((gK T k x k2 y).map (·.c)).getD 100000:=by
  cases M:gK T k x k2 y with
  | none=>show q<=100000;omega
  | some p=>
   show q<=p.c
   obtain⟨w',I,d,hd,he⟩:=mH.1 (eu M).1;obtain⟨w,hw,ac,hb⟩:=Qj hx hy I;have h2:=e2 _ (List.mem_map.2 ⟨w,hw,rfl⟩);unfold pR at h2;rw[hb,hd] at h2;simp only at h2;have ae:p.c=w'.c+d.c:=by rw[he]
   omega
 rcases J with J|J
 ·omega
 ·obtain⟨w,hw,hq⟩:=List.mem_map.1 J;unfold pR at hq;cases hd:fB T k w.x k2 w.y with
  | none=>rw[hd] at hq;simp only at hq;omega
  | some d=>
   rw[hd] at hq;simp only at hq;obtain⟨w',I,ac,hb⟩:=Qi hx hy hw;obtain⟨p,ab,ad,aa⟩:=Lr (mH.2 ⟨w',I,d,by rw[hb];exact hd,rfl⟩);have M:gK T k x k2 y=some p:=ab;rw[M] at h ⊢;have h3:p.c<=w'.c+d.c:=aa;have h:q<=p.c:=h
   show q=min bd p.c
   omega
theorem iW(h:eY a=true)(hi:i<a.ws.length):word a.k (wd a i)=true:=by
 have e:wd a i=a.ws[i]:=by unfold wd;rw[ki,ic hi];rfl
 rw[e];exact(aW.1 h).1 _ (gw hi)
theorem dP:nO T a b=true↔bI T=true/\eY a=true/\eY b=true:=by unfold nO;rw[gA,gA]
theorem Gp(h:nO T a b=true)(h1:bd<=100000)(hi:i<a.ws.length)(hj:j<b.ws.length):hM T a b bd i j=min bd (cM T a b i j):=by
 obtain⟨hv,ha,hb⟩:=dP.1 h;unfold hM;rw[aag (iW ha hi) (iW hb hj) h1,Gu]
theorem IL(h:nO T a b=true)(h0:0<=bd)(h1:bd<=100000)(hi:i<a.ws.length)(hj:j<b.ws.length):0<=hM T a b bd i j/\hM T a b bd i j<=100000:=by
 have:=wM (a:=a) (b:=b) (dP.1 h).1 i j;rw[Gp h h1 hi hj];omega
theorem Wi{m:Nat}:(cL f n m).length=n:=by unfold cL;simp
theorem Wj{g:Nat->Nat->Int}{m:Nat}(h:∀ i,i<n->∀ j,j<m->f i j=g i j):cL f n m=cL g n m:=by
 unfold cL;exact nB fun i hi=>nB fun j hj=>h i (List.mem_range.1 hi) j (List.mem_range.1 hj)
theorem jr:(dL T a).length=a.ws.length:=fY ..
theorem Wl{m:Nat}(hi:i<n)(hj:j<m):i*m+j<n*m/\(i*m+j) / m=i/\(i*m+j) % m=j:=by
 have h1:(i+1)*m<=n*m:=xy _ hi;rw[li] at h1;refine⟨by omega,?_,?_⟩
 ·rw[mC,Ln eL,GB hj,pk]
 ·rw[mC,Lq,GC hj]
end
end Go.CH.Sil
namespace Go.Proofs.YtbioiclabmbedaaGreatDoor
open Go.CH Go.CH.Scr Go.CH.dh Go.CH.Mtc Go.CH.Sil
open Asn (kx nT oC mJ cF lF wi pG lI pF nU bU bV bK nJ)
section
variable{T:eW}{a b:aR}{bd:Int}{s:Sl}
variable{f:Nat->Nat->Int}{n i j:Nat}{k:Int}{w:Wy}
theorem aec{m:Nat}(hi:i<n)(hj:j<m):cF (cL f n m) i j=f i j:=by
 rw[pG (by rw[Wi];exact hi)];unfold cL;rw[mx,I0];exact pF hj
theorem Wm(hi:i<a.ws.length):lF (dL T a) i=dM T a i:=by
 unfold lF dL dM wd;rw[ki,ki,lB,ic hi];rfl
theorem NV(h:nO T a b=true)(hf:∀ i,i<a.ws.length->∀ j,j<b.ws.length->0<=f i j/\f i j<=100000):mJ (cL f a.ws.length b.ws.length) (dL T a) (dL T b)=true:=by
 obtain⟨M,ha,hb⟩:=dP.1 h;have h1:=(aW.1 ha).2.2;have h2:=(aW.1 hb).2.2;have hd:∀ n:aR,wi (dL T n) 0 10000=true:=fun n=>nU fun i hi=>by
  rw[jr] at hi;rw[Wm hi];have:=mI (a:=n) M i;omega
 unfold mJ;simp only[gA,decide_eq_true_eq,j7];refine⟨⟨⟨⟨⟨by rw[Wi,jr],by rw[jr];exact h1⟩,by rw[jr];exact h2⟩,hd a⟩,hd b⟩,fun r J=>?_⟩;unfold cL at J;obtain⟨i,hi,rfl⟩:=List.mem_map.1 J;refine⟨by rw[fY,uv,jr],nU fun j I=>?_⟩;rw[fY,uv] at I;rw[pF I];exact hf i (List.mem_range.1 hi) j I
theorem wL(P:Nat->Nat):bA.cost (cF (cL f a.ws.length b.ws.length)) (lF (dL T a)) (lF (dL T b)) (dL T a).length (dL T b).length P=bA.cost f (dM T a) (dM T b) a.ws.length b.ws.length P:=by
 rw[jr,jr];exact bA.jB (fun i hi j hj=>aec hi hj) (fun i hi=>Wm hi) (fun j hj=>Wm hj) P
theorem Qk(h:fD T a b s){k:Nat}(hk:k<s.ws.length):0<=s.ws[k].h/\s.ws[k].h<=100000/\∀ p ∈ nR T a.k (wd a (k / b.ws.length)) b.k (wd b (k % b.ws.length)),s.ws[k].h<=p.c:=by
 obtain⟨hv,ha,hb⟩:=dP.1 h.ok;have hl:=h.len;have hm:0<b.ws.length:=(aW.1 hb).2.1;have hi:k / b.ws.length<a.ws.length:=ui (by rw[mC];omega);have hj:k % b.ws.length<b.ws.length:=qS _ hm;have J:=h.ws k hk;generalize s.ws[k]=z at *
 have hx:=iW ha hi;have hy:=iW hb hj;have h0:=J.ps 0 Li (by rw[J.len];exact Li);refine⟨J.rh,by omega,fun p hp=>?_⟩;obtain⟨w',aa,d,hd,he⟩:=mH.1 hp;obtain⟨w,hw,ab,I⟩:=Qj hx hy aa;obtain⟨q,hq,rfl⟩:=zE hw;obtain⟨-,g1,g2,g3⟩:=J.ps q hq (by rw[J.len];exact hq);rw[hd] at I;have M:=(RX g3).1 (IV I);have ac:p.c=w'.c+d.c:=by rw[he]
 rcases M with M|M
 ·exact absurd M eS
 ·omega
theorem aah(h:fD T a b s)(hi:i<a.ws.length)(M:j<b.ws.length):sH s b.ws.length i j<=cM T a b i j:=by
 obtain⟨h1,h2,h3⟩:=Wl hi M;have I:i*b.ws.length+j<s.ws.length:=by rw[h.len];exact h1
 obtain⟨g1,g2,J⟩:=Qk h I;rw[h2,h3] at J;have e:sH s b.ws.length i j=s.ws[i*b.ws.length+j].h:=by unfold sH;rw[ki,ic I];rfl
 rw[e,Gu];cases hc:gK T a.k (wd a i) b.k (wd b j) with
 | none=>exact g2
 | some p=>exact J p (eu hc).1
theorem NW(h:fD T a b s):s.b<=(fO T a b).c:=by
 obtain⟨x,y,hx,hy,h1,h2⟩:=h.fin;rw[wN];obtain⟨hv,-,-,hf,aa⟩:=Asn.Xi hx;have J:∀ P,bA.bA a.ws.length b.ws.length P->bA.cost (cF (sL s a b)) (lF (dL T a)) (lF (dL T b)) (dL T a).length (dL T b).length P<=bA.cost (cM T a b) (dM T a) (dM T b) a.ws.length b.ws.length P:=fun P _=>by
  rw[show sL s a b=cL (sH s b.ws.length) a.ws.length b.ws.length from rfl,wL];exact bA.SQ (fun i hi j hj=>aah h hi hj) P
 have M:∀ P,bA.bA a.ws.length b.ws.length P->bA.bA (dL T a).length (dL T b).length P:=fun P I=>by rw[jr,jr];exact I
 have hM:∀ P,bA.tH a.ws.length b.ws.length P->bA.tH (dL T a).length (dL T b).length P:=fun P I=>by rw[jr,jr];exact I
 have k1:x<=nH T a b:=by
  obtain⟨P,I,hc⟩:=(qy (T:=T) (a:=a) (b:=b)).has;have:=J P I;have:=bA.Fc hf (M P I);omega
 have k2:y<=jR T a b:=by
  obtain⟨P,I,hQ,hc⟩:=(oq (T:=T) (a:=a) (b:=b)).has;have h3:=J P I;have h4:=(Asn.ael hy).2;unfold Asn.jR at h4;rw[if_pos hv] at h4;have:=(bA.Na (c:=cF (sL s a b)) (d:=lF (dL T a)) (e:=lF (dL T b)) (n:=(dL T a).length) (m:=(dL T b).length)).low P (M P I) (hM P hQ);omega
 omega
theorem aai(hv:bI T=true)(h1:bd<=100000){k2:Int}{p:Eg}(hw:okW T k w.x k2 w.y=true/\0<=w.c/\w.c<=2000)(h:AZ T k k2 bd w p):jq T k w.x k2 w.y (p.h-w.c) p.C:=by
 obtain⟨-,-,-,hh,e,hm⟩:=h;obtain⟨I,hc,-⟩:=hw;have hg:=xO I;have ie:=gV hg oB;have aa:p.h<=bd/\(p.h-w.c<=(bO T k w.x k2 w.y).fw gC\/100000<(bO T k w.x k2 w.y).fw gC):=by
  rw[hh];unfold pR;cases hb:fB T k w.x k2 w.y with
  | some d=>
   have:=(FH (IV hb)).1;simp only;omega
  | none=>
   refine⟨lz _,.inr ?_⟩;unfold fB at hb;split at hb
   ·cases hb
   ·rename_i hn;have:¬ (bO T k w.x k2 w.y).fw gC<never:=fun g=>hn ⟨I,g⟩;unfold never at this;omega
 have J:∀ C,wu (bO T k w.x k2 w.y) (max 0 (p.h-w.c)) C->max 0 (p.h-w.c)<=(bO T k w.x k2 w.y).fw gC->jq T k w.x k2 w.y (p.h-w.c) C:=fun C M hl=>by
  rcases LN 0 (p.h-w.c) with g|g
  ·have e1:max 0 (p.h-w.c)=p.h-w.c:=by omega
   rw[e1] at M hl;exact⟨I,cert_holds M hg (rR (fV.1 I).2.2).2 g eL hl⟩
  ·have e1:max 0 (p.h-w.c)=0:=by omega
   rw[e1] at M;rw[FE M];exact⟨I,fun q hq=>(by cases hq),List.Pairwise.nil,fun q hq=>(by cases hq),g⟩
 generalize M:p.C=C at hm;cases hm with
 | arg g=>rw[I] at g;rcases g with g|g|g;cases g;all_goals omega
 | none _ _ _ g=>omega
 | some _ _ _ _ g1 g2=>exact J _ g2 g1
theorem aaj(h:nO T a b=true)(h0:0<=bd)(h1:bd<=100000)(hi:i<a.ws.length)(hj:j<b.ws.length){z:Wb}(J:Dx T a b bd i j z):Dy T a b i j z:=by
 obtain⟨hv,ha,hb⟩:=dP.1 h;have ac:=IL h h0 h1 hi hj;refine⟨J.ri,J.rj,by rw[J.rh];exact ac.1,J.len,fun m g g'=>?_⟩;have M:=J.ps m g g';have I:=gw g;obtain⟨e1,e2,e3⟩:=Cb ((eZ T a.k (wd a i) b.k (wd b j)).map (pR T a.k b.k bd)) bd;have ab:z.h=((eZ T a.k (wd a i) b.k (wd b j)).map (pR T a.k b.k bd)).foldl min bd:=J.rh;have e4:=e2 _ (List.mem_map.2 ⟨_,I,rfl⟩);rw[<-ab] at e4;have aa:=M.2.2.2.1;have ad:z.ps[m].h<=bd:=by
  rw[aa];unfold pR;split<;>omega
 exact⟨⟨M.1,M.2.1,M.2.2.1⟩,by omega,by omega,aai hv h1 (yF hv (iW ha hi) (iW hb hj) I) M⟩
theorem yG{f:Int}(h:iM T a b bd s f)(h0:f=0):s.b=bd/\fD T a b s/\∀ k (J:k<s.ws.length),Dx T a b bd (k / b.ws.length) (k % b.ws.length) s.ws[k]:=by
 cases h with
 | arg=>cases h0
 | none=>cases h0
 | some h g0 g1 h2 ws hl hw=>
  refine⟨rfl,?_,hw⟩;obtain⟨M,ha,hb⟩:=dP.1 h;have hm:0<b.ws.length:=(aW.1 hb).2.1;have ab:∀ k,k<ws.length->k / b.ws.length<a.ws.length/\k % b.ws.length<b.ws.length:=fun k J=>⟨ui (by rw[mC];omega),qS _ hm⟩;have hs:∀ U V G,sL ⟨bd,ws,U,V,G⟩ a b=hL T a b bd:=fun U V G=>by
   refine Wj fun i hi j I=>?_;obtain⟨d1,d2,d3⟩:=Wl hi I;have J:i*b.ws.length+j<ws.length:=by rw[hl];exact d1
   have h3:=(hw _ J).rh;rw[d2,d3] at h3
   show(ws.getD (i*b.ws.length+j) L2).h=_
   rw[ki,ic J];exact h3
  have aa:mJ (hL T a b bd) (dL T a) (dL T b)=true:=NV h fun i hi j I=>IL h g0 g1 hi I;refine⟨h,g0,g1,hl,fun k J=>aaj h g0 g1 (ab k J).1 (ab k J).2 (hw k J),bK (hL T a b bd) (dL T a) (dL T b),Asn.jR (hL T a b bd) (dL T a) (dL T b),by rw[hs];exact Asn.Xh aa,by rw[hs];exact Asn.aaP aa,?_,?_⟩
  ·have ho:=eH.1 (bX.1 M).1.2.2.2.1;obtain⟨P,hP,hc⟩:=(bA.O5 (c:=cF (hL T a b bd)) (d:=lF (dL T a)) (e:=lF (dL T b)) (n:=(dL T a).length) (m:=(dL T b).length)).has;have e1:bA.cost (cF (hL T a b bd)) (lF (dL T a)) (lF (dL T b)) (dL T a).length (dL T b).length P=bK (hL T a b bd) (dL T a) (dL T b):=hc;rw[show hL T a b bd=cL (hM T a b bd) a.ws.length b.ws.length from rfl,wL,bA.jB (fun i hi j I=>Gp h g1 hi I) (fun i hi=>rfl) (fun j I=>rfl)] at e1
   show bd<=bK (cL (hM T a b bd) a.ws.length b.ws.length) (dL T a) (dL T b)+T.ord
   rw[jr,jr] at hP;have h3:=(qy (T:=T) (a:=a) (b:=b)).low P hP;have h4:=bA.Lg (c:=cM T a b) (d:=dM T a) (e:=dM T b) (n:=a.ws.length) (m:=b.ws.length) (fun i j=>(wM M i j).1) (fun i=>(mI M i).1) (fun j=>(mI M j).1) g0 P;rw[wN] at h2;omega
  ·obtain⟨P,hP,hQ,hc⟩:=(bA.Na (c:=cF (hL T a b bd)) (d:=lF (dL T a)) (e:=lF (dL T b)) (n:=(dL T a).length) (m:=(dL T b).length)).has;have e1:bA.cost (cF (hL T a b bd)) (lF (dL T a)) (lF (dL T b)) (dL T a).length (dL T b).length P=Asn.jR (hL T a b bd) (dL T a) (dL T b):=by unfold Asn.jR;rw[if_pos aa];exact hc
   rw[show hL T a b bd=cL (hM T a b bd) a.ws.length b.ws.length from rfl,wL,bA.jB (fun i hi j I=>Gp h g1 hi I) (fun i hi=>rfl) (fun j I=>rfl)] at e1
   show bd<=Asn.jR (cL (hM T a b bd) a.ws.length b.ws.length) (dL T a) (dL T b)
   rw[jr,jr] at hP hQ;have h3:=(oq (T:=T) (a:=a) (b:=b)).low P hP hQ;have h4:=bA.Lg (c:=cM T a b) (d:=dM T a) (e:=dM T b) (n:=a.ws.length) (m:=b.ws.length) (fun i j=>(wM M i j).1) (fun i=>(mI M i).1) (fun j=>(mI M j).1) g0 P;rw[wN] at h2;omega
end
end Go.Proofs.YtbioiclabmbedaaGreatDoor
