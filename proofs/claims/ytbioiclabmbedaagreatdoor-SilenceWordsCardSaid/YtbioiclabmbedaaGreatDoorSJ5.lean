/- A part of the proof: lemmas. -/
import Derived.Test.YtbioiclabmbedaaGreatDoorSJ2
import Derived.Test.YtbioiclabmbedaaGreatDoorSJ4
import Derived.OwnWalkIn
import Derived.TacticsInMore
import Derived.LoopNIn
import Derived.LoopIn
import Derived.Shelf.Strings.SlTrimAscii
set_option maxHeartbeats 16000000
set_option maxRecDepth 100000
set_option linter.all false
namespace Go.Proofs.YtbioiclabmbedaaGreatDoor
open Go.RowKit Go.CH Go.CH.Scr
open Go.ChangeMaps (setBlock)
def aT(w:World)(v:Value)(e:Ending)(w':World):Prop:=e=.returned v/\Below w.heap.size w w'
def Quiet(w:World)(v:Value)(e:Ending)(w':World):Prop:=e=.returned v/\w=w'
abbrev bl(s:ByteArray):Bs:=s.data.toList
def bs(l:Bs):ByteArray:=⟨l.toArray⟩
theorem iQ(l:Bs):bl (bs l)=l:=rfl
theorem tJ(s:ByteArray):bs (bl s)=s:=by cases s;rfl
theorem qC(s:ByteArray):(bl s).length=s.size:=by cases s;rfl
theorem cO(l:Bs):(bs l).size=l.length:=by cases l;rfl;rfl
theorem Uu{a b:Bs}(h:bs a=bs b):a=b:=by have:=congrArg bl h;exact this
theorem Nb{a b:ByteArray}(h:bl a=bl b):a=b:=by rw[<-tJ a,<-tJ b,h]
theorem P2(s:ByteArray)(i:Nat)(h:i<s.size):(bl s)[i]?=some s[i]:=Lib.data_getElem? s i h
theorem Wg(s:ByteArray)(i:Nat)(h:¬ i<s.size):(bl s)[i]?=none:=pP (by rw[qC];omega)
variable{w:World}
theorem jD{a b:Bool}(h:a=b):Quiet w (.bool b) (.returned (.bool a)) w:=⟨by rw[h],rfl⟩
theorem EK(S:Bs)(x:UInt8):decide (0<=Lib.indexByte S x)=has S (some x):=(Lib.contains_iff_indexByte S x).symm
theorem Y7(x:UInt8):((x.toNat:Int)).toNat.toUInt8=x:=by simp
theorem tK(s S:ByteArray)(i:Nat)(w:World)(hs:s.size<=maxLen):
  Calls Tryz.prog 143 #[.string s,.int .i64 (i:Int),.string S] w (Quiet w (.bool (has (bl S) (bl s)[i]?))):=by
 by_cases h:i<s.size
 ·rw[P2 s i h];obtain⟨x,M⟩:∃ x:UInt8,s[i]=x:=⟨_,rfl⟩;rw[M];have I:=au (Tryz.strings_IndexByte S (x.toNat:Int) w);rw[Y7] at I;have HB:=au (EK (bl S) x);generalize has (bl S) (some x)=r at *
  have J:=x.toNat_lt;have hi:(i:Int)<(s.size:Int):=by omega
  go_enter Tryz.func143,Tryz.ntmps143
  generalize Lib.indexByte (bl S) x=ix at *
  go_wp2_with fail;refine I.o.mono ?_;rintro e9 w9 ⟨rfl,rfl⟩;clear I;go_wp2;go_ret;exact jD HB.o
 ·rw[Wg s i h];have hi:¬ (i:Int)<(s.size:Int):=by omega
  go_enter Tryz.func143,Tryz.ntmps143
  go_wp2;go_ret;exact jD rfl
structure LZ(w:World):Prop where
 c:Lib.CaseVar 1 Lib.caseA w
 t:Lib.Utf8Tabs 2 3 w
 m:∃ m,w.cell? ⟨0,0,none⟩=some (.int .i64 m)
variable{w':World}{k:Int}{l:Bs}
theorem LZ.below(h:LZ w)(hb:Below w.heap.size w w'):LZ w':=⟨Lib.CaseVar_below h.c hb,Utf8Tabs_below h.t hb,h.m.imp fun _ h=>by rw[hb.cell (py _ _ h)];exact h⟩
theorem xH(k:Int)(l:Bs):fS k l =
  if k=1 then(if has bS l[0]? then 1 else 0)
  else if k=2 then(if has bS (l[0]?.map low) then(if has tT l[1]? then 2 else 1) else 0)
  else if k=3 then(if has JJ l[0]? then 1 else 0)
  else if k=4 then(if has JK l[0]?&&has vP l[1]? then 2 else if has vP l[0]?||has [110] l[0]? then 1 else 0)
  else 0:=by
 cases l with
 | nil=>simp[fS,has]
 | cons a t=>
  show lU k a t.head?=_
  have e:t.head?=(a::t)[1]?:=by cases t<;>rfl
  rw[e];rfl
theorem Y8(l:Bs):fS 1 l=if has bS l[0]?=true then 1 else 0:=by rw[xH];rfl
theorem Y9(l:Bs):fS 2 l=if has bS (l[0]?.map low)=true then(if has tT l[1]?=true then 2 else 1) else 0:=by rw[xH];rfl
theorem Za(l:Bs):fS 3 l=if has JJ l[0]?=true then 1 else 0:=by rw[xH];rfl
theorem Zb(l:Bs):fS 4 l=if(has JK l[0]?&&has vP l[1]?)=true then 2 else if(has vP l[0]?||has [110] l[0]?)=true then 1 else 0:=by rw[xH];rfl
theorem Zc(l:Bs)(h1:¬ k=1)(h2:¬ k=2)(h3:¬ k=3)(h4:¬ k=4):fS k l=0:=by rw[xH,if_neg h1,if_neg h2,if_neg h3,if_neg h4]
theorem Zd(c:UInt8):Lib.lowerB c=low c:=by
 have key:∀ n:Fin 256,Lib.lowerB (UInt8.ofNat n.val)=low (UInt8.ofNat n.val):=by decide +kernel
 have:=key ⟨c.toNat,c.toNat_lt⟩;simpa using this
theorem tL(l:Bs):Lib.toLowerA l=lower l:=nB fun c _=>Zd c
theorem decode_high(c:UInt8)(h:128<=c.toNat):Lib.decodeL [c]=(65533,1):=by
 have key:∀ n:Fin 256,128<=n.val->Lib.decodeL [UInt8.ofNat n.val]=(65533,1):=by decide +kernel
 have:=key ⟨c.toNat,c.toNat_lt⟩ h;simpa using this
theorem Fp:Lib.toLowerU 65533=65533:=by decide +kernel
theorem Cx:Lib.encodeRune 65533=[239,191,189]:=by decide +kernel
theorem JD(c:UInt8)(h:128<=c.toNat):has bS (some (low c))=false:=by
 have key:∀ n:Fin 256,128<=n.val->has bS (some (low (UInt8.ofNat n.val)))=false:=by decide +kernel
 have:=key ⟨c.toNat,c.toNat_lt⟩ h;simpa using this
theorem RD(l:Bs)(I:l.length<=1):has bS (Lib.toLowerD l)[0]?=has bS (l[0]?.map low):=by
 match l,I with
 | [],_=>rfl
 | [c],_=>
  by_cases h:c.toNat<128
  ·rw[Lib.toLowerD_ascii [c] (fun b J=>by rw[List.mem_singleton.1 J];exact h),tL];rfl
  ·show has bS (Lib.mapD Lib.toLowerU [c])[0]?=has bS (some (low c))
   rw[JD c eL,Lib.mapD_step _ _ i7,decode_high c eL];rw[show(((65533,1):Nat × Nat).1:Int)=65533 from rfl,Fp,if_pos eS,Cx];rfl
theorem Ze(l:Bs)(I:l.length<=1):(Lib.toLowerD l).length<=10:=by
 match l,I with
 | [],_=>decide
 | [c],_=>
  by_cases h:c.toNat<128
  ·rw[Lib.toLowerD_ascii [c] (fun b J=>by rw[List.mem_singleton.1 J];exact h),tL];simp[lower]
  ·show(Lib.mapD Lib.toLowerU [c]).length<=10
   rw[Lib.mapD_step _ _ i7,decode_high c eL];rw[show(((65533,1):Nat × Nat).1:Int)=65533 from rfl,Fp,if_pos eS,Cx];simp[Lib.mapD,Lib.mapGoD]
theorem wm(s:ByteArray)(a b:Nat):bl (s.extract a b)=((bl s).take b).drop a:=by
 simp[bl,ByteArray.data_extract,List.drop_take]
def Cy(w:World)(k:Int)(l:Bs)(e:Ending)(w':World):Prop:=e=.returned (.int .i64 (fS k l:Nat))/\Below w.heap.size w w'
theorem qK(h:fS k l=0)(hb:Below w.heap.size w w'):Cy w k l (.returned (.int .i64 0)) w':=⟨by rw[h];rfl,hb⟩
theorem oM(h:fS k l=1)(hb:Below w.heap.size w w'):Cy w k l (.returned (.int .i64 1)) w':=⟨by rw[h];rfl,hb⟩
theorem JE(h:fS k l=2)(hb:Below w.heap.size w w'):Cy w k l (.returned (.int .i64 2)) w':=⟨by rw[h];rfl,hb⟩
theorem Nc(k:Int)(s:ByteArray)(w:World)(hs:s.size<=1000000)(hz:LZ w):
  Calls Tryz.prog 111 #[.int .i64 k,.string s] w (Cy w k (bl s)):=by
 have ab:s.size<=maxLen:=by unfold maxLen;omega
 have HZ:=au hz;clear hz;by_cases hk:k=1
 ·subst hk;have J:=au (Y8 (bl s));have M:=au (show Calls Tryz.prog 143 #[.string s,.int .i64 0,.string ⟨#[97,98,99,100,101,102,103,104,105,106,107,108,109,110,111,112,113,114,115,116,117,118,119,120,121,122]⟩] w (Quiet w (.bool (has bS (bl s)[0]?))) from tK s _ 0 w ab);cases h:has bS (bl s)[0]? with
  | false=>
   have HL:=au (show fS 1 (bl s)=0 by rw[J.o,h];rfl);rw[h] at M;clear h J
   go_enter Tryz.func111,Tryz.ntmps111
   go_wp2_with fail;refine M.o.mono ?_;rintro I w9 ⟨rfl,rfl⟩;clear M;go_wp2;go_ret;exact qK HL.o (fe _ _)
  | true=>
   have HL:=au (show fS 1 (bl s)=1 by rw[J.o,h];rfl);rw[h] at M;clear h J
   go_enter Tryz.func111,Tryz.ntmps111
   go_wp2_with fail;refine M.o.mono ?_;rintro I w9 ⟨rfl,rfl⟩;clear M;go_wp2;go_ret;exact oM HL.o (fe _ _)
 have ai:=hk;clear hk;by_cases hk:k=2
 ·subst hk;have J:=au (Y9 (bl s));have K3:=au (show ∀ W:World,Calls Tryz.prog 143 #[.string s,.int .i64 1,.string ⟨#[39,96,94]⟩] W (Quiet W (.bool (has tT (bl s)[1]?))) from fun W=>tK s _ 1 W ab);have ap:=au (fun (x:ByteArray) (hx:x.size<=1)=>Tryz.strings_ToLower_any x w eL HZ.o.c HZ.o.t);have ao:=au (fun (x:ByteArray) (W:World) (hx:x.size<=10)=>show Calls Tryz.prog 143 #[.string x,.int .i64 0,.string ⟨#[97,98,99,100,101,102,103,104,105,106,107,108,109,110,111,112,113,114,115,116,117,118,119,120,121,122]⟩] W (Quiet W (.bool (has bS (bl x)[0]?))) from tK x _ 0 W (by unfold maxLen;omega));obtain⟨x,hx⟩:∃ x,x=s.extract 0 (min 1 (s.size:Int)).toNat:=⟨_,rfl⟩;have ad:(bl x).length<=1/\(bl x)[0]?=(bl s)[0]?:=by
   have h:bl x=(bl s).take 1:=by
    rw[hx,wm,xT];have h2:=qC s;by_cases h0:s.size=0
    ·have e0:bl s=[]:=sE eL;rw[e0];simp
    ·rw[show(min 1 (s.size:Int)).toNat=1 by omega]
   rw[h];refine⟨by rw[kt];omega,?_⟩;cases bl s<;>rfl
  have am:x.size<=1:=by rw[<-qC];exact ad.1
  have an:(Lib.toLowerD (bl x)).length<=10:=Ze _ ad.1;have ak:=RD (bl x) ad.1;rw[ad.2] at ak;have ae:=ap.o x am;have ac:=fun W=>ao.o (bs (Lib.toLowerD (bl x))) W (by rw[cO];exact an);simp only[iQ] at ac;rw[ak] at ac;unfold bs at ac;generalize Lib.toLowerD (bl x)=y at ae ac;rw[hx] at ae;have KT:=au ae;have KI:=au ac;clear ap ao ad am an ak hx ae ac;cases h:has bS ((bl s)[0]?.map low) with
  | false=>
   have HL:=au (show fS 2 (bl s)=0 by rw[J.o,h];rfl);rw[h] at KI;clear h J K3
   go_enter Tryz.func111,Tryz.ntmps111
   go_wp2_with fail;refine KT.o.mono ?_;rintro I w1 ⟨rfl,hb⟩;have HB:=au hb;have aa:=au (KI.o w1);clear KT hb KI;go_wp2_with fail;refine aa.o.mono ?_;rintro I w9 ⟨rfl,rfl⟩;clear aa;go_wp2;go_ret;exact qK HL.o HB.o
  | true=>
   rw[h] at KI;cases h2:has tT (bl s)[1]? with
   | false=>
    have HL:=au (show fS 2 (bl s)=1 by rw[J.o,h,h2];rfl);rw[h2] at K3;clear h h2 J
    go_enter Tryz.func111,Tryz.ntmps111
    go_wp2_with fail;refine KT.o.mono ?_;rintro I w1 ⟨rfl,hb⟩;have HB:=au hb;have aa:=au (KI.o w1);have K4:=au (K3.o w1);clear KT hb KI K3;go_wp2_with fail;refine aa.o.mono ?_;rintro I w9 ⟨rfl,rfl⟩;clear aa;go_wp2_with fail;refine K4.o.mono ?_;rintro I w9 ⟨rfl,rfl⟩;clear K4;go_wp2;go_ret;exact oM HL.o HB.o
   | true=>
    have HL:=au (show fS 2 (bl s)=2 by rw[J.o,h,h2];rfl);rw[h2] at K3;clear h h2 J
    go_enter Tryz.func111,Tryz.ntmps111
    go_wp2_with fail;refine KT.o.mono ?_;rintro I w1 ⟨rfl,hb⟩;have HB:=au hb;have aa:=au (KI.o w1);have K4:=au (K3.o w1);clear KT hb KI K3;go_wp2_with fail;refine aa.o.mono ?_;rintro I w9 ⟨rfl,rfl⟩;clear aa;go_wp2_with fail;refine K4.o.mono ?_;rintro I w9 ⟨rfl,rfl⟩;clear K4;go_wp2;go_ret;exact JE HL.o HB.o
 have al:=hk;clear hk;by_cases hk:k=3
 ·subst hk;have J:=au (Za (bl s));have M:=au (show Calls Tryz.prog 143 #[.string s,.int .i64 0,.string ⟨#[98,100,102,103,104,106,107,108,109,110,112,113,114,115,116,119,120,121,122,39]⟩] w (Quiet w (.bool (has JJ (bl s)[0]?))) from tK s _ 0 w ab);cases h:has JJ (bl s)[0]? with
  | false=>
   have HL:=au (show fS 3 (bl s)=0 by rw[J.o,h];rfl);rw[h] at M;clear h J
   go_enter Tryz.func111,Tryz.ntmps111
   go_wp2_with fail;refine M.o.mono ?_;rintro I w9 ⟨rfl,rfl⟩;clear M;go_wp2;go_ret;exact qK HL.o (fe _ _)
  | true=>
   have HL:=au (show fS 3 (bl s)=1 by rw[J.o,h];rfl);rw[h] at M;clear h J
   go_enter Tryz.func111,Tryz.ntmps111
   go_wp2_with fail;refine M.o.mono ?_;rintro I w9 ⟨rfl,rfl⟩;clear M;go_wp2;go_ret;exact oM HL.o (fe _ _)
 have ag:=hk;clear hk;by_cases hk:k=4
 ·subst hk;have J:=au (Zb (bl s));have M:=au (show Calls Tryz.prog 143 #[.string s,.int .i64 0,.string ⟨#[107,115,116,110,104,109,121,114,119,103,122,100,98,112]⟩] w (Quiet w (.bool (has JK (bl s)[0]?))) from tK s _ 0 w ab);have K2:=au (show Calls Tryz.prog 143 #[.string s,.int .i64 1,.string ⟨#[97,105,117,101,111]⟩] w (Quiet w (.bool (has vP (bl s)[1]?))) from tK s _ 1 w ab);have K3:=au (show Calls Tryz.prog 143 #[.string s,.int .i64 0,.string ⟨#[97,105,117,101,111]⟩] w (Quiet w (.bool (has vP (bl s)[0]?))) from tK s _ 0 w ab);have K4:=au (show Calls Tryz.prog 143 #[.string s,.int .i64 0,.string ⟨#[110]⟩] w (Quiet w (.bool (has [110] (bl s)[0]?))) from tK s _ 0 w ab);cases h:has JK (bl s)[0]? with
  | false=>
   rw[h] at M;cases h3:has vP (bl s)[0]? with
   | false=>
    rw[h3] at K3;cases h4:has [110] (bl s)[0]? with
    | false=>
     have HL:=au (show fS 4 (bl s)=0 by rw[J.o,h,h3,h4];rfl);rw[h4] at K4;clear J h h3 h4
     go_enter Tryz.func111,Tryz.ntmps111
     go_wp2_with fail;refine M.o.mono ?_;rintro I w9 ⟨rfl,rfl⟩;clear M;clear K2;go_wp2_with fail;refine K3.o.mono ?_;rintro I w9 ⟨rfl,rfl⟩;clear K3;go_wp2_with fail;refine K4.o.mono ?_;rintro I w9 ⟨rfl,rfl⟩;clear K4;go_wp2;go_ret;exact qK HL.o (fe _ _)
    | true=>
     have HL:=au (show fS 4 (bl s)=1 by rw[J.o,h,h3,h4];rfl);rw[h4] at K4;clear J h h3 h4
     go_enter Tryz.func111,Tryz.ntmps111
     go_wp2_with fail;refine M.o.mono ?_;rintro I w9 ⟨rfl,rfl⟩;clear M;clear K2;go_wp2_with fail;refine K3.o.mono ?_;rintro I w9 ⟨rfl,rfl⟩;clear K3;go_wp2_with fail;refine K4.o.mono ?_;rintro I w9 ⟨rfl,rfl⟩;clear K4;go_wp2;go_ret;exact oM HL.o (fe _ _)
   | true=>
    rw[h3] at K3;have HL:=au (show fS 4 (bl s)=1 by rw[J.o,h,h3];rfl);clear J h h3 K4
    go_enter Tryz.func111,Tryz.ntmps111
    go_wp2_with fail;refine M.o.mono ?_;rintro I w9 ⟨rfl,rfl⟩;clear M;clear K2;go_wp2_with fail;refine K3.o.mono ?_;rintro I w9 ⟨rfl,rfl⟩;clear K3;go_wp2;go_ret;exact oM HL.o (fe _ _)
  | true=>
   rw[h] at M;cases h2:has vP (bl s)[1]? with
   | false=>
    rw[h2] at K2;cases h3:has vP (bl s)[0]? with
    | false=>
     rw[h3] at K3;cases h4:has [110] (bl s)[0]? with
     | false=>
      have HL:=au (show fS 4 (bl s)=0 by rw[J.o,h,h2,h3,h4];rfl);rw[h4] at K4;clear J h h3 h4 h2
      go_enter Tryz.func111,Tryz.ntmps111
      go_wp2_with fail;refine M.o.mono ?_;rintro I w9 ⟨rfl,rfl⟩;clear M;go_wp2_with fail;refine K2.o.mono ?_;rintro I w9 ⟨rfl,rfl⟩;clear K2;go_wp2_with fail;refine K3.o.mono ?_;rintro I w9 ⟨rfl,rfl⟩;clear K3;go_wp2_with fail;refine K4.o.mono ?_;rintro I w9 ⟨rfl,rfl⟩;clear K4;go_wp2;go_ret;exact qK HL.o (fe _ _)
     | true=>
      have HL:=au (show fS 4 (bl s)=1 by rw[J.o,h,h2,h3,h4];rfl);rw[h4] at K4;clear J h h3 h4 h2
      go_enter Tryz.func111,Tryz.ntmps111
      go_wp2_with fail;refine M.o.mono ?_;rintro I w9 ⟨rfl,rfl⟩;clear M;go_wp2_with fail;refine K2.o.mono ?_;rintro I w9 ⟨rfl,rfl⟩;clear K2;go_wp2_with fail;refine K3.o.mono ?_;rintro I w9 ⟨rfl,rfl⟩;clear K3;go_wp2_with fail;refine K4.o.mono ?_;rintro I w9 ⟨rfl,rfl⟩;clear K4;go_wp2;go_ret;exact oM HL.o (fe _ _)
    | true=>
     rw[h3] at K3;have HL:=au (show fS 4 (bl s)=1 by rw[J.o,h,h2,h3];rfl);clear J h h3 K4 h2
     go_enter Tryz.func111,Tryz.ntmps111
     go_wp2_with fail;refine M.o.mono ?_;rintro I w9 ⟨rfl,rfl⟩;clear M;go_wp2_with fail;refine K2.o.mono ?_;rintro I w9 ⟨rfl,rfl⟩;clear K2;go_wp2_with fail;refine K3.o.mono ?_;rintro I w9 ⟨rfl,rfl⟩;clear K3;go_wp2;go_ret;exact oM HL.o (fe _ _)
   | true=>
    have HL:=au (show fS 4 (bl s)=2 by rw[J.o,h,h2];rfl);rw[h2] at K2;clear J h h2 K3 K4
    go_enter Tryz.func111,Tryz.ntmps111
    go_wp2_with fail;refine M.o.mono ?_;rintro I w9 ⟨rfl,rfl⟩;clear M;go_wp2_with fail;refine K2.o.mono ?_;rintro I w9 ⟨rfl,rfl⟩;clear K2;go_wp2;go_ret;exact JE HL.o (fe _ _)
 have af:=hk;clear hk;have HL:=au (show fS k (bl s)=0 from Zc _ ai al ag af);have t1:(k==1)=false:=by simpa using ai
 have t2:(k==2)=false:=by simpa using al
 have t3:(k==3)=false:=by simpa using ag
 have t4:(k==4)=false:=by simpa using af
 clear ai al ag af
 go_enter Tryz.func111,Tryz.ntmps111
 go_wp2;go_ret;exact qK HL.o (fe _ _)
theorem aC{w'':World}(h:Below w.heap.size w w')(h':Below w'.heap.size w' w''):Below w.heap.size w w'':=h.trans (h'.mono h.size)
theorem aK{a b:Bool}(h:b=a)(hb:Below w.heap.size w w'):aT w (.bool b) (.returned (.bool a)) w':=⟨by rw[h],hb⟩
def iR(k:Int):Nat->Bs->Bs
 | 0,l=>l
 | i+1,l=>(iR k i l).drop (fS k (iR k i l))
theorem JF(k:Int)(l:Bs):∀ i,i<=(aQ k l).1.length->aQ k (iR k i l)=((aQ k l).1.drop i,(aQ k l).2):=by
 intro i
 induction i with
 | zero=>intro _;rfl
 | succ i ih=>
  intro hi;have h:=ih eL;have hd:(aQ k l).1.drop i=(aQ k l).1[i]::(aQ k l).1.drop (i+1):=rS eL;have hn:fS k (iR k i l)≠0:=fun M=>by
   rw[fP M,hd] at h;cases h
  rw[gW hn,hd] at h
  show aQ k ((iR k i l).drop (fS k (iR k i l)))=_
  have J:=congrArg Prod.fst h;have I:=congrArg Prod.snd h;simp only[List.cons.injEq] at J I;exact Prod.ext J.2 I
variable{i b1 b2:Nat}{F0:Nat->Prop}{w0 W:World}{X:Go.CH.aU}
theorem Uv(hi:i<(aQ k l).1.length):fS k (iR k i l)≠0/\(aQ k l).1[i]=(iR k i l).take (fS k (iR k i l)):=by
 have h:=JF k l i eL;have hd:(aQ k l).1.drop i=(aQ k l).1[i]::(aQ k l).1.drop (i+1):=rS eL;have hn:fS k (iR k i l)≠0:=fun J=>by
  rw[fP J,hd] at h;cases h
 refine⟨hn,?_⟩;rw[gW hn,hd] at h;have I:=congrArg Prod.fst h;simp only[List.cons.injEq] at I;exact I.1.symm
theorem Pe(k:Int)(l:Bs):fS k (iR k (aQ k l).1.length l)=0/\iR k (aQ k l).1.length l=(aQ k l).2:=by
 have h:=JF k l _ (fL _);rw[uB] at h;have hn:fS k (iR k (aQ k l).1.length l)=0:=by
  refine Ff fun hn=>?_;rw[gW hn] at h;cases h
 refine⟨hn,?_⟩;rw[fP hn] at h;exact congrArg Prod.snd h
theorem Uw(k:Int)(l:Bs):∀ i,(iR k i l).length<=l.length:=by
 intro i
 induction i with
 | zero=>exact fL _
 | succ i ih=>show((iR k i l).drop _).length<=_;rw[k8];omega
def Zl(k:Int)(l:Bs)(b1 b2 i:Nat):Go.CH.aU:=aj (av b1 (fR k) 3) (av b2 (oy (bs (iR k i l))) 9)
theorem Pf(i:Nat):(Zl k l b1 b2 i).Ok:=aB aF aF
def LR(x:Bs):Array Value:=(oy (bs x))
def Fq(b2:Nat)(w:World):Nat:=match w.cell? ⟨b2,0,none⟩ with|some (.string s)=>s.size|_=>0
theorem Zf(l:Bs)(n:Nat):bs (l.take n)=(bs l).extract 0 n:=Nb (by rw[wm,iQ,iQ,xT])
theorem Ia(l:Bs)(n:Nat):bs (l.drop n)=(bs l).extract n (bs l).size:=Nb (by rw[wm,iQ,iQ,cO,kz])
theorem tN(h:aI F0 w0 (aj (Zl k l b1 b2 i) X) W):
  W.cell? ⟨b1,0,none⟩=some (.int .i64 k)/\W.cell? ⟨b2,0,none⟩=some (.string (bs (iR k i l)))/\W.frozen? ⟨b2,0,none⟩=false:=by
 obtain⟨F,J⟩:=(h.assoc).fst;obtain⟨M,I⟩:=(h.assoc.kQ).fst;exact⟨ay J rfl,ay I rfl,aN I 0⟩
theorem Zg(hX:X.Ok)(h:aI F0 w0 (aj (Zl k l b1 b2 i) X) W):
  aI F0 w0 (aj (Zl k l b1 b2 (i+1)) X) (W.setCell ⟨b2,0,none⟩ (.string (bs (iR k (i+1) l)))):=by
 have h1:=h.assoc.kQ;obtain⟨F,I,-,M⟩:=h1.take aF aO;have J:=M _ _ (uI I 0 (.string (bs (iR k (i+1) l))));exact(J.perm (by ac_rfl):aI F0 w0 (aj (aj (av b1 (fR k) 3) (av b2 (#[Value.string (bs (iR k i l))].setIfInBounds 0 (.string (bs (iR k (i+1) l)))) 9)) X) _)
theorem Cz{s:ByteArray}(h:w.cell? ⟨b2,0,none⟩=some (.string s)):Fq b2 w=s.size:=by unfold Fq;rw[h]
theorem Ib(k:Int)(l:Bs)(b1 b2:Nat)(hl:l.length<=1000000):
  Qs Tryz.prog 110 #[.pointer (some ⟨b1,0,none⟩),.pointer (some ⟨b2,0,none⟩)] LZ (Zl k l b1 b2) LR (aQ k l).1:=by
 intro n lo W F0 w0 X Y ab aw hE h0 hY;have HY:=au hY;have HE:=au hE;have HL:=au (fun (t:ByteArray) (W:World) (ht:t.size<=1000000) (hz:LZ W)=>Nc k t W ht hz);clear hY hE;obtain⟨N,hN⟩:∃ N,N=(aQ k l).1.length:=⟨_,rfl⟩;refine callsIn_of_wp Tryz.func110 rfl trivial ?_ rfl;simp only[Tryz.ntmps110,pZ,jz,lL,Nat.reduceAdd,Nat.reduceSub,re,rk,ry,rq,me,pd];obtain⟨c1,c2,c3⟩:=tN h0;have K0:=au (HL.o (bs (iR k 0 l)) W (by rw[cO];exact hl) (HE.o W h0.mod));have H0:=au h0;clear h0
 gi_wp2_with (refine⟨trivial,fun h=>(by cases h),?_⟩;gi_at_call 111;refine(callsIn_wide.2 K0.o).mono ?_;rintro e9 w9 ⟨rfl,hb⟩;clear K0;have H1:=au (H0.o.below (aB (Pf 0) (ab 0)) hb);clear H0 hb c1 c2 c3)
 gi_loopw [4] (fun p wr=>∃ i:Nat,i<=N/\p=.int .i64 (fS k (iR k i l):Nat)/\aI F0 w0 (aj (Zl k l b1 b2 i) (X i)) wr)
  (fun p wr=>Fq b2 wr)
 case atStart=>exact⟨0,fy _,by rw[iQ],H1.o⟩
 case round=>
  clear H1;obtain⟨i,hi,rfl,hR⟩:=hrel;have HR:=au hR;clear hR;by_cases af:i<N
  ·have I:=af;rw[hN] at I;obtain⟨hn,hx⟩:=Uv I;have hw:=HY.o i I wr HR.o;rw[hx,LR,Zf] at hw;obtain⟨fn,tmps,assign,body,hy,hround⟩:=hw;have ac:=au hround;obtain⟨c1,c2,c3⟩:=tN HR.o;have HS:=au (show bs (iR k (i+1) l)=_ from Ia (iR k i l) (fS k (iR k i l)));have ap:fS k (iR k i l)<=(bs (iR k i l)).size:=by rw[cO];exact rP
   have al:(bs (iR k (i+1) l)).size<=1000000:=by rw[cO];exact j8 (Uw k l (i+1)) hl
   have lh:(bs (iR k i l)).size<=1000000:=by rw[cO];exact j8 (Uw k l i) hl
   have ax:(bs (iR k (i+1) l)).size+fS k (iR k i l)=(bs (iR k i l)).size:=by
    rw[cO,cO] at *
    show((iR k i l).drop _).length+_=_
    rw[k8];omega
   have HA:=au (fun (W':World) (h:aI F0 w0 (aj (Zl k l b1 b2 i) (X (i+1))) W')=>show W'.cell? ⟨b1,0,none⟩=some (.int .i64 k)/\W'.cell? ⟨b2,0,none⟩=some (.string (bs (iR k i l)))/\W'.frozen? ⟨b2,0,none⟩=false from tN h)
   have HB:=au (fun (W':World) (h:aI F0 w0 (aj (Zl k l b1 b2 i) (X (i+1))) W')=>show
     aI F0 w0 (aj (Zl k l b1 b2 (i+1)) (X (i+1))) (W'.setCell ⟨b2,0,none⟩ (.string ((bs (iR k i l)).extract (fS k (iR k i l)) (bs (iR k i l)).size))) /\
     (W'.setCell ⟨b2,0,none⟩ (.string ((bs (iR k i l)).extract (fS k (iR k i l)) (bs (iR k i l)).size))).cell? ⟨b1,0,none⟩=some (.int .i64 k) /\
     (W'.setCell ⟨b2,0,none⟩ (.string ((bs (iR k i l)).extract (fS k (iR k i l)) (bs (iR k i l)).size))).cell? ⟨b2,0,none⟩=some (.string ((bs (iR k i l)).extract (fS k (iR k i l)) (bs (iR k i l)).size)) /\
     Calls Tryz.prog 111 #[.int .i64 k,.string ((bs (iR k i l)).extract (fS k (iR k i l)) (bs (iR k i l)).size)] (W'.setCell ⟨b2,0,none⟩ (.string ((bs (iR k i l)).extract (fS k (iR k i l)) (bs (iR k i l)).size)))
      (Cy (W'.setCell ⟨b2,0,none⟩ (.string ((bs (iR k i l)).extract (fS k (iR k i l)) (bs (iR k i l)).size))) k (iR k (i+1) l)) from by
    have h2:=Zg (ab (i+1)) h;rw[HS.o] at h2;obtain⟨d1,d2,-⟩:=tN h2;rw[HS.o] at d2;refine⟨h2,d1,d2,?_⟩;have h3:=HL.o (bs (iR k (i+1) l)) _ al (HE.o _ h2.mod);rw[iQ,HS.o] at h3
    exact h3)
   have HZ:=au (fun (W':World) (hb:aI F0 w0 (aj (Zl k l b1 b2 (i+1)) (X (i+1))) W')=>show Fq b2 W'=(bs (iR k (i+1) l)).size from Cz (tN hb).2.1);have ak:=au (show Fq b2 wr=(bs (iR k i l)).size from Cz c2);have ao:=au (fun (W W':World) (h:aI F0 w0 (aj (Zl k l b1 b2 (i+1)) (X (i+1))) W) (hb:Below W.heap.size W W')=>h.below (aB (Pf (i+1)) (ab (i+1))) hb);clear HS HL HE HY HR hx hN hl I;have M:∀ W',aI F0 w0 (aj (Zl k l b1 b2 (i+1)) (X (i+1))) W'->∃ i':Nat,i'<=N/\Value.int .i64 (fS k (iR k (i+1) l):Nat)=.int .i64 (fS k (iR k i' l):Nat)/\aI F0 w0 (aj (Zl k l b1 b2 i') (X i')) W':=fun W' h=>⟨i+1,af,rfl,h⟩;have ag:=au M;have J:∀ W',aI F0 w0 (aj (Zl k l b1 b2 i) Y) W'->(∃ v,(Ending.returned (.tuple #[]))=.returned v)/\(aI F0 w0 (aj (Zl k l b1 b2 (aQ k l).1.length) (X (aQ k l).1.length)) W'\/∃ i,aI F0 w0 (aj (Zl k l b1 b2 i) Y) W'):=fun W' h=>⟨⟨_,rfl⟩,.inr ⟨i,h⟩⟩;have ad:=au J;clear M J;generalize ae:(bs (iR k (i+1) l)).size=s2 at *
   generalize ht:bs (iR k i l)=t at *
   generalize am:fS k (iR k i l)=n1 at *
   clear ae ht am;have ar:0<n1:=by omega
   clear hn;gi_wp2;refine⟨fun h=>(by cases h),?_⟩;clear c1 c2 c3 hy;refine ac.o.mono ?_;rintro e W3 (⟨rfl,h3⟩|⟨rfl,h3⟩)
   ·obtain⟨h4,d1,d2,K4⟩:=HB.o W3 h3;obtain⟨a1,a2,a3⟩:=HA.o W3 h3;have H4:=au h4;have KK:=au K4;have aq:=au (show Fq b2 W3=t.size from Cz a2);clear ac HB HA h3 h4 K4
    gi_wp2_with (refine⟨trivial,fun h=>(by cases h),?_⟩;gi_at_call 111;refine(callsIn_wide.2 KK.o).mono ?_;rintro e9 w9 ⟨rfl,hb⟩;clear KK)
    have h5:=ao.o _ _ H4.o hb
    go_roundw
    case rel=>exact ag.o _ h5
    case measure=>rw[HZ.o _ h5,ak.o];omega
   ·have an:=au (ad.o _ h3);clear ac HB HA h3;gi_wp2
    go_end0
    exact an.o
  ·obtain rfl:i=N:=by omega
   have hz:fS k (iR k i l)=0:=by rw[hN];exact(Pe k l).1
   have aa:(∃ v,(Ending.returned (.tuple #[]))=.returned v)/\(aI F0 w0 (aj (Zl k l b1 b2 (aQ k l).1.length) (X (aQ k l).1.length)) wr\/∃ i,aI F0 w0 (aj (Zl k l b1 b2 i) Y) wr):=⟨⟨_,rfl⟩,.inl (by rw[<-hN];exact HR.o)⟩;have ai:=au aa;clear aa;rw[hz];gi_wp2;refine⟨fun _ h=>(by cases h),?_⟩;gi_wp2
   go_end0
   exact ai.o
attribute [local go_sem] nF
def P3(b1 b2:Nat):Value:=.func (.func 110) #[] (s7 (some ⟨b1,0,none⟩) (some ⟨b2,0,none⟩))
theorem JG(k:Int)(s:ByteArray)(w:World):
  Calls Tryz.prog 85 #[.int .i64 k,.string s] w fun e w'=>∃ b1 b2,e=.returned (P3 b1 b2)/\bT w eR (Zl k (bl s) b1 b2 0) w':=by
 have h:bT w eR (Zl k (bl s) w.heap.size (w.heap.size+1) 0) ((w.alloc (.cells (fR k) 3)).alloc (.cells (oy s) 9)):=by
  have h1:=(aI.begin w).fresh aM (dU w (fR k) 3);have I:=h1.fresh aO (dU _ (oy s) 9);rw[ik] at I;have M:aI eR w (aj (Zl k (bl s) w.heap.size (w.heap.size+1) 0) bG) _:=I.perm (by unfold Zl;rw[show iR k 0 (bl s)=bl s from rfl,tJ];ac_rfl);exact(M.swap.drop).post (Pf 0)
 have J:=au h;clear h
 go_enter Tryz.func85,Tryz.ntmps85
 go_wp2;go_ret;exact⟨_,_,rfl,J.o⟩
theorem zI:eO Tryz.prog 26 9 (.string ByteArray.empty) 1 16:=⟨Tryz.underlying26,by kernel_rfl,by decide,by decide⟩
def kN(xs:List Bs):List Value:=xs.map fun x=>.string (bs x)
theorem Ux(l:List Bs):∀ u ∈ kN l,u.oneCell'=true:=by
 intro u hu;obtain⟨s,_,rfl⟩:=List.mem_map.1 hu;rfl
variable{l:List Bs}{A:eV}{c n:Nat}{a:Act}{K:Act->World->Prop}{Q:Exit->Act->World->Prop}
theorem Uy{k:Nat}(h:k<l.length):(kN l)[k]?=some (.string (bs l[k])):=by simp[kN,h]
def gD(A:eV)(c:Nat)(l:List Bs):CH.aU:=aV 9 1 (.slice A l.length c) l.length (kN l)
theorem iG:(gD A c l).Ok:=dQ
instance {A:eV} {c:Nat} {l:List Bs}:(gD A c l).Ok:=iG
theorem Uz{x:Bs}:aV 9 1 (.slice A (l.length+1) c) (l.length+1) (kN l++[.string (bs x)])=gD A c (l++[x]):=by
 unfold gD;have e:kN (l++[x])=kN l++[.string (bs x)]:=by simp[kN]
 rw[e,gj,pD]
theorem Pg(w:World):gD none 0 [] w eR:=gu w 9 1
def bC(k:Int)(l:Bs):List Bs × Int:=if word k l then((aQ k l).1,0) else([],1)
def mR(w:World)(k:Int)(l:Bs)(e:Ending)(w':World):Prop:=
 ∃ A c,e=.returned (.tuple (pC A (bC k l).1.length c (bC k l).2))/\bT w eR (gD A c (bC k l).1) w'
theorem UC{Y:CH.aU}{o:Oper}(s x:Operand)(ho:o.op=.call { callee:=.builtin .append,args:=#[s,x],argTypes:=#[26,26] }){i:ByteArray}(hl:l.length=n)(hsv:a.eval s=.slice A n c)(hx:a.eval x=.slice (some ⟨W.heap.size,0,none⟩) 1 1)(hn:n<=1000000)(hY:Y.Ok)(h:aI F0 w0 (aj (gD A c l) Y) W)(hK:∀ A' c' w',aI F0 w0 (aj (gD A' c' (l++[bl i])) Y) w'->K (a.put o.dst (.slice A' (n+1) c')) w'):o.wp Tryz.prog a (W.alloc (.cells (oy i) 9)) K Q:=by
 subst hl;obtain⟨F7,J,-,ab⟩:=(h.below aO ((fe _ _).alloc (fL _) (.cells (oy i) 9))).take iG hY;refine xG s x ho zI _ 0 (v:=.slice A l.length c) (n:=l.length) (xs:=kN l) hsv J.1 (A:=some ⟨W.heap.size,0,none⟩) (m:=1) (c:=1) (news:=[.string i]) hx (U4 W _ 9 rfl) (by unfold maxLen;omega) eL (fy _) ?_;intro v8 w8 I aa M;have S8:=ab _ _ (jk J I aa M);obtain⟨A8,c8,rfl⟩:=iy I;rw[show Value.string i=.string (bs (bl i)) by rw[tJ],Uz] at S8;exact hK A8 c8 w8 S8
def DG(k:Int)(l:Bs)(c6 c7 i:Nat):CH.aU:=lW fun p:eV × Nat=>aj (av c6 (il p.1 i p.2) 26) (aj (gD p.1 p.2 ((aQ k l).1.take i)) (av c7 (oy (bs (iR k i l))) 9))
abbrev P4(k:Int)(l:Bs)(c6 c7 i:Nat)(A:eV)(c:Nat):CH.aU:=aj (av c6 (il A i c) 26) (aj (gD A c ((aQ k l).1.take i)) (av c7 (oy (bs (iR k i l))) 9))
variable{l:Bs}{c6 c7 g:Nat}{S T U X:CH.aU}{W':World}{v:Value}{t:TypeId}
theorem UD(i:Nat):(DG k l c6 c7 i).Ok:=bZ fun _=>aB aF (aB iG aF)
def D1(k:Int)(l:Bs)(c6 c7:Nat):Code->CH.aU
 | .exit 0=>lW fun i:Nat=>tu (12<i/\i<=(aQ k l).1.length) (DG k l c6 c7 i)
 | _=>wj
theorem Wk(c:Code):(D1 k l c6 c7 c).Ok:=by
 unfold D1;split
 ·exact bZ fun i=>gJ (UD i)
 ·exact FV
theorem WN(hS:S.Ok)(hT:T.Ok)(h:aI F0 w0 (aj S (aj (av g #[v] t) T)) W)(v':Value):
  aI F0 w0 (aj S (aj (av g #[v'] t) T)) (W.setCell ⟨g,0,none⟩ v'):=by
 obtain⟨F,hF,-,bk⟩:=h.kQ.take aF aO;exact(bk _ _ (uI hF 0 v')).kQ
theorem W0(hS:S.Ok)(hU:U.Ok)(hT:T.Ok)(h:aI F0 w0 (aj S (aj U (aj (av g #[v] t) T))) W)(I:Value):
  aI F0 w0 (aj S (aj U (aj (av g #[I] t) T))) (W.setCell ⟨g,0,none⟩ I):=by
 obtain⟨F,J,-,M⟩:=h.L5.take aF aO;exact(M _ _ (uI J 0 I)).perm (by ac_rfl)
theorem LS(h:aI F0 w0 (aj S (aj (av g #[v] t) T)) W):W.cell? ⟨g,0,none⟩=some v/\W.frozen? ⟨g,0,none⟩=false:=by
 obtain⟨F,hF⟩:=h.kQ.fst;exact⟨ay hF rfl,aN hF 0⟩
theorem L0(h:aI F0 w0 (aj S (aj U (aj (av g #[v] t) T))) W):W.cell? ⟨g,0,none⟩=some v/\W.frozen? ⟨g,0,none⟩=false:=by
 obtain⟨F,hF⟩:=h.L5.fst;exact⟨ay hF rfl,aN hF 0⟩
theorem Nf(k:Int)(l:Bs):(aQ k l).1.length<=l.length:=by
 refine oO (k:=k) (P:=fun l=>(aQ k l).1.length<=l.length) (fun l h=>?_) (fun l h ih=>?_) l
 ·show(aQ k l).1.length<=l.length
  rw[fP h];exact fy _
 ·show(aQ k l).1.length<=l.length
  have ih:(aQ k (l.drop (fS k l))).1.length<=(l.drop (fS k l)).length:=ih;rw[gW h];rw[k8] at ih;have:=rP (k:=k) (l:=l);simp only[jz];omega
theorem RF(hi:i<(aQ k l).1.length):(aQ k l).1.take i++[bl (bs (aQ k l).1[i])]=(aQ k l).1.take (i+1) /\
  (bs (iR k i l)).extract (bs (aQ k l).1[i]).size (bs (iR k i l)).size=bs (iR k (i+1) l)/\(bs (aQ k l).1[i]).size<=(bs (iR k i l)).size:=by
 have h:=Uv hi;have e:(bs (aQ k l).1[i]).size=fS k (iR k i l):=by
  rw[h.2,cO,kt];have:=rP (k:=k) (l:=iR k i l);omega
 refine⟨by rw[iQ,kq hi],?_,?_⟩
 ·rw[e,<-Ia];rfl
 ·rw[e,cO];exact rP
theorem tO(h:bC k l=([],1))(hm:CH.Mod eR w W'):mR w k l (.returned (.tuple (pC none 0 0 1))) W':=
 ⟨none,0,by rw[h];rfl,fun _=>False,by rw[h];exact Pg _,hm,fun i hi=>.inl hi⟩
theorem UE(h:bC k l=((aQ k l).1,0))(hr:aI eR w (aj (gD A c (aQ k l).1) X) W'):
  mR w k l (.returned (.tuple (pC A (aQ k l).1.length c 0))) W':=⟨A,c,by rw[h],by rw[h];exact(hr.swap.drop).post iG⟩
theorem Ph(h:¬ ((aQ k l).2=[]/\1<=(aQ k l).1.length/\(aQ k l).1.length<=12)):bC k l=([],1):=by
 unfold bC;rw[if_neg (fun hw=>h (eX.1 hw))]
theorem Zh(h:(aQ k l).2=[]/\1<=(aQ k l).1.length/\(aQ k l).1.length<=12):bC k l=((aQ k l).1,0):=by
 unfold bC;rw[if_pos (eX.2 h)]
theorem dD:(bs l).toList=[]↔l=[]:=by
 rw[CI];exact qT
theorem UF(k:Int)(s:ByteArray)(w:World):aI eR w (DG k (bl s) w.heap.size (w.heap.size+1) 0) ((w.alloc (.cells (il none 0 0) 26)).alloc (.cells (oy s) 9)):=by
 have M:=(aI.begin w).fresh aM (⟨fun _=>False,Pg w,Mod.refl _ _,fun i hi=>.inl hi⟩:bT w eR (gD none 0 []) w);have h1:=M.fresh aO (dU w (il none 0 0) 26);have I:=h1.fresh aO (dU _ (oy s) 9);rw[ik] at I;have J:aI eR w (aj (aj (av w.heap.size (il none 0 0) 26) (aj (gD none 0 []) (av (w.heap.size+1) (oy s) 9))) bG) _:=I.perm (by ac_rfl);refine J.swap.drop.imp fun _ _ h=>⟨(none,0),?_⟩;rw[show bs (iR k 0 (bl s))=s from tJ s];exact h
theorem ji(k:Int)(s:ByteArray)(w:World)(hs:s.size<=1000000)(hz:LZ w):
  Calls Tryz.prog 57 #[.int .i64 k,.string s] w (mR w k (bl s)):=by
 have HZ:=au hz;have HL:=au (fun W=>JG k s W);clear hz;refine(callsIn_wide (n:=8)).1 ?_;refine callsIn_of_wp_marks Tryz.func57 rfl trivial ?_ rfl;simp only[Tryz.ntmps57,pZ,jz,lL,Nat.reduceAdd,Nat.reduceSub,re,rk,ry,rq,me,pd];refine(wpIn_wide (n:=8)).2 ?_;have S0:=au (UF k s w);go_wp2_with fail;generalize ((w.alloc (.cells (il none 0 0) 26)).alloc (.cells (oy s) 9))=W2 at *
 refine(HL.o W2).mono ?_;rintro e9 w9 ⟨b1,b2,rfl,hp⟩;have S1:=au (S0.o.fresh (UD 0) hp);clear S0 hp HL;have hE:∀ W,Mod eR w W->LZ W:=fun W h=>HZ.o.below (h.below (fun _ _ h=>h));dsimp only;go_wp2_with fail;have hl:(bl s).length<=1000000:=by rw[qC];exact hs
 have HL:=au hl;generalize w.heap.size+1=J at *
 generalize w.heap.size=c6 at *
 clear hl;refine Ti (gf:=110) (lb:=(s7 (some ⟨b1,0,none⟩) (some ⟨b2,0,none⟩))) rfl (enters_of Tryz.func110 eQ rfl) (Ib k (bl s) b1 b2 HL.o) Pf (fun _=>rfl) hE
  (DG k (bl s) c6 J) (D1 k (bl s) c6 J) UD Wk S1.o
  (fun x=>{ tmps:=#[.int .i64 k,.string s,undef,undef,.slice none 0 0,.int .i64 0,.pointer (some ⟨c6,0,none⟩),.pointer (some ⟨J,0,none⟩),.string (bs x),.string s,.int .i64 k,.string s,P3 b1 b2,.string (bs x),undef,undef,undef,undef,undef,undef,undef,undef,undef,undef,undef,undef,undef,undef,undef,undef,undef,undef,undef,undef,undef,undef,undef,undef],defers:=[] }) ?assign ?body ?done ?stop
 case assign=>
  intro l m x W K I;unfold LR;gi_wp2;exact I
 case body=>
  intro lo m i hi R W hR hI;obtain⟨⟨A,c⟩,M⟩:=hI.ex;dsimp only at M;obtain⟨F6,h6⟩:=M.assoc.fst;obtain⟨F7,h7⟩:=M.assoc.kQ.assoc.kQ.fst;have ac:=ay (i:=0) h6 rfl;have ar:=aN h6 0;have ad:=ay (i:=0) h7 rfl;have ap:=aN h7 0;have H1:=au M;clear M h6 h7 hI S1;obtain⟨q1,q2,q3⟩:=RF hi;have Q1:=au q1;have aD:=au (show i+1<=(aQ k (bl s)).1.length from hi);have a0:i<1000000:=by
   have:=HL.o;have h2:=Nf k (bl s);omega
  have am:(aj (av c6 (il A i c) 26) (aj (av J (oy (bs (iR k i (bl s)))) 9) R)).Ok:=aB aF aO;have HA:=au ((H1.o.perm (by ac_rfl):aI eR w (aj (gD A c ((aQ k (bl s)).1.take i)) (aj (av c6 (il A i c) 26) (aj (av J (oy (bs (iR k i (bl s)))) 9) R))) W).drew aO);have ak:=au am;have aq:=au hR;have ai:((aQ k (bl s)).1.take i).length=i:=by rw[kt];omega
  have al:=au ai;clear am H1 ai q1 hR;generalize (aQ k (bl s)).1[i]=x at *
  generalize hr:bs (iR k i (bl s))=r at *
  clear hr hi;refine wpIn_block (wpIn_seq ?_);refine mV [2,3,8,9] [1,0,1,2,3,3,3,3,3,4]
   (fun w'=>w'.cell? ⟨c6,0,none⟩=some (.slice A i c)/\w'.cell? ⟨J,0,none⟩=some (.string r))
   [fun w'=>w'.cell? ⟨c6,0,none⟩=some (.slice A i c)/\w'.cell? ⟨J,0,none⟩=some (.string r),fun w'=>w'.cell? ⟨J,0,none⟩=some (.string r),fun w'=>w'.cell? ⟨J,0,none⟩=some (.string r)]
   ⟨fun _ h=>h,fun _ h=>h.2,fun _ h=>h,trivial⟩ rfl (fun⟨a,w,h⟩=>h) rfl eQ eQ eQ ⟨ac,ad⟩ ?_
  (repeat(first|refine eT ?_|refine eU ?_))
  refine bB rfl gh (fun K I=>?_);go_wp2;refine I.o _ _ ?_ ?_
  ·obtain⟨d1,-⟩:=LS (HA.o.below (aB iG ak.o) ((fe _ _).alloc (fL _) (.cells (oy (bs x)) 9)));obtain⟨d2,-⟩:=L0 (HA.o.below (aB iG ak.o) ((fe _ _).alloc (fL _) (.cells (oy (bs x)) 9)));exact⟨d1,d2⟩
  clear I ac ar ad ap
  (repeat(first|refine eT ?_|refine eU ?_))
  refine bB rfl gh (fun K I=>?_);refine UC (.tmp 14) (.tmp 16) rfl al.o rfl rfl eL ak.o HA.o ?_;intro A' c' w2 ag;rw[Q1.o] at ag;have H2:=au ag;obtain⟨e6,f6⟩:=LS ag;obtain⟨e7,f7⟩:=L0 ag;refine I.o _ _ e7 ?_;clear I HA ag Q1
  (repeat(first|refine eT ?_|refine eU ?_))
  refine bB rfl gh (fun K I=>?_);go_wp2;have az:=aq.o;have h3:=WN iG aO H2.o (.slice A' (i+1) c');have H3:=au h3;obtain⟨ao,aw⟩:=L0 h3;refine I.o _ _ ao ?_;clear I h3 e6 f6 e7 f7 H2;refine bB rfl gh (fun K I=>?_);go_wp2;have h4:=W0 iG aF az H3.o (.string (r.extract (bs x).size r.size));rw[q2] at h4;obtain⟨e6,-⟩:=LS h4;have H4:=au (aI.nZ (O:=fun p:eV × Nat=>aj (av c6 (il p.1 (i+1) p.2) 26) (aj (gD p.1 p.2 ((aQ k (bl s)).1.take (i+1))) (av J (oy (bs (iR k (i+1) (bl s)))) 9))) (A',c') (h4.perm (by ac_rfl)));refine I.o _ _ trivial (iV ?_);clear I H3 ao aw h4
  show Code.wpIn _ _ _ _ _ _ _
  generalize (w2.setCell ⟨c6,0,none⟩ (.slice A' (i+1) c')).setCell ⟨J,0,none⟩ (.string (bs (iR k (i+1) (bl s))))=w3 at *
  by_cases an:(12:Int)<(i:Int)+1
  ·have HX:=au (show aI eR w (aj (D1 k (bl s) c6 J (.exit 0)) R) w3 from aI.nZ (i+1) (aI.iT ⟨by omega,aD.o⟩ H4.o));clear H4;gi_wp2;exact HX.o
  ·gi_wp2;exact H4.o
 case done=>
  intro D R W hR hI;obtain⟨⟨A,c⟩,M⟩:=hI.ex;dsimp only at M ⊢;obtain⟨F6,h6⟩:=M.assoc.fst;obtain⟨F7,h7⟩:=M.assoc.kQ.assoc.kQ.fst;have ac:W.cell? ⟨c6,0,none⟩=some (.slice A (aQ k (bl s)).1.length c):=ay (i:=0) h6 rfl;have ad:W.cell? ⟨J,0,none⟩=some (.string (bs (iR k (aQ k (bl s)).1.length (bl s)))):=ay (i:=0) h7 rfl;have af:(aj (P4 k (bl s) c6 J (aQ k (bl s)).1.length A c) R).Ok:=aB aO hR;obtain⟨FD,hD,-,bk⟩:=M.kQ.take bg af;have I:=hD.1;have HF:=au ((bk _ _ (fK hD (.deferred none))).perm (by ac_rfl:_=aj (gD A c ((aQ k (bl s)).1.take (aQ k (bl s)).1.length)) (aj (av c6 (il A (aQ k (bl s)).1.length c) 26) (aj (av J (oy (bs (iR k (aQ k (bl s)).1.length (bl s)))) 9) (aj (aX D (.deferred none)) R)))));have HK:=au I;clear M h6 h7 hI S1 I hD bk af;rw[(Pe k (bl s)).2] at ad;obtain⟨n,hn⟩:∃ n,n=(aQ k (bl s)).1.length:=⟨_,rfl⟩;have ab:=au (fun h:bC k (bl s)=((aQ k (bl s)).1,0)=>show mR w k (bl s) (.returned (.tuple (pC A (aQ k (bl s)).1.length c 0))) (W.putObj D (.deferred none)) from UE h (by have:=HF.o;rw[kz] at this;exact this));have aa:=au (fun h:¬ ((aQ k (bl s)).2=[]/\1<=n/\n<=12)=>show bC k (bl s)=([],1) from Ph (by rw[<-hn];exact h));have ae:=au (fun h:(aQ k (bl s)).2=[]/\1<=n/\n<=12=>show bC k (bl s)=((aQ k (bl s)).1,0) from Zh (by rw[<-hn];exact h));rw[<-hn] at ac ab;clear hn;by_cases he:(aQ k (bl s)).2=[]
  ·have ax:(bs (aQ k (bl s)).2).toList=[]:=dD.2 he;by_cases h0:n=0
   ·have t0:((n:Int)==0)=true:=by simp[h0]
    have HN:=au (aa.o eL);clear ab aa ae he;go_wp2_with fail;refine⟨by simp,.inl ⟨_,_,rfl,run_takeDeferred HK.o,?_⟩⟩;refine⟨_,results_tmp2 rfl _ _ _,?_⟩;exact tO HN.o HF.o.mod
   ·have t0:((n:Int)==0)=false:=by simp[h0]
    by_cases an:(12:Int)<(n:Int)
    ·have HN:=au (aa.o eL);clear ab aa ae he;go_wp2_with fail;refine⟨by simp,.inl ⟨_,_,rfl,run_takeDeferred HK.o,?_⟩⟩;refine⟨_,results_tmp2 rfl _ _ _,?_⟩;exact tO HN.o HF.o.mod
    ·have HX:=au (ab.o (ae.o ⟨he,by omega,by omega⟩));clear ab aa ae he;go_wp2_with fail;refine⟨by simp,.inl ⟨_,_,rfl,run_takeDeferred HK.o,?_⟩⟩;refine⟨_,results_tmp2 rfl _ _ _,?_⟩;exact HX.o
  ·have ax:¬ (bs (aQ k (bl s)).2).toList=[]:=fun h=>he (dD.1 h);have HN:=au (aa.o (fun h=>he h.1));clear ab aa ae he;go_wp2_with fail;refine⟨by simp,.inl ⟨_,_,rfl,run_takeDeferred HK.o,?_⟩⟩;refine⟨_,results_tmp2 rfl _ _ _,?_⟩;exact tO HN.o HF.o.mod
 case stop=>
  intro D c R W hR hI;have aA:∃ i,(12<i/\i<=(aQ k (bl s)).1.length)/\c=.exit 0/\aI eR w (aj (DG k (bl s) c6 J i) (aj (aX D (.deferred (some []))) R)) W:=by
   unfold D1 at hI;split at hI
   ·obtain⟨i,hi⟩:=hI.ex;exact⟨i,hi.pure.1,rfl,hi.pure.2⟩
   ·exact hI.no.elim
  clear hI;obtain⟨i,⟨an,aE⟩,rfl,hI⟩:=aA;obtain⟨⟨A,c⟩,M⟩:=hI.ex;dsimp only at M ⊢;obtain⟨F6,h6⟩:=M.assoc.fst;obtain⟨F7,h7⟩:=M.assoc.kQ.assoc.kQ.fst;have ac:W.cell? ⟨c6,0,none⟩=some (.slice A i c):=ay (i:=0) h6 rfl;have ad:W.cell? ⟨J,0,none⟩=some (.string (bs (iR k i (bl s)))):=ay (i:=0) h7 rfl;have af:(aj (P4 k (bl s) c6 J i A c) R).Ok:=aB aO hR;obtain⟨FD,hD,-,bk⟩:=M.kQ.take bg af;have I:=hD.1;have HF:=au ((bk _ _ (fK hD (.deferred none))).perm (by ac_rfl:_=aj (gD A c ((aQ k (bl s)).1.take i)) (aj (av c6 (il A i c) 26) (aj (av J (oy (bs (iR k i (bl s)))) 9) (aj (aX D (.deferred none)) R)))));have HK:=au I;clear M h6 h7 hI S1 I hD bk af;have HN:=au (show bC k (bl s)=([],1) from Ph eL);have t0:((i:Int)==0)=false:=by simp;omega
  have a1:(12:Int)<(i:Int):=by omega
  generalize iR k i (bl s)=rr at *
  by_cases he:(bs rr).toList=[]
  ·go_wp2_with fail;refine⟨by simp,.inl ⟨_,_,rfl,run_takeDeferred HK.o,?_⟩⟩;refine⟨_,results_tmp2 rfl _ _ _,?_⟩;exact tO HN.o HF.o.mod
  ·go_wp2_with fail;refine⟨by simp,.inl ⟨_,_,rfl,run_takeDeferred HK.o,?_⟩⟩;refine⟨_,results_tmp2 rfl _ _ _,?_⟩;exact tO HN.o HF.o.mod
def fu(w:World)(A:eV)(l:List Bs):Prop:=Src w A l.length 1 (kN l)
variable{xs:List Value}{l:List Bs}{F:Nat->Prop}
theorem aZ{size:Nat}(h:Src w A n size xs)(hb:Below w.heap.size w w'):Src w' A n size xs:=
 ((aI.begin w).below aM hb).SO h
theorem fu.below(h:fu w A l)(hb:Below w.heap.size w w'):fu w' A l:=aZ h hb
theorem fu.at(h:fu w A l)(hn:0<l.length):
  ∃ b o,A=some ⟨b,o,none⟩/\∀ w',Below w.heap.size w w'->∀ j (I:j<l.length),w'.cell? ⟨b,o+j,none⟩=some (.string (bs l[j])):=by
 obtain⟨b,o,rfl,M⟩:=Src.open_ h hn eL;refine⟨b,o,rfl,fun w' hb j I=>?_⟩;have J:=M j _ (Uy I);rw[hb.cell (py _ _ J)];exact J
theorem oN(h:gD A c l w F):fu w A l:=iK h (Ux l)
def JH(w:World)(k:Int)(l:Bs)(e:Ending)(w':World):Prop:=
 ∃ A c,e=.returned (.tuple (pC A (bC k l).1.length c (bC k l).2))/\Below w.heap.size w w'/\fu w' A (bC k l).1
theorem Fu(k:Int)(s:ByteArray)(w:World)(hs:s.size<=1000000)(hz:LZ w):
  Calls Tryz.prog 57 #[.int .i64 k,.string s] w (JH w k (bl s)):=by
 refine(ji k s w hs hz).mono ?_;rintro e w' ⟨A,c,rfl,F,h1,h2,h3⟩;exact⟨A,c,rfl,h2.below (fun _ _ h=>h),oN h1⟩
def iC(k:Int)(l:Bs):Bs × Int:=if word k l then(lower l,0) else([],1)
theorem Fv:(∀ c ∈ bS,c.toNat<128)/\(∀ c ∈ JJ,c.toNat<128)/\(∀ c ∈ vP,c.toNat<128)/\(∀ c ∈ JK,c.toNat<128)/\(∀ c ∈ tT,c.toNat<128)/\(∀ c ∈ ([110]:Bs),c.toNat<128):=by decide
theorem RG{a:UInt8}{b:Option UInt8}(h:lU k a b≠0):a.toNat<128:=by
 obtain⟨M,s2,s3,s4,s5,J⟩:=Fv;unfold lU at h;split at h
 ·split at h
  ·rename_i I;exact M _ (jM.1 I)
  ·exact absurd rfl h
 split at h
 ·split at h
  ·rename_i I;refine Ff fun hc=>?_;rw[JD a eL] at I;cases I
  ·exact absurd rfl h
 split at h
 ·split at h
  ·rename_i I;exact s2 _ (jM.1 I)
  ·exact absurd rfl h
 split at h
 ·split at h
  ·rename_i I;rw[gA] at I;exact s4 _ (jM.1 I.1)
  ·split at h
   ·rename_i I;rw[tA] at I;rcases I with I|I
    ·exact s3 _ (jM.1 I)
    ·exact J _ (jM.1 I)
   ·exact absurd rfl h
 ·exact absurd rfl h
theorem RH{c:UInt8}(h:has (Hc k) (some c)=true):c.toNat<128:=by
 obtain⟨s1,s2,s3,s4,s5,s6⟩:=Fv;have hm:=jM.1 h;unfold Hc at hm;split at hm
 ·exact s5 _ hm
 split at hm
 ·exact s3 _ hm
 ·cases hm
theorem Ic{l:Bs}(h:fS k l≠0):∀ b ∈ l.take (fS k l),b.toNat<128:=by
 cases l with
 | nil=>intro b I;simp at I
 | cons a t=>
  have h1:lU k a t.head?≠0:=h;have J:=RG h1
  show ∀ b ∈ (a::t).take (lU k a t.head?),b.toNat<128
  have aa:=CB (k:=k) (a:=a) (b:=t.head?);by_cases M:lU k a t.head?=2
  ·have hs:=Ie M;rw[M];cases t with
   | nil=>intro b I;simp at I;rw[I];exact J
   | cons c t=>
    have hc:=RH hs;intro b I;simp at I;rcases I with rfl|rfl
    ·exact J
    ·exact hc
  ·rw[show lU k a t.head?=1 by omega];intro b I;simp at I;rw[I];exact J
theorem JI{l:Bs}(h:word k l=true):∀ b ∈ l,b.toNat<128:=by
 have key:∀ l:Bs,(aQ k l).2=[]->∀ b ∈ l,b.toNat<128:=fun l=>by
  refine oO (k:=k) (P:=fun l=>(aQ k l).2=[]->∀ b ∈ l,b.toNat<128) (fun l h J b I=>?_) (fun l h ih J b I=>?_) l
  ·rw[fP h] at J;have J:l=[]:=J;rw[J] at I;cases I
  ·rw[gW h] at J;have:=ih J;rw[<-ua (fS k l) l] at I;rcases List.mem_append.1 I with I|I
   ·exact Ic h b I
   ·exact this b I
 exact key l (eX.1 h).1
theorem tQ(k:Int)(s:ByteArray)(w:World)(hs:s.size<=1000000)(hz:LZ w):
  Calls Tryz.prog 56 #[.int .i64 k,.string s] w (aT w (.tuple #[.string (bs (iC k (bl s)).1),.int .i64 (iC k (bl s)).2])):=by
 have HZ:=au hz;have I:=au (Fu k s w hs hz);have HF:=au (fun W (h:Below w.heap.size w W)=>Tryz.strings_ToLower_any s W eL (HZ.o.below h).c (HZ.o.below h).t);by_cases J:word k (bl s)=true
 ·have M:bC k (bl s)=((aQ k (bl s)).1,0):=by unfold bC;rw[if_pos J]
  have e2:iC k (bl s)=(lower (bl s),0):=by unfold iC;rw[if_pos J]
  have e3:(⟨(Lib.toLowerD (bl s)).toArray⟩:ByteArray)=bs (lower (bl s)):=by
   rw[Lib.toLowerD_ascii _ (JI J),tL];rfl
  unfold JH at I;simp only[M] at I;simp only[e3] at HF;rw[e2];clear M e2 e3 J hz
  go_enter Tryz.func56,Tryz.ntmps56
  go_wp2_with fail;refine I.o.mono ?_;rintro e9 w1 ⟨A,c,rfl,hb,-⟩;have HB:=au hb;have KF:=au (HF.o w1 hb);clear hb I HF;dsimp only;go_wp2_with fail;refine KF.o.mono ?_;rintro e9 w2 ⟨rfl,hb⟩;have aa:=au (aC HB.o hb);clear KF HB hb;go_wp2;refine bodyPost_ret (results_tmp2 rfl _ _ _) rfl ?_;exact⟨rfl,aa.o⟩
 ·have M:bC k (bl s)=([],1):=by unfold bC;rw[if_neg J]
  have e2:iC k (bl s)=([],1):=by unfold iC;rw[if_neg J]
  unfold JH at I;simp only[M] at I;rw[e2];clear M e2 J hz HF
  go_enter Tryz.func56,Tryz.ntmps56
  go_wp2_with fail;refine I.o.mono ?_;rintro e9 w1 ⟨A,c,rfl,hb,-⟩;have HB:=au hb;clear hb I;dsimp only;go_wp2;refine bodyPost_ret (results_tmp2 rfl _ _ _) rfl ?_;exact⟨rfl,HB.o⟩
open Go.CH.dh
def iq(R:im):List Value:=[.int .i64 R.k,.string (bs R.f),.string (bs R.t),.int .i64 R.c]
def zP(d:Drop):List Value:=[.int .i64 d.k,.string (bs d.w),.int .i64 d.c]
def dA(p:Pt):List Value:=[.int .i64 p.i,.int .i64 p.j,.string (bs p.a),.bool p.r,.int .i64 p.h]
def sI{α:Type}(R:α->List Value)(size:Nat)(w:World)(A:eV)(l:List α):Prop:=Src w A l.length size (l.flatMap R)
theorem jP{α:Type}{R:α->List Value}{size:Nat}(I:∀ x,(R x).length=size):∀ {l:List α} {j:Nat} (h:j<l.length) {i:Nat},i<size->(l.flatMap R)[j*size+i]?=(R l[j])[i]?
 | [],j,h,_,_=>absurd h (oc _)
 | x::l,0,h,i,hi=>by
  rw[mS,xp (by rw[I];omega),sx,mB];rfl
 | x::l,j+1,h,i,hi=>by
  rw[mS,B9 (by rw[I,li];omega),I];rw[show(j+1)*size+i-size=j*size+i by rw[li];omega];exact jP I (by simpa using h) hi
section
variable{α:Type}{R:α→List Value}{size:Nat}{w w':World}{A:eV}{l:List α}
theorem sI.below(h:sI R size w A l)(hb:Below w.heap.size w w'):sI R size w' A l:=aZ h hb
theorem sI.at(M:∀ x,(R x).length=size)(hs:0<size)(h:sI R size w A l)(hn:0<l.length):
  ∃ b o,A=some ⟨b,o,none⟩/\∀ w',Below w.heap.size w w'->∀ j (J:j<l.length) i u,(R l[j])[i]?=some u->w'.cell? ⟨b,o+j*size+i,none⟩=some u:=by
 obtain⟨b,o,rfl,hc⟩:=Src.open_ h hn hs;refine⟨b,o,rfl,fun w' hb j J i u hu=>?_⟩;have hi:i<size:=by rw[<-M l[j]];exact(List.getElem?_eq_some_iff.1 hu).1
 have I:=hc (j*size+i) u (by rw[jP M J hi];exact hu);rw[<-vx] at I;rw[hb.cell (py _ _ I)];exact I
end
section
variable{w:World}{A:eV}
abbrev l8(w:World)(A:eV)(l:List im):Prop:=sI iq 4 w A l
abbrev nP(w:World)(A:eV)(l:List Drop):Prop:=sI zP 3 w A l
abbrev zQ(w:World)(A:eV)(l:List Pt):Prop:=sI dA 5 w A l
theorem l8.at{l:List im}(h:l8 w A l)(hn:0<l.length):∃ b o,A=some ⟨b,o,none⟩/\∀ w',Below w.heap.size w w'->∀ j (I:j<l.length),
  w'.cell? ⟨b,o+j*4,none⟩=some (.int .i64 l[j].k)/\w'.cell? ⟨b,o+j*4+1,none⟩=some (.string (bs l[j].f))/\w'.cell? ⟨b,o+j*4+2,none⟩=some (.string (bs l[j].t))/\w'.cell? ⟨b,o+j*4+3,none⟩=some (.int .i64 l[j].c):=by
 obtain⟨b,o,e,J⟩:=sI.at (R:=iq) (fun _=>rfl) eL h hn;exact⟨b,o,e,fun w' M j I=>⟨J w' M j I 0 _ rfl,J w' M j I 1 _ rfl,J w' M j I 2 _ rfl,J w' M j I 3 _ rfl⟩⟩
theorem nP.at{l:List Drop}(h:nP w A l)(hn:0<l.length):∃ b o,A=some ⟨b,o,none⟩/\∀ w',Below w.heap.size w w'->∀ j (I:j<l.length),
  w'.cell? ⟨b,o+j*3,none⟩=some (.int .i64 l[j].k)/\w'.cell? ⟨b,o+j*3+1,none⟩=some (.string (bs l[j].w))/\w'.cell? ⟨b,o+j*3+2,none⟩=some (.int .i64 l[j].c):=by
 obtain⟨b,o,e,J⟩:=sI.at (R:=zP) (fun _=>rfl) eL h hn;exact⟨b,o,e,fun w' M j I=>⟨J w' M j I 0 _ rfl,J w' M j I 1 _ rfl,J w' M j I 2 _ rfl⟩⟩
theorem zQ.at{l:List Pt}(h:zQ w A l)(hn:0<l.length):∃ b o,A=some ⟨b,o,none⟩/\∀ w',Below w.heap.size w w'->∀ j (I:j<l.length),
  w'.cell? ⟨b,o+j*5,none⟩=some (.int .i64 l[j].i)/\w'.cell? ⟨b,o+j*5+1,none⟩=some (.int .i64 l[j].j)/\w'.cell? ⟨b,o+j*5+2,none⟩=some (.string (bs l[j].a))/\w'.cell? ⟨b,o+j*5+3,none⟩=some (.bool l[j].r)/\w'.cell? ⟨b,o+j*5+4,none⟩=some (.int .i64 l[j].h):=by
 obtain⟨b,o,e,J⟩:=sI.at (R:=dA) (fun _=>rfl) eL h hn;exact⟨b,o,e,fun w' M j I=>⟨J w' M j I 0 _ rfl,J w' M j I 1 _ rfl,J w' M j I 2 _ rfl,J w' M j I 3 _ rfl,J w' M j I 4 _ rfl⟩⟩
end
structure TA where
 A:eV
 c:Nat
 D:eV
 d:Nat
 E:eV
 e:Nat
def dN(T:eW)(a:TA):Array Value:=(fh a.A T.rs.length a.c a.D T.ds.length a.d a.E T.es.length a.e T.drop T.ord T.ini)
def dI(T:eW)(a:TA):Value:=.agg (dN T a)
structure jV(w:World)(T:eW)(a:TA):Prop where
 rs:l8 w a.A T.rs
 ds:nP w a.D T.ds
 es:nP w a.E T.es
 lr:T.rs.length<=1000000
 ld:T.ds.length<=1000000
 le:T.es.length<=1000000
 sr:∀ R ∈ T.rs,R.f.length<=1000000/\R.t.length<=1000000
 sd:∀ d ∈ T.ds,d.w.length<=1000000
 se:∀ d ∈ T.es,d.w.length<=1000000
variable{T:eW}
theorem jV.below{a:TA}(h:jV w T a)(hb:Below w.heap.size w w'):jV w' T a:={ h with rs:=h.rs.below hb,ds:=h.ds.below hb,es:=h.es.below hb }
def gG(k:Int)(l:Bs):List Bs × Bool:=if word k l then((aQ k (lower l)).1,true) else([],false)
def U0(w:World)(k:Int)(l:Bs)(e:Ending)(w':World):Prop:=
 ∃ A c,e=.returned (.tuple (pC A (bC k l).1.length c (bC k l).2))/\Below w.heap.size w w'/\fu w' A (bC k l).1/\(bC k l).1.length<=c
theorem FK(k:Int)(s:ByteArray)(w:World)(hs:s.size<=1000000)(hz:LZ w):Calls Tryz.prog 57 #[.int .i64 k,.string s] w (U0 w k (bl s)):=by
 refine(ji k s w hs hz).mono ?_;rintro e w' ⟨A,c,rfl,F,h1,h2,h3⟩;exact⟨A,c,rfl,h2.below (fun _ _ h=>h),oN h1,(vD h1.1).1⟩
theorem U1(k:Int):¬ word k []=true:=fun h=>CF h rfl
variable{t p:Bs}
theorem ZA(hn:n<l.length)(J:p≠[])(I:l[n].isPrefixOf p=true)(h:tk l t=(tk (l.drop n) p).map (n + ·)):
  tk l t=(tk (l.drop (n+1)) (p.drop l[n].length)).map (n+1 + ·):=by
 rw[h,rS hn];cases p with
 | nil=>exact absurd rfl J
 | cons c p=>
  conv=>lhs;unfold tk
  rw[if_pos I,tE];congr 1;funext x
  show n+(x+1)=n+1+x
  omega
theorem Px(J:p≠[])(I:∀ hn:n<l.length,l[n].isPrefixOf p=false)(h:tk l t=(tk (l.drop n) p).map (n + ·)):takes l t=0:=by
 unfold takes;rw[h];cases p with
 | nil=>exact absurd rfl J
 | cons c p=>
  by_cases hn:n<l.length
  ·rw[rS hn];unfold tk;rw[if_neg (by rw[I hn];decide)];rfl
  ·rw[Fi eL];rfl
theorem ZB(h:tk l t=(tk (l.drop n) []).map (n + ·)):takes l t=n:=by
 unfold takes;rw[h,Ii];rfl
theorem ZC{x:Bs}(h:x.isPrefixOf p=true):x.length<=p.length:=by
 obtain⟨r,rfl⟩:=jO.1 h;rw[gj];omega
theorem RZ(hA:fu w A l)(hl:l.length<=1000000)(ht:t.length<=1000000)(hw:∀ x ∈ l,x.length<=1000000):
  Calls Tryz.prog 102 #[.slice A l.length c,.string (bs t)] w (aT w (.int .i64 (takes l t:Nat))):=by
 have HA:=au hA;have HW:=au hw;have KP:=au (fun (a b:ByteArray) (W:World)=>Tryz.strings_HasPrefix a b W);obtain⟨N,hN⟩:∃ N,N=l.length:=⟨_,rfl⟩;have HN:=au hN;rw[<-hN] at hl ⊢;clear hA hw hN
 go_enter Tryz.func102,Tryz.ntmps102
 go_wp2;go_loopw [5,6] (fun i s wr=>∃ (k:Nat) (p:Bs),k<=N/\i=.int .i64 k/\s=.string (bs p)/\p.length<=t.length/\tk l t=(tk (l.drop k) p).map (k + ·)/\Below w.heap.size w wr) (fun i _ _=>N-(intOf i).toNat)
 case atStart=>exact⟨0,t,fy _,rfl,rfl,fL _,by simp,fe _ _⟩
 case round=>
  obtain⟨k,p,hk,rfl,rfl,am,ad,hb⟩:=hrel;have HT:=au ad;have HB:=au hb;clear ad hb;by_cases h0:p=[]
  ·subst h0;have HF:=au (ZB HT.o);have ag:(bs ([]:Bs)).toList.isEmpty=true:=by rw[sk];exact dD.2 rfl
   generalize bs ([]:Bs)=z at *
   by_cases aa:k<N
   ·go_wp2;go_ret;exact⟨by rw[HF.o];rfl,HB.o⟩
   ·go_wp2;go_ret;exact⟨by rw[HF.o];rfl,HB.o⟩
  ·have ag:(bs p).toList.isEmpty=false:=by rw[pN];exact fun h=>h0 (dD.1 h)
   by_cases aa:k<N
   ·have M:k<l.length:=by rw[<-HN.o];exact aa
    obtain⟨b,o,rfl,hc⟩:=HA.o.at eL;have ck:=hc _ HB.o k M;have KQ:=au (KP.o (bs p) (bs l[k]) wr);have J:=au (fun I=>ZA (t:=t) M h0 I HT.o);have ab:=au (fun h:l[k].isPrefixOf p=false=>Px h0 (fun _=>h) HT.o);have al:=HW.o _ (gw M);by_cases I:l[k].isPrefixOf p=true
    ·have e1:Lib.hasPrefix (bs p).data.toList (bs l[k]).data.toList=true:=I;have HS:=au (J.o I);have af:=ZC I;have HD:=au (show bs (p.drop l[k].length)=(bs p).extract l[k].length p.length from by rw[Ia,cO]);have ai:(p.drop l[k].length).length<=t.length:=by rw[k8];omega
     have ak:(bs l[k]).size=l[k].length:=cO _;have ac:(bs p).size=p.length:=cO _;rw[e1] at KQ;clear e1 J ab I;have ae:(l[k].length:Int)<=(p.length:Int):=by omega
     generalize l[k]=x at *
     go_wp2_with fail;refine KQ.o.mono ?_;rintro e9 w9 ⟨rfl,rfl⟩;clear KQ;dsimp only;rw[<-ak,<-ac] at af ae;go_wp2
     go_roundw
     case rel=>exact⟨k+1,p.drop x.length,by omega,by go_num,by rw[HD.o],ai,HS.o,HB.o⟩
     case measure=>simp[intOf];omega
    ·have e1:Lib.hasPrefix (bs p).data.toList (bs l[k]).data.toList=false:=Bool.eq_false_iff.2 I;have HF:=au (ab.o (Bool.eq_false_iff.2 I));rw[e1] at KQ;clear e1 J ab I;generalize l[k]=x at *
     go_wp2_with fail;refine KQ.o.mono ?_;rintro e9 w9 ⟨rfl,rfl⟩;clear KQ;dsimp only;go_wp2;go_ret;exact⟨by rw[HF.o];rfl,HB.o⟩
   ·have HF:=au (Px h0 (fun hn=>absurd hn (by rw[<-HN.o];exact aa)) HT.o);go_wp2;go_ret;exact⟨by rw[HF.o];rfl,HB.o⟩
theorem wI(n:Int)(w:World):Calls Tryz.prog 59 #[.int .i64 n] w (aT w (.bool (gZ n))):=by
 by_cases J:0<=n
 ·by_cases I:n<=1000
  ·have e:gZ n=true:=eH.2 ⟨J,I⟩;rw[e]
   go_enter Tryz.func59,Tryz.ntmps59
   go_wp2;go_ret;exact⟨rfl,fe _ _⟩
  ·have e:gZ n=false:=by rw[rB];exact fun h=>I (eH.1 h).2
   rw[e]
   go_enter Tryz.func59,Tryz.ntmps59
   go_wp2;go_ret;exact⟨rfl,fe _ _⟩
 ·have e:gZ n=false:=by rw[rB];exact fun h=>J (eH.1 h).1
  rw[e]
  go_enter Tryz.func59,Tryz.ntmps59
  go_wp2;go_ret;exact⟨rfl,fe _ _⟩
theorem C9(k:Int)(s:ByteArray)(ju:Nat)(w:World)(hs:s.size<=1000000)(hz:LZ w):Calls Tryz.prog 60 #[.int .i64 k,.string s,.int .i64 (ju:Int)] w (aT w (.bool (iU k (bl s) ju))):=by
 have I:=au (tQ k s w hs hz);have KL:=au (fun W (hz:LZ W)=>FK k s W hs hz);have HZ:=au hz;clear hz;unfold aT at I;by_cases hw:word k (bl s)=true
 ·have e1:iC k (bl s)=(lower (bl s),0):=by unfold iC;rw[if_pos hw]
  have e2:bC k (bl s)=((aQ k (bl s)).1,0):=by unfold bC;rw[if_pos hw]
  simp only[e1] at I;unfold U0 at KL;simp only[e2] at KL;by_cases hl:lower (bl s)=bl s
  ·have e3:iU k (bl s) ju=decide ((aQ k (bl s)).1.length<=ju):=by unfold iU;rw[hw,decide_eq_true hl];simp
   have ab:bs (lower (bl s))=s:=by rw[hl,tJ]
   rw[e3];rw[ab] at I;have tq:(s.toList==s.toList)=true:=by simp
   clear e1 e2 e3 hl ab hw;generalize (aQ k (bl s)).1=L at *
   by_cases hm:L.length<=ju
   ·have ac:(L.length:Int)<=(ju:Int):=by omega
    rw[decide_eq_true hm]
    go_enter Tryz.func60,Tryz.ntmps60
    go_wp2_with fail;refine I.o.mono ?_;rintro e9 w1 ⟨rfl,hb⟩;have M:=au hb;have J:=au (KL.o w1 (HZ.o.below hb));clear I KL hb;dsimp only;go_wp2_with fail;refine J.o.mono ?_;rintro e9 w2 ⟨A,c,rfl,hb,hA,hc⟩;have aa:=au (aC M.o hb);clear J M hb hA hc;dsimp only;go_wp2;go_ret;exact⟨rfl,aa.o⟩
   ·have ac:¬ (L.length:Int)<=(ju:Int):=by omega
    rw[decide_eq_false hm]
    go_enter Tryz.func60,Tryz.ntmps60
    go_wp2_with fail;refine I.o.mono ?_;rintro e9 w1 ⟨rfl,hb⟩;have M:=au hb;have J:=au (KL.o w1 (HZ.o.below hb));clear I KL hb;dsimp only;go_wp2_with fail;refine J.o.mono ?_;rintro e9 w2 ⟨A,c,rfl,hb,hA,hc⟩;have aa:=au (aC M.o hb);clear J M hb hA hc;dsimp only;go_wp2;go_ret;exact⟨rfl,aa.o⟩
  ·have e3:iU k (bl s) ju=false:=by unfold iU;rw[decide_eq_false hl];simp
   have tq:((bs (lower (bl s))).toList==s.toList)=false:=by
    rw[wT];exact decide_eq_false fun h=>hl (by have h2:=congrArg bl h;rw[iQ] at h2;exact h2)
   rw[e3];clear e1 e2 e3 hl hw;generalize bs (lower (bl s))=z at *
   go_enter Tryz.func60,Tryz.ntmps60
   go_wp2_with fail;refine I.o.mono ?_;rintro e9 w1 ⟨rfl,hb⟩;have M:=au hb;clear I KL hb;dsimp only;go_wp2;go_ret;exact⟨rfl,M.o⟩
 ·have e1:iC k (bl s)=([],1):=by unfold iC;rw[if_neg hw]
  have e3:iU k (bl s) ju=false:=by unfold iU;rw[Bool.eq_false_iff.2 hw];rfl
  simp only[e1] at I;rw[e3];clear e1 e3 hw
  go_enter Tryz.func60,Tryz.ntmps60
  go_wp2_with fail;refine I.o.mono ?_;rintro e9 w1 ⟨rfl,hb⟩;have M:=au hb;clear I KL hb;dsimp only;go_wp2;go_ret;exact⟨rfl,M.o⟩
theorem ZO(c:UInt8):bS.contains c=j4 c:=by
 have h:∀ n:Fin 256,bS.contains (UInt8.ofNat n.1)=j4 (UInt8.ofNat n.1):=by decide +kernel
 have:=h ⟨c.toNat,c.toNat_lt⟩;simpa using this
theorem Ny{α:Type}{p:α->Bool}:∀ l:List α,l.dropWhile p=[]↔l.all p=true
 | []=>by simp
 | a::l=>by
  rw[List.dropWhile_cons,C5];cases h:p a with
  | true=>simp[Ny l]
  | false=>simp
theorem Kk(s:Bs):Lib.trimS s bS=[]↔s.all j4=true:=by
 have e:s.all j4=s.all (bS.contains ·):=by congr 1;funext c;exact(ZO c).symm
 rw[e];unfold Lib.trimS Lib.trimLeftS Lib.trimRightS;constructor
 ·intro h;rw[Ny,List.all_reverse] at h;rw[j7] at h ⊢;intro c M;by_cases hd:c ∈ s.reverse.dropWhile (bS.contains ·)
  ·exact h c hd
  ·have:=List.takeWhile_append_dropWhile (p:=(bS.contains ·)) (l:=s.reverse);have J:c ∈ s.reverse:=List.mem_reverse.2 M;rw[<-this,AH] at J;rcases J with I|I
   ·exact List.all_eq_true.1 (List.all_takeWhile) c I
   ·exact absurd I hd
 ·intro h;have I:s.reverse.dropWhile (bS.contains ·)=[]:=(Ny _).2 (by rw[List.all_reverse];exact h);rw[I];rfl
theorem Nz(s:ByteArray)(w:World)(hs:s.size<=1000000):Calls Tryz.prog 61 #[.string s] w (aT w (.bool (vU (bl s)))):=by
 have J:=au (Any.strings_Trim_laid Tryz.aaX eQ s ⟨#[97,98,99,100,101,102,103,104,105,106,107,108,109,110,111,112,113,114,115,116,117,118,119,120,121,122]⟩ w eL eS (_root_.Go.Proofs.ascii_of_all eS));have J:=au (show Calls Tryz.prog 87 #[.string s,.string ⟨#[97,98,99,100,101,102,103,104,105,106,107,108,109,110,111,112,113,114,115,116,117,118,119,120,121,122]⟩] w (fun e w'=>e=.returned (.string (bs (Lib.trimS (bl s) bS)))/\Below w.heap.size w w') from J.o);have I:(bl s).length=s.size:=qC s;by_cases h3:s.size<=3
 ·have aa:(s.size:Int)<=3:=by omega
  by_cases M:Lib.trimS (bl s) bS=[]
  ·have e:vU (bl s)=true:=uX.2 ⟨by omega,(Kk _).1 M⟩;have t1:(bs (Lib.trimS (bl s) bS)).toList.isEmpty=true:=by rw[sk];exact dD.2 M
   rw[e];clear e M I;generalize bs (Lib.trimS (bl s) bS)=z at *
   go_enter Tryz.func61,Tryz.ntmps61
   go_wp2_with fail;refine J.o.mono ?_;rintro e9 w1 ⟨rfl,hb⟩;have HB:=au hb;clear J hb;dsimp only;go_wp2;go_ret;exact⟨rfl,HB.o⟩
  ·have e:vU (bl s)=false:=by rw[rB];exact fun h=>M ((Kk _).2 (uX.1 h).2)
   have t1:(bs (Lib.trimS (bl s) bS)).toList.isEmpty=false:=by rw[pN];exact fun h=>M (dD.1 h)
   rw[e];clear e M I;generalize bs (Lib.trimS (bl s) bS)=z at *
   go_enter Tryz.func61,Tryz.ntmps61
   go_wp2_with fail;refine J.o.mono ?_;rintro e9 w1 ⟨rfl,hb⟩;have HB:=au hb;clear J hb;dsimp only;go_wp2;go_ret;exact⟨rfl,HB.o⟩
 ·have aa:¬ (s.size:Int)<=3:=by omega
  have e:vU (bl s)=false:=by rw[rB];exact fun h=>h3 (by have:=(uX.1 h).1;omega)
  rw[e];clear e J I
  go_enter Tryz.func61,Tryz.ntmps61
  go_wp2;go_ret;exact⟨rfl,fe _ _⟩
structure PA where
 A:eV
 c:Nat
 L:eV
 lc:Nat
 M:eV
 mc:Nat
def dz(s:St):Array Value:=(fN s.i s.j (bs s.a) s.r)
def dR(W:Wd)(a:PA):Array Value:=(vh a.A W.rs.length a.c W.ka W.kb a.L W.l.length a.lc a.M W.m.length a.mc W.l.length W.m.length (bs []) false)
structure xP(W:Wd)(a:PA)(w:World):Prop where
 rs:l8 w a.A W.rs
 l:fu w a.L W.l
 m:fu w a.M W.m
structure Ir(W:Wd)(a:PA):Prop where
 rs:W.rs.length<=1000000
 l:W.l.length<=1000000
 m:W.m.length<=1000000
 lc:W.l.length<=a.lc
 mc:W.m.length<=a.mc
 ll:∀ x ∈ W.l,x.length<=1000000
 ml:∀ x ∈ W.m,x.length<=1000000
 rl:∀ R ∈ W.rs,R.f.length<=1000000/\R.t.length<=1000000
variable{W:Wd}{s:St}{k:Nat}
theorem xP.below{a:PA}(h:xP W a w)(hb:Below w.heap.size w w'):xP W a w':=⟨h.rs.below hb,h.l.below hb,h.m.below hb⟩
def Zm(W:Wd)(a:PA)(s:St)(b1 b2:Nat):CH.aU:=aj (av b1 (dz s) 184) (av b2 (dR W a) 186)
theorem gP{a:PA}:(Zm W a s b1 b2).Ok:=aB aF aF
instance {W:Wd} {a:PA} {s:St} {b1 b2:Nat}:(Zm W a s b1 b2).Ok:=gP
def CU(x:Int × St):Array Value:=#[.int .i64 x.1,.agg (dz x.2)]
theorem gQ{a:PA}(h:aI F0 w0 (aj (Zm W a s b1 b2) X) w):
  (nz w b1 (.int .i64 s.i) (.int .i64 s.j) (.string (bs s.a)) (.bool s.r)) /\
  (oA w b2 (.slice a.A W.rs.length a.c) (.int .i64 W.ka) (.int .i64 W.kb) (.slice a.L W.l.length a.lc) (.slice a.M W.m.length a.mc)):=by
 obtain⟨F,J⟩:=(h.assoc).fst;obtain⟨F2,I⟩:=(h.assoc.kQ).fst;exact⟨⟨ay J rfl,ay J rfl,ay J rfl,ay J rfl⟩,ay I rfl,ay I rfl,ay I rfl,ay I rfl,ay I rfl⟩
def Py(W:Wd)(s:St)(k:Nat):List (Int × St):=(W.rs.take k).filterMap (W.mv s)
theorem Pz:Py W s W.rs.length=W.moves s:=by unfold Py Wd.moves;rw[kz]
theorem J6(hk:k<W.rs.length)(h:W.mv s W.rs[k]=none):Py W s (k+1)=Py W s k:=by
 unfold Py;rw[kq hk,sS];simp[h]
theorem J7(hk:k<W.rs.length){x:Int × St}(h:W.mv s W.rs[k]=some x):Py W s (k+1)=Py W s k++[x]:=by
 unfold Py;rw[kq hk,sS];simp[h]
theorem U2(I:k<W.rs.length){x:Int × St}(h:W.mv s W.rs[k]=some x):∃ hi:(Py W s k).length<(W.moves s).length,(W.moves s)[(Py W s k).length]=x:=by
 have e:W.moves s=Py W s k++x::(W.rs.drop (k+1)).filterMap (W.mv s):=by
  unfold Wd.moves Py
  conv=>lhs;rw[<-ua k W.rs,rS I,sS,xt h]
 refine⟨by rw[e];simp,?_⟩;simp only[e];rw[yW (fL _)];simp
theorem U3(a b:Bs):(⟨(Lib.trimPrefix a b).toArray⟩:ByteArray)=bs (if b.isPrefixOf a then a.drop b.length else a):=by
 unfold Lib.trimPrefix Lib.hasPrefix bs;split<;>rfl
theorem kS(a p:Bs)(w:World):Calls Tryz.prog 92 #[.string (bs a),.string (bs p)] w (fun e w'=>e=.returned (.tuple #[.string (bs (if p.isPrefixOf a then a.drop p.length else a)),.bool (p.isPrefixOf a)])/\w'=w):=by
 refine(Tryz.strings_CutPrefix (bs a) (bs p) w).mono ?_;rintro e w' ⟨rfl,rfl⟩;exact⟨by rw[<-U3];rfl,rfl⟩
section
variable{W:Wd}{s:St}{R:im}
theorem xQ(h:W.used s R=0):W.mv s R=none:=by unfold Wd.mv;rw[if_pos h]
theorem BQ(h:W.ah s R.t=none):W.mv s R=none:=by
 unfold Wd.mv;rw[h];split<;>rfl
theorem nQ{x:Bs × Bool}(hn:W.used s R=n)(h0:n≠0)(h:W.ah s R.t=some x):W.mv s R=some (R.c,if W.left s then ⟨s.i+n,s.j,x.1,x.2⟩ else ⟨s.i,s.j+n,x.1,x.2⟩):=by
 unfold Wd.mv;rw[hn,if_neg h0,h];rfl
theorem QR(hl:W.left s=true):W.used s R=if R.k=W.ka then takes (W.l.drop s.i) R.f else 0:=by unfold Wd.used;rw[if_pos hl]
theorem Re(hl:W.left s=false):W.used s R=if R.k=W.kb then takes (W.m.drop s.j) R.f else 0:=by unfold Wd.used;rw[if_neg (by rw[hl];decide)]
theorem ZE{q:Bs}(h1:q.isPrefixOf s.a=true)(h2:s.a.drop q.length≠[]):W.ah s q=some (s.a.drop q.length,s.r):=by unfold Wd.ah;rw[if_pos ⟨h1,h2⟩]
theorem J8{q:Bs}(h1:¬ (q.isPrefixOf s.a=true/\s.a.drop q.length≠[]))(h2:s.a.isPrefixOf q=true):W.ah s q=some (q.drop s.a.length,!W.left s&&decide (q.drop s.a.length≠[])):=by unfold Wd.ah;rw[if_neg h1,if_pos h2]
theorem ZF{q:Bs}(h1:¬ (q.isPrefixOf s.a=true/\s.a.drop q.length≠[]))(h2:¬ s.a.isPrefixOf q=true):W.ah s q=none:=by unfold Wd.ah;rw[if_neg h1,if_neg h2]
end
section
variable{F0:Nat→Prop}{w0 w:World}{O X:CH.aU}{g:Nat}{cs:Array Value}{t:TypeId}
theorem aJ(h:aI F0 w0 (aj (av g cs t) X) w)(hX:X.Ok)(i:Nat)(v:Value):aI F0 w0 (aj (av g (cs.setIfInBounds i v) t) X) (w.setCell ⟨g,i,none⟩ v):=by
 obtain⟨F,hF,-,bk⟩:=h.take aF hX;exact bk _ _ (uI hF i v)
theorem bq{a b c d:Value}(h:aI F0 w0 (aj (av g #[a,b,c,d] t) X) w):w.cell? ⟨g,0,none⟩=some a/\w.cell? ⟨g,1,none⟩=some b/\w.cell? ⟨g,2,none⟩=some c/\w.cell? ⟨g,3,none⟩=some d/\∀ i,w.frozen? ⟨g,i,none⟩=false:=by
 obtain⟨F,hF⟩:=h.fst;exact⟨ay hF rfl,ay hF rfl,ay hF rfl,ay hF rfl,fun i=>aN hF i⟩
theorem aH(h:aI F0 w0 O w)(ho:O.Ok)(cs:Array Value)(t:TypeId):aI F0 w0 (aj (av w.heap.size cs t) O) (w.alloc (.cells cs t)):=h.fresh ho (dU w cs t)
end
theorem Iu(h:fu w A l)(hk:k<=l.length)(hc:l.length<=c):fu w (oo A c k 1) (l.drop k):=by
 have h1:=Src.cut h hk hc;unfold fu;have e:kN (l.drop k)=(kN l).drop (k*1):=by unfold kN;rw[Bi,List.map_drop]
 rw[k8,e];exact h1
theorem FN{t:Bs}(h:fu w A l)(M:k<=l.length)(hc:l.length<=c)(hl:l.length<=1000000)(ht:t.length<=1000000)(hw:∀ x ∈ l,x.length<=1000000):
  Calls Tryz.prog 102 #[.slice (oo A c k 1) (l.length-k) (c-k),.string (bs t)] w (aT w (.int .i64 (takes (l.drop k) t:Nat))):=by
 have I:=RZ (c:=c-k) (Iu h M hc) (by rw[k8];omega) ht (fun x J=>hw x (zp J));rw[k8] at I;exact I
theorem CV{W:Wd}{pa:PA}{b1 b2:Nat}(hs:W.ok s)(hW:Ir W pa)(ha:s.a.length<=1000000):
  Qs Tryz.prog 101 #[.pointer (some ⟨b1,0,none⟩),.pointer (some ⟨b2,0,none⟩)] (xP W pa) (fun _=>Zm W pa s b1 b2) CU (W.moves s):=by
 intro n lo w F0 w0 X Y ab a4 hE h0 hY;have HY:=au hY;have HE:=au hE;have HS:=au hs;have HW:=au hW;clear hY hE hs hW;obtain⟨N,hN⟩:∃ N,N=W.rs.length:=⟨_,rfl⟩;have HN:=au hN;refine callsIn_of_wp Tryz.func101 rfl trivial ?_ rfl;simp only[Tryz.ntmps101,pZ,jz,lL,Nat.reduceAdd,Nat.reduceSub,re,rk,ry,rq,me,pd];have h1:aI F0 w0 (aj (Zm W pa s b1 b2) (X 0)) w.drew:=h0.drew (aB gP (ab 0));have H0:=au h1;obtain⟨⟨c1,c2,c3,c4⟩,d0,d1,d2,d3,d4⟩:=gQ h1;clear h0 h1;rw[<-hN] at d0;clear hN;refine wpIn_seq_k ?_;intro K1 a5;refine wpIn_wide.2 (aP (fun w'=>w'=w.drew) eQ eQ rfl ?_);generalize w.drew=w1 at *
 (repeat(first|refine bM ?_|refine bN ?_))
 refine lex_nil ?_;gi_step;gi_step;refine wpIn_seq_k ?_;intro K2 az;have cut:∀ (lf:Bool) (w:World) (g14 g15 g16 g17 g18 g19 g20 g21 g22 g23 g24 g25 g26 g27 g28 g29 g30 g31 g32 g33 g34:Value),W.left s=lf->aI F0 w0 (aj (Zm W pa s b1 b2) (X 0)) w->K2 { tmps:=#[.func (.yield lo) #[] #[],.pointer (some ⟨b1,0,none⟩),.pointer (some ⟨b2,0,none⟩),undef,.int .i64 (if lf then 0 else 1:Int),.int .i64 (if lf then s.i else s.j:Nat),undef,undef,undef,undef,undef,undef,undef,undef,g14,g15,g16,g17,g18,g19,g20,g21,g22,g23,g24,g25,g26,g27,g28,g29,g30,g31,g32,g33,g34,undef,undef,undef,undef,undef,undef,undef,undef,undef,undef,undef,undef,undef,undef,undef,undef,undef,undef,undef,undef,undef,undef,undef,undef,undef,undef,undef,undef,undef,undef,undef,undef,undef,undef,undef,undef,undef,undef,undef,undef,undef,undef,undef,undef,undef,undef,undef,undef,undef,undef,undef,undef,undef,undef,undef,undef,undef,undef,undef,undef,undef,undef,undef,undef,undef,undef,undef,undef,undef,undef,undef,undef,undef,undef,undef,undef,undef,undef],defers:=[] } w:=by
  intro lf w g14 g15 g16 g17 g18 g19 g20 g21 g22 g23 g24 g25 g26 g27 g28 g29 g30 g31 g32 g33 g34 ao hR;have ar:=au hR;have ao:=au ao;obtain⟨⟨c1,c2,c3,c4⟩,d0,d1,d2,d3,d4⟩:=gQ hR;clear hR;rw[<-HN.o] at d0;refine az _ _ ?_;clear az K2;cases lf with
  | true=>
   have HL:W.left s=true:=ao.o;clear ao;have HL:=au HL;simp only[if_true];gi_wp2;gi_loopw [38] (fun i wr=>∃ k:Nat,k<=N/\i=.int .i64 k/\aI F0 w0 (aj (Zm W pa s b1 b2) (X (Py W s k).length)) wr) (fun i _=>N-(intOf i).toNat)
   case atStart=>exact⟨0,fy _,rfl,ar.o⟩
   case round=>
    obtain⟨k,hk,rfl,hR⟩:=hrel;have HR:=au hR;clear ar hR c1 c2 c3 c4 d0 d1 d2 d3 d4;obtain⟨⟨c1,c2,c3,c4⟩,d0,d1,d2,d3,d4⟩:=gQ HR.o;rw[<-HN.o] at d0;by_cases ap:k<N
    ·have ak:k<W.rs.length:=by rw[<-HN.o];exact ap
     have HP:=au (HE.o wr HR.o.mod);obtain⟨b,o,hA,hc⟩:=HP.o.rs.at eL;have a0:=au hc;obtain⟨r0,r1,r2,r3⟩:=hc wr (fe _ _) k ak;clear hc;rw[hA] at d0 ⊢;have HA:=au hA;clear hA
     gi_wp2_with fail
     have H1:=au (aH (HR.o) (aB gP (ab _)) (mL W.rs[k].k (bs W.rs[k].f) (bs W.rs[k].t) W.rs[k].c) 50);have ax:=au (HP.o.below ((fe _ _).alloc (fL _) _).drew:xP W pa ((wr.alloc (.cells (mL W.rs[k].k (bs W.rs[k].f) (bs W.rs[k].t) W.rs[k].c) 50)).drew));have aD:(k:Int)<1000000:=by have:=HW.o.rs;omega
     have J:=au (show k+1<=N from ap);have aA:=au (HW.o.rl _ (gw ak));have al:=au (fun h=>J6 (s:=s) ak h);have am:=au (fun x h=>J7 (s:=s) (x:=x) ak h);have an:=au (fun x h=>U2 (s:=s) (x:=x) ak h);have H2:=au (H1.o.drew (aB aF (aB gP (ab _))));clear H1 r0 r1 r2 r3 c1 c2 c3 c4 d0 d1 d2 d3 d4;generalize W.rs[k]=R at *
     generalize wr.heap.size=g at *
     obtain⟨x0,x1,x2,x3,xf⟩:=bq H2.o;obtain⟨⟨c1,c2,c3,c4⟩,d0,d1,d2,d3,d4⟩:=gQ H2.o.drop;by_cases ai:R.k=W.ka
     ·have t1:(R.k==W.ka)=true:=by simp[ai]
      refine wpIn_wide.2 (aP (fun w'=>w'=(wr.alloc (.cells (mL R.k (bs R.f) (bs R.t) R.c) 50)).drew) eQ eQ rfl ?_);generalize (wr.alloc (.cells (mL R.k (bs R.f) (bs R.t) R.c) 50)).drew=w2 at *
      (repeat(first|refine bM ?_|refine bN ?_))
      refine lex_nil ?_;clear t1
      gi_wp2_with fail
      have HU:=au (by rw[QR HL.o,if_pos ai]:W.used s R=takes (W.l.drop s.i) R.f);clear ai;have aw:∀ W',(Instr.slice 26 (.slice pa.L W.l.length pa.lc) (some (.int .i64 (s.i:Int))) none none).run Tryz.prog W'=.ok (.slice (oo pa.L pa.lc s.i 1) (W.l.length-s.i) (pa.lc-s.i)) W':=fun W'=>jG zI pa.L W.l.length pa.lc s.i .i64 (s.i:Int) rfl (HS.o.1) W';have KT:=au (FN (t:=R.f) (ax.o.l.below (dB (fe _ _))) HS.o.1 HW.o.lc HW.o.l aA.o.1 HW.o.ll);have H3:=au (H2.o.drew (aB aF (aB gP (ab _))));clear H2 x0 x1 x2 x3 xf c1 c2 c3 c4 d0 d1 d2 d3 d4;obtain⟨x0,x1,x2,x3,xf⟩:=bq H3.o;obtain⟨⟨c1,c2,c3,c4⟩,d0,d1,d2,d3,d4⟩:=gQ H3.o.drop;refine wpIn_wide.2 (eD [8] [0,0,0,0,0,0,0,0,1,1] (fun w'=>w'=w2.drew) [] trivial rfl eQ eQ eQ rfl ?_);generalize w2.drew=w3 at *
      (repeat(first|refine eT ?_|refine eU ?_))
      refine bB rfl gh (fun K hK=>?_);go_wp2_with fail;refine KT.o.mono ?_;rintro e9 w4 ⟨rfl,hb⟩;have H4:=au (H3.o.below (aB aF (aB gP (ab _))) hb);refine hK.o _ _ trivial ?_;clear hK KT hb H3 x0 x1 x2 x3 xf c1 c2 c3 c4 d0 d1 d2 d3 d4 aw
      (repeat(first|refine eT ?_|refine eU ?_))
      refine iV ?_;obtain⟨m,hm⟩:∃ m,m=takes (W.l.drop s.i) R.f:=⟨_,rfl⟩;rw[<-hm] at HU ⊢;have aE:m<=1000000:=by rw[hm];exact j8 qL (by have:=HW.o.l;rw[k8];omega)
      clear hm;obtain⟨x0,x1,x2,x3,xf⟩:=bq H4.o;obtain⟨⟨c1,c2,c3,c4⟩,d0,d1,d2,d3,d4⟩:=gQ H4.o.drop;by_cases af:m=0
      ·have t1:((m:Int)==0)=true:=by simp[af]
       have ac:=au (al.o (xQ (by rw[HU.o,af])));clear af;gi_wp2
       go_roundw
       case rel=>exact⟨k+1,J.o,by go_num,by rw[ac.o];exact H4.o.drop⟩
       case measure=>have:=J.o;simp[intOf];omega
      ·have t1:((m:Int)==0)=false:=by simp[af]
       have ag:=au af;have a3:(s.i:Int)<=1000000:=by have:=HS.o.1;have:=HW.o.l;omega
       clear af
       iterate 48 (first|go_values|gi_guarded|gi_step|gi_upon)
       have H5:=au (aH H4.o (aB aF (aB gP (ab _))) (fN s.i s.j (bs s.a) s.r) 184);clear H4 x0 x1 x2 x3 xf c1 c2 c3 c4 d0 d1 d2 d3 d4;generalize w4.alloc (.cells (fN s.i s.j (bs s.a) s.r) 184)=w5 at *
       generalize w4.heap.size=h at *
       obtain⟨y0,y1,y2,y3,yf⟩:=bq H5.o;obtain⟨x0,x1,x2,x3,xf⟩:=bq H5.o.drop;obtain⟨⟨c1,c2,c3,c4⟩,d0,d1,d2,d3,d4⟩:=gQ H5.o.drop.drop
       gi_wp2_with fail
       have H6:=au (aJ H5.o (aB aF (aB gP (ab _))) 0 (.int .i64 ((s.i:Int)+(m:Int))):aI F0 w0 (aj (av h (fN ((s.i:Int)+(m:Int)) s.j (bs s.a) s.r) 184) _) _);clear H5 y0 y1 y2 y3 yf x0 x1 x2 x3 xf c1 c2 c3 c4 d0 d1 d2 d3 d4;generalize w5.setCell ⟨h,0,none⟩ (.int .i64 ((s.i:Int)+(m:Int)))=w6 at *
       obtain⟨y0,y1,y2,y3,yf⟩:=bq H6.o;obtain⟨x0,x1,x2,x3,xf⟩:=bq H6.o.drop;obtain⟨⟨c1,c2,c3,c4⟩,d0,d1,d2,d3,d4⟩:=gQ H6.o.drop.drop;have KC:=au (kS s.a R.t w6);by_cases h1:R.t.isPrefixOf s.a=true
       ·by_cases h2:s.a.drop R.t.length=[]
        ·have ad:=au (show ¬ (R.t.isPrefixOf s.a=true/\s.a.drop R.t.length≠[]) from fun h=>h.2 h2);rw[if_pos h1,h1,h2] at KC;have e1:(bs ([]:Bs)).toList.isEmpty=true:=by rw[sk];exact dD.2 rfl
         generalize bs ([]:Bs)=z at KC e1;clear h1 h2;refine⟨trivial,fun h=>(by cases h),?_⟩
         gi_at_call 92
         refine(callsIn_wide.2 KC.o).mono ?_;rintro e9 w9 ⟨rfl,h9⟩;subst w9;clear KC;dsimp only
         gi_wp2_with fail
         have KD:=au (kS R.t s.a w6);by_cases I:s.a.isPrefixOf R.t=true
         ·have HM:=au (am.o _ (nQ HU.o ag.o (J8 ad.o I)));have HT:=au (an.o _ (nQ HU.o ag.o (J8 ad.o I)));rw[HL.o] at HM HT;rw[if_pos I,I] at KD;clear I;generalize R.t.drop s.a.length=q at *
          refine⟨trivial,fun h=>(by cases h),?_⟩
          gi_at_call 92
          refine(callsIn_wide.2 KD.o).mono ?_;rintro e9 w9 ⟨rfl,h9⟩;subst w9;clear KD;dsimp only
          iterate 28 (first|go_values|gi_guarded|gi_step|gi_upon)
          refine wpIn_wide.2 ?_;go_wp2;have H7:=au (aJ (aJ H6.o (aB aF (aB gP (ab _))) 2 (.string (bs q))) (aB aF (aB gP (ab _))) 3 (.bool false):aI F0 w0 (aj (av h (fN ((s.i:Int)+(m:Int)) s.j (bs q) false) 184) _) _);clear H6 y0 y1 y2 y3 yf x0 x1 x2 x3 xf c1 c2 c3 c4 d0 d1 d2 d3 d4;generalize (w6.setCell ⟨h,2,none⟩ (.string (bs q))).setCell ⟨h,3,none⟩ (.bool false)=w7 at *
          obtain⟨y0,y1,y2,y3,yf⟩:=bq H7.o;obtain⟨x0,x1,x2,x3,xf⟩:=bq H7.o.drop;obtain⟨hi,hx⟩:=HT.o;have hw:=HY.o _ hi w7 H7.o.drop.drop;rw[hx] at hw;simp only[CU,dz,if_true,k7,if_false,sl,mj,nh,qq,lx] at hw;obtain⟨fn,tmps,assign,body,hy,hround⟩:=hw;have aa:=au hround;clear hround hx hi HT;gi_wp2
          try rw[hy]
          refine⟨fun h=>(by cases h),?_⟩;refine aa.o.mono ?_;rintro e W3 (⟨rfl,I⟩|⟨rfl,I⟩)
          ·have H8:=au I;clear aa I hy H7 y0 y1 y2 y3 yf x0 x1 x2 x3 xf;gi_wp2
           go_roundw
           case rel=>exact⟨k+1,J.o,by go_num,by rw[HM.o,gj];exact H8.o⟩
           case measure=>have:=J.o;simp[intOf];omega
          ·have ae:=au (show(∃ v,(Ending.returned (.tuple #[]))=.returned v)/\(aI F0 w0 (aj (Zm W pa s b1 b2) (X (W.moves s).length)) W3\/∃ i:Nat,aI F0 w0 (aj (Zm W pa s b1 b2) Y) W3) from⟨⟨_,rfl⟩,.inr ⟨0,I⟩⟩);clear aa I hy H7 y0 y1 y2 y3 yf x0 x1 x2 x3 xf;gi_wp2;refine bodyPost_ret (results_none rfl _ _ _) rfl ?_;exact ae.o
         ·have ac:=au (al.o (BQ (ZF ad.o I)));rw[if_neg I,Bool.eq_false_iff.2 I] at KD;clear I;refine⟨trivial,fun h=>(by cases h),?_⟩
          gi_at_call 92
          refine(callsIn_wide.2 KD.o).mono ?_;rintro e9 w9 ⟨rfl,h9⟩;subst w9;clear KD;dsimp only;gi_wp2
          go_roundw
          case rel=>exact⟨k+1,J.o,by go_num,by rw[ac.o];exact H6.o.drop.drop⟩
          case measure=>have:=J.o;simp[intOf];omega
        ·have HM:=au (am.o _ (nQ HU.o ag.o (ZE h1 h2)));have HT:=au (an.o _ (nQ HU.o ag.o (ZE h1 h2)));rw[HL.o] at HM HT;rw[if_pos h1,h1] at KC;have e1:(bs (s.a.drop R.t.length)).toList.isEmpty=false:=by rw[pN];exact fun h=>h2 (dD.1 h)
         clear h1 h2;generalize s.a.drop R.t.length=q at *
         refine⟨trivial,fun h=>(by cases h),?_⟩
         gi_at_call 92
         refine(callsIn_wide.2 KC.o).mono ?_;rintro e9 w9 ⟨rfl,h9⟩;subst w9;clear KC;dsimp only
         gi_wp2_with fail
         have H7:=au (aJ H6.o (aB aF (aB gP (ab _))) 2 (.string (bs q)):aI F0 w0 (aj (av h (fN ((s.i:Int)+(m:Int)) s.j (bs q) s.r) 184) _) _);clear H6 y0 y1 y2 y3 yf x0 x1 x2 x3 xf c1 c2 c3 c4 d0 d1 d2 d3 d4;generalize w6.setCell ⟨h,2,none⟩ (.string (bs q))=w7 at *
         obtain⟨y0,y1,y2,y3,yf⟩:=bq H7.o;obtain⟨x0,x1,x2,x3,xf⟩:=bq H7.o.drop;obtain⟨hi,hx⟩:=HT.o;have hw:=HY.o _ hi w7 H7.o.drop.drop;rw[hx] at hw;simp only[CU,dz,if_true,k7,if_false,sl,mj,nh,qq,lx] at hw;obtain⟨fn,tmps,assign,body,hy,hround⟩:=hw;have aa:=au hround;clear hround hx hi HT;gi_wp2
         try rw[hy]
         refine⟨fun h=>(by cases h),?_⟩;refine aa.o.mono ?_;rintro e W3 (⟨rfl,I⟩|⟨rfl,I⟩)
         ·have H8:=au I;clear aa I hy H7 y0 y1 y2 y3 yf x0 x1 x2 x3 xf;gi_wp2
          go_roundw
          case rel=>exact⟨k+1,J.o,by go_num,by rw[HM.o,gj];exact H8.o⟩
          case measure=>have:=J.o;simp[intOf];omega
         ·have ae:=au (show(∃ v,(Ending.returned (.tuple #[]))=.returned v)/\(aI F0 w0 (aj (Zm W pa s b1 b2) (X (W.moves s).length)) W3\/∃ i:Nat,aI F0 w0 (aj (Zm W pa s b1 b2) Y) W3) from⟨⟨_,rfl⟩,.inr ⟨0,I⟩⟩);clear aa I hy H7 y0 y1 y2 y3 yf x0 x1 x2 x3 xf;gi_wp2;refine bodyPost_ret (results_none rfl _ _ _) rfl ?_;exact ae.o
       ·have ad:=au (show ¬ (R.t.isPrefixOf s.a=true/\s.a.drop R.t.length≠[]) from fun h=>h1 h.1);rw[if_neg h1,Bool.eq_false_iff.2 h1] at KC;clear h1;refine⟨trivial,fun h=>(by cases h),?_⟩
        gi_at_call 92
        refine(callsIn_wide.2 KC.o).mono ?_;rintro e9 w9 ⟨rfl,h9⟩;subst w9;clear KC;dsimp only
        gi_wp2_with fail
        have KD:=au (kS R.t s.a w6);by_cases I:s.a.isPrefixOf R.t=true
        ·have HM:=au (am.o _ (nQ HU.o ag.o (J8 ad.o I)));have HT:=au (an.o _ (nQ HU.o ag.o (J8 ad.o I)));rw[HL.o] at HM HT;rw[if_pos I,I] at KD;clear I;generalize R.t.drop s.a.length=q at *
         refine⟨trivial,fun h=>(by cases h),?_⟩
         gi_at_call 92
         refine(callsIn_wide.2 KD.o).mono ?_;rintro e9 w9 ⟨rfl,h9⟩;subst w9;clear KD;dsimp only
         iterate 28 (first|go_values|gi_guarded|gi_step|gi_upon)
         refine wpIn_wide.2 ?_;go_wp2;have H7:=au (aJ (aJ H6.o (aB aF (aB gP (ab _))) 2 (.string (bs q))) (aB aF (aB gP (ab _))) 3 (.bool false):aI F0 w0 (aj (av h (fN ((s.i:Int)+(m:Int)) s.j (bs q) false) 184) _) _);clear H6 y0 y1 y2 y3 yf x0 x1 x2 x3 xf c1 c2 c3 c4 d0 d1 d2 d3 d4;generalize (w6.setCell ⟨h,2,none⟩ (.string (bs q))).setCell ⟨h,3,none⟩ (.bool false)=w7 at *
         obtain⟨y0,y1,y2,y3,yf⟩:=bq H7.o;obtain⟨x0,x1,x2,x3,xf⟩:=bq H7.o.drop;obtain⟨hi,hx⟩:=HT.o;have hw:=HY.o _ hi w7 H7.o.drop.drop;rw[hx] at hw;simp only[CU,dz,if_true,k7,if_false,sl,mj,nh,qq,lx] at hw;obtain⟨fn,tmps,assign,body,hy,hround⟩:=hw;have aa:=au hround;clear hround hx hi HT;gi_wp2
         try rw[hy]
         refine⟨fun h=>(by cases h),?_⟩;refine aa.o.mono ?_;rintro e W3 (⟨rfl,I⟩|⟨rfl,I⟩)
         ·have H8:=au I;clear aa I hy H7 y0 y1 y2 y3 yf x0 x1 x2 x3 xf;gi_wp2
          go_roundw
          case rel=>exact⟨k+1,J.o,by go_num,by rw[HM.o,gj];exact H8.o⟩
          case measure=>have:=J.o;simp[intOf];omega
         ·have ae:=au (show(∃ v,(Ending.returned (.tuple #[]))=.returned v)/\(aI F0 w0 (aj (Zm W pa s b1 b2) (X (W.moves s).length)) W3\/∃ i:Nat,aI F0 w0 (aj (Zm W pa s b1 b2) Y) W3) from⟨⟨_,rfl⟩,.inr ⟨0,I⟩⟩);clear aa I hy H7 y0 y1 y2 y3 yf x0 x1 x2 x3 xf;gi_wp2;refine bodyPost_ret (results_none rfl _ _ _) rfl ?_;exact ae.o
        ·have ac:=au (al.o (BQ (ZF ad.o I)));rw[if_neg I,Bool.eq_false_iff.2 I] at KD;clear I;refine⟨trivial,fun h=>(by cases h),?_⟩
         gi_at_call 92
         refine(callsIn_wide.2 KD.o).mono ?_;rintro e9 w9 ⟨rfl,h9⟩;subst w9;clear KD;dsimp only;gi_wp2
         go_roundw
         case rel=>exact⟨k+1,J.o,by go_num,by rw[ac.o];exact H6.o.drop.drop⟩
         case measure=>have:=J.o;simp[intOf];omega
     ·have t1:(R.k==W.ka)=false:=by simp[ai]
      refine wpIn_wide.2 (aP (fun w'=>w'=(wr.alloc (.cells (mL R.k (bs R.f) (bs R.t) R.c) 50)).drew) eQ eQ rfl ?_);have ac:=au (al.o (xQ (by rw[QR HL.o,if_neg ai])));generalize (wr.alloc (.cells (mL R.k (bs R.f) (bs R.t) R.c) 50)).drew=w2 at *
      (repeat(first|refine bM ?_|refine bN ?_))
      refine lex_nil ?_;gi_wp2
      go_roundw
      case rel=>exact⟨k+1,J.o,by go_num,by rw[ac.o];exact H2.o.drop⟩
      case measure=>have:=J.o;simp[intOf];omega
    ·obtain rfl:k=N:=by omega
     have aq:=au (show(∃ v,(Ending.returned (.tuple #[]))=.returned v)/\(aI F0 w0 (aj (Zm W pa s b1 b2) (X (W.moves s).length)) wr\/∃ i:Nat,aI F0 w0 (aj (Zm W pa s b1 b2) Y) wr) from⟨⟨_,rfl⟩,.inl (by rw[<-Pz,<-HN.o];exact HR.o)⟩);gi_wp2
     go_end0
     exact aq.o
  | false=>
   have HL:W.left s=false:=ao.o;clear ao;have HL:=au HL;simp only[k7,if_false];gi_wp2;gi_loopw [38] (fun i wr=>∃ k:Nat,k<=N/\i=.int .i64 k/\aI F0 w0 (aj (Zm W pa s b1 b2) (X (Py W s k).length)) wr) (fun i _=>N-(intOf i).toNat)
   case atStart=>exact⟨0,fy _,rfl,ar.o⟩
   case round=>
    obtain⟨k,hk,rfl,hR⟩:=hrel;have HR:=au hR;clear ar hR c1 c2 c3 c4 d0 d1 d2 d3 d4;obtain⟨⟨c1,c2,c3,c4⟩,d0,d1,d2,d3,d4⟩:=gQ HR.o;rw[<-HN.o] at d0;by_cases ap:k<N
    ·have ak:k<W.rs.length:=by rw[<-HN.o];exact ap
     have HP:=au (HE.o wr HR.o.mod);obtain⟨b,o,hA,hc⟩:=HP.o.rs.at eL;have a0:=au hc;obtain⟨r0,r1,r2,r3⟩:=hc wr (fe _ _) k ak;clear hc;rw[hA] at d0 ⊢;have HA:=au hA;clear hA
     gi_wp2_with fail
     have H1:=au (aH (HR.o) (aB gP (ab _)) (mL W.rs[k].k (bs W.rs[k].f) (bs W.rs[k].t) W.rs[k].c) 50);have ax:=au (HP.o.below ((fe _ _).alloc (fL _) _).drew:xP W pa ((wr.alloc (.cells (mL W.rs[k].k (bs W.rs[k].f) (bs W.rs[k].t) W.rs[k].c) 50)).drew));have aD:(k:Int)<1000000:=by have:=HW.o.rs;omega
     have J:=au (show k+1<=N from ap);have aA:=au (HW.o.rl _ (gw ak));have al:=au (fun h=>J6 (s:=s) ak h);have am:=au (fun x h=>J7 (s:=s) (x:=x) ak h);have an:=au (fun x h=>U2 (s:=s) (x:=x) ak h);have H2:=au (H1.o.drew (aB aF (aB gP (ab _))));clear H1 r0 r1 r2 r3 c1 c2 c3 c4 d0 d1 d2 d3 d4;generalize W.rs[k]=R at *
     generalize wr.heap.size=g at *
     obtain⟨x0,x1,x2,x3,xf⟩:=bq H2.o;obtain⟨⟨c1,c2,c3,c4⟩,d0,d1,d2,d3,d4⟩:=gQ H2.o.drop;by_cases ai:R.k=W.kb
     ·have t1:(R.k==W.kb)=true:=by simp[ai]
      refine wpIn_wide.2 (aP (fun w'=>w'=(wr.alloc (.cells (mL R.k (bs R.f) (bs R.t) R.c) 50)).drew) eQ eQ rfl ?_);generalize (wr.alloc (.cells (mL R.k (bs R.f) (bs R.t) R.c) 50)).drew=w2 at *
      (repeat(first|refine bM ?_|refine bN ?_))
      refine lex_nil ?_;clear t1
      gi_wp2_with fail
      have HU:=au (by rw[Re HL.o,if_pos ai]:W.used s R=takes (W.m.drop s.j) R.f);clear ai;have aw:∀ W',(Instr.slice 26 (.slice pa.M W.m.length pa.mc) (some (.int .i64 (s.j:Int))) none none).run Tryz.prog W'=.ok (.slice (oo pa.M pa.mc s.j 1) (W.m.length-s.j) (pa.mc-s.j)) W':=fun W'=>jG zI pa.M W.m.length pa.mc s.j .i64 (s.j:Int) rfl (HS.o.2.1) W';have KT:=au (FN (t:=R.f) (ax.o.m.below (dB (fe _ _))) HS.o.2.1 HW.o.mc HW.o.m aA.o.1 HW.o.ml);have H3:=au (H2.o.drew (aB aF (aB gP (ab _))));clear H2 x0 x1 x2 x3 xf c1 c2 c3 c4 d0 d1 d2 d3 d4;obtain⟨x0,x1,x2,x3,xf⟩:=bq H3.o;obtain⟨⟨c1,c2,c3,c4⟩,d0,d1,d2,d3,d4⟩:=gQ H3.o.drop;refine wpIn_wide.2 (eD [8] [0,0,0,0,0,0,0,0,1,1] (fun w'=>w'=w2.drew) [] trivial rfl eQ eQ eQ rfl ?_);generalize w2.drew=w3 at *
      (repeat(first|refine eT ?_|refine eU ?_))
      refine bB rfl gh (fun K hK=>?_);go_wp2_with fail;refine KT.o.mono ?_;rintro e9 w4 ⟨rfl,hb⟩;have H4:=au (H3.o.below (aB aF (aB gP (ab _))) hb);refine hK.o _ _ trivial ?_;clear hK KT hb H3 x0 x1 x2 x3 xf c1 c2 c3 c4 d0 d1 d2 d3 d4 aw
      (repeat(first|refine eT ?_|refine eU ?_))
      refine iV ?_;obtain⟨m,hm⟩:∃ m,m=takes (W.m.drop s.j) R.f:=⟨_,rfl⟩;rw[<-hm] at HU ⊢;have aE:m<=1000000:=by rw[hm];exact j8 qL (by have:=HW.o.m;rw[k8];omega)
      clear hm;obtain⟨x0,x1,x2,x3,xf⟩:=bq H4.o;obtain⟨⟨c1,c2,c3,c4⟩,d0,d1,d2,d3,d4⟩:=gQ H4.o.drop;by_cases af:m=0
      ·have t1:((m:Int)==0)=true:=by simp[af]
       have ac:=au (al.o (xQ (by rw[HU.o,af])));clear af;gi_wp2
       go_roundw
       case rel=>exact⟨k+1,J.o,by go_num,by rw[ac.o];exact H4.o.drop⟩
       case measure=>have:=J.o;simp[intOf];omega
      ·have t1:((m:Int)==0)=false:=by simp[af]
       have ag:=au af;have a3:(s.j:Int)<=1000000:=by have:=HS.o.2.1;have:=HW.o.m;omega
       clear af
       iterate 48 (first|go_values|gi_guarded|gi_step|gi_upon)
       have H5:=au (aH H4.o (aB aF (aB gP (ab _))) (fN s.i s.j (bs s.a) s.r) 184);clear H4 x0 x1 x2 x3 xf c1 c2 c3 c4 d0 d1 d2 d3 d4;generalize w4.alloc (.cells (fN s.i s.j (bs s.a) s.r) 184)=w5 at *
       generalize w4.heap.size=h at *
       obtain⟨y0,y1,y2,y3,yf⟩:=bq H5.o;obtain⟨x0,x1,x2,x3,xf⟩:=bq H5.o.drop;obtain⟨⟨c1,c2,c3,c4⟩,d0,d1,d2,d3,d4⟩:=gQ H5.o.drop.drop
       gi_wp2_with fail
       have H6:=au (aJ H5.o (aB aF (aB gP (ab _))) 1 (.int .i64 ((s.j:Int)+(m:Int))):aI F0 w0 (aj (av h (fN s.i ((s.j:Int)+(m:Int)) (bs s.a) s.r) 184) _) _);clear H5 y0 y1 y2 y3 yf x0 x1 x2 x3 xf c1 c2 c3 c4 d0 d1 d2 d3 d4;generalize w5.setCell ⟨h,1,none⟩ (.int .i64 ((s.j:Int)+(m:Int)))=w6 at *
       obtain⟨y0,y1,y2,y3,yf⟩:=bq H6.o;obtain⟨x0,x1,x2,x3,xf⟩:=bq H6.o.drop;obtain⟨⟨c1,c2,c3,c4⟩,d0,d1,d2,d3,d4⟩:=gQ H6.o.drop.drop;have KC:=au (kS s.a R.t w6);by_cases h1:R.t.isPrefixOf s.a=true
       ·by_cases h2:s.a.drop R.t.length=[]
        ·have ad:=au (show ¬ (R.t.isPrefixOf s.a=true/\s.a.drop R.t.length≠[]) from fun h=>h.2 h2);rw[if_pos h1,h1,h2] at KC;have e1:(bs ([]:Bs)).toList.isEmpty=true:=by rw[sk];exact dD.2 rfl
         generalize bs ([]:Bs)=z at KC e1;clear h1 h2;refine⟨trivial,fun h=>(by cases h),?_⟩
         gi_at_call 92
         refine(callsIn_wide.2 KC.o).mono ?_;rintro e9 w9 ⟨rfl,h9⟩;subst w9;clear KC;dsimp only
         gi_wp2_with fail
         have KD:=au (kS R.t s.a w6);by_cases I:s.a.isPrefixOf R.t=true
         ·have HM:=au (am.o _ (nQ HU.o ag.o (J8 ad.o I)));have HT:=au (an.o _ (nQ HU.o ag.o (J8 ad.o I)));rw[HL.o] at HM HT;rw[if_pos I,I] at KD;clear I;generalize R.t.drop s.a.length=q at *
          by_cases hq:q=[]
          ·have e2:(bs q).toList.isEmpty=true:=by rw[sk];exact dD.2 hq
           have HQ:=au hq;clear hq;refine⟨trivial,fun h=>(by cases h),?_⟩
           gi_at_call 92
           refine(callsIn_wide.2 KD.o).mono ?_;rintro e9 w9 ⟨rfl,h9⟩;subst w9;clear KD;dsimp only
           iterate 28 (first|go_values|gi_guarded|gi_step|gi_upon)
           refine wpIn_wide.2 ?_;go_wp2;have H7:=au (aJ (aJ H6.o (aB aF (aB gP (ab _))) 2 (.string (bs q))) (aB aF (aB gP (ab _))) 3 (.bool false):aI F0 w0 (aj (av h (fN s.i ((s.j:Int)+(m:Int)) (bs q) false) 184) _) _);clear H6 y0 y1 y2 y3 yf x0 x1 x2 x3 xf c1 c2 c3 c4 d0 d1 d2 d3 d4;generalize (w6.setCell ⟨h,2,none⟩ (.string (bs q))).setCell ⟨h,3,none⟩ (.bool false)=w7 at *
           obtain⟨y0,y1,y2,y3,yf⟩:=bq H7.o;obtain⟨x0,x1,x2,x3,xf⟩:=bq H7.o.drop;obtain⟨hi,hx⟩:=HT.o;have hw:=HY.o _ hi w7 H7.o.drop.drop;rw[hx] at hw;simp only[CU,dz,if_true,k7,if_false,sl,mj,nh,qq,lx] at hw;rw[show decide (q≠[])=false by simp[HQ.o]] at hw;obtain⟨fn,tmps,assign,body,hy,hround⟩:=hw;have aa:=au hround;clear hround hx hi HT;gi_wp2
           try rw[hy]
           refine⟨fun h=>(by cases h),?_⟩;refine aa.o.mono ?_;rintro e W3 (⟨rfl,I⟩|⟨rfl,I⟩)
           ·have H8:=au I;clear aa I hy H7 y0 y1 y2 y3 yf x0 x1 x2 x3 xf;gi_wp2
            go_roundw
            case rel=>exact⟨k+1,J.o,by go_num,by rw[HM.o,gj];exact H8.o⟩
            case measure=>have:=J.o;simp[intOf];omega
           ·have ae:=au (show(∃ v,(Ending.returned (.tuple #[]))=.returned v)/\(aI F0 w0 (aj (Zm W pa s b1 b2) (X (W.moves s).length)) W3\/∃ i:Nat,aI F0 w0 (aj (Zm W pa s b1 b2) Y) W3) from⟨⟨_,rfl⟩,.inr ⟨0,I⟩⟩);clear aa I hy H7 y0 y1 y2 y3 yf x0 x1 x2 x3 xf;gi_wp2;refine bodyPost_ret (results_none rfl _ _ _) rfl ?_;exact ae.o
          ·have e2:(bs q).toList.isEmpty=false:=by rw[pN];exact fun h=>hq (dD.1 h)
           have HQ:=au hq;clear hq;refine⟨trivial,fun h=>(by cases h),?_⟩
           gi_at_call 92
           refine(callsIn_wide.2 KD.o).mono ?_;rintro e9 w9 ⟨rfl,h9⟩;subst w9;clear KD;dsimp only
           iterate 28 (first|go_values|gi_guarded|gi_step|gi_upon)
           refine wpIn_wide.2 ?_;go_wp2;have H7:=au (aJ (aJ H6.o (aB aF (aB gP (ab _))) 2 (.string (bs q))) (aB aF (aB gP (ab _))) 3 (.bool true):aI F0 w0 (aj (av h (fN s.i ((s.j:Int)+(m:Int)) (bs q) true) 184) _) _);clear H6 y0 y1 y2 y3 yf x0 x1 x2 x3 xf c1 c2 c3 c4 d0 d1 d2 d3 d4;generalize (w6.setCell ⟨h,2,none⟩ (.string (bs q))).setCell ⟨h,3,none⟩ (.bool true)=w7 at *
           obtain⟨y0,y1,y2,y3,yf⟩:=bq H7.o;obtain⟨x0,x1,x2,x3,xf⟩:=bq H7.o.drop;obtain⟨hi,hx⟩:=HT.o;have hw:=HY.o _ hi w7 H7.o.drop.drop;rw[hx] at hw;simp only[CU,dz,if_true,k7,if_false,sl,mj,nh,qq,lx] at hw;rw[show decide (q≠[])=true by simp[HQ.o]] at hw;obtain⟨fn,tmps,assign,body,hy,hround⟩:=hw;have aa:=au hround;clear hround hx hi HT;gi_wp2
           try rw[hy]
           refine⟨fun h=>(by cases h),?_⟩;refine aa.o.mono ?_;rintro e W3 (⟨rfl,I⟩|⟨rfl,I⟩)
           ·have H8:=au I;clear aa I hy H7 y0 y1 y2 y3 yf x0 x1 x2 x3 xf;gi_wp2
            go_roundw
            case rel=>exact⟨k+1,J.o,by go_num,by rw[HM.o,gj];exact H8.o⟩
            case measure=>have:=J.o;simp[intOf];omega
           ·have ae:=au (show(∃ v,(Ending.returned (.tuple #[]))=.returned v)/\(aI F0 w0 (aj (Zm W pa s b1 b2) (X (W.moves s).length)) W3\/∃ i:Nat,aI F0 w0 (aj (Zm W pa s b1 b2) Y) W3) from⟨⟨_,rfl⟩,.inr ⟨0,I⟩⟩);clear aa I hy H7 y0 y1 y2 y3 yf x0 x1 x2 x3 xf;gi_wp2;refine bodyPost_ret (results_none rfl _ _ _) rfl ?_;exact ae.o
         ·have ac:=au (al.o (BQ (ZF ad.o I)));rw[if_neg I,Bool.eq_false_iff.2 I] at KD;clear I;refine⟨trivial,fun h=>(by cases h),?_⟩
          gi_at_call 92
          refine(callsIn_wide.2 KD.o).mono ?_;rintro e9 w9 ⟨rfl,h9⟩;subst w9;clear KD;dsimp only;gi_wp2
          go_roundw
          case rel=>exact⟨k+1,J.o,by go_num,by rw[ac.o];exact H6.o.drop.drop⟩
          case measure=>have:=J.o;simp[intOf];omega
        ·have HM:=au (am.o _ (nQ HU.o ag.o (ZE h1 h2)));have HT:=au (an.o _ (nQ HU.o ag.o (ZE h1 h2)));rw[HL.o] at HM HT;rw[if_pos h1,h1] at KC;have e1:(bs (s.a.drop R.t.length)).toList.isEmpty=false:=by rw[pN];exact fun h=>h2 (dD.1 h)
         clear h1 h2;generalize s.a.drop R.t.length=q at *
         refine⟨trivial,fun h=>(by cases h),?_⟩
         gi_at_call 92
         refine(callsIn_wide.2 KC.o).mono ?_;rintro e9 w9 ⟨rfl,h9⟩;subst w9;clear KC;dsimp only
         gi_wp2_with fail
         have H7:=au (aJ H6.o (aB aF (aB gP (ab _))) 2 (.string (bs q)):aI F0 w0 (aj (av h (fN s.i ((s.j:Int)+(m:Int)) (bs q) s.r) 184) _) _);clear H6 y0 y1 y2 y3 yf x0 x1 x2 x3 xf c1 c2 c3 c4 d0 d1 d2 d3 d4;generalize w6.setCell ⟨h,2,none⟩ (.string (bs q))=w7 at *
         obtain⟨y0,y1,y2,y3,yf⟩:=bq H7.o;obtain⟨x0,x1,x2,x3,xf⟩:=bq H7.o.drop;obtain⟨hi,hx⟩:=HT.o;have hw:=HY.o _ hi w7 H7.o.drop.drop;rw[hx] at hw;simp only[CU,dz,if_true,k7,if_false,sl,mj,nh,qq,lx] at hw;obtain⟨fn,tmps,assign,body,hy,hround⟩:=hw;have aa:=au hround;clear hround hx hi HT;gi_wp2
         try rw[hy]
         refine⟨fun h=>(by cases h),?_⟩;refine aa.o.mono ?_;rintro e W3 (⟨rfl,I⟩|⟨rfl,I⟩)
         ·have H8:=au I;clear aa I hy H7 y0 y1 y2 y3 yf x0 x1 x2 x3 xf;gi_wp2
          go_roundw
          case rel=>exact⟨k+1,J.o,by go_num,by rw[HM.o,gj];exact H8.o⟩
          case measure=>have:=J.o;simp[intOf];omega
         ·have ae:=au (show(∃ v,(Ending.returned (.tuple #[]))=.returned v)/\(aI F0 w0 (aj (Zm W pa s b1 b2) (X (W.moves s).length)) W3\/∃ i:Nat,aI F0 w0 (aj (Zm W pa s b1 b2) Y) W3) from⟨⟨_,rfl⟩,.inr ⟨0,I⟩⟩);clear aa I hy H7 y0 y1 y2 y3 yf x0 x1 x2 x3 xf;gi_wp2;refine bodyPost_ret (results_none rfl _ _ _) rfl ?_;exact ae.o
       ·have ad:=au (show ¬ (R.t.isPrefixOf s.a=true/\s.a.drop R.t.length≠[]) from fun h=>h1 h.1);rw[if_neg h1,Bool.eq_false_iff.2 h1] at KC;clear h1;refine⟨trivial,fun h=>(by cases h),?_⟩
        gi_at_call 92
        refine(callsIn_wide.2 KC.o).mono ?_;rintro e9 w9 ⟨rfl,h9⟩;subst w9;clear KC;dsimp only
        gi_wp2_with fail
        have KD:=au (kS R.t s.a w6);by_cases I:s.a.isPrefixOf R.t=true
        ·have HM:=au (am.o _ (nQ HU.o ag.o (J8 ad.o I)));have HT:=au (an.o _ (nQ HU.o ag.o (J8 ad.o I)));rw[HL.o] at HM HT;rw[if_pos I,I] at KD;clear I;generalize R.t.drop s.a.length=q at *
         by_cases hq:q=[]
         ·have e2:(bs q).toList.isEmpty=true:=by rw[sk];exact dD.2 hq
          have HQ:=au hq;clear hq;refine⟨trivial,fun h=>(by cases h),?_⟩
          gi_at_call 92
          refine(callsIn_wide.2 KD.o).mono ?_;rintro e9 w9 ⟨rfl,h9⟩;subst w9;clear KD;dsimp only
          iterate 28 (first|go_values|gi_guarded|gi_step|gi_upon)
          refine wpIn_wide.2 ?_;go_wp2;have H7:=au (aJ (aJ H6.o (aB aF (aB gP (ab _))) 2 (.string (bs q))) (aB aF (aB gP (ab _))) 3 (.bool false):aI F0 w0 (aj (av h (fN s.i ((s.j:Int)+(m:Int)) (bs q) false) 184) _) _);clear H6 y0 y1 y2 y3 yf x0 x1 x2 x3 xf c1 c2 c3 c4 d0 d1 d2 d3 d4;generalize (w6.setCell ⟨h,2,none⟩ (.string (bs q))).setCell ⟨h,3,none⟩ (.bool false)=w7 at *
          obtain⟨y0,y1,y2,y3,yf⟩:=bq H7.o;obtain⟨x0,x1,x2,x3,xf⟩:=bq H7.o.drop;obtain⟨hi,hx⟩:=HT.o;have hw:=HY.o _ hi w7 H7.o.drop.drop;rw[hx] at hw;simp only[CU,dz,if_true,k7,if_false,sl,mj,nh,qq,lx] at hw;rw[show decide (q≠[])=false by simp[HQ.o]] at hw;obtain⟨fn,tmps,assign,body,hy,hround⟩:=hw;have aa:=au hround;clear hround hx hi HT;gi_wp2
          try rw[hy]
          refine⟨fun h=>(by cases h),?_⟩;refine aa.o.mono ?_;rintro e W3 (⟨rfl,I⟩|⟨rfl,I⟩)
          ·have H8:=au I;clear aa I hy H7 y0 y1 y2 y3 yf x0 x1 x2 x3 xf;gi_wp2
           go_roundw
           case rel=>exact⟨k+1,J.o,by go_num,by rw[HM.o,gj];exact H8.o⟩
           case measure=>have:=J.o;simp[intOf];omega
          ·have ae:=au (show(∃ v,(Ending.returned (.tuple #[]))=.returned v)/\(aI F0 w0 (aj (Zm W pa s b1 b2) (X (W.moves s).length)) W3\/∃ i:Nat,aI F0 w0 (aj (Zm W pa s b1 b2) Y) W3) from⟨⟨_,rfl⟩,.inr ⟨0,I⟩⟩);clear aa I hy H7 y0 y1 y2 y3 yf x0 x1 x2 x3 xf;gi_wp2;refine bodyPost_ret (results_none rfl _ _ _) rfl ?_;exact ae.o
         ·have e2:(bs q).toList.isEmpty=false:=by rw[pN];exact fun h=>hq (dD.1 h)
          have HQ:=au hq;clear hq;refine⟨trivial,fun h=>(by cases h),?_⟩
          gi_at_call 92
          refine(callsIn_wide.2 KD.o).mono ?_;rintro e9 w9 ⟨rfl,h9⟩;subst w9;clear KD;dsimp only
          iterate 28 (first|go_values|gi_guarded|gi_step|gi_upon)
          refine wpIn_wide.2 ?_;go_wp2;have H7:=au (aJ (aJ H6.o (aB aF (aB gP (ab _))) 2 (.string (bs q))) (aB aF (aB gP (ab _))) 3 (.bool true):aI F0 w0 (aj (av h (fN s.i ((s.j:Int)+(m:Int)) (bs q) true) 184) _) _);clear H6 y0 y1 y2 y3 yf x0 x1 x2 x3 xf c1 c2 c3 c4 d0 d1 d2 d3 d4;generalize (w6.setCell ⟨h,2,none⟩ (.string (bs q))).setCell ⟨h,3,none⟩ (.bool true)=w7 at *
          obtain⟨y0,y1,y2,y3,yf⟩:=bq H7.o;obtain⟨x0,x1,x2,x3,xf⟩:=bq H7.o.drop;obtain⟨hi,hx⟩:=HT.o;have hw:=HY.o _ hi w7 H7.o.drop.drop;rw[hx] at hw;simp only[CU,dz,if_true,k7,if_false,sl,mj,nh,qq,lx] at hw;rw[show decide (q≠[])=true by simp[HQ.o]] at hw;obtain⟨fn,tmps,assign,body,hy,hround⟩:=hw;have aa:=au hround;clear hround hx hi HT;gi_wp2
          try rw[hy]
          refine⟨fun h=>(by cases h),?_⟩;refine aa.o.mono ?_;rintro e W3 (⟨rfl,I⟩|⟨rfl,I⟩)
          ·have H8:=au I;clear aa I hy H7 y0 y1 y2 y3 yf x0 x1 x2 x3 xf;gi_wp2
           go_roundw
           case rel=>exact⟨k+1,J.o,by go_num,by rw[HM.o,gj];exact H8.o⟩
           case measure=>have:=J.o;simp[intOf];omega
          ·have ae:=au (show(∃ v,(Ending.returned (.tuple #[]))=.returned v)/\(aI F0 w0 (aj (Zm W pa s b1 b2) (X (W.moves s).length)) W3\/∃ i:Nat,aI F0 w0 (aj (Zm W pa s b1 b2) Y) W3) from⟨⟨_,rfl⟩,.inr ⟨0,I⟩⟩);clear aa I hy H7 y0 y1 y2 y3 yf x0 x1 x2 x3 xf;gi_wp2;refine bodyPost_ret (results_none rfl _ _ _) rfl ?_;exact ae.o
        ·have ac:=au (al.o (BQ (ZF ad.o I)));rw[if_neg I,Bool.eq_false_iff.2 I] at KD;clear I;refine⟨trivial,fun h=>(by cases h),?_⟩
         gi_at_call 92
         refine(callsIn_wide.2 KD.o).mono ?_;rintro e9 w9 ⟨rfl,h9⟩;subst w9;clear KD;dsimp only;gi_wp2
         go_roundw
         case rel=>exact⟨k+1,J.o,by go_num,by rw[ac.o];exact H6.o.drop.drop⟩
         case measure=>have:=J.o;simp[intOf];omega
     ·have t1:(R.k==W.kb)=false:=by simp[ai]
      refine wpIn_wide.2 (aP (fun w'=>w'=(wr.alloc (.cells (mL R.k (bs R.f) (bs R.t) R.c) 50)).drew) eQ eQ rfl ?_);have ac:=au (al.o (xQ (by rw[Re HL.o,if_neg ai])));generalize (wr.alloc (.cells (mL R.k (bs R.f) (bs R.t) R.c) 50)).drew=w2 at *
      (repeat(first|refine bM ?_|refine bN ?_))
      refine lex_nil ?_;gi_wp2
      go_roundw
      case rel=>exact⟨k+1,J.o,by go_num,by rw[ac.o];exact H2.o.drop⟩
      case measure=>have:=J.o;simp[intOf];omega
    ·obtain rfl:k=N:=by omega
     have aq:=au (show(∃ v,(Ending.returned (.tuple #[]))=.returned v)/\(aI F0 w0 (aj (Zm W pa s b1 b2) (X (W.moves s).length)) wr\/∃ i:Nat,aI F0 w0 (aj (Zm W pa s b1 b2) Y) wr) from⟨⟨_,rfl⟩,.inl (by rw[<-Pz,<-HN.o];exact HR.o)⟩);gi_wp2
     go_end0
     exact aq.o
 have HC:=au cut;clear cut az
 cases hr:s.r with
 | true=>
  have hl:W.left s=true:=by unfold Wd.left;rw[hr];rfl
  have HL:=au hl;rw[hr] at c4;clear hl hr;refine wpIn_seq_k ?_;intro K3 a6;refine wpIn_wide.2 ?_;go_wp2;gi_wp2;exact HC.o true w1 _ _ _ _ _ _ _ _ _ _ _ _ _ _ _ _ _ _ _ _ _ HL.o H0.o
 | false=>
  rw[hr] at c4;by_cases he:s.a=[]
  ·have a2:(bs s.a).toList.isEmpty=true:=by rw[sk];exact dD.2 he
   by_cases hi:s.i=W.l.length
   ·have hl:W.left s=false:=by unfold Wd.left;rw[hr];simp[hi]
    have HL:=au hl;have a1:((s.i:Int)==(W.l.length:Int))=true:=by simp[hi]
    clear hl hi he hr;gi_wp2;refine wpIn_wide.2 (aP (fun w'=>w'=w1.drew) eQ eQ rfl ?_);have H1:=au (H0.o.drew (aB gP (ab 0)));obtain⟨⟨e1,e2,e3,e4⟩,f0,f1,f2,f3,f4⟩:=gQ H1.o;clear c1 c2 c3 c4 d0 d1 d2 d3 d4;generalize w1.drew=w2 at *
    (repeat(first|refine bM ?_|refine bN ?_))
    refine lex_nil ?_;gi_wp2;exact HC.o false w2 _ _ _ _ _ _ _ _ _ _ _ _ _ _ _ _ _ _ _ _ _ HL.o H1.o
   ·have hl:W.left s=true:=by unfold Wd.left;rw[hr];simp[hi,he]
    have HL:=au hl;have a1:((s.i:Int)==(W.l.length:Int))=false:=by simp;omega
    clear hl hi he hr;gi_wp2;exact HC.o true w1 _ _ _ _ _ _ _ _ _ _ _ _ _ _ _ _ _ _ _ _ _ HL.o H0.o
  ·have a2:(bs s.a).toList.isEmpty=false:=by rw[pN];exact fun h=>he (dD.1 h)
   have hl:W.left s=false:=by unfold Wd.left;rw[hr];simp[he]
   have HL:=au hl;clear hl he hr;gi_wp2;refine wpIn_wide.2 (aP (fun w'=>w'=w1.drew) eQ eQ rfl ?_);have H1:=au (H0.o.drew (aB gP (ab 0)));obtain⟨⟨e1,e2,e3,e4⟩,f0,f1,f2,f3,f4⟩:=gQ H1.o;clear c1 c2 c3 c4 d0 d1 d2 d3 d4;generalize w1.drew=w2 at *
   (repeat(first|refine bM ?_|refine bN ?_))
   refine lex_nil ?_;gi_wp2;exact HC.o false w2 _ _ _ _ _ _ _ _ _ _ _ _ _ _ _ _ _ _ _ _ _ HL.o H1.o
section
def D4(b1 b2:Nat):Value:=.func (.func 101) #[] (s7 (some ⟨b1,0,none⟩) (some ⟨b2,0,none⟩))
def eP(W:Wd)(a:PA):Value:=.agg (dR W a)
def sO(s:St):Value:=.agg (dz s)
theorem FQ{W:Wd}{a:PA}(w:World):
  Calls Tryz.prog 78 #[eP W a,sO s] w fun e w'=>∃ b1 b2,e=.returned (D4 b1 b2)/\bT w eR (Zm W a s b1 b2) w':=by
 have h:bT w eR (Zm W a s (w.heap.size+1) w.heap.size) ((w.alloc (.cells (dR W a) 186)).alloc (.cells (dz s) 184)):=by
  have h1:=(aI.begin w).fresh aM (dU w (dR W a) 186);have I:=h1.fresh aO (dU _ (dz s) 184);rw[ik] at I;have M:aI eR w (aj (Zm W a s (w.heap.size+1) w.heap.size) bG) _:=I.perm (by unfold Zm;ac_rfl);exact(M.swap.drop).post gP
 have J:=au h;clear h;unfold eP sO dR dz;unfold dR dz at J
 go_enter Tryz.func78,Tryz.ntmps78
 go_wp2;go_ret;exact⟨_,_,rfl,J.o⟩
end
theorem tZ(s:St):ql Tryz.prog [⟨"i",3,0,false, "", "customhouse/potential",0⟩,⟨"j",3,1,false, "", "customhouse/potential",8⟩,⟨"ahead",9,2,false, "", "customhouse/potential",16⟩,⟨"right",4,3,false, "", "customhouse/potential",32⟩] (dz s):=by
 intro f h;simp only[np,C3,or_false] at h;rcases h with rfl|rfl|rfl|rfl
 ·exact⟨by decide,_,rfl,.int Tryz.underlying3 _⟩
 ·exact⟨by decide,_,rfl,.int Tryz.underlying3 _⟩
 ·exact⟨by decide,_,rfl,.str Tryz.underlying9 _⟩
 ·exact⟨by decide,_,rfl,.bool Tryz.underlying4 _⟩
theorem zR(a b:Bs):(bs a==bs b)=decide (a=b):=by
 rw[TL];exact decide_eq_decide.2 ⟨fun h=>Uu h,fun h=>by rw[h]⟩
theorem BR(a b:St):oW [⟨"i",3,0,false, "", "customhouse/potential",0⟩,⟨"j",3,1,false, "", "customhouse/potential",8⟩,⟨"ahead",9,2,false, "", "customhouse/potential",16⟩,⟨"right",4,3,false, "", "customhouse/potential",32⟩] (dz a) (dz b)=decide (a=b):=by
 have e:oW [⟨"i",3,0,false, "", "customhouse/potential",0⟩,⟨"j",3,1,false, "", "customhouse/potential",8⟩,⟨"ahead",9,2,false, "", "customhouse/potential",16⟩,⟨"right",4,3,false, "", "customhouse/potential",32⟩] (dz a) (dz b)=(((a.i:Int)==(b.i:Int))&&(((a.j:Int)==(b.j:Int))&&((bs a.a==bs b.a)&&((a.r==b.r)&&true)))):=rfl;rw[e,zR];obtain⟨i,j,x,r⟩:=a;obtain⟨i',I,x',r'⟩:=b;simp only[Bool.and_true];by_cases M:i=i'
 ·by_cases h:j=I
  ·by_cases J:x=x'
   ·by_cases h4:r=r'<;>simp[M,h,J,h4]
   ·simp[J]
  ·simp only[St.mk.injEq,h,false_and,and_false,decide_false];have:((j:Int)==(I:Int))=false:=by simp;omega
   rw[this];simp
 ·simp only[St.mk.injEq,M,false_and,decide_false];have:((i:Int)==(i':Int))=false:=by simp;omega
  rw[this];rfl
theorem xR:o7 Tryz.prog 184 sO:=by
 refine rY (cs:=dz) Tryz.underlying184 eQ tZ BR (fun a=>?_);simp[dz,Instr.sameBits,zR]
theorem X2(a b:St)(w:World):(binOp .eql 184 (sO a) (sO b)).run Tryz.prog w=.ok (.bool (decide (a=b))) w:=by
 have h:=Z9 (P:=Tryz.prog) (xs:=dz a) (ys:=dz b) Tryz.underlying184 eQ (tZ a) (tZ b) w;exact h.trans (by rw[<-BR a b])
def jA(b:Nat)(l:List (St × Int)):CH.aU:=jv sO b (l.map fun p=>(p.1,.int .i64 p.2))
def lV(W:Wd)(a:PA)(b:Nat):Array Value:=#[.slice a.A W.rs.length a.c,.int .i64 W.ka,.int .i64 W.kb,.slice a.L W.l.length a.lc,.slice a.M W.m.length a.mc,.int .i64 W.l.length,.int .i64 W.m.length,.string (bs []),.bool false,.map (some b)]
def PD(W:Wd)(a:PA)(b:Nat):Value:=.agg (lV W a b)
variable{b gc gs:Nat}{a:PA}
theorem iZ{L:List (St × Int)}:(jA b L).Ok:=map_ok
instance {b:Nat} {L:List (St × Int)}:(jA b L).Ok:=iZ
theorem Iw{L:List (St × Int)}{v:Int}(hn:(gF L).Nodup)(h:(s,v) ∈ L):oh (L.map fun p=>(p.1,Value.int .i64 p.2)) s=some (.int .i64 v):=by
 induction L with
 | nil=>cases h
 | cons p L ih=>
  have I:=List.nodup_cons.1 hn;rw[lk,qU];rcases List.mem_cons.1 h with e|h
  ·rw[<-e];simp
  ·rw[if_neg (fun e:s=p.1=>I.1 (List.mem_map.2 ⟨(s,v),h,e⟩))];exact ih I.2 h
theorem PE{L:List (St × Int)}(h:s ∉ gF L):oh (L.map fun p=>(p.1,Value.int .i64 p.2)) s=none:=by
 refine D6 ?_;rw[qu];exact h
def BU(W:Wd)(s:St)(L:List (St × Int))(F0:Nat->Prop)(w0:World)(b:Nat)(X:CH.aU)(e:Ending)(w':World):Prop:=
 ∃ L',e=.returned (.int .i64 (W.fw s))/\Kn W L'/\Ext W s L L'/\s ∈ gF L'/\aI F0 w0 (aj (jA b L') X) w'
theorem ZG{L:List (St × Int)}(h:jA b L w F)(s:St):
  (Instr.lookup 189 (.map (some b)) (.agg (fN s.i s.j (bs s.a) s.r)) true).run Tryz.prog w=.ok (.tuple #[(oh (L.map fun p=>(p.1,Value.int .i64 p.2)) s).getD (.int .i64 0),.bool (oh (L.map fun p=>(p.1,Value.int .i64 p.2)) s).isSome]) w:=by
 obtain⟨⟨es,I,M,J⟩,hF⟩:=h;exact qE xR Tryz.underlying189 Tryz.zeroValue3 J s w M
theorem wB{s':St}{c:Int}(M:W.qd)(ha:s.a.length<=3)(h:(c,s') ∈ W.moves s):s'.a.length<=3:=by
 obtain⟨R,J,hm⟩:=kL h;obtain⟨-,-,x,I,rfl⟩:=rQ hm;have h1:=(M R J).1;have key:x.1.length<=3:=by
  unfold Wd.ah at I;split at I
  ·injection I with I;subst I;rw[k8];omega
  ·split at I
   ·injection I with I;subst I;rw[k8];omega
   ·cases I
 split<;>exact key
def FU(W:Wd)(a:PA)(b:Nat)(s:St)(gc gs:Nat)(L:List (St × Int))(X:CH.aU):CH.aU:=aj (av gs (dz s) 184) (aj (av gc (lV W a b) 191) (aj (jA b L) X))
theorem uf{L:List (St × Int)}(hX:X.Ok):(FU W a b s gc gs L X).Ok:=aB aF (aB aF (aB iZ hX))
instance {W:Wd} {a:PA} {b:Nat} {s:St} {gc gs:Nat} {L:List (St × Int)} {X:CH.aU} [hX:X.Ok]:(FU W a b s gc gs L X).Ok:=uf hX
theorem qO{L:List (St × Int)}(h:aI F0 w0 (FU W a b s gc gs L X) w):
  (nz w gs (.int .i64 s.i) (.int .i64 s.j) (.string (bs s.a)) (.bool s.r)) /\
  (C7 w gc (.slice a.A W.rs.length a.c) (.int .i64 W.ka) (.int .i64 W.kb) (.slice a.L W.l.length a.lc) (.slice a.M W.m.length a.mc) (.int .i64 W.l.length) (.int .i64 W.m.length) (.string (bs [])) (.bool false) (.map (some b)))/\∃ F,jA b L w F:=by
 unfold FU at h;obtain⟨F,J⟩:=h.fst;obtain⟨F2,I⟩:=h.drop.fst;obtain⟨F3,aa⟩:=h.drop.drop.fst;exact⟨⟨ay J rfl,ay J rfl,ay J rfl,ay J rfl⟩,⟨ay I rfl,ay I rfl,ay I rfl,ay I rfl,ay I rfl,ay I rfl,ay I rfl,ay I rfl,ay I rfl,ay I rfl⟩,F3,aa⟩
def Kl(x:Int × Bs × Bs):Array Value:=(rL x.1 (bs x.2.1) (bs x.2.2))
def ZP(x:Int × Bs × Bs):Value:=.agg (Kl x)
def Vo:List Field:=[⟨"script",3,0,false, "", "customhouse/rewrite",0⟩,⟨"from",9,1,false, "", "customhouse/rewrite",8⟩,⟨"to",9,2,false, "", "customhouse/rewrite",24⟩]
theorem Sn(x:Int × Bs × Bs):ql Tryz.prog Vo (Kl x):=by
 intro f hf;simp only[Vo,np,C3,or_false] at hf;rcases hf with rfl|rfl|rfl
 ·exact⟨by decide,_,rfl,.int Tryz.underlying3 _⟩
 ·exact⟨by decide,_,rfl,.str Tryz.underlying9 _⟩
 ·exact⟨by decide,_,rfl,.str Tryz.underlying9 _⟩
theorem Vp(a b:Int × Bs × Bs):oW Vo (Kl a) (Kl b)=decide (a=b):=by
 have e:oW Vo (Kl a) (Kl b)=((a.1==b.1)&&((bs a.2.1==bs b.2.1)&&((bs a.2.2==bs b.2.2)&&true))):=rfl;rw[e,zR,zR];obtain⟨i,x,y⟩:=a;obtain⟨i',x',y'⟩:=b;by_cases h1:i=i'<;>by_cases h2:x=x'<;>by_cases h3:y=y'<;>simp[h1,h2,h3]
theorem Gd:o7 Tryz.prog 154 ZP:=by
 refine rY (cs:=Kl) (fs:=Vo.toArray) Tryz.underlying154 eQ Sn Vp (fun a=>?_);simp[Kl,Instr.sameBits,zR]
def zU(b:Nat)(l:List (Int × Bs × Bs)):CH.aU:=jv ZP b (l.map fun x=>(x,.bool true))
variable{l:List (Int × Bs × Bs)}
theorem Da:(zU b l).Ok:=map_ok
instance {b:Nat} {l:List (Int × Bs × Bs)}:(zU b l).Ok:=Da
theorem P7(h:zU b l w F)(x:Int × Bs × Bs):
  (Instr.lookup 152 (.map (some b)) (.agg (rL x.1 (bs x.2.1) (bs x.2.2))) false).run Tryz.prog w=.ok (.bool (decide (x ∈ l))) w:=by
 have J:=yV Gd Tryz.underlying152 Tryz.zeroValue4 h x;rw[Mq] at J;refine J.trans ?_;by_cases I:x ∈ l
 ·rw[if_pos I,decide_eq_true I];rfl
 ·rw[if_neg I,decide_eq_false I];rfl
theorem P8(h:zU b l w F){x:Int × Bs × Bs}(J:x ∉ l):
  ∃ w',(Instr.mapUpdate 152 (.map (some b)) (.agg (rL x.1 (bs x.2.1) (bs x.2.2))) (.bool true)).run Tryz.prog w=.ok () w'/\bT w F (zU b (l++[x])) w':=by
 obtain⟨w',M,I⟩:=ru Gd Tryz.underlying152 h x (.bool true);refine⟨w',M,?_⟩;have e:mE (l.map fun x=>(x,Value.bool true)) x (.bool true)=(l++[x]).map fun x=>(x,Value.bool true):=by
  rw[rz (by rw[qu];simpa using J),kp];rfl
 rw[e] at I;exact I
variable{l:List Drop}
theorem Vq{ju:Nat}(hk:k<l.length)(h:nY l[k] ∈ (l.take k).map nY\/vW ju l[k]=false):jT ju l=false:=by
 rw[rB];intro I;unfold jT at I;simp only[gA,decide_eq_true_eq] at I;rcases h with h|h
 ·obtain⟨x,hx,e⟩:=List.mem_map.1 h;obtain⟨j,hj,rfl⟩:=List.mem_iff_getElem.1 hx;have J:j<k:=by rw[kt] at hj;omega
  have M:=List.pairwise_iff_getElem.1 I.1 j k (by rw[fY];omega) (by rw[fY];omega) J;rw[mx,mx] at M;rw[AE] at e;exact M e
 ·have:=List.all_eq_true.1 I.2.1 l[k] (gw hk);rw[h] at this;cases this
theorem Sq{ju:Nat}(h1:(l.map nY).Nodup)(h2:∀ d ∈ l,vW ju d=true):jT ju l=decide (l.length<=40):=by
 unfold jT;rw[decide_eq_true h1,List.all_eq_true.2 h2];simp
theorem Sr(I:k<l.length)(M:((l.take k).map nY).Nodup)(J:nY l[k] ∉ (l.take k).map nY):((l.take (k+1)).map nY)=(l.take k).map nY++[nY l[k]]/\((l.take (k+1)).map nY).Nodup:=by
 have e:((l.take (k+1)).map nY)=(l.take k).map nY++[nY l[k]]:=by rw[kq I,kp];rfl
 refine⟨e,?_⟩;rw[e,I1];refine⟨M,by simp,fun a h b hb e=>?_⟩;rw[List.mem_singleton.1 hb] at e;exact J (e ▸ h)
theorem Vs{ju:Nat}(hk:k<l.length)(h1:∀ d ∈ l.take k,vW ju d=true)(h2:vW ju l[k]=true):∀ d ∈ l.take (k+1),vW ju d=true:=by
 intro d hd;rw[kq hk] at hd;rcases List.mem_append.1 hd with hd|hd
 ·exact h1 d hd
 ·rw[List.mem_singleton.1 hd];exact h2
theorem um{ju:Nat}(hA:nP w A l)(hl:l.length<=1000000)(hs:∀ d ∈ l,d.w.length<=1000000)(hz:LZ w):
  Calls Tryz.prog 62 #[.slice A l.length c,.int .i64 (ju:Int)] w (aT w (.bool (jT ju l))):=by
 have HA:=au hA;have HZ:=au hz;have HS:=au hs;obtain⟨N,hN⟩:∃ N,N=l.length:=⟨_,rfl⟩;have HN:=au hN;rw[<-hN] at hl ⊢;have h0:=(aI.begin w).fresh aM (su (kv:=ZP) w);have H0:=au (show aI eR w (aj (zU w.heap.size ((l.take 0).map nY)) bG) (w.alloc (.map #[] 0)) from h0);have a6:∀ w:World,(Instr.makeMap 152 none).run Tryz.prog w=.ok (.map (some w.heap.size)) (w.alloc (.map #[] 0)):=fun w=>by kernel_rfl
 clear hA hz hs hN h0
 go_enter Tryz.func62,Tryz.ntmps62
 go_wp2;clear a6;generalize w.alloc (.map #[] 0)=w1 at *
 generalize w.heap.size=bm at *
 go_loopw [12] (fun i wr=>∃ k:Nat,k<=N/\i=.int .i64 k/\(∀ d ∈ l.take k,vW ju d=true)/\((l.take k).map nY).Nodup/\aI eR w (aj (zU bm ((l.take k).map nY)) bG) wr) (fun i _=>N-(intOf i).toNat)
 case atStart=>exact⟨0,fy _,rfl,by simp,by simp,H0.o⟩
 case round=>
  clear H0;obtain⟨k,hk,rfl,ha,aA,hR⟩:=hrel;have ak:=au ha;have af:=au aA;have HR:=au hR;clear ha aA hR;by_cases az:k<N
  ·have ad:k<l.length:=by rw[<-HN.o];exact az
   have ax:=au (show k+1<=N from az);have ba:(k:Int)<1000000:=by omega
   obtain⟨b,o,rfl,hc⟩:=HA.o.at eL;obtain⟨r0,r1,r2⟩:=hc wr (HR.o.mod.below (fun _ _ h=>h)) k ad;have a7:=HS.o _ (gw ad);clear hc;have h2:=aH HR.o aO (vi l[k].k (bs l[k].w) l[k].c) 108;have h3:=aH h2 aO (rL l[k].k (bs l[k].w) ⟨#[]⟩) 154;rw[ik] at h3;obtain⟨FS,ao⟩:=h3.drop.drop.fst;have ap:=P7 ao (nY l[k]);have ac:(Instr.lookup 152 (.map (some bm)) (.agg (rL l[k].k (bs l[k].w) ⟨#[]⟩)) false).run Tryz.prog ((wr.alloc (.cells (vi l[k].k (bs l[k].w) l[k].c) 108)).alloc (.cells (rL l[k].k (bs l[k].w) ⟨#[]⟩) 154))=.ok (.bool (decide (nY l[k] ∈ (l.take k).map nY))) _:=ap;have ae:=au (fun h=>Vq (ju:=ju) ad h);have ag:=au (fun h=>Sr ad af.o h);have aq:=au (fun h=>Vs (ju:=ju) ad ak.o h);have H3:=au h3;clear ap h2 h3 ao HR;by_cases J:nY l[k] ∈ (l.take k).map nY
   ·rw[decide_eq_true J] at ac;have HF:=au (ae.o (.inl J));clear J ae ag aq;generalize l[k]=d at *
    have HB:=au (H3.o.mod.below (fun _ _ h=>h));go_wp2;go_ret;exact aK HF.o HB.o
   ·rw[decide_eq_false J] at ac;have a3:=au (ag.o J);have a5:=au J;have KF:=au (fun W (hz:LZ W)=>C9 l[k].k (bs l[k].w) ju W (by rw[cO];exact a7) hz);clear J ag;simp only[iQ] at KF;have ar:=au (KF.o _ (HZ.o.below (H3.o.mod.below (fun _ _ h=>h))));have KC:=au (fun W=>wI l[k].c W);have aD:(aj (av (wr.heap.size+1) (rL l[k].k (bs l[k].w) ⟨#[]⟩) 154) (aj (av wr.heap.size (vi l[k].k (bs l[k].w) l[k].c) 108) (aj (zU bm ((l.take k).map nY)) bG))).Ok:=aB aF aO;have am:=au aD;have aE:vW ju l[k]=(iU l[k].k l[k].w ju&&gZ l[k].c):=rfl;have al:=au aE;have an:nY l[k]=(l[k].k,l[k].w,[]):=rfl;have a4:=au an;clear KF aD aE an;go_wp2_with fail;refine ar.o.mono ?_;rintro e9 w3 ⟨rfl,hb⟩;have H4:=au (H3.o.below am.o hb);clear ar H3 hb ac r0 r1 r2;generalize wr.heap.size+1=g2 at *
    generalize wr.heap.size=g1 at *
    obtain⟨F1,I⟩:=H4.o.fst;obtain⟨F2,a2⟩:=H4.o.drop.fst;have y0:=ay (i:=0) I rfl;have y1:=ay (i:=1) I rfl;have y2:=ay (i:=2) I rfl;have x2:=ay (i:=2) a2 rfl;clear I a2;dsimp only;cases M:iU l[k].k l[k].w ju with
    | false=>
     have HF:=au (ae.o (.inr (by rw[al.o,M];rfl)));have HB:=au (H4.o.mod.below (fun _ _ h=>h));clear M;go_wp2;go_ret;exact aK HF.o HB.o
    | true=>
     cases aa:gZ l[k].c with
     | false=>
      have HF:=au (ae.o (.inr (by rw[al.o,M,aa];rfl)));rw[aa] at KC;clear M aa;go_wp2_with fail;refine(KC.o _).mono ?_;rintro e9 w4 ⟨rfl,hb⟩;have H5:=au (H4.o.below am.o hb);have HB:=au (H5.o.mod.below (fun _ _ h=>h));clear KC H4 hb;dsimp only;go_wp2;go_ret;exact aK HF.o HB.o
     | true=>
      have a8:=au (aq.o (by rw[al.o,M,aa];rfl));rw[aa] at KC;clear M aa;go_wp2_with fail;refine(KC.o _).mono ?_;rintro e9 w4 ⟨rfl,hb⟩;have H5:=au (H4.o.below am.o hb);clear KC H4 hb y0 y1 y2 x2;dsimp only;obtain⟨F1,I⟩:=H5.o.fst;have y0:=ay (i:=0) I rfl;have y1:=ay (i:=1) I rfl;have y2:=ay (i:=2) I rfl;obtain⟨FM,a0,-,bk⟩:=(H5.o.drop.drop).take Da aM;obtain⟨w5,ai,ab⟩:=P8 a0 a5.o;have h6:=bk _ _ ab;rw[<-a3.o.1] at h6;have H6:=au h6;rw[a4.o] at ai;have a9:(Instr.mapUpdate 152 (.map (some bm)) (.agg (rL l[k].k (bs l[k].w) ⟨#[]⟩)) (.bool true)).run Tryz.prog w4=.ok () w5:=ai;clear I a0 bk ai ab h6;go_wp2
      go_roundw
      case rel=>exact⟨k+1,ax.o,by go_num,a8.o,a3.o.2,H6.o⟩
      case measure=>have:=ax.o;simp[intOf];omega
  ·obtain rfl:k=N:=by omega
   have HF:=au (Sq (ju:=ju) (l:=l) (by have:=af.o;rw[HN.o,kz] at this;exact this) (by have:=ak.o;rw[HN.o,kz] at this;exact this));rw[<-HN.o] at HF;have HB:=au (HR.o.mod.below (fun _ _ h=>h));clear af ak;by_cases a1:k<=40
   ·have aw:(k:Int)<=40:=by omega
    rw[decide_eq_true a1] at HF;go_wp2;go_ret;exact aK HF.o HB.o
   ·have aw:¬ (k:Int)<=40:=by omega
    rw[decide_eq_false a1] at HF;go_wp2;go_ret;exact aK HF.o HB.o
variable{l:List im}
theorem Vt(hk:k<l.length)(h:ku l[k] ∈ (l.take k).map ku\/vV l[k]=false):tV l=false:=by
 rw[rB];intro h2;obtain⟨h3,h4⟩:=iL.1 h2;rcases h with h|h
 ·obtain⟨x,M,e⟩:=List.mem_map.1 h;obtain⟨j,hj,rfl⟩:=List.mem_iff_getElem.1 M;have I:j<k:=by rw[kt] at hj;omega
  have J:=List.pairwise_iff_getElem.1 h3 j k (by rw[fY];omega) (by rw[fY];omega) I;rw[mx,mx] at J;rw[AE] at e;exact J e
 ·have:=h4 l[k] (gw hk);rw[h] at this;cases this
theorem NA(I:k<l.length)(M:((l.take k).map ku).Nodup)(J:ku l[k] ∉ (l.take k).map ku):((l.take (k+1)).map ku)=(l.take k).map ku++[ku l[k]]/\((l.take (k+1)).map ku).Nodup:=by
 have e:((l.take (k+1)).map ku)=(l.take k).map ku++[ku l[k]]:=by rw[kq I,kp];rfl
 refine⟨e,?_⟩;rw[e,I1];refine⟨M,by simp,fun a h b hb e=>?_⟩;rw[List.mem_singleton.1 hb] at e;exact J (e ▸ h)
theorem Sv(hk:k<l.length)(h1:∀ d ∈ l.take k,vV d=true)(h2:vV l[k]=true):∀ d ∈ l.take (k+1),vV d=true:=by
 intro d hd;rw[kq hk] at hd;rcases List.mem_append.1 hd with hd|hd
 ·exact h1 d hd
 ·rw[List.mem_singleton.1 hd];exact h2
theorem oQ(h:T.rs=[]\/80<T.rs.length\/gZ T.drop=false\/gZ T.ord=false\/gZ T.ini=false):bI T=false:=by
 rw[rB];intro h2;obtain⟨⟨g1,g2,g3,g4,g5⟩,-⟩:=bX.1 h2;rcases h with h|h|h|h|h
 ·exact g1 h
 ·omega
 ·rw[h] at g3;cases g3
 ·rw[h] at g4;cases g4
 ·rw[h] at g5;cases g5
theorem Km(h:tV T.rs=false):bI T=false:=by
 rw[rB];intro h2;have:=(bX.1 h2).2.1;rw[h] at this;cases this
theorem NC(h:T.rs≠[]/\T.rs.length<=80/\gZ T.drop=true/\gZ T.ord=true/\gZ T.ini=true)(h2:tV T.rs=true):bI T=(jT 12 T.ds&&jT 4 T.es):=by
 rw[tB,bX,gA];exact⟨fun g=>g.2.2,fun g=>⟨h,h2,g⟩⟩
theorem mg{a:TA}(hT:jV w T a)(hz:LZ w):Calls Tryz.prog 38 #[dI T a] w (aT w (.bool (bI T))):=by
 obtain⟨A,ac,D,dc,E,ec⟩:=a;have HT:=au hT;have HZ:=au hz;have HC:=au (fun n W=>wI n W);have h1:aI eR w (aj (av w.heap.size (dN T ⟨A,ac,D,dc,E,ec⟩) 25) bG) _:=aH (aI.begin w) aM (dN T ⟨A,ac,D,dc,E,ec⟩) 25;have H1:=au h1;obtain⟨N,hN⟩:∃ N,N=T.rs.length:=⟨_,rfl⟩;have HN:=au hN;unfold dI dN;dsimp only;unfold dN at H1;dsimp only at H1;rw[<-hN] at H1 ⊢;clear hT hz h1 hN
 go_enter Tryz.func38,Tryz.ntmps38
 iterate 12 (first|go_values|go_guarded|go_step)
 have ag:∀ W,aI eR w (aj (av w.heap.size (fh A N ac D T.ds.length dc E T.es.length ec T.drop T.ord T.ini) 25) bG) W ->
   (l4 W w.heap.size (.slice A N ac) (.slice D T.ds.length dc) (.slice E T.es.length ec) (.int .i64 T.drop) (.int .i64 T.ord) (.int .i64 T.ini)):=fun W h=>by
  obtain⟨F,hF⟩:=h.fst;exact⟨ay hF rfl,ay hF rfl,ay hF rfl,ay hF rfl,ay hF rfl,ay hF rfl⟩
 have am:=au ag;clear ag;generalize w.alloc (.cells (fh A N ac D T.ds.length dc E T.es.length ec T.drop T.ord T.ini) 25)=w1 at *
 obtain⟨c0,c1,c2,c3,c4,c5⟩:=am.o _ H1.o;have HB:=au (H1.o.mod.below (fun _ _ h=>h));by_cases ae:N=0
 ·have t1:((N:Int)==0)=true:=by simp[ae]
  have HF:=au (oQ (T:=T) (.inl (by rw[<-Ps,<-HN.o];exact ae)));clear ae;go_wp2;go_ret;exact aK HF.o HB.o
 ·have t1:((N:Int)==0)=false:=by simp[ae]
  by_cases bc:80<N
  ·have t2:(80:Int)<(N:Int):=by omega
   have HF:=au (oQ (T:=T) (.inr (.inl (by rw[<-HN.o];exact bc))));clear ae bc;go_wp2;go_ret;exact aK HF.o HB.o
  ·have t2:¬ (80:Int)<(N:Int):=by omega
   have K1:=au (HC.o T.drop);have K2:=au (HC.o T.ord);have K3:=au (HC.o T.ini);have a3:=au (show T.rs≠[]/\T.rs.length<=80 from⟨by rw[ne_eq,<-Ps,<-HN.o];exact ae,by rw[<-HN.o];omega⟩);clear HC ae;cases h3:gZ T.drop with
   | false=>
    have HF:=au (oQ (T:=T) (.inr (.inr (.inl h3))));simp only[h3] at K1;clear h3;go_wp2_with fail;refine(K1.o _).mono ?_;rintro e9 w2 ⟨rfl,I⟩;have ad:=au (aC HB.o I);clear K1 K2 K3 I;dsimp only;go_wp2;go_ret;exact aK HF.o ad.o
   | true=>
    simp only[h3] at K1;go_wp2_with fail;refine(K1.o _).mono ?_;rintro e9 w2 ⟨rfl,I⟩;have H2:=au (H1.o.below aO I);have ad:=au (aC HB.o I);clear K1 I c0 c1 c2 c3 c4 c5 H1 HB;obtain⟨c0,c1,c2,c3,c4,c5⟩:=am.o _ H2.o;dsimp only;cases h4:gZ T.ord with
    | false=>
     have HF:=au (oQ (T:=T) (.inr (.inr (.inr (.inl h4)))));simp only[h4] at K2;clear h3 h4;go_wp2_with fail;refine(K2.o _).mono ?_;rintro e9 w3 ⟨rfl,I⟩;have ap:=au (aC ad.o I);clear K2 K3 I;dsimp only;go_wp2;go_ret;exact aK HF.o ap.o
    | true=>
     simp only[h4] at K2;go_wp2_with fail;refine(K2.o _).mono ?_;rintro e9 w3 ⟨rfl,I⟩;have H3:=au (H2.o.below aO I);have ap:=au (aC ad.o I);clear K2 I c0 c1 c2 c3 c4 c5 H2 ad;obtain⟨c0,c1,c2,c3,c4,c5⟩:=am.o _ H3.o;dsimp only;cases h5:gZ T.ini with
     | false=>
      have HF:=au (oQ (T:=T) (.inr (.inr (.inr (.inr h5)))));simp only[h5] at K3;clear h3 h4 h5;go_wp2_with fail;refine(K3.o _).mono ?_;rintro e9 w4 ⟨rfl,I⟩;have aD:=au (aC ap.o I);clear K3 I;dsimp only;go_wp2;go_ret;exact aK HF.o aD.o
     | true=>
      have bu:=au (show T.rs≠[]/\T.rs.length<=80/\gZ T.drop=true/\gZ T.ord=true/\gZ T.ini=true from⟨a3.o.1,a3.o.2,h3,h4,h5⟩);simp only[h5] at K3;clear h3 h4 h5;go_wp2_with fail;refine(K3.o _).mono ?_;rintro e9 w4 ⟨rfl,I⟩;have H4:=au (H3.o.below aO I);have aD:=au (aC ap.o I);clear K3 I c0 c1 c2 c3 c4 c5 H3 ap;obtain⟨c0,c1,c2,c3,c4,c5⟩:=am.o _ H4.o;dsimp only;have bx:∀ w:World,(Instr.makeMap 152 none).run Tryz.prog w=.ok (.map (some w.heap.size)) (w.alloc (.map #[] 0)):=fun w=>by kernel_rfl
      have H5:=au (show aI eR w (aj (zU w4.heap.size ((T.rs.take 0).map ku)) _) (w4.alloc (.map #[] 0)) from H4.o.fresh aO (su (kv:=ZP) w4));have bi:∀ W O,aI eR w (aj O (aj (av w.heap.size (fh A N ac D T.ds.length dc E T.es.length ec T.drop T.ord T.ini) 25) bG)) W->W.cell? ⟨w.heap.size,0,none⟩=some (.slice A N ac):=fun W O h=>(am.o _ h.drop).1;have br:=bi _ _ H5.o;clear bi c0 c1 c2 c3 c4 c5 H4 aD;go_wp2;clear bx br;generalize w4.alloc (.map #[] 0)=w5 at *
      generalize w4.heap.size=bm at *
      generalize w.heap.size=gt at *
      have bz:=au (show ∀ wr O,aI eR w O wr->Below w.heap.size w wr from fun wr O h=>h.mod.below (fun _ _ h=>h));go_loopw [39] (fun i wr=>∃ k:Nat,k<=N/\i=.int .i64 k/\(∀ d ∈ T.rs.take k,vV d=true)/\((T.rs.take k).map ku).Nodup/\aI eR w (aj (zU bm ((T.rs.take k).map ku)) (aj (av gt (fh A N ac D T.ds.length dc E T.es.length ec T.drop T.ord T.ini) 25) bG)) wr) (fun i _=>N-(intOf i).toNat)
      case atStart=>exact⟨0,fy _,rfl,by simp,by simp,H5.o⟩
      case round=>
       clear H5 bz;obtain⟨k,hk,rfl,ha,bf,hR⟩:=hrel;have a2:=au ha;have aA:=au bf;have HR:=au hR;clear ha bf hR;by_cases bb:k<N
       ·have aq:k<T.rs.length:=by rw[<-HN.o];exact bb
        have ba:=au (show k+1<=N from bb);have b2:(k:Int)<1000000:=by have:=a3.o.2;omega
        obtain⟨b,o,rfl,hc⟩:=l8.at HT.o.rs eL;obtain⟨r0,r1,r2,r3⟩:=hc wr (HR.o.mod.below (fun _ _ h=>h)) k aq;have bn:=HT.o.sr _ (gw aq);clear hc;have a0:(aj (zU bm ((T.rs.take k).map ku)) (aj (av gt (fh (some ⟨b,o,none⟩) N ac D T.ds.length dc E T.es.length ec T.drop T.ord T.ini) 25) bG)).Ok:=aB Da aO;have h2:=aH HR.o a0 (mL T.rs[k].k (bs T.rs[k].f) (bs T.rs[k].t) T.rs[k].c) 50;have h3:=aH h2 aO (rL T.rs[k].k (bs T.rs[k].f) (bs T.rs[k].t)) 154;rw[ik] at h3;obtain⟨FS,a4⟩:=h3.drop.drop.fst;have a5:=P7 a4 (ku T.rs[k]);have an:(Instr.lookup 152 (.map (some bm)) (.agg (rL T.rs[k].k (bs T.rs[k].f) (bs T.rs[k].t))) false).run Tryz.prog ((wr.alloc (.cells (mL T.rs[k].k (bs T.rs[k].f) (bs T.rs[k].t) T.rs[k].c) 50)).alloc (.cells (rL T.rs[k].k (bs T.rs[k].f) (bs T.rs[k].t)) 154))=.ok (.bool (decide (ku T.rs[k] ∈ (T.rs.take k).map ku))) _:=a5;have ar:=au (fun h=>Km (Vt aq h));have aE:=au (fun h=>NA aq aA.o h);have a6:=au (fun h=>Sv aq a2.o h);have H3:=au h3;clear a5 h2 h3 a4 HR;by_cases af:ku T.rs[k] ∈ (T.rs.take k).map ku
        ·rw[decide_eq_true af] at an;have HF:=au (ar.o (.inl af));clear af ar aE a6;generalize T.rs[k]=d at *
         have HB:=au (H3.o.mod.below (fun _ _ h=>h));go_wp2;go_ret;exact aK HF.o HB.o
        ·rw[decide_eq_false af] at an;have bo:=au (aE.o af);have bw:=au af;have KF:=au (fun W (hz:LZ W)=>C9 T.rs[k].k (bs T.rs[k].f) 3 W (by rw[cO];exact bn.1) hz);have KG:=au (fun W=>Nz (bs T.rs[k].t) W (by rw[cO];exact bn.2));clear af aE;simp only[iQ] at KF KG;have a7:=au (KF.o _ (HZ.o.below (H3.o.mod.below (fun _ _ h=>h))));have KC:=au (fun W=>wI T.rs[k].c W);have bh:(aj (av (wr.heap.size+1) (rL T.rs[k].k (bs T.rs[k].f) (bs T.rs[k].t)) 154) (aj (av wr.heap.size (mL T.rs[k].k (bs T.rs[k].f) (bs T.rs[k].t) T.rs[k].c) 50) (aj (zU bm ((T.rs.take k).map ku)) (aj (av gt (fh (some ⟨b,o,none⟩) N ac D T.ds.length dc E T.es.length ec T.drop T.ord T.ini) 25) bG)))).Ok:=aB aF aO;have ao:=au bh;have b3:=au a0;have az:=au (show vV T.rs[k]=(iU T.rs[k].k T.rs[k].f 3&&(vU T.rs[k].t&&gZ T.rs[k].c)) from rfl);have bv:=au (show ku T.rs[k]=(T.rs[k].k,T.rs[k].f,T.rs[k].t) from rfl);clear KF bh a0;go_wp2_with fail;refine a7.o.mono ?_;rintro e9 w6 ⟨rfl,I⟩;have H4:=au (H3.o.below ao.o I);clear a7 H3 I an r0 r1 r2 r3;generalize wr.heap.size+1=g2 at *
         generalize wr.heap.size=g1 at *
         obtain⟨F1,J⟩:=H4.o.fst;have y0:=ay (i:=0) J rfl;have y1:=ay (i:=1) J rfl;have y2:=ay (i:=2) J rfl;obtain⟨F2,M⟩:=H4.o.drop.fst;have x0:=ay (i:=0) M rfl;have x1:=ay (i:=1) M rfl;have x2:=ay (i:=2) M rfl;have x3:=ay (i:=3) M rfl;clear J M;dsimp only;cases aa:iU T.rs[k].k T.rs[k].f 3 with
         | false=>
          have HF:=au (ar.o (.inr (by rw[az.o,aa];rfl)));have HB:=au (H4.o.mod.below (fun _ _ h=>h));clear aa;go_wp2;go_ret;exact aK HF.o HB.o
         | true=>
          cases ab:vU T.rs[k].t with
          | false=>
           have HF:=au (ar.o (.inr (by rw[az.o,aa,ab];rfl)));simp only[ab] at KG;clear aa ab;go_wp2_with fail;refine(KG.o _).mono ?_;rintro e9 w7 ⟨rfl,I⟩;have H5:=au (H4.o.below ao.o I);have HB:=au (H5.o.mod.below (fun _ _ h=>h));clear KG H4 I;dsimp only;go_wp2;go_ret;exact aK HF.o HB.o
          | true=>
           simp only[ab] at KG;go_wp2_with fail;refine(KG.o _).mono ?_;rintro e9 w7 ⟨rfl,I⟩;have H5:=au (H4.o.below ao.o I);clear KG H4 I y0 y1 y2 x0 x1 x2 x3;obtain⟨F1,J⟩:=H5.o.fst;have y0:=ay (i:=0) J rfl;have y1:=ay (i:=1) J rfl;have y2:=ay (i:=2) J rfl;obtain⟨F2,M⟩:=H5.o.drop.fst;have x0:=ay (i:=0) M rfl;have x1:=ay (i:=1) M rfl;have x2:=ay (i:=2) M rfl;have x3:=ay (i:=3) M rfl;clear J M;dsimp only;cases ak:gZ T.rs[k].c with
           | false=>
            have HF:=au (ar.o (.inr (by rw[az.o,aa,ab,ak];rfl)));simp only[ak] at KC;clear aa ab ak;go_wp2_with fail;refine(KC.o _).mono ?_;rintro e9 w8 ⟨rfl,I⟩;have H6:=au (H5.o.below ao.o I);have HB:=au (H6.o.mod.below (fun _ _ h=>h));clear KC H5 I;dsimp only;go_wp2;go_ret;exact aK HF.o HB.o
           | true=>
            have b0:=au (a6.o (by rw[az.o,aa,ab,ak];rfl));simp only[ak] at KC;clear aa ab ak;go_wp2_with fail;refine(KC.o _).mono ?_;rintro e9 w8 ⟨rfl,I⟩;have H6:=au (H5.o.below ao.o I);clear KC H5 I y0 y1 y2 x0 x1 x2 x3;dsimp only;obtain⟨F1,J⟩:=H6.o.fst;have y0:=ay (i:=0) J rfl;have y1:=ay (i:=1) J rfl;have y2:=ay (i:=2) J rfl;clear J;obtain⟨FM,bj,-,bk⟩:=(H6.o.drop.drop).take Da aO;obtain⟨w9,a1,al⟩:=P8 bj bw.o;have h6:=bk _ _ al;rw[<-bo.o.1] at h6;have H7:=au h6;rw[bv.o] at a1;have b1:(Instr.mapUpdate 152 (.map (some bm)) (.agg (rL T.rs[k].k (bs T.rs[k].f) (bs T.rs[k].t))) (.bool true)).run Tryz.prog w8=.ok () w9:=a1;clear bj bk a1 al h6;go_wp2
            go_roundw
            case rel=>exact⟨k+1,ba.o,by go_num,b0.o,bo.o.2,H7.o⟩
            case measure=>have:=ba.o;simp[intOf];omega
       ·obtain rfl:k=N:=by omega
        have a9:tV T.rs=true:=iL.2 ⟨by have:=aA.o;rw[HN.o,kz] at this;exact this,by have:=a2.o;rw[HN.o,kz] at this;exact this⟩;have a8:=au (NC bu.o a9);clear aA a2 a9;obtain⟨FT,ai⟩:=HR.o.drop.fst;have c1:=ay (i:=1) ai rfl;have c2:=ay (i:=2) ai rfl;clear ai;have be:(aj (zU bm ((T.rs.take k).map ku)) (aj (av gt (fh A k ac D T.ds.length dc E T.es.length ec T.drop T.ord T.ini) 25) bG)).Ok:=aB Da aO;have ax:=au (HR.o.mod.below (fun _ _ h=>h));have KD:=au (um (ju:=12) (c:=dc) (HT.o.ds.below ax.o) HT.o.ld HT.o.sd (HZ.o.below ax.o));have KE:=au (fun W (I:Below w.heap.size w W)=>um (w:=W) (ju:=4) (c:=ec) (HT.o.es.below I) HT.o.le HT.o.se (HZ.o.below I));go_wp2_with fail;refine KD.o.mono ?_;rintro e9 w6 ⟨rfl,I⟩;have H4:=au (HR.o.below be I);have HB:=au (aC ax.o I);clear KD I c1 c2 be HR ax;obtain⟨FT,ai⟩:=H4.o.drop.fst;have c2:=ay (i:=2) ai rfl;clear ai H4;dsimp only;cases aw:jT 12 T.ds with
        | false=>
         have HF:=au (show bI T=false by rw[a8.o,aw];rfl);clear aw KE;go_wp2;go_ret;exact aK HF.o HB.o
        | true=>
         have HF:=au (show bI T=jT 4 T.es by rw[a8.o,aw];rfl);have bp:=au (KE.o w6 HB.o);clear aw KE;go_wp2_with fail;refine bp.o.mono ?_;rintro e9 w7 ⟨rfl,I⟩;have ad:=au (aC HB.o I);clear bp I;dsimp only;go_wp2;go_ret;exact aK HF.o ad.o
def PN(w:World)(k:Int)(l:Bs)(e:Ending)(w':World):Prop:=
 ∃ A c,e=.returned (.tuple #[.slice A (gG k l).1.length c,.bool (gG k l).2])/\bT w eR (gD A c (gG k l).1) w'
theorem xS(k:Int)(s:ByteArray)(w:World)(hs:s.size<=1000000)(M:LZ w):Calls Tryz.prog 93 #[.int .i64 k,.string s] w (PN w k (bl s)):=by
 have J:=au (tQ k s w hs M);have HZ:=au M;clear M;by_cases hw:word k (bl s)=true
 ·have e1:iC k (bl s)=(lower (bl s),0):=by unfold iC;rw[if_pos hw]
  have e2:bC k (lower (bl s))=((aQ k (lower (bl s))).1,0):=by unfold bC;rw[if_pos (iY hw)]
  have e3:gG k (bl s)=((aQ k (lower (bl s))).1,true):=by unfold gG;rw[if_pos hw]
  have h:=au (fun W (M:LZ W)=>ji k (bs (lower (bl s))) W (by rw[cO];unfold lower;rw[fY,qC];exact hs) M);simp only[iQ] at h;unfold mR at h;simp only[e2] at h;unfold aT at J;simp only[e1] at J;unfold PN;rw[e3];clear e1 e2 e3 hw
  go_enter Tryz.func93,Tryz.ntmps93
  go_wp2_with fail;refine J.o.mono ?_;rintro e9 w1 ⟨rfl,hb⟩;have HB:=au hb;have I:=au (h.o w1 (HZ.o.below hb));clear J h hb;dsimp only;go_wp2_with fail;refine I.o.mono ?_;rintro e9 w2 ⟨A,c,rfl,hp⟩;have HP:=au (((aI.begin w).below aM HB.o).fresh aM hp);clear I HB hp;dsimp only;go_wp2;refine bodyPost_ret (results_tmp2 rfl _ _ _) rfl ?_;exact⟨A,c,rfl,(HP.o.swap.drop).post iG⟩
 ·have e1:iC k (bl s)=([],1):=by unfold iC;rw[if_neg hw]
  have e2:bC k []=([],1):=by unfold bC;rw[if_neg (U1 k)]
  have e3:gG k (bl s)=([],false):=by unfold gG;rw[if_neg hw]
  have h:=au (fun W (M:LZ W)=>ji k (bs []) W (by rw[cO];exact fy _) M);simp only[iQ] at h;unfold mR at h;simp only[e2] at h;unfold aT at J;simp only[e1] at J;unfold PN;rw[e3];clear e1 e2 e3 hw
  go_enter Tryz.func93,Tryz.ntmps93
  go_wp2_with fail;refine J.o.mono ?_;rintro e9 w1 ⟨rfl,hb⟩;have HB:=au hb;have I:=au (h.o w1 (HZ.o.below hb));clear J h hb;dsimp only;go_wp2_with fail;refine I.o.mono ?_;rintro e9 w2 ⟨A,c,rfl,hp⟩;have HP:=au (((aI.begin w).below aM HB.o).fresh aM hp);clear I HB hp;dsimp only;go_wp2;refine bodyPost_ret (results_tmp2 rfl _ _ _) rfl ?_;exact⟨A,c,rfl,(HP.o.swap.drop).post iG⟩
def PI(T:eW)(k:Int)(x:Bs)(k2:Int)(y:Bs):Wd:=⟨k,k2,(gG k x).1,(gG k2 y).1,T.rs⟩
variable{k:Int}{t:TypeId}
theorem Nq{k2:Int}{x y:Bs}(h:okW T k x k2 y=true):PI T k x k2 y=bO T k x k2 y:=by
 obtain⟨h1,h2,-⟩:=fV.1 h;unfold PI bO gG;rw[if_pos h1,if_pos h2]
theorem FW(k:Int)(x:Bs):(gG k x).2=word k x:=by
 unfold gG;cases h:word k x<;>simp
theorem mh(k:Int)(x:Bs):(gG k x).1.length<=12:=by
 unfold gG;split
 ·rename_i h;exact(eX.1 (iY h)).2.2
 ·exact fy _
theorem CW(k:Int)(x:Bs)(M:x.length<=1000000):∀ z ∈ (gG k x).1,z.length<=1000000:=by
 intro z h;unfold gG at h;split at h
 ·have J:=zJ (k:=k) (lower x);have I:=congrArg List.length J;rw[gj] at I;have h3:z.length<=((aQ k (lower x)).1.flatten).length:=by
   obtain⟨i,hi,rfl⟩:=List.mem_iff_getElem.1 h;exact(NF (gw hi)).length_le
  have h4:(lower x).length=x.length:=by unfold lower;rw[fY]
  omega
 ·cases h
def PK(I:eV)(w:World)(T:eW)(k:Int)(x:Bs)(k2:Int)(y:Bs)(e:Ending)(w':World):Prop:=
 ∃ pa:PA,e=.returned (.tuple #[eP (PI T k x k2 y) pa,.bool (okW T k x k2 y)])/\Below w.heap.size w w'/\xP (PI T k x k2 y) pa w'/\Ir (PI T k x k2 y) pa/\pa.A=I/\(∀ h,pa.L=some h->w.heap.size<=h.block)/\∀ h,pa.M=some h->w.heap.size<=h.block
theorem CX{a0 a1 a2 a3 a4 a5 a6 M J:Value}(h:aI F0 w0 (aj (av g #[a0,a1,a2,a3,a4,a5,a6,M,J] t) X) w)(I:X.Ok)(b0 b1 b2 b3 b4 b5 b6 b7 b8:Value):
  aI F0 w0 (aj (av g #[b0,b1,b2,b3,b4,b5,b6,b7,b8] t) X) (((((((((w.setCell ⟨g,0,none⟩ b0).setCell ⟨g,1,none⟩ b1).setCell ⟨g,2,none⟩ b2).setCell ⟨g,3,none⟩ b3).setCell ⟨g,4,none⟩ b4).setCell ⟨g,5,none⟩ b5).setCell ⟨g,6,none⟩ b6).setCell ⟨g,7,none⟩ b7).setCell ⟨g,8,none⟩ b8):=by
 have h0:aI F0 w0 (aj (av g #[b0,a1,a2,a3,a4,a5,a6,M,J] t) X) _:=aJ h I 0 b0;have h1:aI F0 w0 (aj (av g #[b0,b1,a2,a3,a4,a5,a6,M,J] t) X) _:=aJ h0 I 1 b1;have h2:aI F0 w0 (aj (av g #[b0,b1,b2,a3,a4,a5,a6,M,J] t) X) _:=aJ h1 I 2 b2;have h3:aI F0 w0 (aj (av g #[b0,b1,b2,b3,a4,a5,a6,M,J] t) X) _:=aJ h2 I 3 b3;have h4:aI F0 w0 (aj (av g #[b0,b1,b2,b3,b4,a5,a6,M,J] t) X) _:=aJ h3 I 4 b4;have h5:aI F0 w0 (aj (av g #[b0,b1,b2,b3,b4,b5,a6,M,J] t) X) _:=aJ h4 I 5 b5;have h6:aI F0 w0 (aj (av g #[b0,b1,b2,b3,b4,b5,b6,M,J] t) X) _:=aJ h5 I 6 b6;have h7:aI F0 w0 (aj (av g #[b0,b1,b2,b3,b4,b5,b6,b7,J] t) X) _:=aJ h6 I 7 b7;exact aJ h7 I 8 b8
theorem cZ{fn:Func}{p u:Tmp}{I:TypeId}(h:fn.results=#[.cell p I,.tmp u]){P:Program}(tmps:Array Value)(w:World)(g:Nat)(t:TypeId)(cs:Array Value)(J:Nat × Nat){d:Array Field}(M:tmps.getD p undef=.pointer (some ⟨g,0,none⟩))(hg:w.heap[g]?=some (.cells cs t J))(hu:P.underlying I=some (.struct d))(hi:(P.info? I).map (·.size)=some cs.size):
  (results fn tmps).run P w=.ok (.tuple #[.agg cs,tmps.getD u undef]) w:=by
 rw[results_cell_tmp h,M];simp[asAddr,run_loadVar_row w g t I cs J (.struct d) hg hu rfl hi]
abbrev _root_.Go.kl(T:eW)(a:TA):Array Value:=fh a.A T.rs.length a.c a.D T.ds.length a.d a.E T.es.length a.e T.drop T.ord T.ini
theorem U7{a:TA}(hT:jV w T a)(hz:LZ w)(k:Int)(x:Bs)(k2:Int)(y:Bs)(hx:x.length<=1000000)(hy:y.length<=1000000):
  Calls Tryz.prog 73 #[dI T a,.int .i64 k,.string (bs x),.int .i64 k2,.string (bs y)] w (PK a.A w T k x k2 y):=by
 have HT:=au hT;have HZ:=au hz;have HX:=au hx;have HY:=au hy;have h1:aI eR w (aj (av w.heap.size (dN T a) 25) bG) _:=aH (aI.begin w) aM (dN T a) 25;have K1:=au (fun W (hz:LZ W)=>xS k (bs x) W (by rw[cO];exact hx) hz);have K2:=au (fun W (hz:LZ W)=>xS k2 (bs y) W (by rw[cO];exact hy) hz);simp only[iQ] at K1 K2;unfold PN at K1 K2;have H1:=au h1;clear hT hz h1;unfold dI dN;unfold dN at H1
 go_enter Tryz.func73,Tryz.ntmps73
 have H2:=au (show aI eR w (aj (av (w.heap.size+1) #[.slice none 0 0,.int .i64 0,.int .i64 0,.slice none 0 0,.slice none 0 0,.int .i64 0,.int .i64 0,.string { data:=#[] },.bool false] 186) (aj (av w.heap.size (kl T a) 25) bG)) _ from(by have h2:=aH H1.o aO #[.slice none 0 0,.int .i64 0,.int .i64 0,.slice none 0 0,.slice none 0 0,.int .i64 0,.int .i64 0,.string { data:=#[] },.bool false] 186;rw[ik] at h2;exact h2));go_wp2_with fail;clear H1;generalize a0:(w.alloc (.cells (kl T a) 25)).alloc (.cells #[.slice none 0 0,.int .i64 0,.int .i64 0,.slice none 0 0,.slice none 0 0,.int .i64 0,.int .i64 0,.string { data:=#[] },.bool false] 186)=w1 at *
 clear a0;generalize w.heap.size+1=gr at *
 generalize jj:w.heap.size=gt at *
 have ap:=au (show(aj (av gr #[.slice none 0 0,.int .i64 0,.int .i64 0,.slice none 0 0,.slice none 0 0,.int .i64 0,.int .i64 0,.string { data:=#[] },.bool false] 186) (aj (av gt (kl T a) 25) bG)).Ok from aB aF aO);have a3:=au (fun W O (h:aI eR w O W)=>(show Below w.heap.size w W from h.mod.below (fun _ _ h=>h)));have ar:=au (fun W O (h:aI eR w O W)=>HZ.o.below (h.mod.below (fun _ _ h=>h)));clear jj;refine(K1.o _ (ar.o _ _ H2.o)).mono ?_;rintro e9 w2 ⟨L,lc,rfl,hp⟩;have H3:=au (H2.o.fresh ap.o hp);clear K1 H2 hp;dsimp only;go_wp2_with fail;refine(K2.o _ (ar.o _ _ H3.o)).mono ?_;rintro e9 w3 ⟨M,mc,rfl,hp⟩;have H4:=au (H3.o.fresh (aB iG ap.o) hp);clear K2 H3 hp;dsimp only;obtain⟨n1,aq⟩:∃ n,n=(gG k x).1.length:=⟨_,rfl⟩;obtain⟨J,an⟩:∃ n,n=(gG k2 y).1.length:=⟨_,rfl⟩;have a1:=au aq;have a5:=au an;have a2:=au (FW k x);have ag:=au (FW k2 y);rw[<-aq,<-an];rw[a2.o,ag.o];clear aq an;obtain⟨ft,az⟩:=H4.o.drop.drop.drop.fst;have c0:=ay (i:=0) az rfl;clear az;go_wp2_with fail;have a4:=au (aB (iG (A:=M) (c:=mc) (l:=(gG k2 y).1)) (aB (iG (A:=L) (c:=lc) (l:=(gG k x).1)) ap.o));have H5:=au ((aH H4.o a4.o #[.slice a.A T.rs.length a.c,.int .i64 k,.int .i64 k2,.slice L n1 lc,.slice M J mc,.int .i64 n1,.int .i64 J,.string { data:=#[] },.bool false] 186).perm (by rw[fG];ac_rfl:_=aj (av w3.heap.size #[.slice a.A T.rs.length a.c,.int .i64 k,.int .i64 k2,.slice L n1 lc,.slice M J mc,.int .i64 n1,.int .i64 J,.string { data:=#[] },.bool false] 186) (aj (av gr #[.slice none 0 0,.int .i64 0,.int .i64 0,.slice none 0 0,.slice none 0 0,.int .i64 0,.int .i64 0,.string { data:=#[] },.bool false] 186) (aj (av gt (kl T a) 25) (aj (gD M mc (gG k2 y).1) (gD L lc (gG k x).1))))));have aE:=au (show(aj (av w3.heap.size #[.slice a.A T.rs.length a.c,.int .i64 k,.int .i64 k2,.slice L n1 lc,.slice M J mc,.int .i64 n1,.int .i64 J,.string { data:=#[] },.bool false] 186) (aj (av gr #[.slice none 0 0,.int .i64 0,.int .i64 0,.slice none 0 0,.slice none 0 0,.int .i64 0,.int .i64 0,.string { data:=#[] },.bool false] 186) (aj (av gt (kl T a) 25) (aj (gD M mc (gG k2 y).1) (gD L lc (gG k x).1))))).Ok from aB aF aO);clear c0 H4;generalize w3.alloc (.cells #[.slice a.A T.rs.length a.c,.int .i64 k,.int .i64 k2,.slice L n1 lc,.slice M J mc,.int .i64 n1,.int .i64 J,.string { data:=#[] },.bool false] 186)=w4 at *
 generalize w3.heap.size=gp at *
 have aD:∀ W,aI eR w (aj (av gp #[.slice a.A T.rs.length a.c,.int .i64 k,.int .i64 k2,.slice L n1 lc,.slice M J mc,.int .i64 n1,.int .i64 J,.string { data:=#[] },.bool false] 186) (aj (av gr #[.slice none 0 0,.int .i64 0,.int .i64 0,.slice none 0 0,.slice none 0 0,.int .i64 0,.int .i64 0,.string { data:=#[] },.bool false] 186) (aj (av gt (kl T a) 25) (aj (gD M mc (gG k2 y).1) (gD L lc (gG k x).1))))) W->(fun w':World=>w'.cell? ⟨gp,0,none⟩=some (.slice a.A T.rs.length a.c)/\w'.cell? ⟨gp,1,none⟩=some (.int .i64 k)/\w'.cell? ⟨gp,2,none⟩=some (.int .i64 k2)/\w'.cell? ⟨gp,3,none⟩=some (.slice L n1 lc)/\w'.cell? ⟨gp,4,none⟩=some (.slice M J mc)/\w'.cell? ⟨gp,5,none⟩=some (.int .i64 n1)/\w'.cell? ⟨gp,6,none⟩=some (.int .i64 J)/\w'.cell? ⟨gp,7,none⟩=some (.string { data:=#[] })/\w'.cell? ⟨gp,8,none⟩=some (.bool false)/\(l4 w' gt (.slice a.A T.rs.length a.c) (.slice a.D T.ds.length a.d) (.slice a.E T.es.length a.e) (.int .i64 T.drop) (.int .i64 T.ord) (.int .i64 T.ini))) W:=fun W h=>by
  obtain⟨f1,aa⟩:=h.fst;obtain⟨f2,ab⟩:=h.drop.drop.fst;exact⟨ay aa rfl,ay aa rfl,ay aa rfl,ay aa rfl,ay aa rfl,ay aa rfl,ay aa rfl,ay aa rfl,ay aa rfl,ay ab rfl,ay ab rfl,ay ab rfl,ay ab rfl,ay ab rfl,ay ab rfl⟩
 have aA:∀ W,aI eR w (aj (av gr #[.slice a.A T.rs.length a.c,.int .i64 k,.int .i64 k2,.slice L n1 lc,.slice M J mc,.int .i64 n1,.int .i64 J,.string { data:=#[] },.bool false] 186) (aj (av gp #[.slice a.A T.rs.length a.c,.int .i64 k,.int .i64 k2,.slice L n1 lc,.slice M J mc,.int .i64 n1,.int .i64 J,.string { data:=#[] },.bool false] 186) (aj (av gt (kl T a) 25) (aj (gD M mc (gG k2 y).1) (gD L lc (gG k x).1))))) W->(fun w':World=>w'.cell? ⟨gp,0,none⟩=some (.slice a.A T.rs.length a.c)/\w'.cell? ⟨gp,1,none⟩=some (.int .i64 k)/\w'.cell? ⟨gp,2,none⟩=some (.int .i64 k2)/\w'.cell? ⟨gp,3,none⟩=some (.slice L n1 lc)/\w'.cell? ⟨gp,4,none⟩=some (.slice M J mc)/\w'.cell? ⟨gp,5,none⟩=some (.int .i64 n1)/\w'.cell? ⟨gp,6,none⟩=some (.int .i64 J)/\w'.cell? ⟨gp,7,none⟩=some (.string { data:=#[] })/\w'.cell? ⟨gp,8,none⟩=some (.bool false)/\(l4 w' gt (.slice a.A T.rs.length a.c) (.slice a.D T.ds.length a.d) (.slice a.E T.es.length a.e) (.int .i64 T.drop) (.int .i64 T.ord) (.int .i64 T.ini))) W:=fun W h=>by
  obtain⟨f1,aa⟩:=h.drop.fst;obtain⟨f2,ab⟩:=h.drop.drop.fst;exact⟨ay aa rfl,ay aa rfl,ay aa rfl,ay aa rfl,ay aa rfl,ay aa rfl,ay aa rfl,ay aa rfl,ay aa rfl,ay ab rfl,ay ab rfl,ay ab rfl,ay ab rfl,ay ab rfl,ay ab rfl⟩
 have ag:=au aA;clear aA;have ax:=au aD;clear aD;have H6:=au (H5.o.drew aE.o);have ae:=ax.o _ H6.o;clear H5;have ak:∀ (W:World) (b:Bool),okW T k x k2 y=b->aI eR w (aj (av gr #[.slice a.A T.rs.length a.c,.int .i64 k,.int .i64 k2,.slice L n1 lc,.slice M J mc,.int .i64 n1,.int .i64 J,.string { data:=#[] },.bool false] 186) (aj (av gp #[.slice a.A T.rs.length a.c,.int .i64 k,.int .i64 k2,.slice L n1 lc,.slice M J mc,.int .i64 n1,.int .i64 J,.string { data:=#[] },.bool false] 186) (aj (av gt (kl T a) 25) (aj (gD M mc (gG k2 y).1) (gD L lc (gG k x).1))))) W->PK a.A w T k x k2 y (.returned (.tuple #[.agg #[.slice a.A T.rs.length a.c,.int .i64 k,.int .i64 k2,.slice L n1 lc,.slice M J mc,.int .i64 n1,.int .i64 J,.string { data:=#[] },.bool false],.bool b])) W:=fun W b hb hr=>by
  have am:Below w.heap.size w W:=hr.mod.below (fun _ _ h=>h);obtain⟨F,⟨fm,fl,ao,aw,-,al⟩,hF⟩:=hr.drop.drop.drop.own;refine⟨⟨a.A,a.c,L,lc,M,mc⟩,?_,am,⟨HT.o.rs.below am,oN aw,oN ao⟩,?_,rfl,fun ad e=>?_,fun ad e=>?_⟩
  ·rw[hb,a1.o,a5.o];rfl
  ·exact⟨HT.o.lr,j8 (mh k x) eL,j8 (mh k2 y) eL,(vD aw.1).1,(vD ao.1).1,CW k x HX.o,CW k2 y HY.o,HT.o.sr⟩
  ·have e:L=some ad:=e;exact(hF ad.block ((al _).2 (.inr ((aw.2 _).2 (by rw[e];rfl))))).elim (fun h=>h.elim) id
  ·have e:M=some ad:=e;exact(hF ad.block ((al _).2 (.inl ((ao.2 _).2 (by rw[e];rfl))))).elim (fun h=>h.elim) id
 have af:=au ak;clear ak;cases fX:word k x with
 | false=>
  refine aP (fun w':World=>w'.cell? ⟨gp,0,none⟩=some (.slice a.A T.rs.length a.c)/\w'.cell? ⟨gp,1,none⟩=some (.int .i64 k)/\w'.cell? ⟨gp,2,none⟩=some (.int .i64 k2)/\w'.cell? ⟨gp,3,none⟩=some (.slice L n1 lc)/\w'.cell? ⟨gp,4,none⟩=some (.slice M J mc)/\w'.cell? ⟨gp,5,none⟩=some (.int .i64 n1)/\w'.cell? ⟨gp,6,none⟩=some (.int .i64 J)/\w'.cell? ⟨gp,7,none⟩=some (.string { data:=#[] })/\w'.cell? ⟨gp,8,none⟩=some (.bool false)/\(l4 w' gt (.slice a.A T.rs.length a.c) (.slice a.D T.ds.length a.d) (.slice a.E T.es.length a.e) (.int .i64 T.drop) (.int .i64 T.ord) (.int .i64 T.ini))) rfl eQ ae ?_;clear ae;generalize w4.drew=W at *
  obtain⟨fr,I⟩:=H6.o.drop.fst;have r0:=ay (i:=0) I rfl;have r1:=ay (i:=1) I rfl;have r2:=ay (i:=2) I rfl;have r3:=ay (i:=3) I rfl;have r4:=ay (i:=4) I rfl;have r5:=ay (i:=5) I rfl;have r6:=ay (i:=6) I rfl;have r7:=ay (i:=7) I rfl;have r8:=ay (i:=8) I rfl;have rf:=aN I;clear I
  (repeat(first|refine bM ?_|refine bN ?_))
  refine dG rfl gh (fun K hK=>?_);go_wp2_with fail;have H7:=au (CX (H6.o.kQ) aO (.slice a.A T.rs.length a.c) (.int .i64 k) (.int .i64 k2) (.slice L n1 lc) (.slice M J mc) (.int .i64 n1) (.int .i64 J) (.string { data:=#[] }) (.bool false));clear H6 r0 r1 r2 r3 r4 r5 r6 r7 r8 rf;generalize (((((((((W.setCell ⟨gr,0,none⟩ (.slice a.A T.rs.length a.c)).setCell ⟨gr,1,none⟩ (.int .i64 k)).setCell ⟨gr,2,none⟩ (.int .i64 k2)).setCell ⟨gr,3,none⟩ (.slice L n1 lc)).setCell ⟨gr,4,none⟩ (.slice M J mc)).setCell ⟨gr,5,none⟩ (.int .i64 n1)).setCell ⟨gr,6,none⟩ (.int .i64 J)).setCell ⟨gr,7,none⟩ (.string { data:=#[] })).setCell ⟨gr,8,none⟩ (.bool false))=W9 at *
  refine hK.o _ _ (ag.o _ H7.o) ?_;clear hK
  (repeat(first|refine bM ?_|refine bN ?_))
  refine lex_nil ?_;obtain⟨fr,I⟩:=H7.o.fst;have ac:=I.1;clear I;go_wp2_with fail;refine bodyPost_ret (cZ rfl _ _ gr 186 #[.slice a.A T.rs.length a.c,.int .i64 k,.int .i64 k2,.slice L n1 lc,.slice M J mc,.int .i64 n1,.int .i64 J,.string { data:=#[] },.bool false] (0,0) rfl ac Tryz.underlying186 eQ) rfl ?_;clear ac;exact af.o _ _ (by unfold okW;rw[fX];rfl) H7.o
 | true=>
  cases gE:word k2 y with
  | false=>
   refine aP (fun w':World=>w'.cell? ⟨gp,0,none⟩=some (.slice a.A T.rs.length a.c)/\w'.cell? ⟨gp,1,none⟩=some (.int .i64 k)/\w'.cell? ⟨gp,2,none⟩=some (.int .i64 k2)/\w'.cell? ⟨gp,3,none⟩=some (.slice L n1 lc)/\w'.cell? ⟨gp,4,none⟩=some (.slice M J mc)/\w'.cell? ⟨gp,5,none⟩=some (.int .i64 n1)/\w'.cell? ⟨gp,6,none⟩=some (.int .i64 J)/\w'.cell? ⟨gp,7,none⟩=some (.string { data:=#[] })/\w'.cell? ⟨gp,8,none⟩=some (.bool false)/\(l4 w' gt (.slice a.A T.rs.length a.c) (.slice a.D T.ds.length a.d) (.slice a.E T.es.length a.e) (.int .i64 T.drop) (.int .i64 T.ord) (.int .i64 T.ini))) rfl eQ ae ?_;clear ae;generalize w4.drew=W at *
   obtain⟨fr,I⟩:=H6.o.drop.fst;have r0:=ay (i:=0) I rfl;have r1:=ay (i:=1) I rfl;have r2:=ay (i:=2) I rfl;have r3:=ay (i:=3) I rfl;have r4:=ay (i:=4) I rfl;have r5:=ay (i:=5) I rfl;have r6:=ay (i:=6) I rfl;have r7:=ay (i:=7) I rfl;have r8:=ay (i:=8) I rfl;have rf:=aN I;clear I
   (repeat(first|refine bM ?_|refine bN ?_))
   refine dG rfl gh (fun K hK=>?_);go_wp2_with fail;have H7:=au (CX (H6.o.kQ) aO (.slice a.A T.rs.length a.c) (.int .i64 k) (.int .i64 k2) (.slice L n1 lc) (.slice M J mc) (.int .i64 n1) (.int .i64 J) (.string { data:=#[] }) (.bool false));clear H6 r0 r1 r2 r3 r4 r5 r6 r7 r8 rf;generalize (((((((((W.setCell ⟨gr,0,none⟩ (.slice a.A T.rs.length a.c)).setCell ⟨gr,1,none⟩ (.int .i64 k)).setCell ⟨gr,2,none⟩ (.int .i64 k2)).setCell ⟨gr,3,none⟩ (.slice L n1 lc)).setCell ⟨gr,4,none⟩ (.slice M J mc)).setCell ⟨gr,5,none⟩ (.int .i64 n1)).setCell ⟨gr,6,none⟩ (.int .i64 J)).setCell ⟨gr,7,none⟩ (.string { data:=#[] })).setCell ⟨gr,8,none⟩ (.bool false))=W9 at *
   refine hK.o _ _ (ag.o _ H7.o) ?_;clear hK
   (repeat(first|refine bM ?_|refine bN ?_))
   refine lex_nil ?_;obtain⟨fr,I⟩:=H7.o.fst;have ac:=I.1;clear I;go_wp2_with fail;refine bodyPost_ret (cZ rfl _ _ gr 186 #[.slice a.A T.rs.length a.c,.int .i64 k,.int .i64 k2,.slice L n1 lc,.slice M J mc,.int .i64 n1,.int .i64 J,.string { data:=#[] },.bool false] (0,0) rfl ac Tryz.underlying186 eQ) rfl ?_;clear ac;exact af.o _ _ (by unfold okW;rw[fX,gE];rfl) H7.o
  | true=>
   refine aP (fun w':World=>w'.cell? ⟨gp,0,none⟩=some (.slice a.A T.rs.length a.c)/\w'.cell? ⟨gp,1,none⟩=some (.int .i64 k)/\w'.cell? ⟨gp,2,none⟩=some (.int .i64 k2)/\w'.cell? ⟨gp,3,none⟩=some (.slice L n1 lc)/\w'.cell? ⟨gp,4,none⟩=some (.slice M J mc)/\w'.cell? ⟨gp,5,none⟩=some (.int .i64 n1)/\w'.cell? ⟨gp,6,none⟩=some (.int .i64 J)/\w'.cell? ⟨gp,7,none⟩=some (.string { data:=#[] })/\w'.cell? ⟨gp,8,none⟩=some (.bool false)/\(l4 w' gt (.slice a.A T.rs.length a.c) (.slice a.D T.ds.length a.d) (.slice a.E T.es.length a.e) (.int .i64 T.drop) (.int .i64 T.ord) (.int .i64 T.ini))) rfl eQ ae ?_;clear ae;generalize w4.drew=W at *
   have KV:=au (mg (HT.o.below (a3.o _ _ H6.o)) (ar.o _ _ H6.o));unfold dI dN at KV;obtain⟨fr,I⟩:=H6.o.drop.fst;have r0:=ay (i:=0) I rfl;have r1:=ay (i:=1) I rfl;have r2:=ay (i:=2) I rfl;have r3:=ay (i:=3) I rfl;have r4:=ay (i:=4) I rfl;have r5:=ay (i:=5) I rfl;have r6:=ay (i:=6) I rfl;have r7:=ay (i:=7) I rfl;have r8:=ay (i:=8) I rfl;have rf:=aN I;clear I
   (repeat(first|refine bM ?_|refine bN ?_))
   refine dG rfl gh (fun K hK=>?_);go_wp2_with fail;refine KV.o.mono ?_;rintro e9 w6 ⟨rfl,hb⟩;have ai:=au (H6.o.below aE.o hb);clear KV H6 hb r0 r1 r2 r3 r4 r5 r6 r7 r8 rf;dsimp only;refine hK.o _ _ (ax.o _ ai.o) ?_;clear hK;obtain⟨fr,I⟩:=ai.o.drop.fst;have r0:=ay (i:=0) I rfl;have r1:=ay (i:=1) I rfl;have r2:=ay (i:=2) I rfl;have r3:=ay (i:=3) I rfl;have r4:=ay (i:=4) I rfl;have r5:=ay (i:=5) I rfl;have r6:=ay (i:=6) I rfl;have r7:=ay (i:=7) I rfl;have r8:=ay (i:=8) I rfl;have rf:=aN I;clear I
   (repeat(first|refine bM ?_|refine bN ?_))
   refine dG rfl gh (fun K hK=>?_);go_wp2_with fail;have H7:=au (CX (ai.o.kQ) aO (.slice a.A T.rs.length a.c) (.int .i64 k) (.int .i64 k2) (.slice L n1 lc) (.slice M J mc) (.int .i64 n1) (.int .i64 J) (.string { data:=#[] }) (.bool false));clear ai r0 r1 r2 r3 r4 r5 r6 r7 r8 rf;generalize (((((((((w6.setCell ⟨gr,0,none⟩ (.slice a.A T.rs.length a.c)).setCell ⟨gr,1,none⟩ (.int .i64 k)).setCell ⟨gr,2,none⟩ (.int .i64 k2)).setCell ⟨gr,3,none⟩ (.slice L n1 lc)).setCell ⟨gr,4,none⟩ (.slice M J mc)).setCell ⟨gr,5,none⟩ (.int .i64 n1)).setCell ⟨gr,6,none⟩ (.int .i64 J)).setCell ⟨gr,7,none⟩ (.string { data:=#[] })).setCell ⟨gr,8,none⟩ (.bool false))=W9 at *
   refine hK.o _ _ (ag.o _ H7.o) ?_;clear hK
   (repeat(first|refine bM ?_|refine bN ?_))
   refine lex_nil ?_;obtain⟨fr,I⟩:=H7.o.fst;have ac:=I.1;clear I;go_wp2_with fail;refine bodyPost_ret (cZ rfl _ _ gr 186 #[.slice a.A T.rs.length a.c,.int .i64 k,.int .i64 k2,.slice L n1 lc,.slice M J mc,.int .i64 n1,.int .i64 J,.string { data:=#[] },.bool false] (0,0) rfl ac Tryz.underlying186 eQ) rfl ?_;clear ac;exact af.o _ _ (by unfold okW;rw[fX,gE];rfl) H7.o
variable{W:World}
theorem og{cs:Array Value}(h:∀ u ∈ cs.toList,u.oneCell'=true):Src (W.alloc (.cells cs t)) (some ⟨W.heap.size,0,none⟩) 1 cs.size cs.toList:=by
 refine⟨by simp,h,fun _=>⟨_,rfl,fun j u I=>?_⟩⟩;rw[ub] at I;have e:(⟨W.heap.size,0,none⟩:Addr).add j=⟨W.heap.size,j,none⟩:=by unfold Addr.add;split<;>simp_all
 rw[e];simp only[World.cell?,heap_alloc_new W _];rw[I];rfl
theorem CZ{α:Type}:∀ {l:List α} {i:Nat} (h:i<l.length),(l[i]::l.eraseIdx i).Perm l
 | _::_,0,_=>.refl _
 | x::l,i+1,h=>(List.Perm.swap ..).trans ((CZ (l:=l) (by simpa using h)).cons x)
def uU(n:aR)(A:eV)(c:Nat):Value:=.agg (ff n.k A n.ws.length c)
variable{n:aR}
theorem UG(hi:i<n.ws.length)(h:¬ word n.k n.ws[i]=true):eY n=false:=by
 unfold eY
 rw[show n.ws.all (word n.k)=false from by
  rw[List.all_eq_false]
  exact⟨n.ws[i],gw hi,h⟩]
 rfl
theorem Ng(hi:i<n.ws.length)(ha:∀ x ∈ n.ws.take i,word n.k x=true)(h:word n.k n.ws[i]=true):∀ x ∈ n.ws.take (i+1),word n.k x=true:=by
 intro x hx;rw[kq hi] at hx;rcases List.mem_append.1 hx with hx|hx
 ·exact ha x hx
 ·rw[List.mem_singleton.1 hx];exact h
theorem RI(ha:∀ x ∈ n.ws,word n.k x=true):eY n=(decide (0<n.ws.length)&&decide (n.ws.length<=6)):=by
 unfold eY;rw[show n.ws.all (word n.k)=true from List.all_eq_true.2 ha];rfl
theorem jL(hA:fu w A n.ws)(hl:n.ws.length<=1000000)(hw:∀ x ∈ n.ws,x.length<=1000000)(hz:LZ w):
  Calls Tryz.prog 39 #[uU n A c] w (aT w (.bool (eY n))):=by
 have HZ:=au hz;have HA:=au hA;have HW:=au hw;have HL:=au (fun (k:Int) (x:Bs) (W:World) (hx:x.length<=1000000) (hz:LZ W)=>Fu k (bs x) W (by rw[cO];exact hx) hz);have h0:(w.alloc (.cells (ff n.k A n.ws.length c) 28)).cell? ⟨w.heap.size,0,none⟩=some (.int .i64 n.k):=ay (dU w (ff n.k A n.ws.length c) 28).choose_spec.1 rfl;have h1:(w.alloc (.cells (ff n.k A n.ws.length c) 28)).cell? ⟨w.heap.size,1,none⟩=some (.slice A n.ws.length c):=ay (dU w (ff n.k A n.ws.length c) 28).choose_spec.1 rfl;have fX:Below w.heap.size w (w.alloc (.cells (ff n.k A n.ws.length c) 28)):=(fe _ w).alloc (fL _) _;have I:=au fX
 have ad:=au (fun W (J:Below (w.alloc (.cells (ff n.k A n.ws.length c) 28)).heap.size (w.alloc (.cells (ff n.k A n.ws.length c) 28)) W)=>show (mz W w.heap.size (.int .i64 n.k) (.slice A n.ws.length c)) from
  ⟨by rw[J.cell (py _ _ h0)];exact h0,by rw[J.cell (py _ _ h1)];exact h1⟩)
 obtain⟨N,hN⟩:∃ N,N=n.ws.length:=⟨_,rfl⟩;have HN:=au hN;rw[<-hN] at hl;unfold uU;rw[<-hN] at h0 h1 ad I ⊢;clear hA hw hz fX hN
 go_enter Tryz.func39,Tryz.ntmps39
 go_wp2;generalize w.alloc (.cells (ff n.k A N c) 28)=w1 at *
 go_loopw [10] (fun i wr=>∃ k:Nat,k<=N/\i=.int .i64 k/\(∀ x ∈ n.ws.take k,word n.k x=true)/\Below w1.heap.size w1 wr) (fun i _=>N-(intOf i).toNat)
 case atStart=>exact⟨0,fy _,rfl,by simp,fe _ _⟩
 case round=>
  obtain⟨k,hk,rfl,ht,J⟩:=hrel;have HT:=au ht;have HB:=au J;obtain⟨d0,d1⟩:=ad.o _ J;clear ht J h0 h1;by_cases ae:k<N
  ·have M:k<n.ws.length:=by rw[<-HN.o];exact ae
   obtain⟨b,o,rfl,hc⟩:=HA.o.at eL;have ck:=hc _ (aC I.o HB.o) k M;have KL:=au (HL.o n.k n.ws[k] wr (HW.o _ (gw M)) (HZ.o.below (aC I.o HB.o)));rw[iQ] at KL;have ac:=au (UG M);have aa:=au (Ng M HT.o);generalize n.ws[k]=x at *
   clear hc M;by_cases h:word n.k x=true
   ·have e1:bC n.k x=((aQ n.k x).1,0):=by unfold bC;rw[if_pos h]
    have HS:=au (aa.o h);unfold JH at KL;simp only[e1] at KL;clear e1 ac aa h;go_wp2_with fail;refine KL.o.mono ?_;rintro e9 w2 ⟨A2,c2,rfl,J,-⟩;have ab:=au (aC HB.o J);clear KL HB J;dsimp only;go_wp2
    go_roundw
    case rel=>exact⟨k+1,by omega,by go_num,HS.o,ab.o⟩
    case measure=>simp[intOf];omega
   ·have e1:bC n.k x=([],1):=by unfold bC;rw[if_neg h]
    have HF:=au (ac.o h);unfold JH at KL;simp only[e1] at KL;clear e1 ac aa h;go_wp2_with fail;refine KL.o.mono ?_;rintro e9 w2 ⟨A2,c2,rfl,J,-⟩;have ab:=au (aC HB.o J);clear KL HB J;dsimp only;go_wp2;go_ret;exact aK HF.o (aC I.o ab.o)
  ·obtain rfl:k=N:=by omega
   have HF:=au (RI (n:=n) (by have:=HT.o;rw[HN.o,kz] at this;exact this));rw[<-HN.o] at HF;clear HT;by_cases h0:(0:Int)<(k:Int)
   ·have hd:(decide (0<k)&&decide (k<=6))=decide ((k:Int)<=6):=by
     rw[decide_eq_true (show 0<k by omega),lx];exact decide_eq_decide.2 eL
    rw[hd] at HF;go_wp2;go_ret;exact aK HF.o (aC I.o HB.o)
   ·have hd:(decide (0<k)&&decide (k<=6))=false:=by
     rw[decide_eq_false (show ¬ 0<k by omega),qq]
    rw[hd] at HF;go_wp2;go_ret;exact aK HF.o (aC I.o HB.o)
end Go.Proofs.YtbioiclabmbedaaGreatDoor
