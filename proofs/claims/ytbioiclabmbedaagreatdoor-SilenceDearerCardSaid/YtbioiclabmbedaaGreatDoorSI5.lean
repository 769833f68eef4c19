/- A part of the proof: lemmas. -/
import Derived.Test.YtbioiclabmbedaaGreatDoorSI2
import Derived.Test.YtbioiclabmbedaaGreatDoorSI4
import Derived.OwnWalkIn
import Derived.TacticsInMore
import Derived.LoopNIn
import Derived.LoopIn
import Derived.Shelf.Strings.SlTrimAscii
set_option maxHeartbeats 16000000
set_option maxRecDepth 100000
set_option linter.all false
namespace Go.Proofs.YtbioiclabmbedaaGreatDoor
open Go.RowKit Go.CH Go.CH.Scr
open Go.ChangeMaps (setBlock)
def aS (w:World) (v:Value) (e:Ending) (w':World):Prop:=e=.returned v/\Below w.heap.size w w'
def Quiet (w:World) (v:Value) (e:Ending) (w':World):Prop:=e=.returned v/\w=w'
abbrev bl (s:ByteArray):Bs:=s.data.toList
def bs (l:Bs):ByteArray:=⟨l.toArray⟩
theorem iM (l:Bs):bl (bs l)=l:=rfl
theorem sQ (s:ByteArray):bs (bl s)=s:=by cases s;rfl
theorem qg (s:ByteArray):(bl s).length=s.size:=by cases s;rfl
theorem cu (l:Bs):(bs l).size=l.length:=by cases l;rfl;rfl
theorem T9 {a b:Bs} (h:bs a=bs b):a=b:=by have:=congrArg bl h;exact this
theorem MV {a b:ByteArray} (h:bl a=bl b):a=b:=by rw[<-sQ a,<-sQ b,h]
theorem O2 (s:ByteArray) (i:Nat) (h:i<s.size):(bl s)[i]?=some s[i]:=Lib.data_getElem? s i h
theorem US (s:ByteArray) (i:Nat) (h:¬ i<s.size):(bl s)[i]?=none:=pN (by rw[qg];omega)
variable {w:World}
theorem jB  {a b:Bool} (h:a=b):Quiet w (.bool b) (.returned (.bool a)) w:=⟨by rw[h],rfl⟩
theorem Ew (S:Bs) (x:UInt8):decide (0<=Lib.indexByte S x)=has S (some x):=(Lib.contains_iff_indexByte S x).symm
theorem YI (x:UInt8):((x.toNat:Int)).toNat.toUInt8=x:=by simp
theorem sV (s S:ByteArray) (i:Nat) (w:World) (hs:s.size<=maxLen) :
  Calls Tryz.prog 143 #[.string s,.int .i64 (i:Int),.string S] w (Quiet w (.bool (has (bl S) (bl s)[i]?))):=by
 by_cases h:i<s.size
 ·rw[O2 s i h];obtain⟨x,hx⟩:∃ x:UInt8,s[i]=x:=⟨_,rfl⟩;rw[hx];have I:=au (Tryz.strings_IndexByte S (x.toNat:Int) w);rw[YI] at I;have M:=au (Ew (bl S) x);generalize has (bl S) (some x)=r at *
  have J:=x.toNat_lt;have hi:(i:Int)<(s.size:Int):=by omega
  go_enter Tryz.func143,Tryz.ntmps143
  generalize Lib.indexByte (bl S) x=ix at *
  go_wp2_with fail;refine I.o.mono ?_;rintro e9 w9 ⟨rfl,rfl⟩;clear I;go_wp2;go_ret;exact jB M.o
 ·rw[US s i h];have hi:¬ (i:Int)<(s.size:Int):=by omega
  go_enter Tryz.func143,Tryz.ntmps143
  go_wp2;go_ret;exact jB rfl
structure LZ (w:World):Prop where
 c:Lib.CaseVar 1 Lib.caseA w
 t:Lib.Utf8Tabs 2 3 w
 m:∃ m,w.cell? ⟨0,0,none⟩=some (.int .i64 m)
variable {w':World}{k:Int}{l:Bs}
theorem LZ.below  (h:LZ w) (hb:Below w.heap.size w w'):LZ w':=⟨Lib.CaseVar_below h.c hb,Utf8Tabs_below h.t hb,h.m.imp fun _ h=>by rw[hb.cell (py _ _ h)];exact h⟩
theorem wZ (k:Int) (l:Bs):fR k l =
  if k=1 then(if has bS l[0]? then 1 else 0)
  else if k=2 then(if has bS (l[0]?.map low) then(if has tH l[1]? then 2 else 1) else 0)
  else if k=3 then(if has Jw l[0]? then 1 else 0)
  else if k=4 then(if has Jy l[0]?&&has vJ l[1]? then 2 else if has vJ l[0]?||has [110] l[0]? then 1 else 0)
  else 0:=by
 cases l with
 | nil=>simp[fR,has]
 | cons a t=>
  show mM k a t.head?=_
  have e:t.head?=(a::t)[1]?:=by cases t<;>rfl
  rw[e];rfl
theorem YJ (l:Bs):fR 1 l=if has bS l[0]?=true then 1 else 0:=by rw[wZ];rfl
theorem YK (l:Bs):fR 2 l=if has bS (l[0]?.map low)=true then(if has tH l[1]?=true then 2 else 1) else 0:=by rw[wZ];rfl
theorem YL (l:Bs):fR 3 l=if has Jw l[0]?=true then 1 else 0:=by rw[wZ];rfl
theorem YM (l:Bs):fR 4 l=if(has Jy l[0]?&&has vJ l[1]?)=true then 2 else if(has vJ l[0]?||has [110] l[0]?)=true then 1 else 0:=by rw[wZ];rfl
theorem YN  (l:Bs) (h1:¬ k=1) (h2:¬ k=2) (h3:¬ k=3) (h4:¬ k=4):fR k l=0:=by rw[wZ,if_neg h1,if_neg h2,if_neg h3,if_neg h4]
theorem YO (c:UInt8):Lib.lowerB c=low c:=by
 have key:∀ n:Fin 256,Lib.lowerB (UInt8.ofNat n.val)=low (UInt8.ofNat n.val):=by decide +kernel
 have:=key ⟨c.toNat,c.toNat_lt⟩;simpa using this
theorem sZ (l:Bs):Lib.toLowerA l=lower l:=nt fun c _=>YO c
theorem decode_high (c:UInt8) (h:128<=c.toNat):Lib.decodeL [c]=(65533,1):=by
 have key:∀ n:Fin 256,128<=n.val->Lib.decodeL [UInt8.ofNat n.val]=(65533,1):=by decide +kernel
 have:=key ⟨c.toNat,c.toNat_lt⟩ h;simpa using this
theorem EW:Lib.toLowerU 65533=65533:=by decide +kernel
theorem Ck:Lib.encodeRune 65533=[239,191,189]:=by decide +kernel
theorem Jq (c:UInt8) (h:128<=c.toNat):has bS (some (low c))=false:=by
 have key:∀ n:Fin 256,128<=n.val->has bS (some (low (UInt8.ofNat n.val)))=false:=by decide +kernel
 have:=key ⟨c.toNat,c.toNat_lt⟩ h;simpa using this
theorem Rb (l:Bs) (I:l.length<=1):has bS (Lib.toLowerD l)[0]?=has bS (l[0]?.map low):=by
 match l,I with
 | [],_=>rfl
 | [c],_=>
  by_cases h:c.toNat<128
  ·rw[Lib.toLowerD_ascii [c] (fun b J=>by rw[List.mem_singleton.1 J];exact h),sZ];rfl
  ·show has bS (Lib.mapD Lib.toLowerU [c])[0]?=has bS (some (low c))
   rw[Jq c eL,Lib.mapD_step _ _ iz,decode_high c eL];rw[show(((65533,1):Nat × Nat).1:Int)=65533 from rfl,EW,if_pos eS,Ck];rfl
theorem YP (l:Bs) (I:l.length<=1):(Lib.toLowerD l).length<=10:=by
 match l,I with
 | [],_=>decide
 | [c],_=>
  by_cases h:c.toNat<128
  ·rw[Lib.toLowerD_ascii [c] (fun b J=>by rw[List.mem_singleton.1 J];exact h),sZ];simp[lower]
  ·show(Lib.mapD Lib.toLowerU [c]).length<=10
   rw[Lib.mapD_step _ _ iz,decode_high c eL];rw[show(((65533,1):Nat × Nat).1:Int)=65533 from rfl,EW,if_pos eS,Ck];simp[Lib.mapD,Lib.mapGoD]
theorem vU (s:ByteArray) (a b:Nat):bl (s.extract a b)=((bl s).take b).drop a:=by
 simp[bl,ByteArray.data_extract,List.drop_take]
def Cm (w:World) (k:Int) (l:Bs) (e:Ending) (w':World):Prop:=e=.returned (.int .i64 (fR k l:Nat))/\Below w.heap.size w w'
theorem qD    (h:fR k l=0) (hb:Below w.heap.size w w'):Cm w k l (.returned (.int .i64 0)) w':=⟨by rw[h];rfl,hb⟩
theorem oD    (h:fR k l=1) (hb:Below w.heap.size w w'):Cm w k l (.returned (.int .i64 1)) w':=⟨by rw[h];rfl,hb⟩
theorem Jr    (h:fR k l=2) (hb:Below w.heap.size w w'):Cm w k l (.returned (.int .i64 2)) w':=⟨by rw[h];rfl,hb⟩
theorem MW (k:Int) (s:ByteArray) (w:World) (hs:s.size<=1000000) (hz:LZ w) :
  Calls Tryz.prog 111 #[.int .i64 k,.string s] w (Cm w k (bl s)):=by
 have ab:s.size<=maxLen:=by unfold maxLen;omega
 have HZ:=au hz;clear hz;by_cases hk:k=1
 ·subst hk;have J:=au (YJ (bl s));have M:=au (show Calls Tryz.prog 143 #[.string s,.int .i64 0,.string ⟨#[97,98,99,100,101,102,103,104,105,106,107,108,109,110,111,112,113,114,115,116,117,118,119,120,121,122]⟩] w (Quiet w (.bool (has bS (bl s)[0]?))) from sV s _ 0 w ab);cases h:has bS (bl s)[0]? with
  | false=>
   have HL:=au (show fR 1 (bl s)=0 by rw[J.o,h];rfl);rw[h] at M;clear h J
   go_enter Tryz.func111,Tryz.ntmps111
   go_wp2_with fail;refine M.o.mono ?_;rintro I w9 ⟨rfl,rfl⟩;clear M;go_wp2;go_ret;exact qD HL.o (fe _ _)
  | true=>
   have HL:=au (show fR 1 (bl s)=1 by rw[J.o,h];rfl);rw[h] at M;clear h J
   go_enter Tryz.func111,Tryz.ntmps111
   go_wp2_with fail;refine M.o.mono ?_;rintro I w9 ⟨rfl,rfl⟩;clear M;go_wp2;go_ret;exact oD HL.o (fe _ _)
 have ak:=hk;clear hk;by_cases hk:k=2
 ·subst hk;have J:=au (YK (bl s));have K3:=au (show ∀ W:World,Calls Tryz.prog 143 #[.string s,.int .i64 1,.string ⟨#[39,96,94]⟩] W (Quiet W (.bool (has tH (bl s)[1]?))) from fun W=>sV s _ 1 W ab);have an:=au (fun (x:ByteArray) (hx:x.size<=1)=>Tryz.strings_ToLower_any x w eL HZ.o.c HZ.o.t);have am:=au (fun (x:ByteArray) (W:World) (hx:x.size<=10)=>show Calls Tryz.prog 143 #[.string x,.int .i64 0,.string ⟨#[97,98,99,100,101,102,103,104,105,106,107,108,109,110,111,112,113,114,115,116,117,118,119,120,121,122]⟩] W (Quiet W (.bool (has bS (bl x)[0]?))) from sV x _ 0 W (by unfold maxLen;omega));obtain⟨x,hx⟩:∃ x,x=s.extract 0 (min 1 (s.size:Int)).toNat:=⟨_,rfl⟩;have ad:(bl x).length<=1/\(bl x)[0]?=(bl s)[0]?:=by
   have h:bl x=(bl s).take 1:=by
    rw[hx,vU,xF];have h2:=qg s;by_cases h0:s.size=0
    ·have e0:bl s=[]:=sC eL;rw[e0];simp
    ·rw[show(min 1 (s.size:Int)).toNat=1 by omega]
   rw[h];refine⟨by rw[kt];omega,?_⟩;cases bl s<;>rfl
  have ao:x.size<=1:=by rw[<-qg];exact ad.1
  have ap:(Lib.toLowerD (bl x)).length<=10:=YP _ ad.1;have al:=Rb (bl x) ad.1;rw[ad.2] at al;have ae:=an.o x ao;have ac:=fun W=>am.o (bs (Lib.toLowerD (bl x))) W (by rw[cu];exact ap);simp only[iM] at ac;rw[al] at ac;unfold bs at ac;generalize Lib.toLowerD (bl x)=y at ae ac;rw[hx] at ae;have KT:=au ae;have KI:=au ac;clear an am ad ao ap al hx ae ac;cases h:has bS ((bl s)[0]?.map low) with
  | false=>
   have HL:=au (show fR 2 (bl s)=0 by rw[J.o,h];rfl);rw[h] at KI;clear h J K3
   go_enter Tryz.func111,Tryz.ntmps111
   go_wp2_with fail;refine KT.o.mono ?_;rintro I w1 ⟨rfl,hb⟩;have HB:=au hb;have aa:=au (KI.o w1);clear KT hb KI;go_wp2_with fail;refine aa.o.mono ?_;rintro I w9 ⟨rfl,rfl⟩;clear aa;go_wp2;go_ret;exact qD HL.o HB.o
  | true=>
   rw[h] at KI;cases h2:has tH (bl s)[1]? with
   | false=>
    have HL:=au (show fR 2 (bl s)=1 by rw[J.o,h,h2];rfl);rw[h2] at K3;clear h h2 J
    go_enter Tryz.func111,Tryz.ntmps111
    go_wp2_with fail;refine KT.o.mono ?_;rintro I w1 ⟨rfl,hb⟩;have HB:=au hb;have aa:=au (KI.o w1);have K4:=au (K3.o w1);clear KT hb KI K3;go_wp2_with fail;refine aa.o.mono ?_;rintro I w9 ⟨rfl,rfl⟩;clear aa;go_wp2_with fail;refine K4.o.mono ?_;rintro I w9 ⟨rfl,rfl⟩;clear K4;go_wp2;go_ret;exact oD HL.o HB.o
   | true=>
    have HL:=au (show fR 2 (bl s)=2 by rw[J.o,h,h2];rfl);rw[h2] at K3;clear h h2 J
    go_enter Tryz.func111,Tryz.ntmps111
    go_wp2_with fail;refine KT.o.mono ?_;rintro I w1 ⟨rfl,hb⟩;have HB:=au hb;have aa:=au (KI.o w1);have K4:=au (K3.o w1);clear KT hb KI K3;go_wp2_with fail;refine aa.o.mono ?_;rintro I w9 ⟨rfl,rfl⟩;clear aa;go_wp2_with fail;refine K4.o.mono ?_;rintro I w9 ⟨rfl,rfl⟩;clear K4;go_wp2;go_ret;exact Jr HL.o HB.o
 have af:=hk;clear hk;by_cases hk:k=3
 ·subst hk;have J:=au (YL (bl s));have M:=au (show Calls Tryz.prog 143 #[.string s,.int .i64 0,.string ⟨#[98,100,102,103,104,106,107,108,109,110,112,113,114,115,116,119,120,121,122,39]⟩] w (Quiet w (.bool (has Jw (bl s)[0]?))) from sV s _ 0 w ab);cases h:has Jw (bl s)[0]? with
  | false=>
   have HL:=au (show fR 3 (bl s)=0 by rw[J.o,h];rfl);rw[h] at M;clear h J
   go_enter Tryz.func111,Tryz.ntmps111
   go_wp2_with fail;refine M.o.mono ?_;rintro I w9 ⟨rfl,rfl⟩;clear M;go_wp2;go_ret;exact qD HL.o (fe _ _)
  | true=>
   have HL:=au (show fR 3 (bl s)=1 by rw[J.o,h];rfl);rw[h] at M;clear h J
   go_enter Tryz.func111,Tryz.ntmps111
   go_wp2_with fail;refine M.o.mono ?_;rintro I w9 ⟨rfl,rfl⟩;clear M;go_wp2;go_ret;exact oD HL.o (fe _ _)
 have ag:=hk;clear hk;by_cases hk:k=4
 ·subst hk;have J:=au (YM (bl s));have M:=au (show Calls Tryz.prog 143 #[.string s,.int .i64 0,.string ⟨#[107,115,116,110,104,109,121,114,119,103,122,100,98,112]⟩] w (Quiet w (.bool (has Jy (bl s)[0]?))) from sV s _ 0 w ab);have K2:=au (show Calls Tryz.prog 143 #[.string s,.int .i64 1,.string ⟨#[97,105,117,101,111]⟩] w (Quiet w (.bool (has vJ (bl s)[1]?))) from sV s _ 1 w ab);have K3:=au (show Calls Tryz.prog 143 #[.string s,.int .i64 0,.string ⟨#[97,105,117,101,111]⟩] w (Quiet w (.bool (has vJ (bl s)[0]?))) from sV s _ 0 w ab);have K4:=au (show Calls Tryz.prog 143 #[.string s,.int .i64 0,.string ⟨#[110]⟩] w (Quiet w (.bool (has [110] (bl s)[0]?))) from sV s _ 0 w ab);cases h:has Jy (bl s)[0]? with
  | false=>
   rw[h] at M;cases h3:has vJ (bl s)[0]? with
   | false=>
    rw[h3] at K3;cases h4:has [110] (bl s)[0]? with
    | false=>
     have HL:=au (show fR 4 (bl s)=0 by rw[J.o,h,h3,h4];rfl);rw[h4] at K4;clear J h h3 h4
     go_enter Tryz.func111,Tryz.ntmps111
     go_wp2_with fail;refine M.o.mono ?_;rintro I w9 ⟨rfl,rfl⟩;clear M;clear K2;go_wp2_with fail;refine K3.o.mono ?_;rintro I w9 ⟨rfl,rfl⟩;clear K3;go_wp2_with fail;refine K4.o.mono ?_;rintro I w9 ⟨rfl,rfl⟩;clear K4;go_wp2;go_ret;exact qD HL.o (fe _ _)
    | true=>
     have HL:=au (show fR 4 (bl s)=1 by rw[J.o,h,h3,h4];rfl);rw[h4] at K4;clear J h h3 h4
     go_enter Tryz.func111,Tryz.ntmps111
     go_wp2_with fail;refine M.o.mono ?_;rintro I w9 ⟨rfl,rfl⟩;clear M;clear K2;go_wp2_with fail;refine K3.o.mono ?_;rintro I w9 ⟨rfl,rfl⟩;clear K3;go_wp2_with fail;refine K4.o.mono ?_;rintro I w9 ⟨rfl,rfl⟩;clear K4;go_wp2;go_ret;exact oD HL.o (fe _ _)
   | true=>
    rw[h3] at K3;have HL:=au (show fR 4 (bl s)=1 by rw[J.o,h,h3];rfl);clear J h h3 K4
    go_enter Tryz.func111,Tryz.ntmps111
    go_wp2_with fail;refine M.o.mono ?_;rintro I w9 ⟨rfl,rfl⟩;clear M;clear K2;go_wp2_with fail;refine K3.o.mono ?_;rintro I w9 ⟨rfl,rfl⟩;clear K3;go_wp2;go_ret;exact oD HL.o (fe _ _)
  | true=>
   rw[h] at M;cases h2:has vJ (bl s)[1]? with
   | false=>
    rw[h2] at K2;cases h3:has vJ (bl s)[0]? with
    | false=>
     rw[h3] at K3;cases h4:has [110] (bl s)[0]? with
     | false=>
      have HL:=au (show fR 4 (bl s)=0 by rw[J.o,h,h2,h3,h4];rfl);rw[h4] at K4;clear J h h3 h4 h2
      go_enter Tryz.func111,Tryz.ntmps111
      go_wp2_with fail;refine M.o.mono ?_;rintro I w9 ⟨rfl,rfl⟩;clear M;go_wp2_with fail;refine K2.o.mono ?_;rintro I w9 ⟨rfl,rfl⟩;clear K2;go_wp2_with fail;refine K3.o.mono ?_;rintro I w9 ⟨rfl,rfl⟩;clear K3;go_wp2_with fail;refine K4.o.mono ?_;rintro I w9 ⟨rfl,rfl⟩;clear K4;go_wp2;go_ret;exact qD HL.o (fe _ _)
     | true=>
      have HL:=au (show fR 4 (bl s)=1 by rw[J.o,h,h2,h3,h4];rfl);rw[h4] at K4;clear J h h3 h4 h2
      go_enter Tryz.func111,Tryz.ntmps111
      go_wp2_with fail;refine M.o.mono ?_;rintro I w9 ⟨rfl,rfl⟩;clear M;go_wp2_with fail;refine K2.o.mono ?_;rintro I w9 ⟨rfl,rfl⟩;clear K2;go_wp2_with fail;refine K3.o.mono ?_;rintro I w9 ⟨rfl,rfl⟩;clear K3;go_wp2_with fail;refine K4.o.mono ?_;rintro I w9 ⟨rfl,rfl⟩;clear K4;go_wp2;go_ret;exact oD HL.o (fe _ _)
    | true=>
     rw[h3] at K3;have HL:=au (show fR 4 (bl s)=1 by rw[J.o,h,h2,h3];rfl);clear J h h3 K4 h2
     go_enter Tryz.func111,Tryz.ntmps111
     go_wp2_with fail;refine M.o.mono ?_;rintro I w9 ⟨rfl,rfl⟩;clear M;go_wp2_with fail;refine K2.o.mono ?_;rintro I w9 ⟨rfl,rfl⟩;clear K2;go_wp2_with fail;refine K3.o.mono ?_;rintro I w9 ⟨rfl,rfl⟩;clear K3;go_wp2;go_ret;exact oD HL.o (fe _ _)
   | true=>
    have HL:=au (show fR 4 (bl s)=2 by rw[J.o,h,h2];rfl);rw[h2] at K2;clear J h h2 K3 K4
    go_enter Tryz.func111,Tryz.ntmps111
    go_wp2_with fail;refine M.o.mono ?_;rintro I w9 ⟨rfl,rfl⟩;clear M;go_wp2_with fail;refine K2.o.mono ?_;rintro I w9 ⟨rfl,rfl⟩;clear K2;go_wp2;go_ret;exact Jr HL.o (fe _ _)
 have ai:=hk;clear hk;have HL:=au (show fR k (bl s)=0 from YN _ ak af ag ai);have t1:(k==1)=false:=by simpa using ak
 have t2:(k==2)=false:=by simpa using af
 have t3:(k==3)=false:=by simpa using ag
 have t4:(k==4)=false:=by simpa using ai
 clear ak af ag ai
 go_enter Tryz.func111,Tryz.ntmps111
 go_wp2;go_ret;exact qD HL.o (fe _ _)
theorem aF {w'':World} (h:Below w.heap.size w w') (h':Below w'.heap.size w' w''):Below w.heap.size w w'':=h.trans (h'.mono h.size)
theorem aK  {a b:Bool} (h:b=a) (hb:Below w.heap.size w w'):aS w (.bool b) (.returned (.bool a)) w':=⟨by rw[h],hb⟩
def iP (k:Int):Nat->Bs->Bs
 | 0,l=>l
 | i+1,l=>(iP k i l).drop (fR k (iP k i l))
theorem Js (k:Int) (l:Bs):∀ i,i<=(aP k l).1.length->aP k (iP k i l)=((aP k l).1.drop i,(aP k l).2):=by
 intro i
 induction i with
 | zero=>intro _;rfl
 | succ i ih=>
  intro hi;have h:=ih eL;have hd:(aP k l).1.drop i=(aP k l).1[i]::(aP k l).1.drop (i+1):=rK eL;have hn:fR k (iP k i l)≠0:=fun M=>by
   rw[fK M,hd] at h;cases h
  rw[gP hn,hd] at h
  show aP k ((iP k i l).drop (fR k (iP k i l)))=_
  have J:=congrArg Prod.fst h;have I:=congrArg Prod.snd h;simp only[List.cons.injEq] at J I;exact Prod.ext J.2 I
variable {i b1 b2:Nat}{F0:Nat->Prop}{w0 W:World}{X:Go.CH.aT}
theorem Ua    (hi:i<(aP k l).1.length):fR k (iP k i l)≠0/\(aP k l).1[i]=(iP k i l).take (fR k (iP k i l)):=by
 have h:=Js k l i eL;have hd:(aP k l).1.drop i=(aP k l).1[i]::(aP k l).1.drop (i+1):=rK eL;have hn:fR k (iP k i l)≠0:=fun J=>by
  rw[fK J,hd] at h;cases h
 refine⟨hn,?_⟩;rw[gP hn,hd] at h;have I:=congrArg Prod.fst h;simp only[List.cons.injEq] at I;exact I.1.symm
theorem OY (k:Int) (l:Bs):fR k (iP k (aP k l).1.length l)=0/\iP k (aP k l).1.length l=(aP k l).2:=by
 have h:=Js k l _ (fy _);rw[ui] at h;have hn:fR k (iP k (aP k l).1.length l)=0:=by
  refine E4 fun hn=>?_;rw[gP hn] at h;cases h
 refine⟨hn,?_⟩;rw[fK hn] at h;exact congrArg Prod.snd h
theorem Ub (k:Int) (l:Bs):∀ i,(iP k i l).length<=l.length:=by
 intro i
 induction i with
 | zero=>exact fy _
 | succ i ih=>show((iP k i l).drop _).length<=_;rw[k6];omega
def Zl (k:Int) (l:Bs) (b1 b2 i:Nat):Go.CH.aT:=aj (av b1 (fL k) 3) (av b2 (ot (bs (iP k i l))) 9)
theorem OZ    (i:Nat):(Zl k l b1 b2 i).Ok:=aB aC aC
def Lt (x:Bs):Array Value:=(ot (bs x))
def EX (b2:Nat) (w:World):Nat:=match w.cell? ⟨b2,0,none⟩ with|some (.string s)=>s.size|_=>0
theorem YQ (l:Bs) (n:Nat):bs (l.take n)=(bs l).extract 0 n:=MV (by rw[vU,iM,iM,xF])
theorem He (l:Bs) (n:Nat):bs (l.drop n)=(bs l).extract n (bs l).size:=MV (by rw[vU,iM,iM,cu,ky])
theorem tu       (h:aI F0 w0 (aj (Zl k l b1 b2 i) X) W) :
  W.cell? ⟨b1,0,none⟩=some (.int .i64 k)/\W.cell? ⟨b2,0,none⟩=some (.string (bs (iP k i l)))/\W.frozen? ⟨b2,0,none⟩=false:=by
 obtain⟨F,J⟩:=(h.assoc).fst;obtain⟨M,I⟩:=(h.assoc.kN).fst;exact⟨ay J rfl,ay I rfl,aM I 0⟩
theorem YR       (hX:X.Ok) (h:aI F0 w0 (aj (Zl k l b1 b2 i) X) W) :
  aI F0 w0 (aj (Zl k l b1 b2 (i+1)) X) (W.setCell ⟨b2,0,none⟩ (.string (bs (iP k (i+1) l)))):=by
 have M:=h.assoc.kN;obtain⟨F,hF,-,I⟩:=M.take aC aO;have J:=I _ _ (uq hF 0 (.string (bs (iP k (i+1) l))));exact(J.perm (by ac_rfl):aI F0 w0 (aj (aj (av b1 (fL k) 3) (av b2 (#[Value.string (bs (iP k i l))].setIfInBounds 0 (.string (bs (iP k (i+1) l)))) 9)) X) _)
theorem Cn   {s:ByteArray} (h:w.cell? ⟨b2,0,none⟩=some (.string s)):EX b2 w=s.size:=by unfold EX;rw[h]
theorem Hf (k:Int) (l:Bs) (b1 b2:Nat) (hl:l.length<=1000000) :
  Qe Tryz.prog 110 #[.pointer (some ⟨b1,0,none⟩),.pointer (some ⟨b2,0,none⟩)] LZ (Zl k l b1 b2) Lt (aP k l).1:=by
 intro n lo W F0 w0 X Y ad aq hE h0 hY;have HY:=au hY;have HE:=au hE;have HL:=au (fun (t:ByteArray) (W:World) (ht:t.size<=1000000) (hz:LZ W)=>MW k t W ht hz);clear hY hE;obtain⟨N,hN⟩:∃ N,N=(aP k l).1.length:=⟨_,rfl⟩;refine callsIn_of_wp Tryz.func110 rfl trivial ?_ rfl;simp only[Tryz.ntmps110,pT,j7,lA,Nat.reduceAdd,Nat.reduceSub,qu,qS,re,qT,l4,pd];obtain⟨c1,c2,c3⟩:=tu h0;have K0:=au (HL.o (bs (iP k 0 l)) W (by rw[cu];exact hl) (HE.o W h0.mod));have H0:=au h0;clear h0
 gi_wp2_with (refine⟨trivial,fun h=>(by cases h),?_⟩;gi_at_call 111;refine(callsIn_wide.2 K0.o).mono ?_;rintro e9 w9 ⟨rfl,hb⟩;clear K0;have H1:=au (H0.o.below (aB (OZ 0) (ad 0)) hb);clear H0 hb c1 c2 c3)
 gi_loopw [4] (fun p wr=>∃ i:Nat,i<=N/\p=.int .i64 (fR k (iP k i l):Nat)/\aI F0 w0 (aj (Zl k l b1 b2 i) (X i)) wr)
  (fun p wr=>EX b2 wr)
 case atStart=>exact⟨0,fw _,by rw[iM],H1.o⟩
 case round=>
  clear H1;obtain⟨i,hi,rfl,hR⟩:=hrel;have HR:=au hR;clear hR;by_cases af:i<N
  ·have I:=af;rw[hN] at I;obtain⟨hn,hx⟩:=Ua I;have hw:=HY.o i I wr HR.o;rw[hx,Lt,YQ] at hw;obtain⟨fn,tmps,assign,body,hy,hround⟩:=hw;have ac:=au hround;obtain⟨c1,c2,c3⟩:=tu HR.o;have HS:=au (show bs (iP k (i+1) l)=_ from He (iP k i l) (fR k (iP k i l)));have ap:fR k (iP k i l)<=(bs (iP k i l)).size:=by rw[cu];exact rD
   have ao:(bs (iP k (i+1) l)).size<=1000000:=by rw[cu];exact kh (Ub k l (i+1)) hl
   have k7:(bs (iP k i l)).size<=1000000:=by rw[cu];exact kh (Ub k l i) hl
   have ar:(bs (iP k (i+1) l)).size+fR k (iP k i l)=(bs (iP k i l)).size:=by
    rw[cu,cu] at *
    show((iP k i l).drop _).length+_=_
    rw[k6];omega
   have HA:=au (fun (W':World) (h:aI F0 w0 (aj (Zl k l b1 b2 i) (X (i+1))) W')=>show W'.cell? ⟨b1,0,none⟩=some (.int .i64 k)/\W'.cell? ⟨b2,0,none⟩=some (.string (bs (iP k i l)))/\W'.frozen? ⟨b2,0,none⟩=false from tu h)
   have HB:=au (fun (W':World) (h:aI F0 w0 (aj (Zl k l b1 b2 i) (X (i+1))) W')=>show
     aI F0 w0 (aj (Zl k l b1 b2 (i+1)) (X (i+1))) (W'.setCell ⟨b2,0,none⟩ (.string ((bs (iP k i l)).extract (fR k (iP k i l)) (bs (iP k i l)).size))) /\
     (W'.setCell ⟨b2,0,none⟩ (.string ((bs (iP k i l)).extract (fR k (iP k i l)) (bs (iP k i l)).size))).cell? ⟨b1,0,none⟩=some (.int .i64 k) /\
     (W'.setCell ⟨b2,0,none⟩ (.string ((bs (iP k i l)).extract (fR k (iP k i l)) (bs (iP k i l)).size))).cell? ⟨b2,0,none⟩=some (.string ((bs (iP k i l)).extract (fR k (iP k i l)) (bs (iP k i l)).size)) /\
     Calls Tryz.prog 111 #[.int .i64 k,.string ((bs (iP k i l)).extract (fR k (iP k i l)) (bs (iP k i l)).size)] (W'.setCell ⟨b2,0,none⟩ (.string ((bs (iP k i l)).extract (fR k (iP k i l)) (bs (iP k i l)).size)))
      (Cm (W'.setCell ⟨b2,0,none⟩ (.string ((bs (iP k i l)).extract (fR k (iP k i l)) (bs (iP k i l)).size))) k (iP k (i+1) l)) from by
    have h2:=YR (ad (i+1)) h;rw[HS.o] at h2;obtain⟨d1,d2,-⟩:=tu h2;rw[HS.o] at d2;refine⟨h2,d1,d2,?_⟩;have h3:=HL.o (bs (iP k (i+1) l)) _ ao (HE.o _ h2.mod);rw[iM,HS.o] at h3
    exact h3)
   have HZ:=au (fun (W':World) (hb:aI F0 w0 (aj (Zl k l b1 b2 (i+1)) (X (i+1))) W')=>show EX b2 W'=(bs (iP k (i+1) l)).size from Cn (tu hb).2.1);have al:=au (show EX b2 wr=(bs (iP k i l)).size from Cn c2);have an:=au (fun (W W':World) (h:aI F0 w0 (aj (Zl k l b1 b2 (i+1)) (X (i+1))) W) (hb:Below W.heap.size W W')=>h.below (aB (OZ (i+1)) (ad (i+1))) hb);clear HS HL HE HY HR hx hN hl I;have J:∀ W',aI F0 w0 (aj (Zl k l b1 b2 (i+1)) (X (i+1))) W'->∃ i':Nat,i'<=N/\Value.int .i64 (fR k (iP k (i+1) l):Nat)=.int .i64 (fR k (iP k i' l):Nat)/\aI F0 w0 (aj (Zl k l b1 b2 i') (X i')) W':=fun W' h=>⟨i+1,af,rfl,h⟩;have ag:=au J;have M:∀ W',aI F0 w0 (aj (Zl k l b1 b2 i) Y) W'->(∃ v,(Ending.returned (.tuple #[]))=.returned v)/\(aI F0 w0 (aj (Zl k l b1 b2 (aP k l).1.length) (X (aP k l).1.length)) W'\/∃ i,aI F0 w0 (aj (Zl k l b1 b2 i) Y) W'):=fun W' h=>⟨⟨_,rfl⟩,.inr ⟨i,h⟩⟩;have ab:=au M;clear J M;generalize ai:(bs (iP k (i+1) l)).size=s2 at *
   generalize ht:bs (iP k i l)=t at *
   generalize ak:fR k (iP k i l)=n1 at *
   clear ai ht ak;have aw:0<n1:=by omega
   clear hn;gi_wp2;refine⟨fun h=>(by cases h),?_⟩;clear c1 c2 c3 hy;refine ac.o.mono ?_;rintro e W3 (⟨rfl,h3⟩|⟨rfl,h3⟩)
   ·obtain⟨h4,d1,d2,K4⟩:=HB.o W3 h3;obtain⟨a1,a2,a3⟩:=HA.o W3 h3;have H4:=au h4;have KK:=au K4;have ax:=au (show EX b2 W3=t.size from Cn a2);clear ac HB HA h3 h4 K4
    gi_wp2_with (refine⟨trivial,fun h=>(by cases h),?_⟩;gi_at_call 111;refine(callsIn_wide.2 KK.o).mono ?_;rintro e9 w9 ⟨rfl,hb⟩;clear KK)
    have h5:=an.o _ _ H4.o hb
    go_roundw
    case rel=>exact ag.o _ h5
    case measure=>rw[HZ.o _ h5,al.o];omega
   ·have am:=au (ab.o _ h3);clear ac HB HA h3;gi_wp2
    go_end0
    exact am.o
  ·obtain rfl:i=N:=by omega
   have hz:fR k (iP k i l)=0:=by rw[hN];exact(OY k l).1
   have aa:(∃ v,(Ending.returned (.tuple #[]))=.returned v)/\(aI F0 w0 (aj (Zl k l b1 b2 (aP k l).1.length) (X (aP k l).1.length)) wr\/∃ i,aI F0 w0 (aj (Zl k l b1 b2 i) Y) wr):=⟨⟨_,rfl⟩,.inl (by rw[<-hN];exact HR.o)⟩;have ae:=au aa;clear aa;rw[hz];gi_wp2;refine⟨fun _ h=>(by cases h),?_⟩;gi_wp2
   go_end0
   exact ae.o
attribute [local go_sem] nz
def Ps (b1 b2:Nat):Value:=.func (.func 110) #[] (sS (some ⟨b1,0,none⟩) (some ⟨b2,0,none⟩))
theorem Jt (k:Int) (s:ByteArray) (w:World) :
  Calls Tryz.prog 85 #[.int .i64 k,.string s] w fun e w'=>∃ b1 b2,e=.returned (Ps b1 b2)/\bT w eR (Zl k (bl s) b1 b2 0) w':=by
 have I:bT w eR (Zl k (bl s) w.heap.size (w.heap.size+1) 0) ((w.alloc (.cells (fL k) 3)).alloc (.cells (ot s) 9)):=by
  have M:=(aI.begin w).fresh aN (dP w (fL k) 3);have h:=M.fresh aO (dP _ (ot s) 9);rw[im] at h;have h3:aI eR w (aj (Zl k (bl s) w.heap.size (w.heap.size+1) 0) bG) _:=h.perm (by unfold Zl;rw[show iP k 0 (bl s)=bl s from rfl,sQ];ac_rfl);exact(h3.swap.drop).post (OZ 0)
 have J:=au I;clear I
 go_enter Tryz.func85,Tryz.ntmps85
 go_wp2;go_ret;exact⟨_,_,rfl,J.o⟩
theorem zq:eB Tryz.prog 26 9 (.string ByteArray.empty) 1 16:=⟨Tryz.underlying26,by kernel_rfl,by decide,by decide⟩
def kM (xs:List Bs):List Value:=xs.map fun x=>.string (bs x)
theorem Uc (l:List Bs):∀ u ∈ kM l,u.oneCell'=true:=by
 intro u hu;obtain⟨s,_,rfl⟩:=List.mem_map.1 hu;rfl
variable {l:List Bs}{A:eV}{c n:Nat}{a:Act}{K:Act->World->Prop}{Q:Exit->Act->World->Prop}
theorem Ud  {k:Nat} (h:k<l.length):(kM l)[k]?=some (.string (bs l[k])):=by simp[kM,h]
def fZ (A:eV) (c:Nat) (l:List Bs):CH.aT:=aV 9 1 (.slice A l.length c) l.length (kM l)
theorem iC   :(fZ A c l).Ok:=dK
instance {A:eV} {c:Nat} {l:List Bs}:(fZ A c l).Ok:=iC
theorem Ue    {x:Bs}:aV 9 1 (.slice A (l.length+1) c) (l.length+1) (kM l++[.string (bs x)])=fZ A c (l++[x]):=by
 unfold fZ;have e:kM (l++[x])=kM l++[.string (bs x)]:=by simp[kM]
 rw[e,gd,pC]
theorem O0 (w:World):fZ none 0 [] w eR:=fT w 9 1
def bC (k:Int) (l:Bs):List Bs × Int:=if word k l then((aP k l).1,0) else([],1)
def mK (w:World) (k:Int) (l:Bs) (e:Ending) (w':World):Prop:=
 ∃ A c,e=.returned (.tuple (pB A (bC k l).1.length c (bC k l).2))/\bT w eR (fZ A c (bC k l).1) w'
theorem Uf   {Y:CH.aT} {o:Oper}    (s x:Operand)
  (ho:o.op=.call { callee:=.builtin .append,args:=#[s,x],argTypes:=#[26,26] })    {i:ByteArray} (hl:l.length=n) (hsv:a.eval s=.slice A n c) (hx:a.eval x=.slice (some ⟨W.heap.size,0,none⟩) 1 1) (hn:n<=1000000) (hY:Y.Ok)
  (h:aI F0 w0 (aj (fZ A c l) Y) W)
  (hK:∀ A' c' w',aI F0 w0 (aj (fZ A' c' (l++[bl i])) Y) w'->K (a.put o.dst (.slice A' (n+1) c')) w'):o.wp Tryz.prog a (W.alloc (.cells (ot i) 9)) K Q:=by
 subst hl;obtain⟨F7,I,-,ab⟩:=(h.below aO ((fe _ _).alloc (fy _) (.cells (ot i) 9))).take iC hY;refine wY s x ho zq _ 0 (v:=.slice A l.length c) (n:=l.length) (xs:=kM l) hsv I.1 (A:=some ⟨W.heap.size,0,none⟩) (m:=1) (c:=1) (news:=[.string i]) hx (UE W _ 9 rfl) (by unfold maxLen;omega) eL (fw _) ?_;intro v8 w8 J M aa;have S8:=ab _ _ (je I J M aa);obtain⟨A8,c8,rfl⟩:=ig J;rw[show Value.string i=.string (bs (bl i)) by rw[sQ],Ue] at S8;exact hK A8 c8 w8 S8
def C6 (k:Int) (l:Bs) (c6 c7 i:Nat):CH.aT:=lQ fun p:eV × Nat=>aj (av c6 (ij p.1 i p.2) 26) (aj (fZ p.1 p.2 ((aP k l).1.take i)) (av c7 (ot (bs (iP k i l))) 9))
abbrev Pu (k:Int) (l:Bs) (c6 c7 i:Nat) (A:eV) (c:Nat):CH.aT:=aj (av c6 (ij A i c) 26) (aj (fZ A c ((aP k l).1.take i)) (av c7 (ot (bs (iP k i l))) 9))
variable {l:Bs}{c6 c7 g:Nat}{S T U X:CH.aT}{W':World}{v:Value}{t:TypeId}
theorem Ug    (i:Nat):(C6 k l c6 c7 i).Ok:=bX fun _=>aB aC (aB iC aC)
def C7 (k:Int) (l:Bs) (c6 c7:Nat):Code->CH.aT
 | .exit 0=>lQ fun i:Nat=>sM (12<i/\i<=(aP k l).1.length) (C6 k l c6 c7 i)
 | _=>vy
theorem UT    (c:Code):(C7 k l c6 c7 c).Ok:=by
 unfold C7;split
 ·exact bX fun i=>gG (Ug i)
 ·exact Fu
theorem UX       (hS:S.Ok) (hT:T.Ok) (h:aI F0 w0 (aj S (aj (av g #[v] t) T)) W) (v':Value) :
  aI F0 w0 (aj S (aj (av g #[v'] t) T)) (W.setCell ⟨g,0,none⟩ v'):=by
 obtain⟨F,hF,-,bk⟩:=h.kN.take aC aO;exact(bk _ _ (uq hF 0 v')).kN
theorem VC       (hS:S.Ok) (hU:U.Ok) (hT:T.Ok) (h:aI F0 w0 (aj S (aj U (aj (av g #[v] t) T))) W) (I:Value) :
  aI F0 w0 (aj S (aj U (aj (av g #[I] t) T))) (W.setCell ⟨g,0,none⟩ I):=by
 obtain⟨F,M,-,J⟩:=h.LO.take aC aO;exact(J _ _ (uq M 0 I)).perm (by ac_rfl)
theorem Lw       (h:aI F0 w0 (aj S (aj (av g #[v] t) T)) W):W.cell? ⟨g,0,none⟩=some v/\W.frozen? ⟨g,0,none⟩=false:=by
 obtain⟨F,hF⟩:=h.kN.fst;exact⟨ay hF rfl,aM hF 0⟩
theorem Ly       (h:aI F0 w0 (aj S (aj U (aj (av g #[v] t) T))) W):W.cell? ⟨g,0,none⟩=some v/\W.frozen? ⟨g,0,none⟩=false:=by
 obtain⟨F,hF⟩:=h.LO.fst;exact⟨ay hF rfl,aM hF 0⟩
theorem MX (k:Int) (l:Bs):(aP k l).1.length<=l.length:=by
 refine oG (k:=k) (P:=fun l=>(aP k l).1.length<=l.length) (fun l h=>?_) (fun l h ih=>?_) l
 ·show(aP k l).1.length<=l.length
  rw[fK h];exact fw _
 ·show(aP k l).1.length<=l.length
  have ih:(aP k (l.drop (fR k l))).1.length<=(l.drop (fR k l)).length:=ih;rw[gP h];rw[k6] at ih;have:=rD (k:=k) (l:=l);simp only[j7];omega
theorem Rh    (hi:i<(aP k l).1.length):(aP k l).1.take i++[bl (bs (aP k l).1[i])]=(aP k l).1.take (i+1) /\
  (bs (iP k i l)).extract (bs (aP k l).1[i]).size (bs (iP k i l)).size=bs (iP k (i+1) l)/\(bs (aP k l).1[i]).size<=(bs (iP k i l)).size:=by
 have h:=Ua hi;have e:(bs (aP k l).1[i]).size=fR k (iP k i l):=by
  rw[h.2,cu,kt];have:=rD (k:=k) (l:=iP k i l);omega
 refine⟨by rw[iM,kq hi],?_,?_⟩
 ·rw[e,<-He];rfl
 ·rw[e,cu];exact rD
theorem tC    (h:bC k l=([],1)) (hm:CH.Mod eR w W'):mK w k l (.returned (.tuple (pB none 0 0 1))) W':=
 ⟨none,0,by rw[h];rfl,fun _=>False,by rw[h];exact O0 _,hm,fun i hi=>.inl hi⟩
theorem Uh       (h:bC k l=((aP k l).1,0)) (hr:aI eR w (aj (fZ A c (aP k l).1) X) W') :
  mK w k l (.returned (.tuple (pB A (aP k l).1.length c 0))) W':=⟨A,c,by rw[h],by rw[h];exact(hr.swap.drop).post iC⟩
theorem O1   (h:¬ ((aP k l).2=[]/\1<=(aP k l).1.length/\(aP k l).1.length<=12)):bC k l=([],1):=by
 unfold bC;rw[if_neg (fun hw=>h (eP.1 hw))]
theorem YS   (h:(aP k l).2=[]/\1<=(aP k l).1.length/\(aP k l).1.length<=12):bC k l=((aP k l).1,0):=by
 unfold bC;rw[if_pos (eP.2 h)]
theorem dA :(bs l).toList=[]↔l=[]:=by
 rw[Cf];exact qt
theorem Ui (k:Int) (s:ByteArray) (w:World):aI eR w (C6 k (bl s) w.heap.size (w.heap.size+1) 0) ((w.alloc (.cells (ij none 0 0) 26)).alloc (.cells (ot s) 9)):=by
 have M:=(aI.begin w).fresh aN (⟨fun _=>False,O0 w,Mod.refl _ _,fun i hi=>.inl hi⟩:bT w eR (fZ none 0 []) w);have J:=M.fresh aO (dP w (ij none 0 0) 26);have I:=J.fresh aO (dP _ (ot s) 9);rw[im] at I;have h3:aI eR w (aj (aj (av w.heap.size (ij none 0 0) 26) (aj (fZ none 0 []) (av (w.heap.size+1) (ot s) 9))) bG) _:=I.perm (by ac_rfl);refine h3.swap.drop.imp fun _ _ h=>⟨(none,0),?_⟩;rw[show bs (iP k 0 (bl s))=s from sQ s];exact h
theorem jd (k:Int) (s:ByteArray) (w:World) (hs:s.size<=1000000) (hz:LZ w) :
  Calls Tryz.prog 57 #[.int .i64 k,.string s] w (mK w k (bl s)):=by
 have HZ:=au hz;have HL:=au (fun W=>Jt k s W);clear hz;refine(callsIn_wide (n:=8)).1 ?_;refine callsIn_of_wp_marks Tryz.func57 rfl trivial ?_ rfl;simp only[Tryz.ntmps57,pT,j7,lA,Nat.reduceAdd,Nat.reduceSub,qu,qS,re,qT,l4,pd];refine(wpIn_wide (n:=8)).2 ?_;have S0:=au (Ui k s w);go_wp2_with fail;generalize ((w.alloc (.cells (ij none 0 0) 26)).alloc (.cells (ot s) 9))=W2 at *
 refine(HL.o W2).mono ?_;rintro e9 w9 ⟨b1,b2,rfl,hp⟩;have S1:=au (S0.o.fresh (Ug 0) hp);clear S0 hp HL;have hE:∀ W,Mod eR w W->LZ W:=fun W h=>HZ.o.below (h.below (fun _ _ h=>h));dsimp only;go_wp2_with fail;have hl:(bl s).length<=1000000:=by rw[qg];exact hs
 have HL:=au hl;generalize w.heap.size+1=J at *
 generalize w.heap.size=M at *
 clear hl;refine SE (gf:=110) (lb:=(sS (some ⟨b1,0,none⟩) (some ⟨b2,0,none⟩))) rfl (enters_of Tryz.func110 eQ rfl) (Hf k (bl s) b1 b2 HL.o) OZ (fun _=>rfl) hE
  (C6 k (bl s) M J) (C7 k (bl s) M J) Ug UT S1.o
  (fun x=>{ tmps:=#[.int .i64 k,.string s,undef,undef,.slice none 0 0,.int .i64 0,.pointer (some ⟨M,0,none⟩),.pointer (some ⟨J,0,none⟩),.string (bs x),.string s,.int .i64 k,.string s,Ps b1 b2,.string (bs x),undef,undef,undef,undef,undef,undef,undef,undef,undef,undef,undef,undef,undef,undef,undef,undef,undef,undef,undef,undef,undef,undef,undef,undef],defers:=[] }) ?assign ?body ?done ?stop
 case assign=>
  intro l m x W K I;unfold Lt;gi_wp2;exact I
 case body=>
  intro lo m i hi R W hR hI;obtain⟨⟨A,c⟩,h1⟩:=hI.ex;dsimp only at h1;obtain⟨F6,h6⟩:=h1.assoc.fst;obtain⟨F7,h7⟩:=h1.assoc.kN.assoc.kN.fst;have ad:=ay (i:=0) h6 rfl;have ar:=aM h6 0;have af:=ay (i:=0) h7 rfl;have aq:=aM h7 0;have H1:=au h1;clear h1 h6 h7 hI S1;obtain⟨q1,q2,q3⟩:=Rh hi;have Q1:=au q1;have aD:=au (show i+1<=(aP k (bl s)).1.length from hi);have aE:i<1000000:=by
   have:=HL.o;have h2:=MX k (bl s);omega
  have am:(aj (av M (ij A i c) 26) (aj (av J (ot (bs (iP k i (bl s)))) 9) R)).Ok:=aB aC aO;have HA:=au ((H1.o.perm (by ac_rfl):aI eR w (aj (fZ A c ((aP k (bl s)).1.take i)) (aj (av M (ij A i c) 26) (aj (av J (ot (bs (iP k i (bl s)))) 9) R))) W).drew aO);have ak:=au am;have ap:=au hR;have ai:((aP k (bl s)).1.take i).length=i:=by rw[kt];omega
  have ao:=au ai;clear am H1 ai q1 hR;generalize (aP k (bl s)).1[i]=x at *
  generalize hr:bs (iP k i (bl s))=r at *
  clear hr hi;refine wpIn_block (wpIn_seq ?_);refine mP [2,3,8,9] [1,0,1,2,3,3,3,3,3,4]
   (fun w'=>w'.cell? ⟨M,0,none⟩=some (.slice A i c)/\w'.cell? ⟨J,0,none⟩=some (.string r))
   [fun w'=>w'.cell? ⟨M,0,none⟩=some (.slice A i c)/\w'.cell? ⟨J,0,none⟩=some (.string r),fun w'=>w'.cell? ⟨J,0,none⟩=some (.string r),fun w'=>w'.cell? ⟨J,0,none⟩=some (.string r)]
   ⟨fun _ h=>h,fun _ h=>h.2,fun _ h=>h,trivial⟩ rfl (fun⟨a,w,h⟩=>h) rfl eQ eQ eQ ⟨ad,af⟩ ?_
  (repeat(first|refine eH ?_|refine eO ?_))
  refine bB rfl fY (fun K I=>?_);go_wp2;refine I.o _ _ ?_ ?_
  ·obtain⟨d1,-⟩:=Lw (HA.o.below (aB iC ak.o) ((fe _ _).alloc (fy _) (.cells (ot (bs x)) 9)));obtain⟨d2,-⟩:=Ly (HA.o.below (aB iC ak.o) ((fe _ _).alloc (fy _) (.cells (ot (bs x)) 9)));exact⟨d1,d2⟩
  clear I ad ar af aq
  (repeat(first|refine eH ?_|refine eO ?_))
  refine bB rfl fY (fun K I=>?_);refine Uf (.tmp 14) (.tmp 16) rfl ao.o rfl rfl eL ak.o HA.o ?_;intro A' c' w2 ag;rw[Q1.o] at ag;have H2:=au ag;obtain⟨e6,f6⟩:=Lw ag;obtain⟨e7,f7⟩:=Ly ag;refine I.o _ _ e7 ?_;clear I HA ag Q1
  (repeat(first|refine eH ?_|refine eO ?_))
  refine bB rfl fY (fun K I=>?_);go_wp2;have ax:=ap.o;have h3:=UX iC aO H2.o (.slice A' (i+1) c');have H3:=au h3;obtain⟨an,az⟩:=Ly h3;refine I.o _ _ an ?_;clear I h3 e6 f6 e7 f7 H2;refine bB rfl fY (fun K I=>?_);go_wp2;have h4:=VC iC aC ax H3.o (.string (r.extract (bs x).size r.size));rw[q2] at h4;obtain⟨e6,-⟩:=Lw h4;have H4:=au (aI.nT (O:=fun p:eV × Nat=>aj (av M (ij p.1 (i+1) p.2) 26) (aj (fZ p.1 p.2 ((aP k (bl s)).1.take (i+1))) (av J (ot (bs (iP k (i+1) (bl s)))) 9))) (A',c') (h4.perm (by ac_rfl)));refine I.o _ _ trivial (iT ?_);clear I H3 an az h4
  show Code.wpIn _ _ _ _ _ _ _
  generalize (w2.setCell ⟨M,0,none⟩ (.slice A' (i+1) c')).setCell ⟨J,0,none⟩ (.string (bs (iP k (i+1) (bl s))))=w3 at *
  by_cases al:(12:Int)<(i:Int)+1
  ·have HX:=au (show aI eR w (aj (C7 k (bl s) M J (.exit 0)) R) w3 from aI.nT (i+1) (aI.iQ ⟨by omega,aD.o⟩ H4.o));clear H4;gi_wp2;exact HX.o
  ·gi_wp2;exact H4.o
 case done=>
  intro D R W hR hI;obtain⟨⟨A,c⟩,h1⟩:=hI.ex;dsimp only at h1 ⊢;obtain⟨F6,h6⟩:=h1.assoc.fst;obtain⟨F7,h7⟩:=h1.assoc.kN.assoc.kN.fst;have ad:W.cell? ⟨M,0,none⟩=some (.slice A (aP k (bl s)).1.length c):=ay (i:=0) h6 rfl;have af:W.cell? ⟨J,0,none⟩=some (.string (bs (iP k (aP k (bl s)).1.length (bl s)))):=ay (i:=0) h7 rfl;have ac:(aj (Pu k (bl s) M J (aP k (bl s)).1.length A c) R).Ok:=aB aO hR;obtain⟨FD,hD,-,bk⟩:=h1.kN.take bg ac;have I:=hD.1;have HF:=au ((bk _ _ (fH hD (.deferred none))).perm (by ac_rfl:_=aj (fZ A c ((aP k (bl s)).1.take (aP k (bl s)).1.length)) (aj (av M (ij A (aP k (bl s)).1.length c) 26) (aj (av J (ot (bs (iP k (aP k (bl s)).1.length (bl s)))) 9) (aj (aW D (.deferred none)) R)))));have HK:=au I;clear h1 h6 h7 hI S1 I hD bk ac;rw[(OY k (bl s)).2] at af;obtain⟨n,hn⟩:∃ n,n=(aP k (bl s)).1.length:=⟨_,rfl⟩;have ab:=au (fun h:bC k (bl s)=((aP k (bl s)).1,0)=>show mK w k (bl s) (.returned (.tuple (pB A (aP k (bl s)).1.length c 0))) (W.putObj D (.deferred none)) from Uh h (by have:=HF.o;rw[ky] at this;exact this));have aa:=au (fun h:¬ ((aP k (bl s)).2=[]/\1<=n/\n<=12)=>show bC k (bl s)=([],1) from O1 (by rw[<-hn];exact h));have ae:=au (fun h:(aP k (bl s)).2=[]/\1<=n/\n<=12=>show bC k (bl s)=((aP k (bl s)).1,0) from YS (by rw[<-hn];exact h));rw[<-hn] at ad ab;clear hn;by_cases he:(aP k (bl s)).2=[]
  ·have aA:(bs (aP k (bl s)).2).toList=[]:=dA.2 he;by_cases h0:n=0
   ·have t0:((n:Int)==0)=true:=by simp[h0]
    have HN:=au (aa.o eL);clear ab aa ae he;go_wp2_with fail;refine⟨by simp,.inl ⟨_,_,rfl,run_takeDeferred HK.o,?_⟩⟩;refine⟨_,results_tmp2 rfl _ _ _,?_⟩;exact tC HN.o HF.o.mod
   ·have t0:((n:Int)==0)=false:=by simp[h0]
    by_cases al:(12:Int)<(n:Int)
    ·have HN:=au (aa.o eL);clear ab aa ae he;go_wp2_with fail;refine⟨by simp,.inl ⟨_,_,rfl,run_takeDeferred HK.o,?_⟩⟩;refine⟨_,results_tmp2 rfl _ _ _,?_⟩;exact tC HN.o HF.o.mod
    ·have HX:=au (ab.o (ae.o ⟨he,by omega,by omega⟩));clear ab aa ae he;go_wp2_with fail;refine⟨by simp,.inl ⟨_,_,rfl,run_takeDeferred HK.o,?_⟩⟩;refine⟨_,results_tmp2 rfl _ _ _,?_⟩;exact HX.o
  ·have aA:¬ (bs (aP k (bl s)).2).toList=[]:=fun h=>he (dA.1 h);have HN:=au (aa.o (fun h=>he h.1));clear ab aa ae he;go_wp2_with fail;refine⟨by simp,.inl ⟨_,_,rfl,run_takeDeferred HK.o,?_⟩⟩;refine⟨_,results_tmp2 rfl _ _ _,?_⟩;exact tC HN.o HF.o.mod
 case stop=>
  intro D c R W hR hI;have aw:∃ i,(12<i/\i<=(aP k (bl s)).1.length)/\c=.exit 0/\aI eR w (aj (C6 k (bl s) M J i) (aj (aW D (.deferred (some []))) R)) W:=by
   unfold C7 at hI;split at hI
   ·obtain⟨i,hi⟩:=hI.ex;exact⟨i,hi.pure.1,rfl,hi.pure.2⟩
   ·exact hI.no.elim
  clear hI;obtain⟨i,⟨al,a0⟩,rfl,hI⟩:=aw;obtain⟨⟨A,c⟩,h1⟩:=hI.ex;dsimp only at h1 ⊢;obtain⟨F6,h6⟩:=h1.assoc.fst;obtain⟨F7,h7⟩:=h1.assoc.kN.assoc.kN.fst;have ad:W.cell? ⟨M,0,none⟩=some (.slice A i c):=ay (i:=0) h6 rfl;have af:W.cell? ⟨J,0,none⟩=some (.string (bs (iP k i (bl s)))):=ay (i:=0) h7 rfl;have ac:(aj (Pu k (bl s) M J i A c) R).Ok:=aB aO hR;obtain⟨FD,hD,-,bk⟩:=h1.kN.take bg ac;have I:=hD.1;have HF:=au ((bk _ _ (fH hD (.deferred none))).perm (by ac_rfl:_=aj (fZ A c ((aP k (bl s)).1.take i)) (aj (av M (ij A i c) 26) (aj (av J (ot (bs (iP k i (bl s)))) 9) (aj (aW D (.deferred none)) R)))));have HK:=au I;clear h1 h6 h7 hI S1 I hD bk ac;have HN:=au (show bC k (bl s)=([],1) from O1 eL);have t0:((i:Int)==0)=false:=by simp;omega
  have a1:(12:Int)<(i:Int):=by omega
  generalize iP k i (bl s)=rr at *
  by_cases he:(bs rr).toList=[]
  ·go_wp2_with fail;refine⟨by simp,.inl ⟨_,_,rfl,run_takeDeferred HK.o,?_⟩⟩;refine⟨_,results_tmp2 rfl _ _ _,?_⟩;exact tC HN.o HF.o.mod
  ·go_wp2_with fail;refine⟨by simp,.inl ⟨_,_,rfl,run_takeDeferred HK.o,?_⟩⟩;refine⟨_,results_tmp2 rfl _ _ _,?_⟩;exact tC HN.o HF.o.mod
def fB (w:World) (A:eV) (l:List Bs):Prop:=Src w A l.length 1 (kM l)
variable {xs:List Value}{l:List Bs}{F:Nat->Prop}
theorem aY   {size:Nat}  (h:Src w A n size xs) (hb:Below w.heap.size w w'):Src w' A n size xs:=
 ((aI.begin w).below aN hb).RE h
theorem fB.below    (h:fB w A l) (hb:Below w.heap.size w w'):fB w' A l:=aY h hb
theorem fB.at    (h:fB w A l) (hn:0<l.length) :
  ∃ b o,A=some ⟨b,o,none⟩/\∀ w',Below w.heap.size w w'->∀ j (J:j<l.length),w'.cell? ⟨b,o+j,none⟩=some (.string (bs l[j])):=by
 obtain⟨b,o,rfl,M⟩:=Src.open_ h hn eL;refine⟨b,o,rfl,fun w' hb j J=>?_⟩;have I:=M j _ (Ud J);rw[hb.cell (py _ _ I)];exact I
theorem oF      (h:fZ A c l w F):fB w A l:=iG h (Uc l)
def Ju (w:World) (k:Int) (l:Bs) (e:Ending) (w':World):Prop:=
 ∃ A c,e=.returned (.tuple (pB A (bC k l).1.length c (bC k l).2))/\Below w.heap.size w w'/\fB w' A (bC k l).1
theorem EY (k:Int) (s:ByteArray) (w:World) (hs:s.size<=1000000) (hz:LZ w) :
  Calls Tryz.prog 57 #[.int .i64 k,.string s] w (Ju w k (bl s)):=by
 refine(jd k s w hs hz).mono ?_;rintro e w' ⟨A,c,rfl,F,h1,h2,h3⟩;exact⟨A,c,rfl,h2.below (fun _ _ h=>h),oF h1⟩
def iw (k:Int) (l:Bs):Bs × Int:=if word k l then(lower l,0) else([],1)
theorem EZ:(∀ c ∈ bS,c.toNat<128)/\(∀ c ∈ Jw,c.toNat<128)/\(∀ c ∈ vJ,c.toNat<128)/\(∀ c ∈ Jy,c.toNat<128)/\(∀ c ∈ tH,c.toNat<128)/\(∀ c ∈ ([110]:Bs),c.toNat<128):=by decide
theorem Ri  {a:UInt8} {b:Option UInt8} (h:mM k a b≠0):a.toNat<128:=by
 obtain⟨M,s2,J,s4,s5,s6⟩:=EZ;unfold mM at h;split at h
 ·split at h
  ·rename_i I;exact M _ (jK.1 I)
  ·exact absurd rfl h
 split at h
 ·split at h
  ·rename_i I;refine E4 fun hc=>?_;rw[Jq a eL] at I;cases I
  ·exact absurd rfl h
 split at h
 ·split at h
  ·rename_i I;exact s2 _ (jK.1 I)
  ·exact absurd rfl h
 split at h
 ·split at h
  ·rename_i I;rw[gA] at I;exact s4 _ (jK.1 I.1)
  ·split at h
   ·rename_i I;rw[tf] at I;rcases I with I|I
    ·exact J _ (jK.1 I)
    ·exact s6 _ (jK.1 I)
   ·exact absurd rfl h
 ·exact absurd rfl h
theorem Rj  {c:UInt8} (h:has (G2 k) (some c)=true):c.toNat<128:=by
 obtain⟨s1,s2,s3,s4,s5,s6⟩:=EZ;have hm:=jK.1 h;unfold G2 at hm;split at hm
 ·exact s5 _ hm
 split at hm
 ·exact s3 _ hm
 ·cases hm
theorem Hg  {l:Bs} (h:fR k l≠0):∀ b ∈ l.take (fR k l),b.toNat<128:=by
 cases l with
 | nil=>intro b I;simp at I
 | cons a t=>
  have h1:mM k a t.head?≠0:=h;have J:=Ri h1
  show ∀ b ∈ (a::t).take (mM k a t.head?),b.toNat<128
  have aa:=Co (k:=k) (a:=a) (b:=t.head?);by_cases M:mM k a t.head?=2
  ·have hs:=Hl M;rw[M];cases t with
   | nil=>intro b I;simp at I;rw[I];exact J
   | cons c t=>
    have hc:=Rj hs;intro b I;simp at I;rcases I with rfl|rfl
    ·exact J
    ·exact hc
  ·rw[show mM k a t.head?=1 by omega];intro b I;simp at I;rw[I];exact J
theorem Jv  {l:Bs} (h:word k l=true):∀ b ∈ l,b.toNat<128:=by
 have key:∀ l:Bs,(aP k l).2=[]->∀ b ∈ l,b.toNat<128:=fun l=>by
  refine oG (k:=k) (P:=fun l=>(aP k l).2=[]->∀ b ∈ l,b.toNat<128) (fun l h J b I=>?_) (fun l h ih J b I=>?_) l
  ·rw[fK h] at J;have J:l=[]:=J;rw[J] at I;cases I
  ·rw[gP h] at J;have:=ih J;rw[<-tM (fR k l) l] at I;rcases List.mem_append.1 I with I|I
   ·exact Hg h b I
   ·exact this b I
 exact key l (eP.1 h).1
theorem tF (k:Int) (s:ByteArray) (w:World) (hs:s.size<=1000000) (hz:LZ w) :
  Calls Tryz.prog 56 #[.int .i64 k,.string s] w (aS w (.tuple #[.string (bs (iw k (bl s)).1),.int .i64 (iw k (bl s)).2])):=by
 have HZ:=au hz;have I:=au (EY k s w hs hz);have HF:=au (fun W (h:Below w.heap.size w W)=>Tryz.strings_ToLower_any s W eL (HZ.o.below h).c (HZ.o.below h).t);by_cases J:word k (bl s)=true
 ·have M:bC k (bl s)=((aP k (bl s)).1,0):=by unfold bC;rw[if_pos J]
  have e2:iw k (bl s)=(lower (bl s),0):=by unfold iw;rw[if_pos J]
  have e3:(⟨(Lib.toLowerD (bl s)).toArray⟩:ByteArray)=bs (lower (bl s)):=by
   rw[Lib.toLowerD_ascii _ (Jv J),sZ];rfl
  unfold Ju at I;simp only[M] at I;simp only[e3] at HF;rw[e2];clear M e2 e3 J hz
  go_enter Tryz.func56,Tryz.ntmps56
  go_wp2_with fail;refine I.o.mono ?_;rintro e9 w1 ⟨A,c,rfl,hb,-⟩;have HB:=au hb;have KF:=au (HF.o w1 hb);clear hb I HF;dsimp only;go_wp2_with fail;refine KF.o.mono ?_;rintro e9 w2 ⟨rfl,hb⟩;have aa:=au (aF HB.o hb);clear KF HB hb;go_wp2;refine bodyPost_ret (results_tmp2 rfl _ _ _) rfl ?_;exact⟨rfl,aa.o⟩
 ·have M:bC k (bl s)=([],1):=by unfold bC;rw[if_neg J]
  have e2:iw k (bl s)=([],1):=by unfold iw;rw[if_neg J]
  unfold Ju at I;simp only[M] at I;rw[e2];clear M e2 J hz HF
  go_enter Tryz.func56,Tryz.ntmps56
  go_wp2_with fail;refine I.o.mono ?_;rintro e9 w1 ⟨A,c,rfl,hb,-⟩;have HB:=au hb;clear hb I;dsimp only;go_wp2;refine bodyPost_ret (results_tmp2 rfl _ _ _) rfl ?_;exact⟨rfl,HB.o⟩
open Go.CH.dh
def gV (R:ik):List Value:=[.int .i64 R.k,.string (bs R.f),.string (bs R.t),.int .i64 R.c]
def zG (d:Drop):List Value:=[.int .i64 d.k,.string (bs d.w),.int .i64 d.c]
def cO (p:Pt):List Value:=[.int .i64 p.i,.int .i64 p.j,.string (bs p.a),.bool p.r,.int .i64 p.h]
def sD {α:Type} (R:α->List Value) (size:Nat) (w:World) (A:eV) (l:List α):Prop:=Src w A l.length size (l.flatMap R)
theorem jM {α:Type} {R:α->List Value} {size:Nat} (I:∀ x,(R x).length=size):∀ {l:List α} {j:Nat} (h:j<l.length) {i:Nat},i<size->(l.flatMap R)[j*size+i]?=(R l[j])[i]?
 | [],j,h,_,_=>absurd h (nB _)
 | x::l,0,h,i,hi=>by
  rw[mN,xe (by rw[I];omega),sk,mB];rfl
 | x::l,j+1,h,i,hi=>by
  rw[mN,BW (by rw[I,li];omega),I];rw[show(j+1)*size+i-size=j*size+i by rw[li];omega];exact jM I (by simpa using h) hi
section
variable {α:Type} {R:α→List Value} {size:Nat} {w w':World} {A:eV} {l:List α}
theorem sD.below (h:sD R size w A l) (hb:Below w.heap.size w w'):sD R size w' A l:=aY h hb
theorem sD.at (J:∀ x,(R x).length=size) (hs:0<size) (h:sD R size w A l) (hn:0<l.length) :
  ∃ b o,A=some ⟨b,o,none⟩/\∀ w',Below w.heap.size w w'->∀ j (M:j<l.length) i u,(R l[j])[i]?=some u->w'.cell? ⟨b,o+j*size+i,none⟩=some u:=by
 obtain⟨b,o,rfl,hc⟩:=Src.open_ h hn hs;refine⟨b,o,rfl,fun w' hb j M i u hu=>?_⟩;have hi:i<size:=by rw[<-J l[j]];exact(List.getElem?_eq_some_iff.1 hu).1
 have I:=hc (j*size+i) u (by rw[jM J M hi];exact hu);rw[<-vq] at I;rw[hb.cell (py _ _ I)];exact I
end
section
variable {w:World} {A:eV}
abbrev lY (w:World) (A:eV) (l:List ik):Prop:=sD gV 4 w A l
abbrev nL (w:World) (A:eV) (l:List Drop):Prop:=sD zG 3 w A l
abbrev zH (w:World) (A:eV) (l:List Pt):Prop:=sD cO 5 w A l
theorem lY.at {l:List ik} (h:lY w A l) (hn:0<l.length):∃ b o,A=some ⟨b,o,none⟩/\∀ w',Below w.heap.size w w'->∀ j (I:j<l.length),
  w'.cell? ⟨b,o+j*4,none⟩=some (.int .i64 l[j].k)/\w'.cell? ⟨b,o+j*4+1,none⟩=some (.string (bs l[j].f))/\w'.cell? ⟨b,o+j*4+2,none⟩=some (.string (bs l[j].t))/\w'.cell? ⟨b,o+j*4+3,none⟩=some (.int .i64 l[j].c):=by
 obtain⟨b,o,e,J⟩:=sD.at (R:=gV) (fun _=>rfl) eL h hn;exact⟨b,o,e,fun w' M j I=>⟨J w' M j I 0 _ rfl,J w' M j I 1 _ rfl,J w' M j I 2 _ rfl,J w' M j I 3 _ rfl⟩⟩
theorem nL.at {l:List Drop} (h:nL w A l) (hn:0<l.length):∃ b o,A=some ⟨b,o,none⟩/\∀ w',Below w.heap.size w w'->∀ j (I:j<l.length),
  w'.cell? ⟨b,o+j*3,none⟩=some (.int .i64 l[j].k)/\w'.cell? ⟨b,o+j*3+1,none⟩=some (.string (bs l[j].w))/\w'.cell? ⟨b,o+j*3+2,none⟩=some (.int .i64 l[j].c):=by
 obtain⟨b,o,e,J⟩:=sD.at (R:=zG) (fun _=>rfl) eL h hn;exact⟨b,o,e,fun w' M j I=>⟨J w' M j I 0 _ rfl,J w' M j I 1 _ rfl,J w' M j I 2 _ rfl⟩⟩
theorem zH.at {l:List Pt} (h:zH w A l) (hn:0<l.length):∃ b o,A=some ⟨b,o,none⟩/\∀ w',Below w.heap.size w w'->∀ j (I:j<l.length),
  w'.cell? ⟨b,o+j*5,none⟩=some (.int .i64 l[j].i)/\w'.cell? ⟨b,o+j*5+1,none⟩=some (.int .i64 l[j].j)/\w'.cell? ⟨b,o+j*5+2,none⟩=some (.string (bs l[j].a))/\w'.cell? ⟨b,o+j*5+3,none⟩=some (.bool l[j].r)/\w'.cell? ⟨b,o+j*5+4,none⟩=some (.int .i64 l[j].h):=by
 obtain⟨b,o,e,J⟩:=sD.at (R:=cO) (fun _=>rfl) eL h hn;exact⟨b,o,e,fun w' M j I=>⟨J w' M j I 0 _ rfl,J w' M j I 1 _ rfl,J w' M j I 2 _ rfl,J w' M j I 3 _ rfl,J w' M j I 4 _ rfl⟩⟩
end
structure TA where
 A:eV
 c:Nat
 D:eV
 d:Nat
 E:eV
 e:Nat
def dR (T:eW) (a:TA):Array Value:=(fN a.A T.rs.length a.c a.D T.ds.length a.d a.E T.es.length a.e T.drop T.ord T.ini)
def dV (T:eW) (a:TA):Value:=.agg (dR T a)
structure kr (w:World) (T:eW) (a:TA):Prop where
 rs:lY w a.A T.rs
 ds:nL w a.D T.ds
 es:nL w a.E T.es
 lr:T.rs.length<=1000000
 ld:T.ds.length<=1000000
 le:T.es.length<=1000000
 sr:∀ R ∈ T.rs,R.f.length<=1000000/\R.t.length<=1000000
 sd:∀ d ∈ T.ds,d.w.length<=1000000
 se:∀ d ∈ T.es,d.w.length<=1000000
variable {T:eW}
theorem kr.below   {a:TA} (h:kr w T a) (hb:Below w.heap.size w w'):kr w' T a:={ h with rs:=h.rs.below hb,ds:=h.ds.below hb,es:=h.es.below hb }
def gB (k:Int) (l:Bs):List Bs × Bool:=if word k l then((aP k (lower l)).1,true) else([],false)
def Uy (w:World) (k:Int) (l:Bs) (e:Ending) (w':World):Prop:=
 ∃ A c,e=.returned (.tuple (pB A (bC k l).1.length c (bC k l).2))/\Below w.heap.size w w'/\fB w' A (bC k l).1/\(bC k l).1.length<=c
theorem Fh (k:Int) (s:ByteArray) (w:World) (hs:s.size<=1000000) (hz:LZ w):Calls Tryz.prog 57 #[.int .i64 k,.string s] w (Uy w k (bl s)):=by
 refine(jd k s w hs hz).mono ?_;rintro e w' ⟨A,c,rfl,F,h1,h2,h3⟩;exact⟨A,c,rfl,h2.below (fun _ _ h=>h),oF h1,(u6 h1.1).1⟩
theorem Uz (k:Int):¬ word k []=true:=fun h=>Cq h rfl
variable {t p:Bs}
theorem Y8    (hn:n<l.length) (I:p≠[]) (J:l[n].isPrefixOf p=true) (h:tk l t=(tk (l.drop n) p).map (n + ·)) :
  tk l t=(tk (l.drop (n+1)) (p.drop l[n].length)).map (n+1 + ·):=by
 rw[h,rK hn];cases p with
 | nil=>exact absurd rfl I
 | cons c p=>
  conv=>lhs;unfold tk
  rw[if_pos J,tt];congr 1;funext x
  show n+(x+1)=n+1+x
  omega
theorem Pb    (I:p≠[]) (J:∀ hn:n<l.length,l[n].isPrefixOf p=false) (h:tk l t=(tk (l.drop n) p).map (n + ·)):takes l t=0:=by
 unfold takes;rw[h];cases p with
 | nil=>exact absurd rfl I
 | cons c p=>
  by_cases hn:n<l.length
  ·rw[rK hn];unfold tk;rw[if_neg (by rw[J hn];decide)];rfl
  ·rw[E6 eL];rfl
theorem Y9    (h:tk l t=(tk (l.drop n) []).map (n + ·)):takes l t=n:=by
 unfold takes;rw[h,Hr];rfl
theorem Za {x:Bs} (h:x.isPrefixOf p=true):x.length<=p.length:=by
 obtain⟨r,rfl⟩:=jL.1 h;rw[gd];omega
theorem Rx      (hA:fB w A l) (hl:l.length<=1000000) (ht:t.length<=1000000) (hw:∀ x ∈ l,x.length<=1000000) :
  Calls Tryz.prog 102 #[.slice A l.length c,.string (bs t)] w (aS w (.int .i64 (takes l t:Nat))):=by
 have HA:=au hA;have HW:=au hw;have KP:=au (fun (a b:ByteArray) (W:World)=>Tryz.strings_HasPrefix a b W);obtain⟨N,hN⟩:∃ N,N=l.length:=⟨_,rfl⟩;have HN:=au hN;rw[<-hN] at hl ⊢;clear hA hw hN
 go_enter Tryz.func102,Tryz.ntmps102
 go_wp2;go_loopw [5,6] (fun i s wr=>∃ (k:Nat) (p:Bs),k<=N/\i=.int .i64 k/\s=.string (bs p)/\p.length<=t.length/\tk l t=(tk (l.drop k) p).map (k + ·)/\Below w.heap.size w wr) (fun i _ _=>N-(intOf i).toNat)
 case atStart=>exact⟨0,t,fw _,rfl,rfl,fy _,by simp,fe _ _⟩
 case round=>
  obtain⟨k,p,hk,rfl,rfl,am,ad,hb⟩:=hrel;have HT:=au ad;have HB:=au hb;clear ad hb;by_cases h0:p=[]
  ·subst h0;have HF:=au (Y9 HT.o);have ai:(bs ([]:Bs)).toList.isEmpty=true:=by rw[rN];exact dA.2 rfl
   generalize bs ([]:Bs)=z at *
   by_cases M:k<N
   ·go_wp2;go_ret;exact⟨by rw[HF.o];rfl,HB.o⟩
   ·go_wp2;go_ret;exact⟨by rw[HF.o];rfl,HB.o⟩
  ·have ai:(bs p).toList.isEmpty=false:=by rw[pM];exact fun h=>h0 (dA.1 h)
   by_cases M:k<N
   ·have aa:k<l.length:=by rw[<-HN.o];exact M
    obtain⟨b,o,rfl,hc⟩:=HA.o.at eL;have ck:=hc _ HB.o k aa;have KQ:=au (KP.o (bs p) (bs l[k]) wr);have J:=au (fun I=>Y8 (t:=t) aa h0 I HT.o);have ab:=au (fun h:l[k].isPrefixOf p=false=>Pb h0 (fun _=>h) HT.o);have al:=HW.o _ (gv aa);by_cases I:l[k].isPrefixOf p=true
    ·have e1:Lib.hasPrefix (bs p).data.toList (bs l[k]).data.toList=true:=I;have HS:=au (J.o I);have ae:=Za I;have HD:=au (show bs (p.drop l[k].length)=(bs p).extract l[k].length p.length from by rw[He,cu]);have ak:(p.drop l[k].length).length<=t.length:=by rw[k6];omega
     have ag:(bs l[k]).size=l[k].length:=cu _;have ac:(bs p).size=p.length:=cu _;rw[e1] at KQ;clear e1 J ab I;have af:(l[k].length:Int)<=(p.length:Int):=by omega
     generalize l[k]=x at *
     go_wp2_with fail;refine KQ.o.mono ?_;rintro e9 w9 ⟨rfl,rfl⟩;clear KQ;dsimp only;rw[<-ag,<-ac] at ae af;go_wp2
     go_roundw
     case rel=>exact⟨k+1,p.drop x.length,by omega,by go_num,by rw[HD.o],ak,HS.o,HB.o⟩
     case measure=>simp[intOf];omega
    ·have e1:Lib.hasPrefix (bs p).data.toList (bs l[k]).data.toList=false:=Bool.eq_false_iff.2 I;have HF:=au (ab.o (Bool.eq_false_iff.2 I));rw[e1] at KQ;clear e1 J ab I;generalize l[k]=x at *
     go_wp2_with fail;refine KQ.o.mono ?_;rintro e9 w9 ⟨rfl,rfl⟩;clear KQ;dsimp only;go_wp2;go_ret;exact⟨by rw[HF.o];rfl,HB.o⟩
   ·have HF:=au (Pb h0 (fun hn=>absurd hn (by rw[<-HN.o];exact M)) HT.o);go_wp2;go_ret;exact⟨by rw[HF.o];rfl,HB.o⟩
theorem wB (n:Int) (w:World):Calls Tryz.prog 59 #[.int .i64 n] w (aS w (.bool (gQ n))):=by
 by_cases J:0<=n
 ·by_cases I:n<=1000
  ·have e:gQ n=true:=eu.2 ⟨J,I⟩;rw[e]
   go_enter Tryz.func59,Tryz.ntmps59
   go_wp2;go_ret;exact⟨rfl,fe _ _⟩
  ·have e:gQ n=false:=by rw[rk];exact fun h=>I (eu.1 h).2
   rw[e]
   go_enter Tryz.func59,Tryz.ntmps59
   go_wp2;go_ret;exact⟨rfl,fe _ _⟩
 ·have e:gQ n=false:=by rw[rk];exact fun h=>J (eu.1 h).1
  rw[e]
  go_enter Tryz.func59,Tryz.ntmps59
  go_wp2;go_ret;exact⟨rfl,fe _ _⟩
theorem CQ (k:Int) (s:ByteArray) (jz:Nat) (w:World) (hs:s.size<=1000000) (hz:LZ w):Calls Tryz.prog 60 #[.int .i64 k,.string s,.int .i64 (jz:Int)] w (aS w (.bool (iR k (bl s) jz))):=by
 have I:=au (tF k s w hs hz);have KL:=au (fun W (hz:LZ W)=>Fh k s W hs hz);have HZ:=au hz;clear hz;unfold aS at I;by_cases hw:word k (bl s)=true
 ·have e1:iw k (bl s)=(lower (bl s),0):=by unfold iw;rw[if_pos hw]
  have e2:bC k (bl s)=((aP k (bl s)).1,0):=by unfold bC;rw[if_pos hw]
  simp only[e1] at I;unfold Uy at KL;simp only[e2] at KL;by_cases hl:lower (bl s)=bl s
  ·have e3:iR k (bl s) jz=decide ((aP k (bl s)).1.length<=jz):=by unfold iR;rw[hw,decide_eq_true hl];simp
   have ab:bs (lower (bl s))=s:=by rw[hl,sQ]
   rw[e3];rw[ab] at I;have tq:(s.toList==s.toList)=true:=by simp
   clear e1 e2 e3 hl ab hw;generalize (aP k (bl s)).1=L at *
   by_cases hm:L.length<=jz
   ·have ac:(L.length:Int)<=(jz:Int):=by omega
    rw[decide_eq_true hm]
    go_enter Tryz.func60,Tryz.ntmps60
    go_wp2_with fail;refine I.o.mono ?_;rintro e9 w1 ⟨rfl,hb⟩;have M:=au hb;have J:=au (KL.o w1 (HZ.o.below hb));clear I KL hb;dsimp only;go_wp2_with fail;refine J.o.mono ?_;rintro e9 w2 ⟨A,c,rfl,hb,hA,hc⟩;have aa:=au (aF M.o hb);clear J M hb hA hc;dsimp only;go_wp2;go_ret;exact⟨rfl,aa.o⟩
   ·have ac:¬ (L.length:Int)<=(jz:Int):=by omega
    rw[decide_eq_false hm]
    go_enter Tryz.func60,Tryz.ntmps60
    go_wp2_with fail;refine I.o.mono ?_;rintro e9 w1 ⟨rfl,hb⟩;have M:=au hb;have J:=au (KL.o w1 (HZ.o.below hb));clear I KL hb;dsimp only;go_wp2_with fail;refine J.o.mono ?_;rintro e9 w2 ⟨A,c,rfl,hb,hA,hc⟩;have aa:=au (aF M.o hb);clear J M hb hA hc;dsimp only;go_wp2;go_ret;exact⟨rfl,aa.o⟩
  ·have e3:iR k (bl s) jz=false:=by unfold iR;rw[decide_eq_false hl];simp
   have tq:((bs (lower (bl s))).toList==s.toList)=false:=by
    rw[wN];exact decide_eq_false fun h=>hl (by have h2:=congrArg bl h;rw[iM] at h2;exact h2)
   rw[e3];clear e1 e2 e3 hl hw;generalize bs (lower (bl s))=z at *
   go_enter Tryz.func60,Tryz.ntmps60
   go_wp2_with fail;refine I.o.mono ?_;rintro e9 w1 ⟨rfl,hb⟩;have M:=au hb;clear I KL hb;dsimp only;go_wp2;go_ret;exact⟨rfl,M.o⟩
 ·have e1:iw k (bl s)=([],1):=by unfold iw;rw[if_neg hw]
  have e3:iR k (bl s) jz=false:=by unfold iR;rw[Bool.eq_false_iff.2 hw];rfl
  simp only[e1] at I;rw[e3];clear e1 e3 hw
  go_enter Tryz.func60,Tryz.ntmps60
  go_wp2_with fail;refine I.o.mono ?_;rintro e9 w1 ⟨rfl,hb⟩;have M:=au hb;clear I KL hb;dsimp only;go_wp2;go_ret;exact⟨rfl,M.o⟩
theorem Zn (c:UInt8):bS.contains c=jY c:=by
 have h:∀ n:Fin 256,bS.contains (UInt8.ofNat n.1)=jY (UInt8.ofNat n.1):=by decide +kernel
 have:=h ⟨c.toNat,c.toNat_lt⟩;simpa using this
theorem Nj {α:Type} {p:α->Bool}:∀ l:List α,l.dropWhile p=[]↔l.all p=true
 | []=>by simp
 | a::l=>by
  rw[List.dropWhile_cons,C0];cases h:p a with
  | true=>simp[Nj l]
  | false=>simp
theorem J3 (s:Bs):Lib.trimS s bS=[]↔s.all jY=true:=by
 have e:s.all jY=s.all (bS.contains ·):=by congr 1;funext c;exact(Zn c).symm
 rw[e];unfold Lib.trimS Lib.trimLeftS Lib.trimRightS;constructor
 ·intro h;rw[Nj,List.all_reverse] at h;rw[j8] at h ⊢;intro c M;by_cases hd:c ∈ s.reverse.dropWhile (bS.contains ·)
  ·exact h c hd
  ·have:=List.takeWhile_append_dropWhile (p:=(bS.contains ·)) (l:=s.reverse);have I:c ∈ s.reverse:=List.mem_reverse.2 M;rw[<-this,z7] at I;rcases I with J|J
   ·exact List.all_eq_true.1 (List.all_takeWhile) c J
   ·exact absurd J hd
 ·intro h;have J:s.reverse.dropWhile (bS.contains ·)=[]:=(Nj _).2 (by rw[List.all_reverse];exact h);rw[J];rfl
theorem Nk (s:ByteArray) (w:World) (hs:s.size<=1000000):Calls Tryz.prog 61 #[.string s] w (aS w (.bool (vN (bl s)))):=by
 have J:=au (Any.strings_Trim_laid Tryz.aaA eQ s ⟨#[97,98,99,100,101,102,103,104,105,106,107,108,109,110,111,112,113,114,115,116,117,118,119,120,121,122]⟩ w eL eS (_root_.Go.Proofs.ascii_of_all eS));have J:=au (show Calls Tryz.prog 87 #[.string s,.string ⟨#[97,98,99,100,101,102,103,104,105,106,107,108,109,110,111,112,113,114,115,116,117,118,119,120,121,122]⟩] w (fun e w'=>e=.returned (.string (bs (Lib.trimS (bl s) bS)))/\Below w.heap.size w w') from J.o);have I:(bl s).length=s.size:=qg s;by_cases h3:s.size<=3
 ·have aa:(s.size:Int)<=3:=by omega
  by_cases M:Lib.trimS (bl s) bS=[]
  ·have e:vN (bl s)=true:=uQ.2 ⟨by omega,(J3 _).1 M⟩;have t1:(bs (Lib.trimS (bl s) bS)).toList.isEmpty=true:=by rw[rN];exact dA.2 M
   rw[e];clear e M I;generalize bs (Lib.trimS (bl s) bS)=z at *
   go_enter Tryz.func61,Tryz.ntmps61
   go_wp2_with fail;refine J.o.mono ?_;rintro e9 w1 ⟨rfl,hb⟩;have HB:=au hb;clear J hb;dsimp only;go_wp2;go_ret;exact⟨rfl,HB.o⟩
  ·have e:vN (bl s)=false:=by rw[rk];exact fun h=>M ((J3 _).2 (uQ.1 h).2)
   have t1:(bs (Lib.trimS (bl s) bS)).toList.isEmpty=false:=by rw[pM];exact fun h=>M (dA.1 h)
   rw[e];clear e M I;generalize bs (Lib.trimS (bl s) bS)=z at *
   go_enter Tryz.func61,Tryz.ntmps61
   go_wp2_with fail;refine J.o.mono ?_;rintro e9 w1 ⟨rfl,hb⟩;have HB:=au hb;clear J hb;dsimp only;go_wp2;go_ret;exact⟨rfl,HB.o⟩
 ·have aa:¬ (s.size:Int)<=3:=by omega
  have e:vN (bl s)=false:=by rw[rk];exact fun h=>h3 (by have:=(uQ.1 h).1;omega)
  rw[e];clear e J I
  go_enter Tryz.func61,Tryz.ntmps61
  go_wp2;go_ret;exact⟨rfl,fe _ _⟩
structure PA where
 A:eV
 c:Nat
 L:eV
 lc:Nat
 M:eV
 mc:Nat
def cK (s:St):Array Value:=(fx s.i s.j (bs s.a) s.r)
def dN (W:Wd) (a:PA):Array Value:=(uC a.A W.rs.length a.c W.ka W.kb a.L W.l.length a.lc a.M W.m.length a.mc W.l.length W.m.length (bs []) false)
structure xG (W:Wd) (a:PA) (w:World):Prop where
 rs:lY w a.A W.rs
 l:fB w a.L W.l
 m:fB w a.M W.m
structure Ib (W:Wd) (a:PA):Prop where
 rs:W.rs.length<=1000000
 l:W.l.length<=1000000
 m:W.m.length<=1000000
 lc:W.l.length<=a.lc
 mc:W.m.length<=a.mc
 ll:∀ x ∈ W.l,x.length<=1000000
 ml:∀ x ∈ W.m,x.length<=1000000
 rl:∀ R ∈ W.rs,R.f.length<=1000000/\R.t.length<=1000000
variable {W:Wd}{s:St}{k:Nat}
theorem xG.below  {a:PA}  (h:xG W a w) (hb:Below w.heap.size w w'):xG W a w':=⟨h.rs.below hb,h.l.below hb,h.m.below hb⟩
def Zm (W:Wd) (a:PA) (s:St) (b1 b2:Nat):CH.aT:=aj (av b1 (cK s) 184) (av b2 (dN W a) 186)
theorem gJ  {a:PA}  :(Zm W a s b1 b2).Ok:=aB aC aC
instance {W:Wd} {a:PA} {s:St} {b1 b2:Nat}:(Zm W a s b1 b2).Ok:=gJ
def CB (x:Int × St):Array Value:=#[.int .i64 x.1,.agg (cK x.2)]
theorem gK  {a:PA}      (h:aI F0 w0 (aj (Zm W a s b1 b2) X) w) :
  (nq w b1 (.int .i64 s.i) (.int .i64 s.j) (.string (bs s.a)) (.bool s.r)) /\
  (o6 w b2 (.slice a.A W.rs.length a.c) (.int .i64 W.ka) (.int .i64 W.kb) (.slice a.L W.l.length a.lc) (.slice a.M W.m.length a.mc)):=by
 obtain⟨F,J⟩:=(h.assoc).fst;obtain⟨F2,I⟩:=(h.assoc.kN).fst;exact⟨⟨ay J rfl,ay J rfl,ay J rfl,ay J rfl⟩,ay I rfl,ay I rfl,ay I rfl,ay I rfl,ay I rfl⟩
def Pd (W:Wd) (s:St) (k:Nat):List (Int × St):=(W.rs.take k).filterMap (W.mv s)
theorem Pe  :Pd W s W.rs.length=W.moves s:=by unfold Pd Wd.moves;rw[ky]
theorem JQ    (hk:k<W.rs.length) (h:W.mv s W.rs[k]=none):Pd W s (k+1)=Pd W s k:=by
 unfold Pd;rw[kq hk,sR];simp[h]
theorem JR    (hk:k<W.rs.length) {x:Int × St} (h:W.mv s W.rs[k]=some x):Pd W s (k+1)=Pd W s k++[x]:=by
 unfold Pd;rw[kq hk,sR];simp[h]
theorem UC    (I:k<W.rs.length) {x:Int × St} (h:W.mv s W.rs[k]=some x):∃ hi:(Pd W s k).length<(W.moves s).length,(W.moves s)[(Pd W s k).length]=x:=by
 have e:W.moves s=Pd W s k++x::(W.rs.drop (k+1)).filterMap (W.mv s):=by
  unfold Wd.moves Pd
  conv=>lhs;rw[<-tM k W.rs,rK I,sR,xm h]
 refine⟨by rw[e];simp,?_⟩;simp only[e];rw[yv (fy _)];simp
theorem UD (a b:Bs):(⟨(Lib.trimPrefix a b).toArray⟩:ByteArray)=bs (if b.isPrefixOf a then a.drop b.length else a):=by
 unfold Lib.trimPrefix Lib.hasPrefix bs;split<;>rfl
theorem kP (a p:Bs) (w:World):Calls Tryz.prog 92 #[.string (bs a),.string (bs p)] w (fun e w'=>e=.returned (.tuple #[.string (bs (if p.isPrefixOf a then a.drop p.length else a)),.bool (p.isPrefixOf a)])/\w'=w):=by
 refine(Tryz.strings_CutPrefix (bs a) (bs p) w).mono ?_;rintro e w' ⟨rfl,rfl⟩;exact⟨by rw[<-UD];rfl,rfl⟩
section
variable {W:Wd} {s:St} {R:ik}
theorem xH (h:W.used s R=0):W.mv s R=none:=by unfold Wd.mv;rw[if_pos h]
theorem BD (h:W.ah s R.t=none):W.mv s R=none:=by
 unfold Wd.mv;rw[h];split<;>rfl
theorem nM  {x:Bs × Bool} (hn:W.used s R=n) (h0:n≠0) (h:W.ah s R.t=some x):W.mv s R=some (R.c,if W.left s then ⟨s.i+n,s.j,x.1,x.2⟩ else ⟨s.i,s.j+n,x.1,x.2⟩):=by
 unfold Wd.mv;rw[hn,if_neg h0,h];rfl
theorem PT (hl:W.left s=true):W.used s R=if R.k=W.ka then takes (W.l.drop s.i) R.f else 0:=by unfold Wd.used;rw[if_pos hl]
theorem P0 (hl:W.left s=false):W.used s R=if R.k=W.kb then takes (W.m.drop s.j) R.f else 0:=by unfold Wd.used;rw[if_neg (by rw[hl];decide)]
theorem Zb {q:Bs} (h1:q.isPrefixOf s.a=true) (h2:s.a.drop q.length≠[]):W.ah s q=some (s.a.drop q.length,s.r):=by unfold Wd.ah;rw[if_pos ⟨h1,h2⟩]
theorem JU {q:Bs} (h1:¬ (q.isPrefixOf s.a=true/\s.a.drop q.length≠[])) (h2:s.a.isPrefixOf q=true):W.ah s q=some (q.drop s.a.length,!W.left s&&decide (q.drop s.a.length≠[])):=by unfold Wd.ah;rw[if_neg h1,if_pos h2]
theorem Zc {q:Bs} (h1:¬ (q.isPrefixOf s.a=true/\s.a.drop q.length≠[])) (h2:¬ s.a.isPrefixOf q=true):W.ah s q=none:=by unfold Wd.ah;rw[if_neg h1,if_neg h2]
end
section
variable {F0:Nat→Prop} {w0 w:World} {O X:CH.aT} {g:Nat} {cs:Array Value} {t:TypeId}
theorem aJ (h:aI F0 w0 (aj (av g cs t) X) w) (hX:X.Ok) (i:Nat) (v:Value):aI F0 w0 (aj (av g (cs.setIfInBounds i v) t) X) (w.setCell ⟨g,i,none⟩ v):=by
 obtain⟨F,hF,-,bk⟩:=h.take aC hX;exact bk _ _ (uq hF i v)
theorem bq {a b c d:Value} (h:aI F0 w0 (aj (av g #[a,b,c,d] t) X) w):w.cell? ⟨g,0,none⟩=some a/\w.cell? ⟨g,1,none⟩=some b/\w.cell? ⟨g,2,none⟩=some c/\w.cell? ⟨g,3,none⟩=some d/\∀ i,w.frozen? ⟨g,i,none⟩=false:=by
 obtain⟨F,hF⟩:=h.fst;exact⟨ay hF rfl,ay hF rfl,ay hF rfl,ay hF rfl,fun i=>aM hF i⟩
theorem aH (h:aI F0 w0 O w) (ho:O.Ok) (cs:Array Value) (t:TypeId):aI F0 w0 (aj (av w.heap.size cs t) O) (w.alloc (.cells cs t)):=h.fresh ho (dP w cs t)
end
theorem Ic     (h:fB w A l) (hk:k<=l.length) (hc:l.length<=c):fB w (nW A c k 1) (l.drop k):=by
 have h1:=Src.cut h hk hc;unfold fB;have e:kM (l.drop k)=(kM l).drop (k*1):=by unfold kM;rw[AI,List.map_drop]
 rw[k6,e];exact h1
theorem Fj     {t:Bs} (h:fB w A l) (hk:k<=l.length) (J:l.length<=c) (hl:l.length<=1000000) (M:t.length<=1000000) (hw:∀ x ∈ l,x.length<=1000000) :
  Calls Tryz.prog 102 #[.slice (nW A c k 1) (l.length-k) (c-k),.string (bs t)] w (aS w (.int .i64 (takes (l.drop k) t:Nat))):=by
 have I:=Rx (c:=c-k) (Ic h hk J) (by rw[k6];omega) M (fun x hx=>hw x (zd hx));rw[k6] at I;exact I
theorem CF {W:Wd}  {pa:PA} {b1 b2:Nat} (hs:W.ok s) (hW:Ib W pa) (ha:s.a.length<=1000000) :
  Qe Tryz.prog 101 #[.pointer (some ⟨b1,0,none⟩),.pointer (some ⟨b2,0,none⟩)] (xG W pa) (fun _=>Zm W pa s b1 b2) CB (W.moves s):=by
 intro n lo w F0 w0 X Y ab a5 hE h0 hY;have HY:=au hY;have HE:=au hE;have HS:=au hs;have HW:=au hW;clear hY hE hs hW;obtain⟨N,hN⟩:∃ N,N=W.rs.length:=⟨_,rfl⟩;have HN:=au hN;refine callsIn_of_wp Tryz.func101 rfl trivial ?_ rfl;simp only[Tryz.ntmps101,pT,j7,lA,Nat.reduceAdd,Nat.reduceSub,qu,qS,re,qT,l4,pd];have h1:aI F0 w0 (aj (Zm W pa s b1 b2) (X 0)) w.drew:=h0.drew (aB gJ (ab 0));have H0:=au h1;obtain⟨⟨c1,c2,c3,c4⟩,d0,d1,d2,d3,d4⟩:=gK h1;clear h0 h1;rw[<-hN] at d0;clear hN;refine wpIn_seq_k ?_;intro K1 a6;refine wpIn_wide.2 (aR (fun w'=>w'=w.drew) eQ eQ rfl ?_);generalize w.drew=w1 at *
 (repeat(first|refine bM ?_|refine bN ?_))
 refine lex_nil ?_;gi_step;gi_step;refine wpIn_seq_k ?_;intro K2 ax;have cut:∀ (lf:Bool) (w:World) (g14 g15 g16 g17 g18 g19 g20 g21 g22 g23 g24 g25 g26 g27 g28 g29 g30 g31 g32 g33 g34:Value),W.left s=lf->aI F0 w0 (aj (Zm W pa s b1 b2) (X 0)) w->K2 { tmps:=#[.func (.yield lo) #[] #[],.pointer (some ⟨b1,0,none⟩),.pointer (some ⟨b2,0,none⟩),undef,.int .i64 (if lf then 0 else 1:Int),.int .i64 (if lf then s.i else s.j:Nat),undef,undef,undef,undef,undef,undef,undef,undef,g14,g15,g16,g17,g18,g19,g20,g21,g22,g23,g24,g25,g26,g27,g28,g29,g30,g31,g32,g33,g34,undef,undef,undef,undef,undef,undef,undef,undef,undef,undef,undef,undef,undef,undef,undef,undef,undef,undef,undef,undef,undef,undef,undef,undef,undef,undef,undef,undef,undef,undef,undef,undef,undef,undef,undef,undef,undef,undef,undef,undef,undef,undef,undef,undef,undef,undef,undef,undef,undef,undef,undef,undef,undef,undef,undef,undef,undef,undef,undef,undef,undef,undef,undef,undef,undef,undef,undef,undef,undef,undef,undef,undef,undef,undef,undef,undef,undef,undef],defers:=[] } w:=by
  intro lf w g14 g15 g16 g17 g18 g19 g20 g21 g22 g23 g24 g25 g26 g27 g28 g29 g30 g31 g32 g33 g34 ao hR;have ar:=au hR;have ao:=au ao;obtain⟨⟨c1,c2,c3,c4⟩,d0,d1,d2,d3,d4⟩:=gK hR;clear hR;rw[<-HN.o] at d0;refine ax _ _ ?_;clear ax K2;cases lf with
  | true=>
   have HL:W.left s=true:=ao.o;clear ao;have HL:=au HL;simp only[if_true];gi_wp2;gi_loopw [38] (fun i wr=>∃ k:Nat,k<=N/\i=.int .i64 k/\aI F0 w0 (aj (Zm W pa s b1 b2) (X (Pd W s k).length)) wr) (fun i _=>N-(intOf i).toNat)
   case atStart=>exact⟨0,fw _,rfl,ar.o⟩
   case round=>
    obtain⟨k,hk,rfl,hR⟩:=hrel;have HR:=au hR;clear ar hR c1 c2 c3 c4 d0 d1 d2 d3 d4;obtain⟨⟨c1,c2,c3,c4⟩,d0,d1,d2,d3,d4⟩:=gK HR.o;rw[<-HN.o] at d0;by_cases aq:k<N
    ·have ai:k<W.rs.length:=by rw[<-HN.o];exact aq
     have HP:=au (HE.o wr HR.o.mod);obtain⟨b,o,hA,hc⟩:=HP.o.rs.at eL;have a2:=au hc;obtain⟨r0,r1,r2,r3⟩:=hc wr (fe _ _) k ai;clear hc;rw[hA] at d0 ⊢;have HA:=au hA;clear hA
     gi_wp2_with fail
     have H1:=au (aH (HR.o) (aB gJ (ab _)) (mC W.rs[k].k (bs W.rs[k].f) (bs W.rs[k].t) W.rs[k].c) 50);have aA:=au (HP.o.below ((fe _ _).alloc (fy _) _).drew:xG W pa ((wr.alloc (.cells (mC W.rs[k].k (bs W.rs[k].f) (bs W.rs[k].t) W.rs[k].c) 50)).drew));have aD:(k:Int)<1000000:=by have:=HW.o.rs;omega
     have J:=au (show k+1<=N from aq);have az:=au (HW.o.rl _ (gv ai));have al:=au (fun h=>JQ (s:=s) ai h);have an:=au (fun x h=>JR (s:=s) (x:=x) ai h);have am:=au (fun x h=>UC (s:=s) (x:=x) ai h);have H2:=au (H1.o.drew (aB aC (aB gJ (ab _))));clear H1 r0 r1 r2 r3 c1 c2 c3 c4 d0 d1 d2 d3 d4;generalize W.rs[k]=R at *
     generalize wr.heap.size=g at *
     obtain⟨x0,x1,x2,x3,xf⟩:=bq H2.o;obtain⟨⟨c1,c2,c3,c4⟩,d0,d1,d2,d3,d4⟩:=gK H2.o.drop;by_cases ak:R.k=W.ka
     ·have t1:(R.k==W.ka)=true:=by simp[ak]
      refine wpIn_wide.2 (aR (fun w'=>w'=(wr.alloc (.cells (mC R.k (bs R.f) (bs R.t) R.c) 50)).drew) eQ eQ rfl ?_);generalize (wr.alloc (.cells (mC R.k (bs R.f) (bs R.t) R.c) 50)).drew=w2 at *
      (repeat(first|refine bM ?_|refine bN ?_))
      refine lex_nil ?_;clear t1
      gi_wp2_with fail
      have HU:=au (by rw[PT HL.o,if_pos ak]:W.used s R=takes (W.l.drop s.i) R.f);clear ak;have aw:∀ W',(Instr.slice 26 (.slice pa.L W.l.length pa.lc) (some (.int .i64 (s.i:Int))) none none).run Tryz.prog W'=.ok (.slice (nW pa.L pa.lc s.i 1) (W.l.length-s.i) (pa.lc-s.i)) W':=fun W'=>jE zq pa.L W.l.length pa.lc s.i .i64 (s.i:Int) rfl (HS.o.1) W';have KT:=au (Fj (t:=R.f) (aA.o.l.below (dF (fe _ _))) HS.o.1 HW.o.lc HW.o.l az.o.1 HW.o.ll);have H3:=au (H2.o.drew (aB aC (aB gJ (ab _))));clear H2 x0 x1 x2 x3 xf c1 c2 c3 c4 d0 d1 d2 d3 d4;obtain⟨x0,x1,x2,x3,xf⟩:=bq H3.o;obtain⟨⟨c1,c2,c3,c4⟩,d0,d1,d2,d3,d4⟩:=gK H3.o.drop;refine wpIn_wide.2 (dY [8] [0,0,0,0,0,0,0,0,1,1] (fun w'=>w'=w2.drew) [] trivial rfl eQ eQ eQ rfl ?_);generalize w2.drew=w3 at *
      (repeat(first|refine eH ?_|refine eO ?_))
      refine bB rfl fY (fun K hK=>?_);go_wp2_with fail;refine KT.o.mono ?_;rintro e9 w4 ⟨rfl,hb⟩;have H4:=au (H3.o.below (aB aC (aB gJ (ab _))) hb);refine hK.o _ _ trivial ?_;clear hK KT hb H3 x0 x1 x2 x3 xf c1 c2 c3 c4 d0 d1 d2 d3 d4 aw
      (repeat(first|refine eH ?_|refine eO ?_))
      refine iT ?_;obtain⟨m,hm⟩:∃ m,m=takes (W.l.drop s.i) R.f:=⟨_,rfl⟩;rw[<-hm] at HU ⊢;have a0:m<=1000000:=by rw[hm];exact kh qE (by have:=HW.o.l;rw[k6];omega)
      clear hm;obtain⟨x0,x1,x2,x3,xf⟩:=bq H4.o;obtain⟨⟨c1,c2,c3,c4⟩,d0,d1,d2,d3,d4⟩:=gK H4.o.drop;by_cases ag:m=0
      ·have t1:((m:Int)==0)=true:=by simp[ag]
       have ac:=au (al.o (xH (by rw[HU.o,ag])));clear ag;gi_wp2
       go_roundw
       case rel=>exact⟨k+1,J.o,by go_num,by rw[ac.o];exact H4.o.drop⟩
       case measure=>have:=J.o;simp[intOf];omega
      ·have t1:((m:Int)==0)=false:=by simp[ag]
       have af:=au ag;have aE:(s.i:Int)<=1000000:=by have:=HS.o.1;have:=HW.o.l;omega
       clear ag
       iterate 48 (first|go_values|gi_guarded|gi_step|gi_upon)
       have H5:=au (aH H4.o (aB aC (aB gJ (ab _))) (fx s.i s.j (bs s.a) s.r) 184);clear H4 x0 x1 x2 x3 xf c1 c2 c3 c4 d0 d1 d2 d3 d4;generalize w4.alloc (.cells (fx s.i s.j (bs s.a) s.r) 184)=w5 at *
       generalize w4.heap.size=h at *
       obtain⟨y0,y1,y2,y3,yf⟩:=bq H5.o;obtain⟨x0,x1,x2,x3,xf⟩:=bq H5.o.drop;obtain⟨⟨c1,c2,c3,c4⟩,d0,d1,d2,d3,d4⟩:=gK H5.o.drop.drop
       gi_wp2_with fail
       have H6:=au (aJ H5.o (aB aC (aB gJ (ab _))) 0 (.int .i64 ((s.i:Int)+(m:Int))):aI F0 w0 (aj (av h (fx ((s.i:Int)+(m:Int)) s.j (bs s.a) s.r) 184) _) _);clear H5 y0 y1 y2 y3 yf x0 x1 x2 x3 xf c1 c2 c3 c4 d0 d1 d2 d3 d4;generalize w5.setCell ⟨h,0,none⟩ (.int .i64 ((s.i:Int)+(m:Int)))=w6 at *
       obtain⟨y0,y1,y2,y3,yf⟩:=bq H6.o;obtain⟨x0,x1,x2,x3,xf⟩:=bq H6.o.drop;obtain⟨⟨c1,c2,c3,c4⟩,d0,d1,d2,d3,d4⟩:=gK H6.o.drop.drop;have KC:=au (kP s.a R.t w6);by_cases h1:R.t.isPrefixOf s.a=true
       ·by_cases h2:s.a.drop R.t.length=[]
        ·have ad:=au (show ¬ (R.t.isPrefixOf s.a=true/\s.a.drop R.t.length≠[]) from fun h=>h.2 h2);rw[if_pos h1,h1,h2] at KC;have e1:(bs ([]:Bs)).toList.isEmpty=true:=by rw[rN];exact dA.2 rfl
         generalize bs ([]:Bs)=z at KC e1;clear h1 h2;refine⟨trivial,fun h=>(by cases h),?_⟩
         gi_at_call 92
         refine(callsIn_wide.2 KC.o).mono ?_;rintro e9 w9 ⟨rfl,h9⟩;subst w9;clear KC;dsimp only
         gi_wp2_with fail
         have KD:=au (kP R.t s.a w6);by_cases I:s.a.isPrefixOf R.t=true
         ·have HM:=au (an.o _ (nM HU.o af.o (JU ad.o I)));have HT:=au (am.o _ (nM HU.o af.o (JU ad.o I)));rw[HL.o] at HM HT;rw[if_pos I,I] at KD;clear I;generalize R.t.drop s.a.length=q at *
          refine⟨trivial,fun h=>(by cases h),?_⟩
          gi_at_call 92
          refine(callsIn_wide.2 KD.o).mono ?_;rintro e9 w9 ⟨rfl,h9⟩;subst w9;clear KD;dsimp only
          iterate 28 (first|go_values|gi_guarded|gi_step|gi_upon)
          refine wpIn_wide.2 ?_;go_wp2;have H7:=au (aJ (aJ H6.o (aB aC (aB gJ (ab _))) 2 (.string (bs q))) (aB aC (aB gJ (ab _))) 3 (.bool false):aI F0 w0 (aj (av h (fx ((s.i:Int)+(m:Int)) s.j (bs q) false) 184) _) _);clear H6 y0 y1 y2 y3 yf x0 x1 x2 x3 xf c1 c2 c3 c4 d0 d1 d2 d3 d4;generalize (w6.setCell ⟨h,2,none⟩ (.string (bs q))).setCell ⟨h,3,none⟩ (.bool false)=w7 at *
          obtain⟨y0,y1,y2,y3,yf⟩:=bq H7.o;obtain⟨x0,x1,x2,x3,xf⟩:=bq H7.o.drop;obtain⟨hi,hx⟩:=HT.o;have hw:=HY.o _ hi w7 H7.o.drop.drop;rw[hx] at hw;simp only[CB,cK,if_true,kO,if_false,rS,ma,mT,pZ,lx] at hw;obtain⟨fn,tmps,assign,body,hy,hround⟩:=hw;have aa:=au hround;clear hround hx hi HT;gi_wp2
          try rw[hy]
          refine⟨fun h=>(by cases h),?_⟩;refine aa.o.mono ?_;rintro e W3 (⟨rfl,I⟩|⟨rfl,I⟩)
          ·have H8:=au I;clear aa I hy H7 y0 y1 y2 y3 yf x0 x1 x2 x3 xf;gi_wp2
           go_roundw
           case rel=>exact⟨k+1,J.o,by go_num,by rw[HM.o,gd];exact H8.o⟩
           case measure=>have:=J.o;simp[intOf];omega
          ·have ae:=au (show(∃ v,(Ending.returned (.tuple #[]))=.returned v)/\(aI F0 w0 (aj (Zm W pa s b1 b2) (X (W.moves s).length)) W3\/∃ i:Nat,aI F0 w0 (aj (Zm W pa s b1 b2) Y) W3) from⟨⟨_,rfl⟩,.inr ⟨0,I⟩⟩);clear aa I hy H7 y0 y1 y2 y3 yf x0 x1 x2 x3 xf;gi_wp2;refine bodyPost_ret (results_none rfl _ _ _) rfl ?_;exact ae.o
         ·have ac:=au (al.o (BD (Zc ad.o I)));rw[if_neg I,Bool.eq_false_iff.2 I] at KD;clear I;refine⟨trivial,fun h=>(by cases h),?_⟩
          gi_at_call 92
          refine(callsIn_wide.2 KD.o).mono ?_;rintro e9 w9 ⟨rfl,h9⟩;subst w9;clear KD;dsimp only;gi_wp2
          go_roundw
          case rel=>exact⟨k+1,J.o,by go_num,by rw[ac.o];exact H6.o.drop.drop⟩
          case measure=>have:=J.o;simp[intOf];omega
        ·have HM:=au (an.o _ (nM HU.o af.o (Zb h1 h2)));have HT:=au (am.o _ (nM HU.o af.o (Zb h1 h2)));rw[HL.o] at HM HT;rw[if_pos h1,h1] at KC;have e1:(bs (s.a.drop R.t.length)).toList.isEmpty=false:=by rw[pM];exact fun h=>h2 (dA.1 h)
         clear h1 h2;generalize s.a.drop R.t.length=q at *
         refine⟨trivial,fun h=>(by cases h),?_⟩
         gi_at_call 92
         refine(callsIn_wide.2 KC.o).mono ?_;rintro e9 w9 ⟨rfl,h9⟩;subst w9;clear KC;dsimp only
         gi_wp2_with fail
         have H7:=au (aJ H6.o (aB aC (aB gJ (ab _))) 2 (.string (bs q)):aI F0 w0 (aj (av h (fx ((s.i:Int)+(m:Int)) s.j (bs q) s.r) 184) _) _);clear H6 y0 y1 y2 y3 yf x0 x1 x2 x3 xf c1 c2 c3 c4 d0 d1 d2 d3 d4;generalize w6.setCell ⟨h,2,none⟩ (.string (bs q))=w7 at *
         obtain⟨y0,y1,y2,y3,yf⟩:=bq H7.o;obtain⟨x0,x1,x2,x3,xf⟩:=bq H7.o.drop;obtain⟨hi,hx⟩:=HT.o;have hw:=HY.o _ hi w7 H7.o.drop.drop;rw[hx] at hw;simp only[CB,cK,if_true,kO,if_false,rS,ma,mT,pZ,lx] at hw;obtain⟨fn,tmps,assign,body,hy,hround⟩:=hw;have aa:=au hround;clear hround hx hi HT;gi_wp2
         try rw[hy]
         refine⟨fun h=>(by cases h),?_⟩;refine aa.o.mono ?_;rintro e W3 (⟨rfl,I⟩|⟨rfl,I⟩)
         ·have H8:=au I;clear aa I hy H7 y0 y1 y2 y3 yf x0 x1 x2 x3 xf;gi_wp2
          go_roundw
          case rel=>exact⟨k+1,J.o,by go_num,by rw[HM.o,gd];exact H8.o⟩
          case measure=>have:=J.o;simp[intOf];omega
         ·have ae:=au (show(∃ v,(Ending.returned (.tuple #[]))=.returned v)/\(aI F0 w0 (aj (Zm W pa s b1 b2) (X (W.moves s).length)) W3\/∃ i:Nat,aI F0 w0 (aj (Zm W pa s b1 b2) Y) W3) from⟨⟨_,rfl⟩,.inr ⟨0,I⟩⟩);clear aa I hy H7 y0 y1 y2 y3 yf x0 x1 x2 x3 xf;gi_wp2;refine bodyPost_ret (results_none rfl _ _ _) rfl ?_;exact ae.o
       ·have ad:=au (show ¬ (R.t.isPrefixOf s.a=true/\s.a.drop R.t.length≠[]) from fun h=>h1 h.1);rw[if_neg h1,Bool.eq_false_iff.2 h1] at KC;clear h1;refine⟨trivial,fun h=>(by cases h),?_⟩
        gi_at_call 92
        refine(callsIn_wide.2 KC.o).mono ?_;rintro e9 w9 ⟨rfl,h9⟩;subst w9;clear KC;dsimp only
        gi_wp2_with fail
        have KD:=au (kP R.t s.a w6);by_cases I:s.a.isPrefixOf R.t=true
        ·have HM:=au (an.o _ (nM HU.o af.o (JU ad.o I)));have HT:=au (am.o _ (nM HU.o af.o (JU ad.o I)));rw[HL.o] at HM HT;rw[if_pos I,I] at KD;clear I;generalize R.t.drop s.a.length=q at *
         refine⟨trivial,fun h=>(by cases h),?_⟩
         gi_at_call 92
         refine(callsIn_wide.2 KD.o).mono ?_;rintro e9 w9 ⟨rfl,h9⟩;subst w9;clear KD;dsimp only
         iterate 28 (first|go_values|gi_guarded|gi_step|gi_upon)
         refine wpIn_wide.2 ?_;go_wp2;have H7:=au (aJ (aJ H6.o (aB aC (aB gJ (ab _))) 2 (.string (bs q))) (aB aC (aB gJ (ab _))) 3 (.bool false):aI F0 w0 (aj (av h (fx ((s.i:Int)+(m:Int)) s.j (bs q) false) 184) _) _);clear H6 y0 y1 y2 y3 yf x0 x1 x2 x3 xf c1 c2 c3 c4 d0 d1 d2 d3 d4;generalize (w6.setCell ⟨h,2,none⟩ (.string (bs q))).setCell ⟨h,3,none⟩ (.bool false)=w7 at *
         obtain⟨y0,y1,y2,y3,yf⟩:=bq H7.o;obtain⟨x0,x1,x2,x3,xf⟩:=bq H7.o.drop;obtain⟨hi,hx⟩:=HT.o;have hw:=HY.o _ hi w7 H7.o.drop.drop;rw[hx] at hw;simp only[CB,cK,if_true,kO,if_false,rS,ma,mT,pZ,lx] at hw;obtain⟨fn,tmps,assign,body,hy,hround⟩:=hw;have aa:=au hround;clear hround hx hi HT;gi_wp2
         try rw[hy]
         refine⟨fun h=>(by cases h),?_⟩;refine aa.o.mono ?_;rintro e W3 (⟨rfl,I⟩|⟨rfl,I⟩)
         ·have H8:=au I;clear aa I hy H7 y0 y1 y2 y3 yf x0 x1 x2 x3 xf;gi_wp2
          go_roundw
          case rel=>exact⟨k+1,J.o,by go_num,by rw[HM.o,gd];exact H8.o⟩
          case measure=>have:=J.o;simp[intOf];omega
         ·have ae:=au (show(∃ v,(Ending.returned (.tuple #[]))=.returned v)/\(aI F0 w0 (aj (Zm W pa s b1 b2) (X (W.moves s).length)) W3\/∃ i:Nat,aI F0 w0 (aj (Zm W pa s b1 b2) Y) W3) from⟨⟨_,rfl⟩,.inr ⟨0,I⟩⟩);clear aa I hy H7 y0 y1 y2 y3 yf x0 x1 x2 x3 xf;gi_wp2;refine bodyPost_ret (results_none rfl _ _ _) rfl ?_;exact ae.o
        ·have ac:=au (al.o (BD (Zc ad.o I)));rw[if_neg I,Bool.eq_false_iff.2 I] at KD;clear I;refine⟨trivial,fun h=>(by cases h),?_⟩
         gi_at_call 92
         refine(callsIn_wide.2 KD.o).mono ?_;rintro e9 w9 ⟨rfl,h9⟩;subst w9;clear KD;dsimp only;gi_wp2
         go_roundw
         case rel=>exact⟨k+1,J.o,by go_num,by rw[ac.o];exact H6.o.drop.drop⟩
         case measure=>have:=J.o;simp[intOf];omega
     ·have t1:(R.k==W.ka)=false:=by simp[ak]
      refine wpIn_wide.2 (aR (fun w'=>w'=(wr.alloc (.cells (mC R.k (bs R.f) (bs R.t) R.c) 50)).drew) eQ eQ rfl ?_);have ac:=au (al.o (xH (by rw[PT HL.o,if_neg ak])));generalize (wr.alloc (.cells (mC R.k (bs R.f) (bs R.t) R.c) 50)).drew=w2 at *
      (repeat(first|refine bM ?_|refine bN ?_))
      refine lex_nil ?_;gi_wp2
      go_roundw
      case rel=>exact⟨k+1,J.o,by go_num,by rw[ac.o];exact H2.o.drop⟩
      case measure=>have:=J.o;simp[intOf];omega
    ·obtain rfl:k=N:=by omega
     have ap:=au (show(∃ v,(Ending.returned (.tuple #[]))=.returned v)/\(aI F0 w0 (aj (Zm W pa s b1 b2) (X (W.moves s).length)) wr\/∃ i:Nat,aI F0 w0 (aj (Zm W pa s b1 b2) Y) wr) from⟨⟨_,rfl⟩,.inl (by rw[<-Pe,<-HN.o];exact HR.o)⟩);gi_wp2
     go_end0
     exact ap.o
  | false=>
   have HL:W.left s=false:=ao.o;clear ao;have HL:=au HL;simp only[kO,if_false];gi_wp2;gi_loopw [38] (fun i wr=>∃ k:Nat,k<=N/\i=.int .i64 k/\aI F0 w0 (aj (Zm W pa s b1 b2) (X (Pd W s k).length)) wr) (fun i _=>N-(intOf i).toNat)
   case atStart=>exact⟨0,fw _,rfl,ar.o⟩
   case round=>
    obtain⟨k,hk,rfl,hR⟩:=hrel;have HR:=au hR;clear ar hR c1 c2 c3 c4 d0 d1 d2 d3 d4;obtain⟨⟨c1,c2,c3,c4⟩,d0,d1,d2,d3,d4⟩:=gK HR.o;rw[<-HN.o] at d0;by_cases aq:k<N
    ·have ai:k<W.rs.length:=by rw[<-HN.o];exact aq
     have HP:=au (HE.o wr HR.o.mod);obtain⟨b,o,hA,hc⟩:=HP.o.rs.at eL;have a2:=au hc;obtain⟨r0,r1,r2,r3⟩:=hc wr (fe _ _) k ai;clear hc;rw[hA] at d0 ⊢;have HA:=au hA;clear hA
     gi_wp2_with fail
     have H1:=au (aH (HR.o) (aB gJ (ab _)) (mC W.rs[k].k (bs W.rs[k].f) (bs W.rs[k].t) W.rs[k].c) 50);have aA:=au (HP.o.below ((fe _ _).alloc (fy _) _).drew:xG W pa ((wr.alloc (.cells (mC W.rs[k].k (bs W.rs[k].f) (bs W.rs[k].t) W.rs[k].c) 50)).drew));have aD:(k:Int)<1000000:=by have:=HW.o.rs;omega
     have J:=au (show k+1<=N from aq);have az:=au (HW.o.rl _ (gv ai));have al:=au (fun h=>JQ (s:=s) ai h);have an:=au (fun x h=>JR (s:=s) (x:=x) ai h);have am:=au (fun x h=>UC (s:=s) (x:=x) ai h);have H2:=au (H1.o.drew (aB aC (aB gJ (ab _))));clear H1 r0 r1 r2 r3 c1 c2 c3 c4 d0 d1 d2 d3 d4;generalize W.rs[k]=R at *
     generalize wr.heap.size=g at *
     obtain⟨x0,x1,x2,x3,xf⟩:=bq H2.o;obtain⟨⟨c1,c2,c3,c4⟩,d0,d1,d2,d3,d4⟩:=gK H2.o.drop;by_cases ak:R.k=W.kb
     ·have t1:(R.k==W.kb)=true:=by simp[ak]
      refine wpIn_wide.2 (aR (fun w'=>w'=(wr.alloc (.cells (mC R.k (bs R.f) (bs R.t) R.c) 50)).drew) eQ eQ rfl ?_);generalize (wr.alloc (.cells (mC R.k (bs R.f) (bs R.t) R.c) 50)).drew=w2 at *
      (repeat(first|refine bM ?_|refine bN ?_))
      refine lex_nil ?_;clear t1
      gi_wp2_with fail
      have HU:=au (by rw[P0 HL.o,if_pos ak]:W.used s R=takes (W.m.drop s.j) R.f);clear ak;have aw:∀ W',(Instr.slice 26 (.slice pa.M W.m.length pa.mc) (some (.int .i64 (s.j:Int))) none none).run Tryz.prog W'=.ok (.slice (nW pa.M pa.mc s.j 1) (W.m.length-s.j) (pa.mc-s.j)) W':=fun W'=>jE zq pa.M W.m.length pa.mc s.j .i64 (s.j:Int) rfl (HS.o.2.1) W';have KT:=au (Fj (t:=R.f) (aA.o.m.below (dF (fe _ _))) HS.o.2.1 HW.o.mc HW.o.m az.o.1 HW.o.ml);have H3:=au (H2.o.drew (aB aC (aB gJ (ab _))));clear H2 x0 x1 x2 x3 xf c1 c2 c3 c4 d0 d1 d2 d3 d4;obtain⟨x0,x1,x2,x3,xf⟩:=bq H3.o;obtain⟨⟨c1,c2,c3,c4⟩,d0,d1,d2,d3,d4⟩:=gK H3.o.drop;refine wpIn_wide.2 (dY [8] [0,0,0,0,0,0,0,0,1,1] (fun w'=>w'=w2.drew) [] trivial rfl eQ eQ eQ rfl ?_);generalize w2.drew=w3 at *
      (repeat(first|refine eH ?_|refine eO ?_))
      refine bB rfl fY (fun K hK=>?_);go_wp2_with fail;refine KT.o.mono ?_;rintro e9 w4 ⟨rfl,hb⟩;have H4:=au (H3.o.below (aB aC (aB gJ (ab _))) hb);refine hK.o _ _ trivial ?_;clear hK KT hb H3 x0 x1 x2 x3 xf c1 c2 c3 c4 d0 d1 d2 d3 d4 aw
      (repeat(first|refine eH ?_|refine eO ?_))
      refine iT ?_;obtain⟨m,hm⟩:∃ m,m=takes (W.m.drop s.j) R.f:=⟨_,rfl⟩;rw[<-hm] at HU ⊢;have a0:m<=1000000:=by rw[hm];exact kh qE (by have:=HW.o.m;rw[k6];omega)
      clear hm;obtain⟨x0,x1,x2,x3,xf⟩:=bq H4.o;obtain⟨⟨c1,c2,c3,c4⟩,d0,d1,d2,d3,d4⟩:=gK H4.o.drop;by_cases ag:m=0
      ·have t1:((m:Int)==0)=true:=by simp[ag]
       have ac:=au (al.o (xH (by rw[HU.o,ag])));clear ag;gi_wp2
       go_roundw
       case rel=>exact⟨k+1,J.o,by go_num,by rw[ac.o];exact H4.o.drop⟩
       case measure=>have:=J.o;simp[intOf];omega
      ·have t1:((m:Int)==0)=false:=by simp[ag]
       have af:=au ag;have aE:(s.j:Int)<=1000000:=by have:=HS.o.2.1;have:=HW.o.m;omega
       clear ag
       iterate 48 (first|go_values|gi_guarded|gi_step|gi_upon)
       have H5:=au (aH H4.o (aB aC (aB gJ (ab _))) (fx s.i s.j (bs s.a) s.r) 184);clear H4 x0 x1 x2 x3 xf c1 c2 c3 c4 d0 d1 d2 d3 d4;generalize w4.alloc (.cells (fx s.i s.j (bs s.a) s.r) 184)=w5 at *
       generalize w4.heap.size=h at *
       obtain⟨y0,y1,y2,y3,yf⟩:=bq H5.o;obtain⟨x0,x1,x2,x3,xf⟩:=bq H5.o.drop;obtain⟨⟨c1,c2,c3,c4⟩,d0,d1,d2,d3,d4⟩:=gK H5.o.drop.drop
       gi_wp2_with fail
       have H6:=au (aJ H5.o (aB aC (aB gJ (ab _))) 1 (.int .i64 ((s.j:Int)+(m:Int))):aI F0 w0 (aj (av h (fx s.i ((s.j:Int)+(m:Int)) (bs s.a) s.r) 184) _) _);clear H5 y0 y1 y2 y3 yf x0 x1 x2 x3 xf c1 c2 c3 c4 d0 d1 d2 d3 d4;generalize w5.setCell ⟨h,1,none⟩ (.int .i64 ((s.j:Int)+(m:Int)))=w6 at *
       obtain⟨y0,y1,y2,y3,yf⟩:=bq H6.o;obtain⟨x0,x1,x2,x3,xf⟩:=bq H6.o.drop;obtain⟨⟨c1,c2,c3,c4⟩,d0,d1,d2,d3,d4⟩:=gK H6.o.drop.drop;have KC:=au (kP s.a R.t w6);by_cases h1:R.t.isPrefixOf s.a=true
       ·by_cases h2:s.a.drop R.t.length=[]
        ·have ad:=au (show ¬ (R.t.isPrefixOf s.a=true/\s.a.drop R.t.length≠[]) from fun h=>h.2 h2);rw[if_pos h1,h1,h2] at KC;have e1:(bs ([]:Bs)).toList.isEmpty=true:=by rw[rN];exact dA.2 rfl
         generalize bs ([]:Bs)=z at KC e1;clear h1 h2;refine⟨trivial,fun h=>(by cases h),?_⟩
         gi_at_call 92
         refine(callsIn_wide.2 KC.o).mono ?_;rintro e9 w9 ⟨rfl,h9⟩;subst w9;clear KC;dsimp only
         gi_wp2_with fail
         have KD:=au (kP R.t s.a w6);by_cases I:s.a.isPrefixOf R.t=true
         ·have HM:=au (an.o _ (nM HU.o af.o (JU ad.o I)));have HT:=au (am.o _ (nM HU.o af.o (JU ad.o I)));rw[HL.o] at HM HT;rw[if_pos I,I] at KD;clear I;generalize R.t.drop s.a.length=q at *
          by_cases hq:q=[]
          ·have e2:(bs q).toList.isEmpty=true:=by rw[rN];exact dA.2 hq
           have HQ:=au hq;clear hq;refine⟨trivial,fun h=>(by cases h),?_⟩
           gi_at_call 92
           refine(callsIn_wide.2 KD.o).mono ?_;rintro e9 w9 ⟨rfl,h9⟩;subst w9;clear KD;dsimp only
           iterate 28 (first|go_values|gi_guarded|gi_step|gi_upon)
           refine wpIn_wide.2 ?_;go_wp2;have H7:=au (aJ (aJ H6.o (aB aC (aB gJ (ab _))) 2 (.string (bs q))) (aB aC (aB gJ (ab _))) 3 (.bool false):aI F0 w0 (aj (av h (fx s.i ((s.j:Int)+(m:Int)) (bs q) false) 184) _) _);clear H6 y0 y1 y2 y3 yf x0 x1 x2 x3 xf c1 c2 c3 c4 d0 d1 d2 d3 d4;generalize (w6.setCell ⟨h,2,none⟩ (.string (bs q))).setCell ⟨h,3,none⟩ (.bool false)=w7 at *
           obtain⟨y0,y1,y2,y3,yf⟩:=bq H7.o;obtain⟨x0,x1,x2,x3,xf⟩:=bq H7.o.drop;obtain⟨hi,hx⟩:=HT.o;have hw:=HY.o _ hi w7 H7.o.drop.drop;rw[hx] at hw;simp only[CB,cK,if_true,kO,if_false,rS,ma,mT,pZ,lx] at hw;rw[show decide (q≠[])=false by simp[HQ.o]] at hw;obtain⟨fn,tmps,assign,body,hy,hround⟩:=hw;have aa:=au hround;clear hround hx hi HT;gi_wp2
           try rw[hy]
           refine⟨fun h=>(by cases h),?_⟩;refine aa.o.mono ?_;rintro e W3 (⟨rfl,I⟩|⟨rfl,I⟩)
           ·have H8:=au I;clear aa I hy H7 y0 y1 y2 y3 yf x0 x1 x2 x3 xf;gi_wp2
            go_roundw
            case rel=>exact⟨k+1,J.o,by go_num,by rw[HM.o,gd];exact H8.o⟩
            case measure=>have:=J.o;simp[intOf];omega
           ·have ae:=au (show(∃ v,(Ending.returned (.tuple #[]))=.returned v)/\(aI F0 w0 (aj (Zm W pa s b1 b2) (X (W.moves s).length)) W3\/∃ i:Nat,aI F0 w0 (aj (Zm W pa s b1 b2) Y) W3) from⟨⟨_,rfl⟩,.inr ⟨0,I⟩⟩);clear aa I hy H7 y0 y1 y2 y3 yf x0 x1 x2 x3 xf;gi_wp2;refine bodyPost_ret (results_none rfl _ _ _) rfl ?_;exact ae.o
          ·have e2:(bs q).toList.isEmpty=false:=by rw[pM];exact fun h=>hq (dA.1 h)
           have HQ:=au hq;clear hq;refine⟨trivial,fun h=>(by cases h),?_⟩
           gi_at_call 92
           refine(callsIn_wide.2 KD.o).mono ?_;rintro e9 w9 ⟨rfl,h9⟩;subst w9;clear KD;dsimp only
           iterate 28 (first|go_values|gi_guarded|gi_step|gi_upon)
           refine wpIn_wide.2 ?_;go_wp2;have H7:=au (aJ (aJ H6.o (aB aC (aB gJ (ab _))) 2 (.string (bs q))) (aB aC (aB gJ (ab _))) 3 (.bool true):aI F0 w0 (aj (av h (fx s.i ((s.j:Int)+(m:Int)) (bs q) true) 184) _) _);clear H6 y0 y1 y2 y3 yf x0 x1 x2 x3 xf c1 c2 c3 c4 d0 d1 d2 d3 d4;generalize (w6.setCell ⟨h,2,none⟩ (.string (bs q))).setCell ⟨h,3,none⟩ (.bool true)=w7 at *
           obtain⟨y0,y1,y2,y3,yf⟩:=bq H7.o;obtain⟨x0,x1,x2,x3,xf⟩:=bq H7.o.drop;obtain⟨hi,hx⟩:=HT.o;have hw:=HY.o _ hi w7 H7.o.drop.drop;rw[hx] at hw;simp only[CB,cK,if_true,kO,if_false,rS,ma,mT,pZ,lx] at hw;rw[show decide (q≠[])=true by simp[HQ.o]] at hw;obtain⟨fn,tmps,assign,body,hy,hround⟩:=hw;have aa:=au hround;clear hround hx hi HT;gi_wp2
           try rw[hy]
           refine⟨fun h=>(by cases h),?_⟩;refine aa.o.mono ?_;rintro e W3 (⟨rfl,I⟩|⟨rfl,I⟩)
           ·have H8:=au I;clear aa I hy H7 y0 y1 y2 y3 yf x0 x1 x2 x3 xf;gi_wp2
            go_roundw
            case rel=>exact⟨k+1,J.o,by go_num,by rw[HM.o,gd];exact H8.o⟩
            case measure=>have:=J.o;simp[intOf];omega
           ·have ae:=au (show(∃ v,(Ending.returned (.tuple #[]))=.returned v)/\(aI F0 w0 (aj (Zm W pa s b1 b2) (X (W.moves s).length)) W3\/∃ i:Nat,aI F0 w0 (aj (Zm W pa s b1 b2) Y) W3) from⟨⟨_,rfl⟩,.inr ⟨0,I⟩⟩);clear aa I hy H7 y0 y1 y2 y3 yf x0 x1 x2 x3 xf;gi_wp2;refine bodyPost_ret (results_none rfl _ _ _) rfl ?_;exact ae.o
         ·have ac:=au (al.o (BD (Zc ad.o I)));rw[if_neg I,Bool.eq_false_iff.2 I] at KD;clear I;refine⟨trivial,fun h=>(by cases h),?_⟩
          gi_at_call 92
          refine(callsIn_wide.2 KD.o).mono ?_;rintro e9 w9 ⟨rfl,h9⟩;subst w9;clear KD;dsimp only;gi_wp2
          go_roundw
          case rel=>exact⟨k+1,J.o,by go_num,by rw[ac.o];exact H6.o.drop.drop⟩
          case measure=>have:=J.o;simp[intOf];omega
        ·have HM:=au (an.o _ (nM HU.o af.o (Zb h1 h2)));have HT:=au (am.o _ (nM HU.o af.o (Zb h1 h2)));rw[HL.o] at HM HT;rw[if_pos h1,h1] at KC;have e1:(bs (s.a.drop R.t.length)).toList.isEmpty=false:=by rw[pM];exact fun h=>h2 (dA.1 h)
         clear h1 h2;generalize s.a.drop R.t.length=q at *
         refine⟨trivial,fun h=>(by cases h),?_⟩
         gi_at_call 92
         refine(callsIn_wide.2 KC.o).mono ?_;rintro e9 w9 ⟨rfl,h9⟩;subst w9;clear KC;dsimp only
         gi_wp2_with fail
         have H7:=au (aJ H6.o (aB aC (aB gJ (ab _))) 2 (.string (bs q)):aI F0 w0 (aj (av h (fx s.i ((s.j:Int)+(m:Int)) (bs q) s.r) 184) _) _);clear H6 y0 y1 y2 y3 yf x0 x1 x2 x3 xf c1 c2 c3 c4 d0 d1 d2 d3 d4;generalize w6.setCell ⟨h,2,none⟩ (.string (bs q))=w7 at *
         obtain⟨y0,y1,y2,y3,yf⟩:=bq H7.o;obtain⟨x0,x1,x2,x3,xf⟩:=bq H7.o.drop;obtain⟨hi,hx⟩:=HT.o;have hw:=HY.o _ hi w7 H7.o.drop.drop;rw[hx] at hw;simp only[CB,cK,if_true,kO,if_false,rS,ma,mT,pZ,lx] at hw;obtain⟨fn,tmps,assign,body,hy,hround⟩:=hw;have aa:=au hround;clear hround hx hi HT;gi_wp2
         try rw[hy]
         refine⟨fun h=>(by cases h),?_⟩;refine aa.o.mono ?_;rintro e W3 (⟨rfl,I⟩|⟨rfl,I⟩)
         ·have H8:=au I;clear aa I hy H7 y0 y1 y2 y3 yf x0 x1 x2 x3 xf;gi_wp2
          go_roundw
          case rel=>exact⟨k+1,J.o,by go_num,by rw[HM.o,gd];exact H8.o⟩
          case measure=>have:=J.o;simp[intOf];omega
         ·have ae:=au (show(∃ v,(Ending.returned (.tuple #[]))=.returned v)/\(aI F0 w0 (aj (Zm W pa s b1 b2) (X (W.moves s).length)) W3\/∃ i:Nat,aI F0 w0 (aj (Zm W pa s b1 b2) Y) W3) from⟨⟨_,rfl⟩,.inr ⟨0,I⟩⟩);clear aa I hy H7 y0 y1 y2 y3 yf x0 x1 x2 x3 xf;gi_wp2;refine bodyPost_ret (results_none rfl _ _ _) rfl ?_;exact ae.o
       ·have ad:=au (show ¬ (R.t.isPrefixOf s.a=true/\s.a.drop R.t.length≠[]) from fun h=>h1 h.1);rw[if_neg h1,Bool.eq_false_iff.2 h1] at KC;clear h1;refine⟨trivial,fun h=>(by cases h),?_⟩
        gi_at_call 92
        refine(callsIn_wide.2 KC.o).mono ?_;rintro e9 w9 ⟨rfl,h9⟩;subst w9;clear KC;dsimp only
        gi_wp2_with fail
        have KD:=au (kP R.t s.a w6);by_cases I:s.a.isPrefixOf R.t=true
        ·have HM:=au (an.o _ (nM HU.o af.o (JU ad.o I)));have HT:=au (am.o _ (nM HU.o af.o (JU ad.o I)));rw[HL.o] at HM HT;rw[if_pos I,I] at KD;clear I;generalize R.t.drop s.a.length=q at *
         by_cases hq:q=[]
         ·have e2:(bs q).toList.isEmpty=true:=by rw[rN];exact dA.2 hq
          have HQ:=au hq;clear hq;refine⟨trivial,fun h=>(by cases h),?_⟩
          gi_at_call 92
          refine(callsIn_wide.2 KD.o).mono ?_;rintro e9 w9 ⟨rfl,h9⟩;subst w9;clear KD;dsimp only
          iterate 28 (first|go_values|gi_guarded|gi_step|gi_upon)
          refine wpIn_wide.2 ?_;go_wp2;have H7:=au (aJ (aJ H6.o (aB aC (aB gJ (ab _))) 2 (.string (bs q))) (aB aC (aB gJ (ab _))) 3 (.bool false):aI F0 w0 (aj (av h (fx s.i ((s.j:Int)+(m:Int)) (bs q) false) 184) _) _);clear H6 y0 y1 y2 y3 yf x0 x1 x2 x3 xf c1 c2 c3 c4 d0 d1 d2 d3 d4;generalize (w6.setCell ⟨h,2,none⟩ (.string (bs q))).setCell ⟨h,3,none⟩ (.bool false)=w7 at *
          obtain⟨y0,y1,y2,y3,yf⟩:=bq H7.o;obtain⟨x0,x1,x2,x3,xf⟩:=bq H7.o.drop;obtain⟨hi,hx⟩:=HT.o;have hw:=HY.o _ hi w7 H7.o.drop.drop;rw[hx] at hw;simp only[CB,cK,if_true,kO,if_false,rS,ma,mT,pZ,lx] at hw;rw[show decide (q≠[])=false by simp[HQ.o]] at hw;obtain⟨fn,tmps,assign,body,hy,hround⟩:=hw;have aa:=au hround;clear hround hx hi HT;gi_wp2
          try rw[hy]
          refine⟨fun h=>(by cases h),?_⟩;refine aa.o.mono ?_;rintro e W3 (⟨rfl,I⟩|⟨rfl,I⟩)
          ·have H8:=au I;clear aa I hy H7 y0 y1 y2 y3 yf x0 x1 x2 x3 xf;gi_wp2
           go_roundw
           case rel=>exact⟨k+1,J.o,by go_num,by rw[HM.o,gd];exact H8.o⟩
           case measure=>have:=J.o;simp[intOf];omega
          ·have ae:=au (show(∃ v,(Ending.returned (.tuple #[]))=.returned v)/\(aI F0 w0 (aj (Zm W pa s b1 b2) (X (W.moves s).length)) W3\/∃ i:Nat,aI F0 w0 (aj (Zm W pa s b1 b2) Y) W3) from⟨⟨_,rfl⟩,.inr ⟨0,I⟩⟩);clear aa I hy H7 y0 y1 y2 y3 yf x0 x1 x2 x3 xf;gi_wp2;refine bodyPost_ret (results_none rfl _ _ _) rfl ?_;exact ae.o
         ·have e2:(bs q).toList.isEmpty=false:=by rw[pM];exact fun h=>hq (dA.1 h)
          have HQ:=au hq;clear hq;refine⟨trivial,fun h=>(by cases h),?_⟩
          gi_at_call 92
          refine(callsIn_wide.2 KD.o).mono ?_;rintro e9 w9 ⟨rfl,h9⟩;subst w9;clear KD;dsimp only
          iterate 28 (first|go_values|gi_guarded|gi_step|gi_upon)
          refine wpIn_wide.2 ?_;go_wp2;have H7:=au (aJ (aJ H6.o (aB aC (aB gJ (ab _))) 2 (.string (bs q))) (aB aC (aB gJ (ab _))) 3 (.bool true):aI F0 w0 (aj (av h (fx s.i ((s.j:Int)+(m:Int)) (bs q) true) 184) _) _);clear H6 y0 y1 y2 y3 yf x0 x1 x2 x3 xf c1 c2 c3 c4 d0 d1 d2 d3 d4;generalize (w6.setCell ⟨h,2,none⟩ (.string (bs q))).setCell ⟨h,3,none⟩ (.bool true)=w7 at *
          obtain⟨y0,y1,y2,y3,yf⟩:=bq H7.o;obtain⟨x0,x1,x2,x3,xf⟩:=bq H7.o.drop;obtain⟨hi,hx⟩:=HT.o;have hw:=HY.o _ hi w7 H7.o.drop.drop;rw[hx] at hw;simp only[CB,cK,if_true,kO,if_false,rS,ma,mT,pZ,lx] at hw;rw[show decide (q≠[])=true by simp[HQ.o]] at hw;obtain⟨fn,tmps,assign,body,hy,hround⟩:=hw;have aa:=au hround;clear hround hx hi HT;gi_wp2
          try rw[hy]
          refine⟨fun h=>(by cases h),?_⟩;refine aa.o.mono ?_;rintro e W3 (⟨rfl,I⟩|⟨rfl,I⟩)
          ·have H8:=au I;clear aa I hy H7 y0 y1 y2 y3 yf x0 x1 x2 x3 xf;gi_wp2
           go_roundw
           case rel=>exact⟨k+1,J.o,by go_num,by rw[HM.o,gd];exact H8.o⟩
           case measure=>have:=J.o;simp[intOf];omega
          ·have ae:=au (show(∃ v,(Ending.returned (.tuple #[]))=.returned v)/\(aI F0 w0 (aj (Zm W pa s b1 b2) (X (W.moves s).length)) W3\/∃ i:Nat,aI F0 w0 (aj (Zm W pa s b1 b2) Y) W3) from⟨⟨_,rfl⟩,.inr ⟨0,I⟩⟩);clear aa I hy H7 y0 y1 y2 y3 yf x0 x1 x2 x3 xf;gi_wp2;refine bodyPost_ret (results_none rfl _ _ _) rfl ?_;exact ae.o
        ·have ac:=au (al.o (BD (Zc ad.o I)));rw[if_neg I,Bool.eq_false_iff.2 I] at KD;clear I;refine⟨trivial,fun h=>(by cases h),?_⟩
         gi_at_call 92
         refine(callsIn_wide.2 KD.o).mono ?_;rintro e9 w9 ⟨rfl,h9⟩;subst w9;clear KD;dsimp only;gi_wp2
         go_roundw
         case rel=>exact⟨k+1,J.o,by go_num,by rw[ac.o];exact H6.o.drop.drop⟩
         case measure=>have:=J.o;simp[intOf];omega
     ·have t1:(R.k==W.kb)=false:=by simp[ak]
      refine wpIn_wide.2 (aR (fun w'=>w'=(wr.alloc (.cells (mC R.k (bs R.f) (bs R.t) R.c) 50)).drew) eQ eQ rfl ?_);have ac:=au (al.o (xH (by rw[P0 HL.o,if_neg ak])));generalize (wr.alloc (.cells (mC R.k (bs R.f) (bs R.t) R.c) 50)).drew=w2 at *
      (repeat(first|refine bM ?_|refine bN ?_))
      refine lex_nil ?_;gi_wp2
      go_roundw
      case rel=>exact⟨k+1,J.o,by go_num,by rw[ac.o];exact H2.o.drop⟩
      case measure=>have:=J.o;simp[intOf];omega
    ·obtain rfl:k=N:=by omega
     have ap:=au (show(∃ v,(Ending.returned (.tuple #[]))=.returned v)/\(aI F0 w0 (aj (Zm W pa s b1 b2) (X (W.moves s).length)) wr\/∃ i:Nat,aI F0 w0 (aj (Zm W pa s b1 b2) Y) wr) from⟨⟨_,rfl⟩,.inl (by rw[<-Pe,<-HN.o];exact HR.o)⟩);gi_wp2
     go_end0
     exact ap.o
 have HC:=au cut;clear cut ax
 cases hr:s.r with
 | true=>
  have hl:W.left s=true:=by unfold Wd.left;rw[hr];rfl
  have HL:=au hl;rw[hr] at c4;clear hl hr;refine wpIn_seq_k ?_;intro K3 a4;refine wpIn_wide.2 ?_;go_wp2;gi_wp2;exact HC.o true w1 _ _ _ _ _ _ _ _ _ _ _ _ _ _ _ _ _ _ _ _ _ HL.o H0.o
 | false=>
  rw[hr] at c4;by_cases he:s.a=[]
  ·have a1:(bs s.a).toList.isEmpty=true:=by rw[rN];exact dA.2 he
   by_cases hi:s.i=W.l.length
   ·have hl:W.left s=false:=by unfold Wd.left;rw[hr];simp[hi]
    have HL:=au hl;have a3:((s.i:Int)==(W.l.length:Int))=true:=by simp[hi]
    clear hl hi he hr;gi_wp2;refine wpIn_wide.2 (aR (fun w'=>w'=w1.drew) eQ eQ rfl ?_);have H1:=au (H0.o.drew (aB gJ (ab 0)));obtain⟨⟨e1,e2,e3,e4⟩,f0,f1,f2,f3,f4⟩:=gK H1.o;clear c1 c2 c3 c4 d0 d1 d2 d3 d4;generalize w1.drew=w2 at *
    (repeat(first|refine bM ?_|refine bN ?_))
    refine lex_nil ?_;gi_wp2;exact HC.o false w2 _ _ _ _ _ _ _ _ _ _ _ _ _ _ _ _ _ _ _ _ _ HL.o H1.o
   ·have hl:W.left s=true:=by unfold Wd.left;rw[hr];simp[hi,he]
    have HL:=au hl;have a3:((s.i:Int)==(W.l.length:Int))=false:=by simp;omega
    clear hl hi he hr;gi_wp2;exact HC.o true w1 _ _ _ _ _ _ _ _ _ _ _ _ _ _ _ _ _ _ _ _ _ HL.o H0.o
  ·have a1:(bs s.a).toList.isEmpty=false:=by rw[pM];exact fun h=>he (dA.1 h)
   have hl:W.left s=false:=by unfold Wd.left;rw[hr];simp[he]
   have HL:=au hl;clear hl he hr;gi_wp2;refine wpIn_wide.2 (aR (fun w'=>w'=w1.drew) eQ eQ rfl ?_);have H1:=au (H0.o.drew (aB gJ (ab 0)));obtain⟨⟨e1,e2,e3,e4⟩,f0,f1,f2,f3,f4⟩:=gK H1.o;clear c1 c2 c3 c4 d0 d1 d2 d3 d4;generalize w1.drew=w2 at *
   (repeat(first|refine bM ?_|refine bN ?_))
   refine lex_nil ?_;gi_wp2;exact HC.o false w2 _ _ _ _ _ _ _ _ _ _ _ _ _ _ _ _ _ _ _ _ _ HL.o H1.o
section
def De (b1 b2:Nat):Value:=.func (.func 101) #[] (sS (some ⟨b1,0,none⟩) (some ⟨b2,0,none⟩))
def eD (W:Wd) (a:PA):Value:=.agg (dN W a)
def sF (s:St):Value:=.agg (cK s)
theorem Fp {W:Wd} {a:PA}  (w:World) :
  Calls Tryz.prog 78 #[eD W a,sF s] w fun e w'=>∃ b1 b2,e=.returned (De b1 b2)/\bT w eR (Zm W a s b1 b2) w':=by
 have J:bT w eR (Zm W a s (w.heap.size+1) w.heap.size) ((w.alloc (.cells (dN W a) 186)).alloc (.cells (cK s) 184)):=by
  have M:=(aI.begin w).fresh aN (dP w (dN W a) 186);have I:=M.fresh aO (dP _ (cK s) 184);rw[im] at I;have h3:aI eR w (aj (Zm W a s (w.heap.size+1) w.heap.size) bG) _:=I.perm (by unfold Zm;ac_rfl);exact(h3.swap.drop).post gJ
 have h:=au J;clear J;unfold eD sF dN cK;unfold dN cK at h
 go_enter Tryz.func78,Tryz.ntmps78
 go_wp2;go_ret;exact⟨_,_,rfl,h.o⟩
end
theorem tN (s:St):pO Tryz.prog [⟨"i",3,0,false, "", "customhouse/potential",0⟩,⟨"j",3,1,false, "", "customhouse/potential",8⟩,⟨"ahead",9,2,false, "", "customhouse/potential",16⟩,⟨"right",4,3,false, "", "customhouse/potential",32⟩] (cK s):=by
 intro f h;simp only[pA,CM,or_false] at h;rcases h with rfl|rfl|rfl|rfl
 ·exact⟨by decide,_,rfl,.int Tryz.underlying3 _⟩
 ·exact⟨by decide,_,rfl,.int Tryz.underlying3 _⟩
 ·exact⟨by decide,_,rfl,.str Tryz.underlying9 _⟩
 ·exact⟨by decide,_,rfl,.bool Tryz.underlying4 _⟩
theorem zI (a b:Bs):(bs a==bs b)=decide (a=b):=by
 rw[Tk];exact decide_eq_decide.2 ⟨fun h=>T9 h,fun h=>by rw[h]⟩
theorem BF (a b:St):oL [⟨"i",3,0,false, "", "customhouse/potential",0⟩,⟨"j",3,1,false, "", "customhouse/potential",8⟩,⟨"ahead",9,2,false, "", "customhouse/potential",16⟩,⟨"right",4,3,false, "", "customhouse/potential",32⟩] (cK a) (cK b)=decide (a=b):=by
 have e:oL [⟨"i",3,0,false, "", "customhouse/potential",0⟩,⟨"j",3,1,false, "", "customhouse/potential",8⟩,⟨"ahead",9,2,false, "", "customhouse/potential",16⟩,⟨"right",4,3,false, "", "customhouse/potential",32⟩] (cK a) (cK b)=(((a.i:Int)==(b.i:Int))&&(((a.j:Int)==(b.j:Int))&&((bs a.a==bs b.a)&&((a.r==b.r)&&true)))):=rfl;rw[e,zI];obtain⟨i,j,x,r⟩:=a;obtain⟨h,M,x',r'⟩:=b;simp only[Bool.and_true];by_cases J:i=h
 ·by_cases I:j=M
  ·by_cases h3:x=x'
   ·by_cases h4:r=r'<;>simp[J,I,h3,h4]
   ·simp[h3]
  ·simp only[St.mk.injEq,I,false_and,and_false,decide_false];have:((j:Int)==(M:Int))=false:=by simp;omega
   rw[this];simp
 ·simp only[St.mk.injEq,J,false_and,decide_false];have:((i:Int)==(h:Int))=false:=by simp;omega
  rw[this];rfl
theorem xI:oN Tryz.prog 184 sF:=by
 refine rP (cs:=cK) Tryz.underlying184 eQ tN BF (fun a=>?_);simp[cK,Instr.sameBits,zI]
theorem Wa (a b:St) (w:World):(binOp .eql 184 (sF a) (sF b)).run Tryz.prog w=.ok (.bool (decide (a=b))) w:=by
 have h:=ZG (P:=Tryz.prog) (xs:=cK a) (ys:=cK b) Tryz.underlying184 eQ (tN a) (tN b) w;exact h.trans (by rw[<-BF a b])
def jw (b:Nat) (l:List (St × Int)):CH.aT:=jo sF b (l.map fun p=>(p.1,.int .i64 p.2))
def lN (W:Wd) (a:PA) (b:Nat):Array Value:=#[.slice a.A W.rs.length a.c,.int .i64 W.ka,.int .i64 W.kb,.slice a.L W.l.length a.lc,.slice a.M W.m.length a.mc,.int .i64 W.l.length,.int .i64 W.m.length,.string (bs []),.bool false,.map (some b)]
def Pf (W:Wd) (a:PA) (b:Nat):Value:=.agg (lN W a b)
variable {b gc gs:Nat}{a:PA}
theorem iW  {L:List (St × Int)}:(jw b L).Ok:=map_ok
instance {b:Nat} {L:List (St × Int)}:(jw b L).Ok:=iW
theorem Ie {L:List (St × Int)}  {v:Int} (hn:(gy L).Nodup) (h:(s,v) ∈ L):nV (L.map fun p=>(p.1,Value.int .i64 p.2)) s=some (.int .i64 v):=by
 induction L with
 | nil=>cases h
 | cons p L ih=>
  have I:=List.nodup_cons.1 hn;rw[lk,qL];rcases List.mem_cons.1 h with e|h
  ·rw[<-e];simp
  ·rw[if_neg (fun e:s=p.1=>I.1 (List.mem_map.2 ⟨(s,v),h,e⟩))];exact ih I.2 h
theorem Pg {L:List (St × Int)}  (h:s ∉ gy L):nV (L.map fun p=>(p.1,Value.int .i64 p.2)) s=none:=by
 refine DR ?_;rw[qq];exact h
def BG (W:Wd) (s:St) (L:List (St × Int)) (F0:Nat->Prop) (w0:World) (b:Nat) (X:CH.aT) (e:Ending) (w':World):Prop:=
 ∃ L',e=.returned (.int .i64 (W.fi s))/\Kn W L'/\Ext W s L L'/\s ∈ gy L'/\aI F0 w0 (aj (jw b L') X) w'
theorem Zd  {L:List (St × Int)}   (h:jw b L w F) (s:St) :
  (Instr.lookup 189 (.map (some b)) (.agg (fx s.i s.j (bs s.a) s.r)) true).run Tryz.prog w=.ok (.tuple #[(nV (L.map fun p=>(p.1,Value.int .i64 p.2)) s).getD (.int .i64 0),.bool (nV (L.map fun p=>(p.1,Value.int .i64 p.2)) s).isSome]) w:=by
 obtain⟨⟨es,I,M,J⟩,hF⟩:=h;exact qm xI Tryz.underlying189 Tryz.zeroValue3 J s w M
theorem vX  {s':St} {c:Int} (M:W.pJ) (ha:s.a.length<=3) (h:(c,s') ∈ W.moves s):s'.a.length<=3:=by
 obtain⟨R,J,hm⟩:=kK h;obtain⟨-,-,x,I,rfl⟩:=rE hm;have h1:=(M R J).1;have key:x.1.length<=3:=by
  unfold Wd.ah at I;split at I
  ·injection I with I;subst I;rw[k6];omega
  ·split at I
   ·injection I with I;subst I;rw[k6];omega
   ·cases I
 split<;>exact key
def Fq (W:Wd) (a:PA) (b:Nat) (s:St) (gc gs:Nat) (L:List (St × Int)) (X:CH.aT):CH.aT:=aj (av gs (cK s) 184) (aj (av gc (lN W a b) 191) (aj (jw b L) X))
theorem tO      {L:List (St × Int)}  (hX:X.Ok):(Fq W a b s gc gs L X).Ok:=aB aC (aB aC (aB iW hX))
instance {W:Wd} {a:PA} {b:Nat} {s:St} {gc gs:Nat} {L:List (St × Int)} {X:CH.aT} [hX:X.Ok]:(Fq W a b s gc gs L X).Ok:=tO hX
theorem qH      {L:List (St × Int)}    (h:aI F0 w0 (Fq W a b s gc gs L X) w) :
  (nq w gs (.int .i64 s.i) (.int .i64 s.j) (.string (bs s.a)) (.bool s.r)) /\
  (C3 w gc (.slice a.A W.rs.length a.c) (.int .i64 W.ka) (.int .i64 W.kb) (.slice a.L W.l.length a.lc) (.slice a.M W.m.length a.mc) (.int .i64 W.l.length) (.int .i64 W.m.length) (.string (bs [])) (.bool false) (.map (some b)))/\∃ F,jw b L w F:=by
 unfold Fq at h;obtain⟨F,J⟩:=h.fst;obtain⟨F2,I⟩:=h.drop.fst;obtain⟨F3,aa⟩:=h.drop.drop.fst;exact⟨⟨ay J rfl,ay J rfl,ay J rfl,ay J rfl⟩,⟨ay I rfl,ay I rfl,ay I rfl,ay I rfl,ay I rfl,ay I rfl,ay I rfl,ay I rfl,ay I rfl,ay I rfl⟩,F3,aa⟩
def J4 (x:Int × Bs × Bs):Array Value:=(rB x.1 (bs x.2.1) (bs x.2.2))
def Zo (x:Int × Bs × Bs):Value:=.agg (J4 x)
def U3:List Field:=[⟨"script",3,0,false, "", "customhouse/rewrite",0⟩,⟨"from",9,1,false, "", "customhouse/rewrite",8⟩,⟨"to",9,2,false, "", "customhouse/rewrite",24⟩]
theorem RL (x:Int × Bs × Bs):pO Tryz.prog U3 (J4 x):=by
 intro f hf;simp only[U3,pA,CM,or_false] at hf;rcases hf with rfl|rfl|rfl
 ·exact⟨by decide,_,rfl,.int Tryz.underlying3 _⟩
 ·exact⟨by decide,_,rfl,.str Tryz.underlying9 _⟩
 ·exact⟨by decide,_,rfl,.str Tryz.underlying9 _⟩
theorem U4 (a b:Int × Bs × Bs):oL U3 (J4 a) (J4 b)=decide (a=b):=by
 have e:oL U3 (J4 a) (J4 b)=((a.1==b.1)&&((bs a.2.1==bs b.2.1)&&((bs a.2.2==bs b.2.2)&&true))):=rfl;rw[e,zI,zI];obtain⟨i,x,y⟩:=a;obtain⟨i',x',y'⟩:=b;by_cases h1:i=i'<;>by_cases h2:x=x'<;>by_cases h3:y=y'<;>simp[h1,h2,h3]
theorem FH:oN Tryz.prog 154 Zo:=by
 refine rP (cs:=J4) (fs:=U3.toArray) Tryz.underlying154 eQ RL U4 (fun a=>?_);simp[J4,Instr.sameBits,zI]
def zK (b:Nat) (l:List (Int × Bs × Bs)):CH.aT:=jo Zo b (l.map fun x=>(x,.bool true))
variable {l:List (Int × Bs × Bs)}
theorem CR  :(zK b l).Ok:=map_ok
instance {b:Nat} {l:List (Int × Bs × Bs)}:(zK b l).Ok:=CR
theorem PD     (h:zK b l w F) (x:Int × Bs × Bs) :
  (Instr.lookup 152 (.map (some b)) (.agg (rB x.1 (bs x.2.1) (bs x.2.2))) false).run Tryz.prog w=.ok (.bool (decide (x ∈ l))) w:=by
 have J:=yN FH Tryz.underlying152 Tryz.zeroValue4 h x;rw[L9] at J;refine J.trans ?_;by_cases I:x ∈ l
 ·rw[if_pos I,decide_eq_true I];rfl
 ·rw[if_neg I,decide_eq_false I];rfl
theorem PE     (h:zK b l w F) {x:Int × Bs × Bs} (M:x ∉ l) :
  ∃ w',(Instr.mapUpdate 152 (.map (some b)) (.agg (rB x.1 (bs x.2.1) (bs x.2.2))) (.bool true)).run Tryz.prog w=.ok () w'/\bT w F (zK b (l++[x])) w':=by
 obtain⟨w',J,I⟩:=qR FH Tryz.underlying152 h x (.bool true);refine⟨w',J,?_⟩;have e:mh (l.map fun x=>(x,Value.bool true)) x (.bool true)=(l++[x]).map fun x=>(x,Value.bool true):=by
  rw[qU (by rw[qq];simpa using M),km];rfl
 rw[e] at I;exact I
variable {l:List Drop}
theorem U5 {jz:Nat}   (hk:k<l.length) (h:nS l[k] ∈ (l.take k).map nS\/vP jz l[k]=false):jR jz l=false:=by
 rw[rk];intro I;unfold jR at I;simp only[gA,decide_eq_true_eq] at I;rcases h with h|h
 ·obtain⟨x,hx,e⟩:=List.mem_map.1 h;obtain⟨j,hj,rfl⟩:=List.mem_iff_getElem.1 hx;have J:j<k:=by rw[kt] at hj;omega
  have M:=List.pairwise_iff_getElem.1 I.1 j k (by rw[gh];omega) (by rw[gh];omega) J;rw[mA,mA] at M;rw[zz] at e;exact M e
 ·have:=List.all_eq_true.1 I.2.1 l[k] (gv hk);rw[h] at this;cases this
theorem RN {jz:Nat}  (h1:(l.map nS).Nodup) (h2:∀ d ∈ l,vP jz d=true):jR jz l=decide (l.length<=40):=by
 unfold jR;rw[decide_eq_true h1,List.all_eq_true.2 h2];simp
theorem RO   (I:k<l.length) (J:((l.take k).map nS).Nodup) (h:nS l[k] ∉ (l.take k).map nS):((l.take (k+1)).map nS)=(l.take k).map nS++[nS l[k]]/\((l.take (k+1)).map nS).Nodup:=by
 have e:((l.take (k+1)).map nS)=(l.take k).map nS++[nS l[k]]:=by rw[kq I,km];rfl
 refine⟨e,?_⟩;rw[e,Iv];refine⟨J,by simp,fun a M b hb e=>?_⟩;rw[List.mem_singleton.1 hb] at e;exact h (e ▸ M)
theorem U6 {jz:Nat}   (hk:k<l.length) (h1:∀ d ∈ l.take k,vP jz d=true) (h2:vP jz l[k]=true):∀ d ∈ l.take (k+1),vP jz d=true:=by
 intro d hd;rw[kq hk] at hd;rcases List.mem_append.1 hd with hd|hd
 ·exact h1 d hd
 ·rw[List.mem_singleton.1 hd];exact h2
theorem tX     {jz:Nat} (hA:nL w A l) (hl:l.length<=1000000) (hs:∀ d ∈ l,d.w.length<=1000000) (hz:LZ w) :
  Calls Tryz.prog 62 #[.slice A l.length c,.int .i64 (jz:Int)] w (aS w (.bool (jR jz l))):=by
 have HA:=au hA;have HZ:=au hz;have HS:=au hs;obtain⟨N,hN⟩:∃ N,N=l.length:=⟨_,rfl⟩;have HN:=au hN;rw[<-hN] at hl ⊢;have h0:=(aI.begin w).fresh aN (rR (kv:=Zo) w);have H0:=au (show aI eR w (aj (zK w.heap.size ((l.take 0).map nS)) bG) (w.alloc (.map #[] 0)) from h0);have a6:∀ w:World,(Instr.makeMap 152 none).run Tryz.prog w=.ok (.map (some w.heap.size)) (w.alloc (.map #[] 0)):=fun w=>by kernel_rfl
 clear hA hz hs hN h0
 go_enter Tryz.func62,Tryz.ntmps62
 go_wp2;clear a6;generalize w.alloc (.map #[] 0)=w1 at *
 generalize w.heap.size=bm at *
 go_loopw [12] (fun i wr=>∃ k:Nat,k<=N/\i=.int .i64 k/\(∀ d ∈ l.take k,vP jz d=true)/\((l.take k).map nS).Nodup/\aI eR w (aj (zK bm ((l.take k).map nS)) bG) wr) (fun i _=>N-(intOf i).toNat)
 case atStart=>exact⟨0,fw _,rfl,by simp,by simp,H0.o⟩
 case round=>
  clear H0;obtain⟨k,hk,rfl,ha,aA,hR⟩:=hrel;have ag:=au ha;have ai:=au aA;have HR:=au hR;clear ha aA hR;by_cases ar:k<N
  ·have ab:k<l.length:=by rw[<-HN.o];exact ar
   have aq:=au (show k+1<=N from ar);have ba:(k:Int)<1000000:=by omega
   obtain⟨b,o,rfl,hc⟩:=HA.o.at eL;obtain⟨r0,r1,r2⟩:=hc wr (HR.o.mod.below (fun _ _ h=>h)) k ab;have a8:=HS.o _ (gv ab);clear hc;have h2:=aH HR.o aO (va l[k].k (bs l[k].w) l[k].c) 108;have h3:=aH h2 aO (rB l[k].k (bs l[k].w) ⟨#[]⟩) 154;rw[im] at h3;obtain⟨FS,aD⟩:=h3.drop.drop.fst;have a3:=PD aD (nS l[k]);have ac:(Instr.lookup 152 (.map (some bm)) (.agg (rB l[k].k (bs l[k].w) ⟨#[]⟩)) false).run Tryz.prog ((wr.alloc (.cells (va l[k].k (bs l[k].w) l[k].c) 108)).alloc (.cells (rB l[k].k (bs l[k].w) ⟨#[]⟩) 154))=.ok (.bool (decide (nS l[k] ∈ (l.take k).map nS))) _:=a3;have ae:=au (fun h=>U5 (jz:=jz) ab h);have af:=au (fun h=>RO ab ai.o h);have ax:=au (fun h=>U6 (jz:=jz) ab ag.o h);have H3:=au h3;clear a3 h2 h3 aD HR;by_cases J:nS l[k] ∈ (l.take k).map nS
   ·rw[decide_eq_true J] at ac;have HF:=au (ae.o (.inl J));clear J ae af ax;generalize l[k]=d at *
    have HB:=au (H3.o.mod.below (fun _ _ h=>h));go_wp2;go_ret;exact aK HF.o HB.o
   ·rw[decide_eq_false J] at ac;have ao:=au (af.o J);have a4:=au J;have KF:=au (fun W (hz:LZ W)=>CQ l[k].k (bs l[k].w) jz W (by rw[cu];exact a8) hz);clear J af;simp only[iM] at KF;have a1:=au (KF.o _ (HZ.o.below (H3.o.mod.below (fun _ _ h=>h))));have KC:=au (fun W=>wB l[k].c W);have a2:(aj (av (wr.heap.size+1) (rB l[k].k (bs l[k].w) ⟨#[]⟩) 154) (aj (av wr.heap.size (va l[k].k (bs l[k].w) l[k].c) 108) (aj (zK bm ((l.take k).map nS)) bG))).Ok:=aB aC aO;have am:=au a2;have aE:vP jz l[k]=(iR l[k].k l[k].w jz&&gQ l[k].c):=rfl;have ak:=au aE;have aw:nS l[k]=(l[k].k,l[k].w,[]):=rfl;have a5:=au aw;clear KF a2 aE aw;go_wp2_with fail;refine a1.o.mono ?_;rintro e9 w3 ⟨rfl,hb⟩;have H4:=au (H3.o.below am.o hb);clear a1 H3 hb ac r0 r1 r2;generalize wr.heap.size+1=g2 at *
    generalize wr.heap.size=g1 at *
    obtain⟨F1,I⟩:=H4.o.fst;obtain⟨F2,ap⟩:=H4.o.drop.fst;have y0:=ay (i:=0) I rfl;have y1:=ay (i:=1) I rfl;have y2:=ay (i:=2) I rfl;have x2:=ay (i:=2) ap rfl;clear I ap;dsimp only;cases M:iR l[k].k l[k].w jz with
    | false=>
     have HF:=au (ae.o (.inr (by rw[ak.o,M];rfl)));have HB:=au (H4.o.mod.below (fun _ _ h=>h));clear M;go_wp2;go_ret;exact aK HF.o HB.o
    | true=>
     cases aa:gQ l[k].c with
     | false=>
      have HF:=au (ae.o (.inr (by rw[ak.o,M,aa];rfl)));rw[aa] at KC;clear M aa;go_wp2_with fail;refine(KC.o _).mono ?_;rintro e9 w4 ⟨rfl,hb⟩;have H5:=au (H4.o.below am.o hb);have HB:=au (H5.o.mod.below (fun _ _ h=>h));clear KC H4 hb;dsimp only;go_wp2;go_ret;exact aK HF.o HB.o
     | true=>
      have a7:=au (ax.o (by rw[ak.o,M,aa];rfl));rw[aa] at KC;clear M aa;go_wp2_with fail;refine(KC.o _).mono ?_;rintro e9 w4 ⟨rfl,hb⟩;have H5:=au (H4.o.below am.o hb);clear KC H4 hb y0 y1 y2 x2;dsimp only;obtain⟨F1,I⟩:=H5.o.fst;have y0:=ay (i:=0) I rfl;have y1:=ay (i:=1) I rfl;have y2:=ay (i:=2) I rfl;obtain⟨FM,az,-,bk⟩:=(H5.o.drop.drop).take CR aN;obtain⟨w5,al,ad⟩:=PE az a4.o;have h6:=bk _ _ ad;rw[<-ao.o.1] at h6;have H6:=au h6;rw[a5.o] at al;have a9:(Instr.mapUpdate 152 (.map (some bm)) (.agg (rB l[k].k (bs l[k].w) ⟨#[]⟩)) (.bool true)).run Tryz.prog w4=.ok () w5:=al;clear I az bk al ad h6;go_wp2
      go_roundw
      case rel=>exact⟨k+1,aq.o,by go_num,a7.o,ao.o.2,H6.o⟩
      case measure=>have:=aq.o;simp[intOf];omega
  ·obtain rfl:k=N:=by omega
   have HF:=au (RN (jz:=jz) (l:=l) (by have:=ai.o;rw[HN.o,ky] at this;exact this) (by have:=ag.o;rw[HN.o,ky] at this;exact this));rw[<-HN.o] at HF;have HB:=au (HR.o.mod.below (fun _ _ h=>h));clear ai ag;by_cases an:k<=40
   ·have a0:(k:Int)<=40:=by omega
    rw[decide_eq_true an] at HF;go_wp2;go_ret;exact aK HF.o HB.o
   ·have a0:¬ (k:Int)<=40:=by omega
    rw[decide_eq_false an] at HF;go_wp2;go_ret;exact aK HF.o HB.o
variable {l:List ik}
theorem U7   (hk:k<l.length) (h:ko l[k] ∈ (l.take k).map ko\/vO l[k]=false):tJ l=false:=by
 rw[rk];intro M;obtain⟨h3,h4⟩:=iI.1 M;rcases h with h|h
 ·obtain⟨x,hx,e⟩:=List.mem_map.1 h;obtain⟨j,hj,rfl⟩:=List.mem_iff_getElem.1 hx;have I:j<k:=by rw[kt] at hj;omega
  have J:=List.pairwise_iff_getElem.1 h3 j k (by rw[gh];omega) (by rw[gh];omega) I;rw[mA,mA] at J;rw[zz] at e;exact J e
 ·have:=h4 l[k] (gv hk);rw[h] at this;cases this
theorem Nl   (I:k<l.length) (J:((l.take k).map ko).Nodup) (h:ko l[k] ∉ (l.take k).map ko):((l.take (k+1)).map ko)=(l.take k).map ko++[ko l[k]]/\((l.take (k+1)).map ko).Nodup:=by
 have e:((l.take (k+1)).map ko)=(l.take k).map ko++[ko l[k]]:=by rw[kq I,km];rfl
 refine⟨e,?_⟩;rw[e,Iv];refine⟨J,by simp,fun a M b hb e=>?_⟩;rw[List.mem_singleton.1 hb] at e;exact h (e ▸ M)
theorem RQ   (hk:k<l.length) (h1:∀ d ∈ l.take k,vO d=true) (h2:vO l[k]=true):∀ d ∈ l.take (k+1),vO d=true:=by
 intro d hd;rw[kq hk] at hd;rcases List.mem_append.1 hd with hd|hd
 ·exact h1 d hd
 ·rw[List.mem_singleton.1 hd];exact h2
theorem oI  (h:T.rs=[]\/80<T.rs.length\/gQ T.drop=false\/gQ T.ord=false\/gQ T.ini=false):bL T=false:=by
 rw[rk];intro h2;obtain⟨⟨g1,g2,g3,g4,g5⟩,-⟩:=bW.1 h2;rcases h with h|h|h|h|h
 ·exact g1 h
 ·omega
 ·rw[h] at g3;cases g3
 ·rw[h] at g4;cases g4
 ·rw[h] at g5;cases g5
theorem J5  (h:tJ T.rs=false):bL T=false:=by
 rw[rk];intro h2;have:=(bW.1 h2).2.1;rw[h] at this;cases this
theorem Nn  (h:T.rs≠[]/\T.rs.length<=80/\gQ T.drop=true/\gQ T.ord=true/\gQ T.ini=true) (h2:tJ T.rs=true):bL T=(jR 12 T.ds&&jR 4 T.es):=by
 rw[tg,bW,gA];exact⟨fun g=>g.2.2,fun g=>⟨h,h2,g⟩⟩
theorem lZ   {a:TA} (hT:kr w T a) (hz:LZ w):Calls Tryz.prog 38 #[dV T a] w (aS w (.bool (bL T))):=by
 obtain⟨A,ac,D,dc,E,ec⟩:=a;have HT:=au hT;have HZ:=au hz;have HC:=au (fun n W=>wB n W);have h1:aI eR w (aj (av w.heap.size (dR T ⟨A,ac,D,dc,E,ec⟩) 25) bG) _:=aH (aI.begin w) aN (dR T ⟨A,ac,D,dc,E,ec⟩) 25;have H1:=au h1;obtain⟨N,hN⟩:∃ N,N=T.rs.length:=⟨_,rfl⟩;have HN:=au hN;unfold dV dR;dsimp only;unfold dR at H1;dsimp only at H1;rw[<-hN] at H1 ⊢;clear hT hz h1 hN
 go_enter Tryz.func38,Tryz.ntmps38
 iterate 12 (first|go_values|go_guarded|go_step)
 have ag:∀ W,aI eR w (aj (av w.heap.size (fN A N ac D T.ds.length dc E T.es.length ec T.drop T.ord T.ini) 25) bG) W ->
   (lR W w.heap.size (.slice A N ac) (.slice D T.ds.length dc) (.slice E T.es.length ec) (.int .i64 T.drop) (.int .i64 T.ord) (.int .i64 T.ini)):=fun W h=>by
  obtain⟨F,hF⟩:=h.fst;exact⟨ay hF rfl,ay hF rfl,ay hF rfl,ay hF rfl,ay hF rfl,ay hF rfl⟩
 have an:=au ag;clear ag;generalize w.alloc (.cells (fN A N ac D T.ds.length dc E T.es.length ec T.drop T.ord T.ini) 25)=w1 at *
 obtain⟨c0,c1,c2,c3,c4,c5⟩:=an.o _ H1.o;have HB:=au (H1.o.mod.below (fun _ _ h=>h));by_cases af:N=0
 ·have t1:((N:Int)==0)=true:=by simp[af]
  have HF:=au (oI (T:=T) (.inl (by rw[<-NO,<-HN.o];exact af)));clear af;go_wp2;go_ret;exact aK HF.o HB.o
 ·have t1:((N:Int)==0)=false:=by simp[af]
  by_cases a9:80<N
  ·have t2:(80:Int)<(N:Int):=by omega
   have HF:=au (oI (T:=T) (.inr (.inl (by rw[<-HN.o];exact a9))));clear af a9;go_wp2;go_ret;exact aK HF.o HB.o
  ·have t2:¬ (80:Int)<(N:Int):=by omega
   have K1:=au (HC.o T.drop);have K2:=au (HC.o T.ord);have K3:=au (HC.o T.ini);have a1:=au (show T.rs≠[]/\T.rs.length<=80 from⟨by rw[ne_eq,<-NO,<-HN.o];exact af,by rw[<-HN.o];omega⟩);clear HC af;cases h3:gQ T.drop with
   | false=>
    have HF:=au (oI (T:=T) (.inr (.inr (.inl h3))));simp only[h3] at K1;clear h3;go_wp2_with fail;refine(K1.o _).mono ?_;rintro e9 w2 ⟨rfl,I⟩;have ad:=au (aF HB.o I);clear K1 K2 K3 I;dsimp only;go_wp2;go_ret;exact aK HF.o ad.o
   | true=>
    simp only[h3] at K1;go_wp2_with fail;refine(K1.o _).mono ?_;rintro e9 w2 ⟨rfl,I⟩;have H2:=au (H1.o.below aO I);have ad:=au (aF HB.o I);clear K1 I c0 c1 c2 c3 c4 c5 H1 HB;obtain⟨c0,c1,c2,c3,c4,c5⟩:=an.o _ H2.o;dsimp only;cases h4:gQ T.ord with
    | false=>
     have HF:=au (oI (T:=T) (.inr (.inr (.inr (.inl h4)))));simp only[h4] at K2;clear h3 h4;go_wp2_with fail;refine(K2.o _).mono ?_;rintro e9 w3 ⟨rfl,I⟩;have ao:=au (aF ad.o I);clear K2 K3 I;dsimp only;go_wp2;go_ret;exact aK HF.o ao.o
    | true=>
     simp only[h4] at K2;go_wp2_with fail;refine(K2.o _).mono ?_;rintro e9 w3 ⟨rfl,I⟩;have H3:=au (H2.o.below aO I);have ao:=au (aF ad.o I);clear K2 I c0 c1 c2 c3 c4 c5 H2 ad;obtain⟨c0,c1,c2,c3,c4,c5⟩:=an.o _ H3.o;dsimp only;cases h5:gQ T.ini with
     | false=>
      have HF:=au (oI (T:=T) (.inr (.inr (.inr (.inr h5)))));simp only[h5] at K3;clear h3 h4 h5;go_wp2_with fail;refine(K3.o _).mono ?_;rintro e9 w4 ⟨rfl,I⟩;have aA:=au (aF ao.o I);clear K3 I;dsimp only;go_wp2;go_ret;exact aK HF.o aA.o
     | true=>
      have b0:=au (show T.rs≠[]/\T.rs.length<=80/\gQ T.drop=true/\gQ T.ord=true/\gQ T.ini=true from⟨a1.o.1,a1.o.2,h3,h4,h5⟩);simp only[h5] at K3;clear h3 h4 h5;go_wp2_with fail;refine(K3.o _).mono ?_;rintro e9 w4 ⟨rfl,I⟩;have H4:=au (H3.o.below aO I);have aA:=au (aF ao.o I);clear K3 I c0 c1 c2 c3 c4 c5 H3 ao;obtain⟨c0,c1,c2,c3,c4,c5⟩:=an.o _ H4.o;dsimp only;have bw:∀ w:World,(Instr.makeMap 152 none).run Tryz.prog w=.ok (.map (some w.heap.size)) (w.alloc (.map #[] 0)):=fun w=>by kernel_rfl
      have H5:=au (show aI eR w (aj (zK w4.heap.size ((T.rs.take 0).map ko)) _) (w4.alloc (.map #[] 0)) from H4.o.fresh aO (rR (kv:=Zo) w4));have bh:∀ W O,aI eR w (aj O (aj (av w.heap.size (fN A N ac D T.ds.length dc E T.es.length ec T.drop T.ord T.ini) 25) bG)) W->W.cell? ⟨w.heap.size,0,none⟩=some (.slice A N ac):=fun W O h=>(an.o _ h.drop).1;have bu:=bh _ _ H5.o;clear bh c0 c1 c2 c3 c4 c5 H4 aA;go_wp2;clear bw bu;generalize w4.alloc (.map #[] 0)=w5 at *
      generalize w4.heap.size=bm at *
      generalize w.heap.size=gt at *
      have bz:=au (show ∀ wr O,aI eR w O wr->Below w.heap.size w wr from fun wr O h=>h.mod.below (fun _ _ h=>h));go_loopw [39] (fun i wr=>∃ k:Nat,k<=N/\i=.int .i64 k/\(∀ d ∈ T.rs.take k,vO d=true)/\((T.rs.take k).map ko).Nodup/\aI eR w (aj (zK bm ((T.rs.take k).map ko)) (aj (av gt (fN A N ac D T.ds.length dc E T.es.length ec T.drop T.ord T.ini) 25) bG)) wr) (fun i _=>N-(intOf i).toNat)
      case atStart=>exact⟨0,fw _,rfl,by simp,by simp,H5.o⟩
      case round=>
       clear H5 bz;obtain⟨k,hk,rfl,ha,be,hR⟩:=hrel;have aE:=au ha;have a0:=au be;have HR:=au hR;clear ha be hR;by_cases ba:k<N
       ·have al:k<T.rs.length:=by rw[<-HN.o];exact ba
        have a8:=au (show k+1<=N from ba);have b2:(k:Int)<1000000:=by have:=a1.o.2;omega
        obtain⟨b,o,rfl,hc⟩:=lY.at HT.o.rs eL;obtain⟨r0,r1,r2,r3⟩:=hc wr (HR.o.mod.below (fun _ _ h=>h)) k al;have a7:=HT.o.sr _ (gv al);clear hc;have a3:(aj (zK bm ((T.rs.take k).map ko)) (aj (av gt (fN (some ⟨b,o,none⟩) N ac D T.ds.length dc E T.es.length ec T.drop T.ord T.ini) 25) bG)).Ok:=aB CR aO;have h2:=aH HR.o a3 (mC T.rs[k].k (bs T.rs[k].f) (bs T.rs[k].t) T.rs[k].c) 50;have h3:=aH h2 aO (rB T.rs[k].k (bs T.rs[k].f) (bs T.rs[k].t)) 154;rw[im] at h3;obtain⟨FS,bf⟩:=h3.drop.drop.fst;have bp:=PD bf (ko T.rs[k]);have am:(Instr.lookup 152 (.map (some bm)) (.agg (rB T.rs[k].k (bs T.rs[k].f) (bs T.rs[k].t))) false).run Tryz.prog ((wr.alloc (.cells (mC T.rs[k].k (bs T.rs[k].f) (bs T.rs[k].t) T.rs[k].c) 50)).alloc (.cells (rB T.rs[k].k (bs T.rs[k].f) (bs T.rs[k].t)) 154))=.ok (.bool (decide (ko T.rs[k] ∈ (T.rs.take k).map ko))) _:=bp;have ar:=au (fun h=>J5 (U7 al h));have aD:=au (fun h=>Nl al a0.o h);have bb:=au (fun h=>RQ al aE.o h);have H3:=au h3;clear bp h2 h3 bf HR;by_cases ae:ko T.rs[k] ∈ (T.rs.take k).map ko
        ·rw[decide_eq_true ae] at am;have HF:=au (ar.o (.inl ae));clear ae ar aD bb;generalize T.rs[k]=d at *
         have HB:=au (H3.o.mod.below (fun _ _ h=>h));go_wp2;go_ret;exact aK HF.o HB.o
        ·rw[decide_eq_false ae] at am;have a6:=au (aD.o ae);have br:=au ae;have KF:=au (fun W (hz:LZ W)=>CQ T.rs[k].k (bs T.rs[k].f) 3 W (by rw[cu];exact a7.1) hz);have KG:=au (fun W=>Nk (bs T.rs[k].t) W (by rw[cu];exact a7.2));clear ae aD;simp only[iM] at KF KG;have bn:=au (KF.o _ (HZ.o.below (H3.o.mod.below (fun _ _ h=>h))));have KC:=au (fun W=>wB T.rs[k].c W);have bo:(aj (av (wr.heap.size+1) (rB T.rs[k].k (bs T.rs[k].f) (bs T.rs[k].t)) 154) (aj (av wr.heap.size (mC T.rs[k].k (bs T.rs[k].f) (bs T.rs[k].t) T.rs[k].c) 50) (aj (zK bm ((T.rs.take k).map ko)) (aj (av gt (fN (some ⟨b,o,none⟩) N ac D T.ds.length dc E T.es.length ec T.drop T.ord T.ini) 25) bG)))).Ok:=aB aC aO;have ap:=au bo;have b3:=au a3;have az:=au (show vO T.rs[k]=(iR T.rs[k].k T.rs[k].f 3&&(vN T.rs[k].t&&gQ T.rs[k].c)) from rfl);have bv:=au (show ko T.rs[k]=(T.rs[k].k,T.rs[k].f,T.rs[k].t) from rfl);clear KF bo a3;go_wp2_with fail;refine bn.o.mono ?_;rintro e9 w6 ⟨rfl,I⟩;have H4:=au (H3.o.below ap.o I);clear bn H3 I am r0 r1 r2 r3;generalize wr.heap.size+1=g2 at *
         generalize wr.heap.size=g1 at *
         obtain⟨F1,J⟩:=H4.o.fst;have y0:=ay (i:=0) J rfl;have y1:=ay (i:=1) J rfl;have y2:=ay (i:=2) J rfl;obtain⟨F2,M⟩:=H4.o.drop.fst;have x0:=ay (i:=0) M rfl;have x1:=ay (i:=1) M rfl;have x2:=ay (i:=2) M rfl;have x3:=ay (i:=3) M rfl;clear J M;dsimp only;cases aa:iR T.rs[k].k T.rs[k].f 3 with
         | false=>
          have HF:=au (ar.o (.inr (by rw[az.o,aa];rfl)));have HB:=au (H4.o.mod.below (fun _ _ h=>h));clear aa;go_wp2;go_ret;exact aK HF.o HB.o
         | true=>
          cases ab:vN T.rs[k].t with
          | false=>
           have HF:=au (ar.o (.inr (by rw[az.o,aa,ab];rfl)));simp only[ab] at KG;clear aa ab;go_wp2_with fail;refine(KG.o _).mono ?_;rintro e9 w7 ⟨rfl,I⟩;have H5:=au (H4.o.below ap.o I);have HB:=au (H5.o.mod.below (fun _ _ h=>h));clear KG H4 I;dsimp only;go_wp2;go_ret;exact aK HF.o HB.o
          | true=>
           simp only[ab] at KG;go_wp2_with fail;refine(KG.o _).mono ?_;rintro e9 w7 ⟨rfl,I⟩;have H5:=au (H4.o.below ap.o I);clear KG H4 I y0 y1 y2 x0 x1 x2 x3;obtain⟨F1,J⟩:=H5.o.fst;have y0:=ay (i:=0) J rfl;have y1:=ay (i:=1) J rfl;have y2:=ay (i:=2) J rfl;obtain⟨F2,M⟩:=H5.o.drop.fst;have x0:=ay (i:=0) M rfl;have x1:=ay (i:=1) M rfl;have x2:=ay (i:=2) M rfl;have x3:=ay (i:=3) M rfl;clear J M;dsimp only;cases ak:gQ T.rs[k].c with
           | false=>
            have HF:=au (ar.o (.inr (by rw[az.o,aa,ab,ak];rfl)));simp only[ak] at KC;clear aa ab ak;go_wp2_with fail;refine(KC.o _).mono ?_;rintro e9 w8 ⟨rfl,I⟩;have H6:=au (H5.o.below ap.o I);have HB:=au (H6.o.mod.below (fun _ _ h=>h));clear KC H5 I;dsimp only;go_wp2;go_ret;exact aK HF.o HB.o
           | true=>
            have bx:=au (bb.o (by rw[az.o,aa,ab,ak];rfl));simp only[ak] at KC;clear aa ab ak;go_wp2_with fail;refine(KC.o _).mono ?_;rintro e9 w8 ⟨rfl,I⟩;have H6:=au (H5.o.below ap.o I);clear KC H5 I y0 y1 y2 x0 x1 x2 x3;dsimp only;obtain⟨F1,J⟩:=H6.o.fst;have y0:=ay (i:=0) J rfl;have y1:=ay (i:=1) J rfl;have y2:=ay (i:=2) J rfl;clear J;obtain⟨FM,bc,-,bk⟩:=(H6.o.drop.drop).take CR aO;obtain⟨w9,a2,aq⟩:=PE bc br.o;have h6:=bk _ _ aq;rw[<-a6.o.1] at h6;have H7:=au h6;rw[bv.o] at a2;have b1:(Instr.mapUpdate 152 (.map (some bm)) (.agg (rB T.rs[k].k (bs T.rs[k].f) (bs T.rs[k].t))) (.bool true)).run Tryz.prog w8=.ok () w9:=a2;clear bc bk a2 aq h6;go_wp2
            go_roundw
            case rel=>exact⟨k+1,a8.o,by go_num,bx.o,a6.o.2,H7.o⟩
            case measure=>have:=a8.o;simp[intOf];omega
       ·obtain rfl:k=N:=by omega
        have bi:tJ T.rs=true:=iI.2 ⟨by have:=a0.o;rw[HN.o,ky] at this;exact this,by have:=aE.o;rw[HN.o,ky] at this;exact this⟩;have a4:=au (Nn b0.o bi);clear a0 aE bi;obtain⟨FT,ai⟩:=HR.o.drop.fst;have c1:=ay (i:=1) ai rfl;have c2:=ay (i:=2) ai rfl;clear ai;have a5:(aj (zK bm ((T.rs.take k).map ko)) (aj (av gt (fN A k ac D T.ds.length dc E T.es.length ec T.drop T.ord T.ini) 25) bG)).Ok:=aB CR aO;have aw:=au (HR.o.mod.below (fun _ _ h=>h));have KD:=au (tX (jz:=12) (c:=dc) (HT.o.ds.below aw.o) HT.o.ld HT.o.sd (HZ.o.below aw.o));have KE:=au (fun W (I:Below w.heap.size w W)=>tX (w:=W) (jz:=4) (c:=ec) (HT.o.es.below I) HT.o.le HT.o.se (HZ.o.below I));go_wp2_with fail;refine KD.o.mono ?_;rintro e9 w6 ⟨rfl,I⟩;have H4:=au (HR.o.below a5 I);have HB:=au (aF aw.o I);clear KD I c1 c2 a5 HR aw;obtain⟨FT,ai⟩:=H4.o.drop.fst;have c2:=ay (i:=2) ai rfl;clear ai H4;dsimp only;cases ax:jR 12 T.ds with
        | false=>
         have HF:=au (show bL T=false by rw[a4.o,ax];rfl);clear ax KE;go_wp2;go_ret;exact aK HF.o HB.o
        | true=>
         have HF:=au (show bL T=jR 4 T.es by rw[a4.o,ax];rfl);have bj:=au (KE.o w6 HB.o);clear ax KE;go_wp2_with fail;refine bj.o.mono ?_;rintro e9 w7 ⟨rfl,I⟩;have ad:=au (aF HB.o I);clear bj I;dsimp only;go_wp2;go_ret;exact aK HF.o ad.o
def Pm (w:World) (k:Int) (l:Bs) (e:Ending) (w':World):Prop:=
 ∃ A c,e=.returned (.tuple #[.slice A (gB k l).1.length c,.bool (gB k l).2])/\bT w eR (fZ A c (gB k l).1) w'
theorem xJ (k:Int) (s:ByteArray) (w:World) (hs:s.size<=1000000) (M:LZ w):Calls Tryz.prog 93 #[.int .i64 k,.string s] w (Pm w k (bl s)):=by
 have J:=au (tF k s w hs M);have HZ:=au M;clear M;by_cases hw:word k (bl s)=true
 ·have e1:iw k (bl s)=(lower (bl s),0):=by unfold iw;rw[if_pos hw]
  have e2:bC k (lower (bl s))=((aP k (lower (bl s))).1,0):=by unfold bC;rw[if_pos (iV hw)]
  have e3:gB k (bl s)=((aP k (lower (bl s))).1,true):=by unfold gB;rw[if_pos hw]
  have h:=au (fun W (M:LZ W)=>jd k (bs (lower (bl s))) W (by rw[cu];unfold lower;rw[gh,qg];exact hs) M);simp only[iM] at h;unfold mK at h;simp only[e2] at h;unfold aS at J;simp only[e1] at J;unfold Pm;rw[e3];clear e1 e2 e3 hw
  go_enter Tryz.func93,Tryz.ntmps93
  go_wp2_with fail;refine J.o.mono ?_;rintro e9 w1 ⟨rfl,hb⟩;have HB:=au hb;have I:=au (h.o w1 (HZ.o.below hb));clear J h hb;dsimp only;go_wp2_with fail;refine I.o.mono ?_;rintro e9 w2 ⟨A,c,rfl,hp⟩;have HP:=au (((aI.begin w).below aN HB.o).fresh aN hp);clear I HB hp;dsimp only;go_wp2;refine bodyPost_ret (results_tmp2 rfl _ _ _) rfl ?_;exact⟨A,c,rfl,(HP.o.swap.drop).post iC⟩
 ·have e1:iw k (bl s)=([],1):=by unfold iw;rw[if_neg hw]
  have e2:bC k []=([],1):=by unfold bC;rw[if_neg (Uz k)]
  have e3:gB k (bl s)=([],false):=by unfold gB;rw[if_neg hw]
  have h:=au (fun W (M:LZ W)=>jd k (bs []) W (by rw[cu];exact fw _) M);simp only[iM] at h;unfold mK at h;simp only[e2] at h;unfold aS at J;simp only[e1] at J;unfold Pm;rw[e3];clear e1 e2 e3 hw
  go_enter Tryz.func93,Tryz.ntmps93
  go_wp2_with fail;refine J.o.mono ?_;rintro e9 w1 ⟨rfl,hb⟩;have HB:=au hb;have I:=au (h.o w1 (HZ.o.below hb));clear J h hb;dsimp only;go_wp2_with fail;refine I.o.mono ?_;rintro e9 w2 ⟨A,c,rfl,hp⟩;have HP:=au (((aI.begin w).below aN HB.o).fresh aN hp);clear I HB hp;dsimp only;go_wp2;refine bodyPost_ret (results_tmp2 rfl _ _ _) rfl ?_;exact⟨A,c,rfl,(HP.o.swap.drop).post iC⟩
def Pj (T:eW) (k:Int) (x:Bs) (k2:Int) (y:Bs):Wd:=⟨k,k2,(gB k x).1,(gB k2 y).1,T.rs⟩
variable {k:Int}{t:TypeId}
theorem Na  {k2:Int} {x y:Bs} (h:okW T k x k2 y=true):Pj T k x k2 y=bO T k x k2 y:=by
 obtain⟨h1,h2,-⟩:=fP.1 h;unfold Pj bO gB;rw[if_pos h1,if_pos h2]
theorem Fv (k:Int) (x:Bs):(gB k x).2=word k x:=by
 unfold gB;cases h:word k x<;>simp
theorem l5 (k:Int) (x:Bs):(gB k x).1.length<=12:=by
 unfold gB;split
 ·rename_i h;exact(eP.1 (iV h)).2.2
 ·exact fw _
theorem CG (k:Int) (x:Bs) (M:x.length<=1000000):∀ z ∈ (gB k x).1,z.length<=1000000:=by
 intro z h;unfold gB at h;split at h
 ·have J:=zu (k:=k) (lower x);have I:=congrArg List.length J;rw[gd] at I;have h3:z.length<=((aP k (lower x)).1.flatten).length:=by
   obtain⟨i,hi,rfl⟩:=List.mem_iff_getElem.1 h;exact(MM (gv hi)).length_le
  have h4:(lower x).length=x.length:=by unfold lower;rw[gh]
  omega
 ·cases h
def Pk (I:eV) (w:World) (T:eW) (k:Int) (x:Bs) (k2:Int) (y:Bs) (e:Ending) (w':World):Prop:=
 ∃ pa:PA,e=.returned (.tuple #[eD (Pj T k x k2 y) pa,.bool (okW T k x k2 y)])/\Below w.heap.size w w'/\xG (Pj T k x k2 y) pa w'/\Ib (Pj T k x k2 y) pa/\pa.A=I/\(∀ h,pa.L=some h->w.heap.size<=h.block)/\∀ h,pa.M=some h->w.heap.size<=h.block
theorem CJ      {a0 a1 a2 a3 a4 a5 a6 M J:Value} (h:aI F0 w0 (aj (av g #[a0,a1,a2,a3,a4,a5,a6,M,J] t) X) w) (I:X.Ok) (b0 b1 b2 b3 b4 b5 b6 b7 b8:Value) :
  aI F0 w0 (aj (av g #[b0,b1,b2,b3,b4,b5,b6,b7,b8] t) X) (((((((((w.setCell ⟨g,0,none⟩ b0).setCell ⟨g,1,none⟩ b1).setCell ⟨g,2,none⟩ b2).setCell ⟨g,3,none⟩ b3).setCell ⟨g,4,none⟩ b4).setCell ⟨g,5,none⟩ b5).setCell ⟨g,6,none⟩ b6).setCell ⟨g,7,none⟩ b7).setCell ⟨g,8,none⟩ b8):=by
 have h0:aI F0 w0 (aj (av g #[b0,a1,a2,a3,a4,a5,a6,M,J] t) X) _:=aJ h I 0 b0;have h1:aI F0 w0 (aj (av g #[b0,b1,a2,a3,a4,a5,a6,M,J] t) X) _:=aJ h0 I 1 b1;have h2:aI F0 w0 (aj (av g #[b0,b1,b2,a3,a4,a5,a6,M,J] t) X) _:=aJ h1 I 2 b2;have h3:aI F0 w0 (aj (av g #[b0,b1,b2,b3,a4,a5,a6,M,J] t) X) _:=aJ h2 I 3 b3;have h4:aI F0 w0 (aj (av g #[b0,b1,b2,b3,b4,a5,a6,M,J] t) X) _:=aJ h3 I 4 b4;have h5:aI F0 w0 (aj (av g #[b0,b1,b2,b3,b4,b5,a6,M,J] t) X) _:=aJ h4 I 5 b5;have h6:aI F0 w0 (aj (av g #[b0,b1,b2,b3,b4,b5,b6,M,J] t) X) _:=aJ h5 I 6 b6;have h7:aI F0 w0 (aj (av g #[b0,b1,b2,b3,b4,b5,b6,b7,J] t) X) _:=aJ h6 I 7 b7;exact aJ h7 I 8 b8
theorem dz {fn:Func} {p u:Tmp} {I:TypeId} (h:fn.results=#[.cell p I,.tmp u]) {P:Program} (tmps:Array Value) (w:World) (g:Nat) (t:TypeId) (cs:Array Value) (J:Nat × Nat) {d:Array Field}
  (hp:tmps.getD p undef=.pointer (some ⟨g,0,none⟩)) (M:w.heap[g]?=some (.cells cs t J))
  (hu:P.underlying I=some (.struct d)) (hi:(P.info? I).map (·.size)=some cs.size) :
  (results fn tmps).run P w=.ok (.tuple #[.agg cs,tmps.getD u undef]) w:=by
 rw[results_cell_tmp h,hp];simp[asAddr,run_loadVar_row w g t I cs J (.struct d) M hu rfl hi]
abbrev _root_.Go.iu (T:eW)(a:TA):Array Value:=fN a.A T.rs.length a.c a.D T.ds.length a.d a.E T.es.length a.e T.drop T.ord T.ini
theorem UH   {a:TA} (hT:kr w T a) (hz:LZ w) (k:Int) (x:Bs) (k2:Int) (y:Bs) (hx:x.length<=1000000) (hy:y.length<=1000000) :
  Calls Tryz.prog 73 #[dV T a,.int .i64 k,.string (bs x),.int .i64 k2,.string (bs y)] w (Pk a.A w T k x k2 y):=by
 have HT:=au hT;have HZ:=au hz;have HX:=au hx;have HY:=au hy;have h1:aI eR w (aj (av w.heap.size (dR T a) 25) bG) _:=aH (aI.begin w) aN (dR T a) 25;have K1:=au (fun W (hz:LZ W)=>xJ k (bs x) W (by rw[cu];exact hx) hz);have K2:=au (fun W (hz:LZ W)=>xJ k2 (bs y) W (by rw[cu];exact hy) hz);simp only[iM] at K1 K2;unfold Pm at K1 K2;have H1:=au h1;clear hT hz h1;unfold dV dR;unfold dR at H1
 go_enter Tryz.func73,Tryz.ntmps73
 have H2:=au (show aI eR w (aj (av (w.heap.size+1) #[.slice none 0 0,.int .i64 0,.int .i64 0,.slice none 0 0,.slice none 0 0,.int .i64 0,.int .i64 0,.string { data:=#[] },.bool false] 186) (aj (av w.heap.size (iu T a) 25) bG)) _ from(by have h2:=aH H1.o aO #[.slice none 0 0,.int .i64 0,.int .i64 0,.slice none 0 0,.slice none 0 0,.int .i64 0,.int .i64 0,.string { data:=#[] },.bool false] 186;rw[im] at h2;exact h2));go_wp2_with fail;clear H1;generalize a1:(w.alloc (.cells (iu T a) 25)).alloc (.cells #[.slice none 0 0,.int .i64 0,.int .i64 0,.slice none 0 0,.slice none 0 0,.int .i64 0,.int .i64 0,.string { data:=#[] },.bool false] 186)=w1 at *
 clear a1;generalize w.heap.size+1=gr at *
 generalize ju:w.heap.size=gt at *
 have aw:=au (show(aj (av gr #[.slice none 0 0,.int .i64 0,.int .i64 0,.slice none 0 0,.slice none 0 0,.int .i64 0,.int .i64 0,.string { data:=#[] },.bool false] 186) (aj (av gt (iu T a) 25) bG)).Ok from aB aC aO);have a2:=au (fun W O (h:aI eR w O W)=>(show Below w.heap.size w W from h.mod.below (fun _ _ h=>h)));have ar:=au (fun W O (h:aI eR w O W)=>HZ.o.below (h.mod.below (fun _ _ h=>h)));clear ju;refine(K1.o _ (ar.o _ _ H2.o)).mono ?_;rintro e9 w2 ⟨L,lc,rfl,hp⟩;have H3:=au (H2.o.fresh aw.o hp);clear K1 H2 hp;dsimp only;go_wp2_with fail;refine(K2.o _ (ar.o _ _ H3.o)).mono ?_;rintro e9 w3 ⟨M,mc,rfl,hp⟩;have H4:=au (H3.o.fresh (aB iC aw.o) hp);clear K2 H3 hp;dsimp only;obtain⟨n1,an⟩:∃ n,n=(gB k x).1.length:=⟨_,rfl⟩;obtain⟨J,aq⟩:∃ n,n=(gB k2 y).1.length:=⟨_,rfl⟩;have a5:=au an;have a3:=au aq;have a0:=au (Fv k x);have af:=au (Fv k2 y);rw[<-an,<-aq];rw[a0.o,af.o];clear an aq;obtain⟨ft,aD⟩:=H4.o.drop.drop.drop.fst;have c0:=ay (i:=0) aD rfl;clear aD;go_wp2_with fail;have a4:=au (aB (iC (A:=M) (c:=mc) (l:=(gB k2 y).1)) (aB (iC (A:=L) (c:=lc) (l:=(gB k x).1)) aw.o));have H5:=au ((aH H4.o a4.o #[.slice a.A T.rs.length a.c,.int .i64 k,.int .i64 k2,.slice L n1 lc,.slice M J mc,.int .i64 n1,.int .i64 J,.string { data:=#[] },.bool false] 186).perm (by rw[fC];ac_rfl:_=aj (av w3.heap.size #[.slice a.A T.rs.length a.c,.int .i64 k,.int .i64 k2,.slice L n1 lc,.slice M J mc,.int .i64 n1,.int .i64 J,.string { data:=#[] },.bool false] 186) (aj (av gr #[.slice none 0 0,.int .i64 0,.int .i64 0,.slice none 0 0,.slice none 0 0,.int .i64 0,.int .i64 0,.string { data:=#[] },.bool false] 186) (aj (av gt (iu T a) 25) (aj (fZ M mc (gB k2 y).1) (fZ L lc (gB k x).1))))));have aA:=au (show(aj (av w3.heap.size #[.slice a.A T.rs.length a.c,.int .i64 k,.int .i64 k2,.slice L n1 lc,.slice M J mc,.int .i64 n1,.int .i64 J,.string { data:=#[] },.bool false] 186) (aj (av gr #[.slice none 0 0,.int .i64 0,.int .i64 0,.slice none 0 0,.slice none 0 0,.int .i64 0,.int .i64 0,.string { data:=#[] },.bool false] 186) (aj (av gt (iu T a) 25) (aj (fZ M mc (gB k2 y).1) (fZ L lc (gB k x).1))))).Ok from aB aC aO);clear c0 H4;generalize w3.alloc (.cells #[.slice a.A T.rs.length a.c,.int .i64 k,.int .i64 k2,.slice L n1 lc,.slice M J mc,.int .i64 n1,.int .i64 J,.string { data:=#[] },.bool false] 186)=w4 at *
 generalize w3.heap.size=gp at *
 have az:∀ W,aI eR w (aj (av gp #[.slice a.A T.rs.length a.c,.int .i64 k,.int .i64 k2,.slice L n1 lc,.slice M J mc,.int .i64 n1,.int .i64 J,.string { data:=#[] },.bool false] 186) (aj (av gr #[.slice none 0 0,.int .i64 0,.int .i64 0,.slice none 0 0,.slice none 0 0,.int .i64 0,.int .i64 0,.string { data:=#[] },.bool false] 186) (aj (av gt (iu T a) 25) (aj (fZ M mc (gB k2 y).1) (fZ L lc (gB k x).1))))) W->(fun w':World=>w'.cell? ⟨gp,0,none⟩=some (.slice a.A T.rs.length a.c)/\w'.cell? ⟨gp,1,none⟩=some (.int .i64 k)/\w'.cell? ⟨gp,2,none⟩=some (.int .i64 k2)/\w'.cell? ⟨gp,3,none⟩=some (.slice L n1 lc)/\w'.cell? ⟨gp,4,none⟩=some (.slice M J mc)/\w'.cell? ⟨gp,5,none⟩=some (.int .i64 n1)/\w'.cell? ⟨gp,6,none⟩=some (.int .i64 J)/\w'.cell? ⟨gp,7,none⟩=some (.string { data:=#[] })/\w'.cell? ⟨gp,8,none⟩=some (.bool false)/\(lR w' gt (.slice a.A T.rs.length a.c) (.slice a.D T.ds.length a.d) (.slice a.E T.es.length a.e) (.int .i64 T.drop) (.int .i64 T.ord) (.int .i64 T.ini))) W:=fun W h=>by
  obtain⟨f1,aa⟩:=h.fst;obtain⟨f2,ab⟩:=h.drop.drop.fst;exact⟨ay aa rfl,ay aa rfl,ay aa rfl,ay aa rfl,ay aa rfl,ay aa rfl,ay aa rfl,ay aa rfl,ay aa rfl,ay ab rfl,ay ab rfl,ay ab rfl,ay ab rfl,ay ab rfl,ay ab rfl⟩
 have ax:∀ W,aI eR w (aj (av gr #[.slice a.A T.rs.length a.c,.int .i64 k,.int .i64 k2,.slice L n1 lc,.slice M J mc,.int .i64 n1,.int .i64 J,.string { data:=#[] },.bool false] 186) (aj (av gp #[.slice a.A T.rs.length a.c,.int .i64 k,.int .i64 k2,.slice L n1 lc,.slice M J mc,.int .i64 n1,.int .i64 J,.string { data:=#[] },.bool false] 186) (aj (av gt (iu T a) 25) (aj (fZ M mc (gB k2 y).1) (fZ L lc (gB k x).1))))) W->(fun w':World=>w'.cell? ⟨gp,0,none⟩=some (.slice a.A T.rs.length a.c)/\w'.cell? ⟨gp,1,none⟩=some (.int .i64 k)/\w'.cell? ⟨gp,2,none⟩=some (.int .i64 k2)/\w'.cell? ⟨gp,3,none⟩=some (.slice L n1 lc)/\w'.cell? ⟨gp,4,none⟩=some (.slice M J mc)/\w'.cell? ⟨gp,5,none⟩=some (.int .i64 n1)/\w'.cell? ⟨gp,6,none⟩=some (.int .i64 J)/\w'.cell? ⟨gp,7,none⟩=some (.string { data:=#[] })/\w'.cell? ⟨gp,8,none⟩=some (.bool false)/\(lR w' gt (.slice a.A T.rs.length a.c) (.slice a.D T.ds.length a.d) (.slice a.E T.es.length a.e) (.int .i64 T.drop) (.int .i64 T.ord) (.int .i64 T.ini))) W:=fun W h=>by
  obtain⟨f1,aa⟩:=h.drop.fst;obtain⟨f2,ab⟩:=h.drop.drop.fst;exact⟨ay aa rfl,ay aa rfl,ay aa rfl,ay aa rfl,ay aa rfl,ay aa rfl,ay aa rfl,ay aa rfl,ay aa rfl,ay ab rfl,ay ab rfl,ay ab rfl,ay ab rfl,ay ab rfl,ay ab rfl⟩
 have af:=au ax;clear ax;have aE:=au az;clear az;have H6:=au (H5.o.drew aA.o);have ae:=aE.o _ H6.o;clear H5;have ak:∀ (W:World) (b:Bool),okW T k x k2 y=b->aI eR w (aj (av gr #[.slice a.A T.rs.length a.c,.int .i64 k,.int .i64 k2,.slice L n1 lc,.slice M J mc,.int .i64 n1,.int .i64 J,.string { data:=#[] },.bool false] 186) (aj (av gp #[.slice a.A T.rs.length a.c,.int .i64 k,.int .i64 k2,.slice L n1 lc,.slice M J mc,.int .i64 n1,.int .i64 J,.string { data:=#[] },.bool false] 186) (aj (av gt (iu T a) 25) (aj (fZ M mc (gB k2 y).1) (fZ L lc (gB k x).1))))) W->Pk a.A w T k x k2 y (.returned (.tuple #[.agg #[.slice a.A T.rs.length a.c,.int .i64 k,.int .i64 k2,.slice L n1 lc,.slice M J mc,.int .i64 n1,.int .i64 J,.string { data:=#[] },.bool false],.bool b])) W:=fun W b hb hr=>by
  have al:Below w.heap.size w W:=hr.mod.below (fun _ _ h=>h);obtain⟨F,⟨fm,fl,ap,ao,-,am⟩,hF⟩:=hr.drop.drop.drop.own;refine⟨⟨a.A,a.c,L,lc,M,mc⟩,?_,al,⟨HT.o.rs.below al,oF ao,oF ap⟩,?_,rfl,fun ad e=>?_,fun ad e=>?_⟩
  ·rw[hb,a5.o,a3.o];rfl
  ·exact⟨HT.o.lr,kh (l5 k x) eL,kh (l5 k2 y) eL,(u6 ao.1).1,(u6 ap.1).1,CG k x HX.o,CG k2 y HY.o,HT.o.sr⟩
  ·have e:L=some ad:=e;exact(hF ad.block ((am _).2 (.inr ((ao.2 _).2 (by rw[e];rfl))))).elim (fun h=>h.elim) id
  ·have e:M=some ad:=e;exact(hF ad.block ((am _).2 (.inl ((ap.2 _).2 (by rw[e];rfl))))).elim (fun h=>h.elim) id
 have ag:=au ak;clear ak;cases fW:word k x with
 | false=>
  refine aR (fun w':World=>w'.cell? ⟨gp,0,none⟩=some (.slice a.A T.rs.length a.c)/\w'.cell? ⟨gp,1,none⟩=some (.int .i64 k)/\w'.cell? ⟨gp,2,none⟩=some (.int .i64 k2)/\w'.cell? ⟨gp,3,none⟩=some (.slice L n1 lc)/\w'.cell? ⟨gp,4,none⟩=some (.slice M J mc)/\w'.cell? ⟨gp,5,none⟩=some (.int .i64 n1)/\w'.cell? ⟨gp,6,none⟩=some (.int .i64 J)/\w'.cell? ⟨gp,7,none⟩=some (.string { data:=#[] })/\w'.cell? ⟨gp,8,none⟩=some (.bool false)/\(lR w' gt (.slice a.A T.rs.length a.c) (.slice a.D T.ds.length a.d) (.slice a.E T.es.length a.e) (.int .i64 T.drop) (.int .i64 T.ord) (.int .i64 T.ini))) rfl eQ ae ?_;clear ae;generalize w4.drew=W at *
  obtain⟨fr,I⟩:=H6.o.drop.fst;have r0:=ay (i:=0) I rfl;have r1:=ay (i:=1) I rfl;have r2:=ay (i:=2) I rfl;have r3:=ay (i:=3) I rfl;have r4:=ay (i:=4) I rfl;have r5:=ay (i:=5) I rfl;have r6:=ay (i:=6) I rfl;have r7:=ay (i:=7) I rfl;have r8:=ay (i:=8) I rfl;have rf:=aM I;clear I
  (repeat(first|refine bM ?_|refine bN ?_))
  refine dD rfl fY (fun K hK=>?_);go_wp2_with fail;have H7:=au (CJ (H6.o.kN) aO (.slice a.A T.rs.length a.c) (.int .i64 k) (.int .i64 k2) (.slice L n1 lc) (.slice M J mc) (.int .i64 n1) (.int .i64 J) (.string { data:=#[] }) (.bool false));clear H6 r0 r1 r2 r3 r4 r5 r6 r7 r8 rf;generalize (((((((((W.setCell ⟨gr,0,none⟩ (.slice a.A T.rs.length a.c)).setCell ⟨gr,1,none⟩ (.int .i64 k)).setCell ⟨gr,2,none⟩ (.int .i64 k2)).setCell ⟨gr,3,none⟩ (.slice L n1 lc)).setCell ⟨gr,4,none⟩ (.slice M J mc)).setCell ⟨gr,5,none⟩ (.int .i64 n1)).setCell ⟨gr,6,none⟩ (.int .i64 J)).setCell ⟨gr,7,none⟩ (.string { data:=#[] })).setCell ⟨gr,8,none⟩ (.bool false))=W9 at *
  refine hK.o _ _ (af.o _ H7.o) ?_;clear hK
  (repeat(first|refine bM ?_|refine bN ?_))
  refine lex_nil ?_;obtain⟨fr,I⟩:=H7.o.fst;have ac:=I.1;clear I;go_wp2_with fail;refine bodyPost_ret (dz rfl _ _ gr 186 #[.slice a.A T.rs.length a.c,.int .i64 k,.int .i64 k2,.slice L n1 lc,.slice M J mc,.int .i64 n1,.int .i64 J,.string { data:=#[] },.bool false] (0,0) rfl ac Tryz.underlying186 eQ) rfl ?_;clear ac;exact ag.o _ _ (by unfold okW;rw[fW];rfl) H7.o
 | true=>
  cases gE:word k2 y with
  | false=>
   refine aR (fun w':World=>w'.cell? ⟨gp,0,none⟩=some (.slice a.A T.rs.length a.c)/\w'.cell? ⟨gp,1,none⟩=some (.int .i64 k)/\w'.cell? ⟨gp,2,none⟩=some (.int .i64 k2)/\w'.cell? ⟨gp,3,none⟩=some (.slice L n1 lc)/\w'.cell? ⟨gp,4,none⟩=some (.slice M J mc)/\w'.cell? ⟨gp,5,none⟩=some (.int .i64 n1)/\w'.cell? ⟨gp,6,none⟩=some (.int .i64 J)/\w'.cell? ⟨gp,7,none⟩=some (.string { data:=#[] })/\w'.cell? ⟨gp,8,none⟩=some (.bool false)/\(lR w' gt (.slice a.A T.rs.length a.c) (.slice a.D T.ds.length a.d) (.slice a.E T.es.length a.e) (.int .i64 T.drop) (.int .i64 T.ord) (.int .i64 T.ini))) rfl eQ ae ?_;clear ae;generalize w4.drew=W at *
   obtain⟨fr,I⟩:=H6.o.drop.fst;have r0:=ay (i:=0) I rfl;have r1:=ay (i:=1) I rfl;have r2:=ay (i:=2) I rfl;have r3:=ay (i:=3) I rfl;have r4:=ay (i:=4) I rfl;have r5:=ay (i:=5) I rfl;have r6:=ay (i:=6) I rfl;have r7:=ay (i:=7) I rfl;have r8:=ay (i:=8) I rfl;have rf:=aM I;clear I
   (repeat(first|refine bM ?_|refine bN ?_))
   refine dD rfl fY (fun K hK=>?_);go_wp2_with fail;have H7:=au (CJ (H6.o.kN) aO (.slice a.A T.rs.length a.c) (.int .i64 k) (.int .i64 k2) (.slice L n1 lc) (.slice M J mc) (.int .i64 n1) (.int .i64 J) (.string { data:=#[] }) (.bool false));clear H6 r0 r1 r2 r3 r4 r5 r6 r7 r8 rf;generalize (((((((((W.setCell ⟨gr,0,none⟩ (.slice a.A T.rs.length a.c)).setCell ⟨gr,1,none⟩ (.int .i64 k)).setCell ⟨gr,2,none⟩ (.int .i64 k2)).setCell ⟨gr,3,none⟩ (.slice L n1 lc)).setCell ⟨gr,4,none⟩ (.slice M J mc)).setCell ⟨gr,5,none⟩ (.int .i64 n1)).setCell ⟨gr,6,none⟩ (.int .i64 J)).setCell ⟨gr,7,none⟩ (.string { data:=#[] })).setCell ⟨gr,8,none⟩ (.bool false))=W9 at *
   refine hK.o _ _ (af.o _ H7.o) ?_;clear hK
   (repeat(first|refine bM ?_|refine bN ?_))
   refine lex_nil ?_;obtain⟨fr,I⟩:=H7.o.fst;have ac:=I.1;clear I;go_wp2_with fail;refine bodyPost_ret (dz rfl _ _ gr 186 #[.slice a.A T.rs.length a.c,.int .i64 k,.int .i64 k2,.slice L n1 lc,.slice M J mc,.int .i64 n1,.int .i64 J,.string { data:=#[] },.bool false] (0,0) rfl ac Tryz.underlying186 eQ) rfl ?_;clear ac;exact ag.o _ _ (by unfold okW;rw[fW,gE];rfl) H7.o
  | true=>
   refine aR (fun w':World=>w'.cell? ⟨gp,0,none⟩=some (.slice a.A T.rs.length a.c)/\w'.cell? ⟨gp,1,none⟩=some (.int .i64 k)/\w'.cell? ⟨gp,2,none⟩=some (.int .i64 k2)/\w'.cell? ⟨gp,3,none⟩=some (.slice L n1 lc)/\w'.cell? ⟨gp,4,none⟩=some (.slice M J mc)/\w'.cell? ⟨gp,5,none⟩=some (.int .i64 n1)/\w'.cell? ⟨gp,6,none⟩=some (.int .i64 J)/\w'.cell? ⟨gp,7,none⟩=some (.string { data:=#[] })/\w'.cell? ⟨gp,8,none⟩=some (.bool false)/\(lR w' gt (.slice a.A T.rs.length a.c) (.slice a.D T.ds.length a.d) (.slice a.E T.es.length a.e) (.int .i64 T.drop) (.int .i64 T.ord) (.int .i64 T.ini))) rfl eQ ae ?_;clear ae;generalize w4.drew=W at *
   have KV:=au (lZ (HT.o.below (a2.o _ _ H6.o)) (ar.o _ _ H6.o));unfold dV dR at KV;obtain⟨fr,I⟩:=H6.o.drop.fst;have r0:=ay (i:=0) I rfl;have r1:=ay (i:=1) I rfl;have r2:=ay (i:=2) I rfl;have r3:=ay (i:=3) I rfl;have r4:=ay (i:=4) I rfl;have r5:=ay (i:=5) I rfl;have r6:=ay (i:=6) I rfl;have r7:=ay (i:=7) I rfl;have r8:=ay (i:=8) I rfl;have rf:=aM I;clear I
   (repeat(first|refine bM ?_|refine bN ?_))
   refine dD rfl fY (fun K hK=>?_);go_wp2_with fail;refine KV.o.mono ?_;rintro e9 w6 ⟨rfl,hb⟩;have ai:=au (H6.o.below aA.o hb);clear KV H6 hb r0 r1 r2 r3 r4 r5 r6 r7 r8 rf;dsimp only;refine hK.o _ _ (aE.o _ ai.o) ?_;clear hK;obtain⟨fr,I⟩:=ai.o.drop.fst;have r0:=ay (i:=0) I rfl;have r1:=ay (i:=1) I rfl;have r2:=ay (i:=2) I rfl;have r3:=ay (i:=3) I rfl;have r4:=ay (i:=4) I rfl;have r5:=ay (i:=5) I rfl;have r6:=ay (i:=6) I rfl;have r7:=ay (i:=7) I rfl;have r8:=ay (i:=8) I rfl;have rf:=aM I;clear I
   (repeat(first|refine bM ?_|refine bN ?_))
   refine dD rfl fY (fun K hK=>?_);go_wp2_with fail;have H7:=au (CJ (ai.o.kN) aO (.slice a.A T.rs.length a.c) (.int .i64 k) (.int .i64 k2) (.slice L n1 lc) (.slice M J mc) (.int .i64 n1) (.int .i64 J) (.string { data:=#[] }) (.bool false));clear ai r0 r1 r2 r3 r4 r5 r6 r7 r8 rf;generalize (((((((((w6.setCell ⟨gr,0,none⟩ (.slice a.A T.rs.length a.c)).setCell ⟨gr,1,none⟩ (.int .i64 k)).setCell ⟨gr,2,none⟩ (.int .i64 k2)).setCell ⟨gr,3,none⟩ (.slice L n1 lc)).setCell ⟨gr,4,none⟩ (.slice M J mc)).setCell ⟨gr,5,none⟩ (.int .i64 n1)).setCell ⟨gr,6,none⟩ (.int .i64 J)).setCell ⟨gr,7,none⟩ (.string { data:=#[] })).setCell ⟨gr,8,none⟩ (.bool false))=W9 at *
   refine hK.o _ _ (af.o _ H7.o) ?_;clear hK
   (repeat(first|refine bM ?_|refine bN ?_))
   refine lex_nil ?_;obtain⟨fr,I⟩:=H7.o.fst;have ac:=I.1;clear I;go_wp2_with fail;refine bodyPost_ret (dz rfl _ _ gr 186 #[.slice a.A T.rs.length a.c,.int .i64 k,.int .i64 k2,.slice L n1 lc,.slice M J mc,.int .i64 n1,.int .i64 J,.string { data:=#[] },.bool false] (0,0) rfl ac Tryz.underlying186 eQ) rfl ?_;clear ac;exact ag.o _ _ (by unfold okW;rw[fW,gE];rfl) H7.o
variable {W:World}
theorem nU  {cs:Array Value}  (h:∀ u ∈ cs.toList,u.oneCell'=true):Src (W.alloc (.cells cs t)) (some ⟨W.heap.size,0,none⟩) 1 cs.size cs.toList:=by
 refine⟨by simp,h,fun _=>⟨_,rfl,fun j u I=>?_⟩⟩;rw[tP] at I;have e:(⟨W.heap.size,0,none⟩:Addr).add j=⟨W.heap.size,j,none⟩:=by unfold Addr.add;split<;>simp_all
 rw[e];simp only[World.cell?,heap_alloc_new W _];rw[I];rfl
theorem CO {α:Type}:∀ {l:List α} {i:Nat} (h:i<l.length),(l[i]::l.eraseIdx i).Perm l
 | _::_,0,_=>.refl _
 | x::l,i+1,h=>(List.Perm.swap ..).trans ((CO (l:=l) (by simpa using h)).cons x)
def vI (n:aQ) (A:eV) (c:Nat):Value:=.agg (fh n.k A n.ws.length c)
variable {n:aQ}
theorem Uj   (hi:i<n.ws.length) (h:¬ word n.k n.ws[i]=true):eT n=false:=by
 unfold eT
 rw[show n.ws.all (word n.k)=false from by
  rw[List.all_eq_false]
  exact⟨n.ws[i],gv hi,h⟩]
 rfl
theorem MZ   (hi:i<n.ws.length) (ha:∀ x ∈ n.ws.take i,word n.k x=true) (h:word n.k n.ws[i]=true):∀ x ∈ n.ws.take (i+1),word n.k x=true:=by
 intro x hx;rw[kq hi] at hx;rcases List.mem_append.1 hx with hx|hx
 ·exact ha x hx
 ·rw[List.mem_singleton.1 hx];exact h
theorem Rl  (ha:∀ x ∈ n.ws,word n.k x=true):eT n=(decide (0<n.ws.length)&&decide (n.ws.length<=6)):=by
 unfold eT;rw[show n.ws.all (word n.k)=true from List.all_eq_true.2 ha];rfl
theorem jJ     (hA:fB w A n.ws) (hl:n.ws.length<=1000000) (hw:∀ x ∈ n.ws,x.length<=1000000) (hz:LZ w) :
  Calls Tryz.prog 39 #[vI n A c] w (aS w (.bool (eT n))):=by
 have HZ:=au hz;have HA:=au hA;have HW:=au hw;have HL:=au (fun (k:Int) (x:Bs) (W:World) (hx:x.length<=1000000) (hz:LZ W)=>EY k (bs x) W (by rw[cu];exact hx) hz);have h0:(w.alloc (.cells (fh n.k A n.ws.length c) 28)).cell? ⟨w.heap.size,0,none⟩=some (.int .i64 n.k):=ay (dP w (fh n.k A n.ws.length c) 28).choose_spec.1 rfl;have h1:(w.alloc (.cells (fh n.k A n.ws.length c) 28)).cell? ⟨w.heap.size,1,none⟩=some (.slice A n.ws.length c):=ay (dP w (fh n.k A n.ws.length c) 28).choose_spec.1 rfl;have fW:Below w.heap.size w (w.alloc (.cells (fh n.k A n.ws.length c) 28)):=(fe _ w).alloc (fy _) _;have I:=au fW
 have ad:=au (fun W (J:Below (w.alloc (.cells (fh n.k A n.ws.length c) 28)).heap.size (w.alloc (.cells (fh n.k A n.ws.length c) 28)) W)=>show (my W w.heap.size (.int .i64 n.k) (.slice A n.ws.length c)) from
  ⟨by rw[J.cell (py _ _ h0)];exact h0,by rw[J.cell (py _ _ h1)];exact h1⟩)
 obtain⟨N,hN⟩:∃ N,N=n.ws.length:=⟨_,rfl⟩;have HN:=au hN;rw[<-hN] at hl;unfold vI;rw[<-hN] at h0 h1 ad I ⊢;clear hA hw hz fW hN
 go_enter Tryz.func39,Tryz.ntmps39
 go_wp2;generalize w.alloc (.cells (fh n.k A N c) 28)=w1 at *
 go_loopw [10] (fun i wr=>∃ k:Nat,k<=N/\i=.int .i64 k/\(∀ x ∈ n.ws.take k,word n.k x=true)/\Below w1.heap.size w1 wr) (fun i _=>N-(intOf i).toNat)
 case atStart=>exact⟨0,fw _,rfl,by simp,fe _ _⟩
 case round=>
  obtain⟨k,hk,rfl,ht,J⟩:=hrel;have HT:=au ht;have HB:=au J;obtain⟨d0,d1⟩:=ad.o _ J;clear ht J h0 h1;by_cases ae:k<N
  ·have M:k<n.ws.length:=by rw[<-HN.o];exact ae
   obtain⟨b,o,rfl,hc⟩:=HA.o.at eL;have ck:=hc _ (aF I.o HB.o) k M;have KL:=au (HL.o n.k n.ws[k] wr (HW.o _ (gv M)) (HZ.o.below (aF I.o HB.o)));rw[iM] at KL;have ac:=au (Uj M);have ab:=au (MZ M HT.o);generalize n.ws[k]=x at *
   clear hc M;by_cases h:word n.k x=true
   ·have e1:bC n.k x=((aP n.k x).1,0):=by unfold bC;rw[if_pos h]
    have HS:=au (ab.o h);unfold Ju at KL;simp only[e1] at KL;clear e1 ac ab h;go_wp2_with fail;refine KL.o.mono ?_;rintro e9 w2 ⟨A2,c2,rfl,J,-⟩;have aa:=au (aF HB.o J);clear KL HB J;dsimp only;go_wp2
    go_roundw
    case rel=>exact⟨k+1,by omega,by go_num,HS.o,aa.o⟩
    case measure=>simp[intOf];omega
   ·have e1:bC n.k x=([],1):=by unfold bC;rw[if_neg h]
    have HF:=au (ac.o h);unfold Ju at KL;simp only[e1] at KL;clear e1 ac ab h;go_wp2_with fail;refine KL.o.mono ?_;rintro e9 w2 ⟨A2,c2,rfl,J,-⟩;have aa:=au (aF HB.o J);clear KL HB J;dsimp only;go_wp2;go_ret;exact aK HF.o (aF I.o aa.o)
  ·obtain rfl:k=N:=by omega
   have HF:=au (Rl (n:=n) (by have:=HT.o;rw[HN.o,ky] at this;exact this));rw[<-HN.o] at HF;clear HT;by_cases h0:(0:Int)<(k:Int)
   ·have hd:(decide (0<k)&&decide (k<=6))=decide ((k:Int)<=6):=by
     rw[decide_eq_true (show 0<k by omega),lx];exact decide_eq_decide.2 eL
    rw[hd] at HF;go_wp2;go_ret;exact aK HF.o (aF I.o HB.o)
   ·have hd:(decide (0<k)&&decide (k<=6))=false:=by
     rw[decide_eq_false (show ¬ 0<k by omega),pZ]
    rw[hd] at HF;go_wp2;go_ret;exact aK HF.o (aF I.o HB.o)
end Go.Proofs.YtbioiclabmbedaaGreatDoor
