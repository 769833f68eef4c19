/- A part of the proof: lemmas. -/
import Derived.Test.YtbnnlpjpnihheaaGreatDoorMW2
import Derived.Test.YtbnnlpjpnihheaaGreatDoorMW3
import Derived.OwnWalkIn
import Derived.TacticsInMore
import Derived.LoopNIn
import Derived.LoopIn
import Derived.Shelf.Strings.SlTrimAscii
set_option maxHeartbeats 16000000
set_option maxRecDepth 100000
set_option linter.all false
namespace Go.Proofs.YtbnnlpjpnihheaaGreatDoor
open Go.RowKit Go.CH Go.CH.Scr
open Go.ChangeMaps (setBlock)
def aL(w:World)(v:Value)(e:Ending)(w':World):Prop:=e=.returned v/\Below w.heap.size w w'
def Quiet(w:World)(v:Value)(e:Ending)(w':World):Prop:=e=.returned v/\w=w'
abbrev bl(s:ByteArray):Bs:=s.data.toList
def bs(l:Bs):ByteArray:=⟨l.toArray⟩
theorem fO(l:Bs):bl (bs l)=l:=rfl
theorem qh(s:ByteArray):bs (bl s)=s:=by cases s;rfl
theorem jG(s:ByteArray):(bl s).length=s.size:=by cases s;rfl
theorem bB(l:Bs):(bs l).size=l.length:=by cases l;rfl;rfl
theorem nO{a b:Bs}(h:bs a=bs b):a=b:=by have:=congrArg bl h;exact this
theorem DJ{a b:ByteArray}(h:bl a=bl b):a=b:=by rw[<-qh a,<-qh b,h]
theorem EN(s:ByteArray)(i:Nat)(h:i<s.size):(bl s)[i]?=some s[i]:=Lib.data_getElem? s i h
theorem VA(s:ByteArray)(i:Nat)(h:¬ i<s.size):(bl s)[i]?=none:=Z6 (by rw[jG];omega)
variable{w:World}
theorem dG{a b:Bool}(h:a=b):Quiet w (.bool b) (.returned (.bool a)) w:=⟨by rw[h],rfl⟩
theorem BM(S:Bs)(x:UInt8):decide (0<=Lib.indexByte S x)=has S (some x):=(Lib.contains_iff_indexByte S x).symm
theorem TD(x:UInt8):((x.toNat:Int)).toNat.toUInt8=x:=by simp
theorem qJ(s S:ByteArray)(i:Nat)(w:World)(J:s.size<=maxLen):
  Calls Tryz.prog 123 #[.string s,.int .i64 (i:Int),.string S] w (Quiet w (.bool (has (bl S) (bl s)[i]?))):=by
 by_cases h:i<s.size
 ·rw[EN s i h];obtain⟨x,z⟩:∃ x:UInt8,s[i]=x:=⟨_,rfl⟩;rw[z];have q:=au (Tryz.strings_IndexByte S (x.toNat:Int) w);rw[TD] at q;have F:=au (BM (bl S) x);generalize has (bl S) (some x)=r at *
  have p:=x.toNat_lt;have hi:(i:Int)<(s.size:Int):=by omega
  go_enter Tryz.func123,Tryz.ntmps123
  generalize Lib.indexByte (bl S) x=ix at *
  go_wp2_with fail;refine q.o.mono ?_;rintro M I ⟨rfl,rfl⟩;clear q;go_wp2;go_ret;exact dG F.o
 ·rw[VA s i h];have hi:¬ (i:Int)<(s.size:Int):=by omega
  go_enter Tryz.func123,Tryz.ntmps123
  go_wp2;go_ret;exact dG rfl
structure LZ(w:World):Prop where
 c:Lib.CaseVar 0 Lib.caseA w
 t:Lib.Utf8Tabs 2 3 w
 m:∃ m,w.cell? ⟨1,0,none⟩=some (.int .i64 m)
variable{w':World}{k:Int}{l:Bs}
theorem LZ.below(h:LZ w)(hb:Below w.heap.size w w'):LZ w':=⟨Lib.CaseVar_below h.c hb,Utf8Tabs_below h.t hb,h.m.imp fun _ h=>by rw[hb.cell (YW _ _ h)];exact h⟩
theorem uP(k:Int)(l:Bs):fN k l =
  if k=1 then(if has bL l[0]? then 1 else 0)
  else if k=2 then(if has bL (l[0]?.map low) then(if has oC l[1]? then 2 else 1) else 0)
  else if k=3 then(if has zJ l[0]? then 1 else 0)
  else if k=4 then(if has uS l[0]?&&has kJ l[1]? then 2 else if has kJ l[0]?||has [110] l[0]? then 1 else 0)
  else 0:=by
 cases l with
 | nil=>simp[fN,has]
 | cons a t=>
  show nk k a t.head?=_
  have e:t.head?=(a::t)[1]?:=by cases t<;>rfl
  rw[e];rfl
theorem Kv(l:Bs):fN 1 l=if has bL l[0]?=true then 1 else 0:=by rw[uP];rfl
theorem Kw(l:Bs):fN 2 l=if has bL (l[0]?.map low)=true then(if has oC l[1]?=true then 2 else 1) else 0:=by rw[uP];rfl
theorem Ky(l:Bs):fN 3 l=if has zJ l[0]?=true then 1 else 0:=by rw[uP];rfl
theorem Kz(l:Bs):fN 4 l=if(has uS l[0]?&&has kJ l[1]?)=true then 2 else if(has kJ l[0]?||has [110] l[0]?)=true then 1 else 0:=by rw[uP];rfl
theorem KS(l:Bs)(h1:¬ k=1)(h2:¬ k=2)(h3:¬ k=3)(h4:¬ k=4):fN k l=0:=by rw[uP,if_neg h1,if_neg h2,if_neg h3,if_neg h4]
theorem TF(c:UInt8):Lib.lowerB c=low c:=by
 have key:∀ n:Fin 256,Lib.lowerB (UInt8.ofNat n.val)=low (UInt8.ofNat n.val):=by decide +kernel
 have:=key ⟨c.toNat,c.toNat_lt⟩;simpa using this
theorem qK(l:Bs):Lib.toLowerA l=lower l:=Zu fun c _=>TF c
theorem decode_high(c:UInt8)(h:128<=c.toNat):Lib.decodeL [c]=(65533,1):=by
 have key:∀ n:Fin 256,128<=n.val->Lib.decodeL [UInt8.ofNat n.val]=(65533,1):=by decide +kernel
 have:=key ⟨c.toNat,c.toNat_lt⟩ h;simpa using this
theorem Cc:Lib.toLowerU 65533=65533:=by decide +kernel
theorem zG:Lib.encodeRune 65533=[239,191,189]:=by decide +kernel
theorem EO(c:UInt8)(h:128<=c.toNat):has bL (some (low c))=false:=by
 have key:∀ n:Fin 256,128<=n.val->has bL (some (low (UInt8.ofNat n.val)))=false:=by decide +kernel
 have:=key ⟨c.toNat,c.toNat_lt⟩ h;simpa using this
theorem M4(l:Bs)(h:l.length<=1):has bL (Lib.toLowerD l)[0]?=has bL (l[0]?.map low):=by
 match l,h with
 | [],_=>rfl
 | [c],_=>
  by_cases p:c.toNat<128
  ·rw[Lib.toLowerD_ascii [c] (fun b q=>by rw[List.mem_singleton.1 q];exact p),qK];rfl
  ·show has bL (Lib.mapD Lib.toLowerU [c])[0]?=has bL (some (low c))
   rw[EO c ff,Lib.mapD_step _ _ gw,decode_high c ff];rw[show(((65533,1):Nat × Nat).1:Int)=65533 from rfl,Cc,if_pos fW,zG];rfl
theorem TG(l:Bs)(h:l.length<=1):(Lib.toLowerD l).length<=10:=by
 match l,h with
 | [],_=>decide
 | [c],_=>
  by_cases p:c.toNat<128
  ·rw[Lib.toLowerD_ascii [c] (fun b q=>by rw[List.mem_singleton.1 q];exact p),qK];simp[lower]
  ·show(Lib.mapD Lib.toLowerU [c]).length<=10
   rw[Lib.mapD_step _ _ gw,decode_high c ff];rw[show(((65533,1):Nat × Nat).1:Int)=65533 from rfl,Cc,if_pos fW,zG];simp[Lib.mapD,Lib.mapGoD]
theorem kI(s:ByteArray)(a b:Nat):bl (s.extract a b)=((bl s).take b).drop a:=by
 simp[bl,ByteArray.data_extract,List.drop_take]
def zH(w:World)(k:Int)(l:Bs)(e:Ending)(w':World):Prop:=e=.returned (.int .i64 (fN k l:Nat))/\Below w.heap.size w w'
theorem oz(h:fN k l=0)(hb:Below w.heap.size w w'):zH w k l (.returned (.int .i64 0)) w':=⟨by rw[h];rfl,hb⟩
theorem mD(h:fN k l=1)(hb:Below w.heap.size w w'):zH w k l (.returned (.int .i64 1)) w':=⟨by rw[h];rfl,hb⟩
theorem EP(h:fN k l=2)(hb:Below w.heap.size w w'):zH w k l (.returned (.int .i64 2)) w':=⟨by rw[h];rfl,hb⟩
theorem IY(k:Int)(s:ByteArray)(w:World)(hs:s.size<=1000000)(hz:LZ w):
  Calls Tryz.prog 92 #[.int .i64 k,.string s] w (zH w k (bl s)):=by
 have ab:s.size<=maxLen:=by unfold maxLen;omega
 have HZ:=au hz;clear hz;by_cases hk:k=1
 ·subst hk;have q:=au (Kv (bl s));have z:=au (show Calls Tryz.prog 123 #[.string s,.int .i64 0,.string ⟨#[97,98,99,100,101,102,103,104,105,106,107,108,109,110,111,112,113,114,115,116,117,118,119,120,121,122]⟩] w (Quiet w (.bool (has bL (bl s)[0]?))) from qJ s _ 0 w ab);cases h:has bL (bl s)[0]? with
  | false=>
   have I:=au (show fN 1 (bl s)=0 by rw[q.o,h];rfl);rw[h] at z;clear h q
   go_enter Tryz.func92,Tryz.ntmps92
   go_wp2_with fail;refine z.o.mono ?_;rintro p F ⟨rfl,rfl⟩;clear z;go_wp2;go_ret;exact oz I.o (YC _ _)
  | true=>
   have I:=au (show fN 1 (bl s)=1 by rw[q.o,h];rfl);rw[h] at z;clear h q
   go_enter Tryz.func92,Tryz.ntmps92
   go_wp2_with fail;refine z.o.mono ?_;rintro p F ⟨rfl,rfl⟩;clear z;go_wp2;go_ret;exact mD I.o (YC _ _)
 have ai:=hk;clear hk;by_cases hk:k=2
 ·subst hk;have q:=au (Kw (bl s));have J:=au (show ∀ W:World,Calls Tryz.prog 123 #[.string s,.int .i64 1,.string ⟨#[39,96,94]⟩] W (Quiet W (.bool (has oC (bl s)[1]?))) from fun W=>qJ s _ 1 W ab);have an:=au (fun (x:ByteArray) (hx:x.size<=1)=>Tryz.strings_ToLower_any x w ff HZ.o.c HZ.o.t);have ao:=au (fun (x:ByteArray) (W:World) (hx:x.size<=10)=>show Calls Tryz.prog 123 #[.string x,.int .i64 0,.string ⟨#[97,98,99,100,101,102,103,104,105,106,107,108,109,110,111,112,113,114,115,116,117,118,119,120,121,122]⟩] W (Quiet W (.bool (has bL (bl x)[0]?))) from qJ x _ 0 W (by unfold maxLen;omega));obtain⟨x,hx⟩:∃ x,x=s.extract 0 (min 1 (s.size:Int)).toNat:=⟨_,rfl⟩;have ad:(bl x).length<=1/\(bl x)[0]?=(bl s)[0]?:=by
   have h:bl x=(bl s).take 1:=by
    rw[hx,kI,me];have V:=jG s;by_cases h0:s.size=0
    ·have e0:bl s=[]:=Y0 ff;rw[e0];simp
    ·rw[show(min 1 (s.size:Int)).toNat=1 by omega]
   rw[h];refine⟨by rw[YU];omega,?_⟩;cases bl s<;>rfl
  have ap:x.size<=1:=by rw[<-jG];exact ad.1
  have am:(Lib.toLowerD (bl x)).length<=10:=TG _ ad.1;have af:=M4 (bl x) ad.1;rw[ad.2] at af;have ae:=an.o x ap;have ac:=fun W=>ao.o (bs (Lib.toLowerD (bl x))) W (by rw[bB];exact am);simp only[fO] at ac;rw[af] at ac;unfold bs at ac;generalize Lib.toLowerD (bl x)=y at ae ac;rw[hx] at ae;have KT:=au ae;have KI:=au ac;clear an ao ad ap am af hx ae ac;cases h:has bL ((bl s)[0]?.map low) with
  | false=>
   have I:=au (show fN 2 (bl s)=0 by rw[q.o,h];rfl);rw[h] at KI;clear h q J
   go_enter Tryz.func92,Tryz.ntmps92
   go_wp2_with fail;refine KT.o.mono ?_;rintro p w1 ⟨rfl,hb⟩;have HB:=au hb;have aa:=au (KI.o w1);clear KT hb KI;go_wp2_with fail;refine aa.o.mono ?_;rintro p F ⟨rfl,rfl⟩;clear aa;go_wp2;go_ret;exact oz I.o HB.o
  | true=>
   rw[h] at KI;cases V:has oC (bl s)[1]? with
   | false=>
    have I:=au (show fN 2 (bl s)=1 by rw[q.o,h,V];rfl);rw[V] at J;clear h V q
    go_enter Tryz.func92,Tryz.ntmps92
    go_wp2_with fail;refine KT.o.mono ?_;rintro p w1 ⟨rfl,hb⟩;have HB:=au hb;have aa:=au (KI.o w1);have M:=au (J.o w1);clear KT hb KI J;go_wp2_with fail;refine aa.o.mono ?_;rintro p F ⟨rfl,rfl⟩;clear aa;go_wp2_with fail;refine M.o.mono ?_;rintro p F ⟨rfl,rfl⟩;clear M;go_wp2;go_ret;exact mD I.o HB.o
   | true=>
    have I:=au (show fN 2 (bl s)=2 by rw[q.o,h,V];rfl);rw[V] at J;clear h V q
    go_enter Tryz.func92,Tryz.ntmps92
    go_wp2_with fail;refine KT.o.mono ?_;rintro p w1 ⟨rfl,hb⟩;have HB:=au hb;have aa:=au (KI.o w1);have M:=au (J.o w1);clear KT hb KI J;go_wp2_with fail;refine aa.o.mono ?_;rintro p F ⟨rfl,rfl⟩;clear aa;go_wp2_with fail;refine M.o.mono ?_;rintro p F ⟨rfl,rfl⟩;clear M;go_wp2;go_ret;exact EP I.o HB.o
 have al:=hk;clear hk;by_cases hk:k=3
 ·subst hk;have q:=au (Ky (bl s));have z:=au (show Calls Tryz.prog 123 #[.string s,.int .i64 0,.string ⟨#[98,100,102,103,104,106,107,108,109,110,112,113,114,115,116,119,120,121,122,39]⟩] w (Quiet w (.bool (has zJ (bl s)[0]?))) from qJ s _ 0 w ab);cases h:has zJ (bl s)[0]? with
  | false=>
   have I:=au (show fN 3 (bl s)=0 by rw[q.o,h];rfl);rw[h] at z;clear h q
   go_enter Tryz.func92,Tryz.ntmps92
   go_wp2_with fail;refine z.o.mono ?_;rintro p F ⟨rfl,rfl⟩;clear z;go_wp2;go_ret;exact oz I.o (YC _ _)
  | true=>
   have I:=au (show fN 3 (bl s)=1 by rw[q.o,h];rfl);rw[h] at z;clear h q
   go_enter Tryz.func92,Tryz.ntmps92
   go_wp2_with fail;refine z.o.mono ?_;rintro p F ⟨rfl,rfl⟩;clear z;go_wp2;go_ret;exact mD I.o (YC _ _)
 have ak:=hk;clear hk;by_cases hk:k=4
 ·subst hk;have q:=au (Kz (bl s));have z:=au (show Calls Tryz.prog 123 #[.string s,.int .i64 0,.string ⟨#[107,115,116,110,104,109,121,114,119,103,122,100,98,112]⟩] w (Quiet w (.bool (has uS (bl s)[0]?))) from qJ s _ 0 w ab);have K2:=au (show Calls Tryz.prog 123 #[.string s,.int .i64 1,.string ⟨#[97,105,117,101,111]⟩] w (Quiet w (.bool (has kJ (bl s)[1]?))) from qJ s _ 1 w ab);have J:=au (show Calls Tryz.prog 123 #[.string s,.int .i64 0,.string ⟨#[97,105,117,101,111]⟩] w (Quiet w (.bool (has kJ (bl s)[0]?))) from qJ s _ 0 w ab);have M:=au (show Calls Tryz.prog 123 #[.string s,.int .i64 0,.string ⟨#[110]⟩] w (Quiet w (.bool (has [110] (bl s)[0]?))) from qJ s _ 0 w ab);cases h:has uS (bl s)[0]? with
  | false=>
   rw[h] at z;cases h3:has kJ (bl s)[0]? with
   | false=>
    rw[h3] at J;cases h4:has [110] (bl s)[0]? with
    | false=>
     have I:=au (show fN 4 (bl s)=0 by rw[q.o,h,h3,h4];rfl);rw[h4] at M;clear q h h3 h4
     go_enter Tryz.func92,Tryz.ntmps92
     go_wp2_with fail;refine z.o.mono ?_;rintro p F ⟨rfl,rfl⟩;clear z;clear K2;go_wp2_with fail;refine J.o.mono ?_;rintro p F ⟨rfl,rfl⟩;clear J;go_wp2_with fail;refine M.o.mono ?_;rintro p F ⟨rfl,rfl⟩;clear M;go_wp2;go_ret;exact oz I.o (YC _ _)
    | true=>
     have I:=au (show fN 4 (bl s)=1 by rw[q.o,h,h3,h4];rfl);rw[h4] at M;clear q h h3 h4
     go_enter Tryz.func92,Tryz.ntmps92
     go_wp2_with fail;refine z.o.mono ?_;rintro p F ⟨rfl,rfl⟩;clear z;clear K2;go_wp2_with fail;refine J.o.mono ?_;rintro p F ⟨rfl,rfl⟩;clear J;go_wp2_with fail;refine M.o.mono ?_;rintro p F ⟨rfl,rfl⟩;clear M;go_wp2;go_ret;exact mD I.o (YC _ _)
   | true=>
    rw[h3] at J;have I:=au (show fN 4 (bl s)=1 by rw[q.o,h,h3];rfl);clear q h h3 M
    go_enter Tryz.func92,Tryz.ntmps92
    go_wp2_with fail;refine z.o.mono ?_;rintro p F ⟨rfl,rfl⟩;clear z;clear K2;go_wp2_with fail;refine J.o.mono ?_;rintro p F ⟨rfl,rfl⟩;clear J;go_wp2;go_ret;exact mD I.o (YC _ _)
  | true=>
   rw[h] at z;cases V:has kJ (bl s)[1]? with
   | false=>
    rw[V] at K2;cases h3:has kJ (bl s)[0]? with
    | false=>
     rw[h3] at J;cases h4:has [110] (bl s)[0]? with
     | false=>
      have I:=au (show fN 4 (bl s)=0 by rw[q.o,h,V,h3,h4];rfl);rw[h4] at M;clear q h h3 h4 V
      go_enter Tryz.func92,Tryz.ntmps92
      go_wp2_with fail;refine z.o.mono ?_;rintro p F ⟨rfl,rfl⟩;clear z;go_wp2_with fail;refine K2.o.mono ?_;rintro p F ⟨rfl,rfl⟩;clear K2;go_wp2_with fail;refine J.o.mono ?_;rintro p F ⟨rfl,rfl⟩;clear J;go_wp2_with fail;refine M.o.mono ?_;rintro p F ⟨rfl,rfl⟩;clear M;go_wp2;go_ret;exact oz I.o (YC _ _)
     | true=>
      have I:=au (show fN 4 (bl s)=1 by rw[q.o,h,V,h3,h4];rfl);rw[h4] at M;clear q h h3 h4 V
      go_enter Tryz.func92,Tryz.ntmps92
      go_wp2_with fail;refine z.o.mono ?_;rintro p F ⟨rfl,rfl⟩;clear z;go_wp2_with fail;refine K2.o.mono ?_;rintro p F ⟨rfl,rfl⟩;clear K2;go_wp2_with fail;refine J.o.mono ?_;rintro p F ⟨rfl,rfl⟩;clear J;go_wp2_with fail;refine M.o.mono ?_;rintro p F ⟨rfl,rfl⟩;clear M;go_wp2;go_ret;exact mD I.o (YC _ _)
    | true=>
     rw[h3] at J;have I:=au (show fN 4 (bl s)=1 by rw[q.o,h,V,h3];rfl);clear q h h3 M V
     go_enter Tryz.func92,Tryz.ntmps92
     go_wp2_with fail;refine z.o.mono ?_;rintro p F ⟨rfl,rfl⟩;clear z;go_wp2_with fail;refine K2.o.mono ?_;rintro p F ⟨rfl,rfl⟩;clear K2;go_wp2_with fail;refine J.o.mono ?_;rintro p F ⟨rfl,rfl⟩;clear J;go_wp2;go_ret;exact mD I.o (YC _ _)
   | true=>
    have I:=au (show fN 4 (bl s)=2 by rw[q.o,h,V];rfl);rw[V] at K2;clear q h V J M
    go_enter Tryz.func92,Tryz.ntmps92
    go_wp2_with fail;refine z.o.mono ?_;rintro p F ⟨rfl,rfl⟩;clear z;go_wp2_with fail;refine K2.o.mono ?_;rintro p F ⟨rfl,rfl⟩;clear K2;go_wp2;go_ret;exact EP I.o (YC _ _)
 have ag:=hk;clear hk;have I:=au (show fN k (bl s)=0 from KS _ ai al ak ag);have t1:(k==1)=false:=by simpa using ai
 have t2:(k==2)=false:=by simpa using al
 have t3:(k==3)=false:=by simpa using ak
 have t4:(k==4)=false:=by simpa using ag
 clear ai al ak ag
 go_enter Tryz.func92,Tryz.ntmps92
 go_wp2;go_ret;exact oz I.o (YC _ _)
variable{S:Bs}{i:Nat}
theorem aG{w'':World}(h:Below w.heap.size w w')(h':Below w'.heap.size w' w''):Below w.heap.size w w'':=h.trans (h'.mono h.size)
theorem aN{a b:Bool}(h:b=a)(hb:Below w.heap.size w w'):aL w (.bool b) (.returned (.bool a)) w':=⟨by rw[h],hb⟩
theorem V9{x:UInt8}(h:S[i]?=some x):has S (some x)=true:=iF.2 (Za h)
theorem O7{x y:UInt8}(h:S[i]?=some y)(hn:has (S.take i) (some x)=false)(p:¬ y=x):has (S.take (i+1)) (some x)=false:=by
 rw[List.take_add_one,h];simp only[has,List.contains_eq_mem,decide_eq_false_iff_not] at hn ⊢;intro hm;rcases List.mem_append.1 hm with hm|hm
 ·exact hn hm
 ·simp at hm;exact p hm.symm
theorem M5(s S:ByteArray)(j:Nat)(w:World)(hs:s.size<=maxLen)(hS:S.size<=1000):
  Calls Tryz.prog 134 #[.string s,.int .i64 (j:Int),.string S] w (aL w (.bool (has (bl S) (bl s)[j]?))):=by
 by_cases h:j<s.size
 ·rw[EN s j h];obtain⟨x,hx⟩:∃ x:UInt8,s[j]=x:=⟨_,rfl⟩;rw[hx];have F:=x.toNat_lt;have hi:¬ (s.size:Int)<=(j:Int):=by omega
  have ab:(j:Int)<(s.size:Int):=by omega
  go_enter Tryz.func134,Tryz.ntmps134
  go_wp2;go_loopw [7] (fun i wr=>∃ k:Nat,k<=S.size/\i=.int .i64 k/\has ((bl S).take k) (some x)=false/\Below w.heap.size w wr) (fun i _=>S.size-(intOf i).toNat)
  case atStart=>exact⟨0,YE _,rfl,by simp[has],YC _ _⟩
  case round=>
   obtain⟨k,hk,rfl,ht,hb⟩:=hrel;have J:=au ht;have q:=au (dO hb);have I:=au hb;clear ht hb;by_cases M:k<S.size
   ·obtain⟨y,hy⟩:∃ y:UInt8,S[k]=y:=⟨_,rfl⟩;have HY:=au (show(bl S)[k]?=some y by rw[EN S k M,hy]);have V:=y.toNat_lt;have aa:(k:Int)<(S.size:Int):=by omega
    by_cases p:y=x
    ·have z:=au (V9 (show(bl S)[k]?=some x by rw[HY.o,p]));subst p;go_wp2_with fail;refine aK (fun w'=>w'=wr.drew) fi fi rfl ?_;generalize wr.drew=wd at *
     (repeat(first|refine aW ?_|refine aX ?_))
     refine lex_nil ?_;go_wp2;go_ret;exact aN z.o q.o
    ·have HS:=au (O7 HY.o J.o p);have t1:((y.toNat:Int)==(x.toNat:Int))=false:=by
      simp only[beq_eq_false_iff_ne,ne_eq];intro e;exact p (UInt8.toNat_inj.1 ff)
     clear p;go_wp2_with fail;refine aK (fun w'=>w'=wr.drew) fi fi rfl ?_;generalize wr.drew=wd at *
     (repeat(first|refine aW ?_|refine aX ?_))
     refine lex_nil ?_;go_wp2
     go_roundw
     case rel=>exact⟨k+1,by omega,by go_num,HS.o,q.o⟩
     case measure=>simp[intOf];omega
   ·obtain rfl:k=S.size:=by omega
    have z:=au (show has (bl S) (some x)=false by
     have:=J.o;rw[<-jG,YO] at this
     exact this)
    clear J;go_wp2;go_ret;exact aN z.o I.o
 ·rw[VA s j h];have hi:(s.size:Int)<=(j:Int):=by omega
  go_enter Tryz.func134,Tryz.ntmps134
  go_wp2;go_ret;exact aN rfl (YC _ _)
theorem drop_at(l:Bs)(i j:Nat):(l.drop i)[j]?=l[i+j]?:=by rw[pT]
theorem TH(l:Bs)(i:Nat):fN 1 (l.drop i)=if has bL l[i]?=true then 1 else 0:=by rw[Kv,drop_at];rfl
theorem M6(o:Option UInt8):has (bL++Pj) o=has bL (o.map low):=by
 cases o with
 | none=>rfl
 | some c=>
  have key:∀ n:Fin 256,has (bL++Pj) (some (UInt8.ofNat n.val))=has bL (some (low (UInt8.ofNat n.val))):=by decide +kernel
  have:=key ⟨c.toNat,c.toNat_lt⟩;simpa using this
theorem TI(l:Bs)(i:Nat):fN 2 (l.drop i)=if has (bL++Pj) l[i]?=true then(if has oC l[i+1]?=true then 2 else 1) else 0:=by rw[Kw,drop_at,drop_at,<-M6];rfl
theorem TJ(l:Bs)(i:Nat):fN 3 (l.drop i)=if has zJ l[i]?=true then 1 else 0:=by rw[Ky,drop_at];rfl
theorem TK(l:Bs)(i:Nat):fN 4 (l.drop i)=if has kJ l[i]?=true then 1 else if(has uS l[i]?&&has kJ l[i+1]?)=true then 2 else if has [110] l[i]?=true then 1 else 0:=by
 rw[Kz,drop_at,drop_at]
 show(if(has uS l[i]?&&has kJ l[i+1]?)=true then 2 else if(has kJ l[i]?||has [110] l[i]?)=true then 1 else 0)=_
 cases l[i]? with
 | none=>rfl
 | some c=>
  cases h:has kJ (some c) with
  | true=>rw[TN h];rfl
  | false=>simp
theorem kT(s S:ByteArray)(e:Int)(j:Nat)(he:e=(j:Int))(w:World)(hs:s.size<=maxLen)(hS:S.size<=1000):
  Calls Tryz.prog 134 #[.string s,.int .i64 e,.string S] w (aL w (.bool (has (bl S) (bl s)[j]?))):=by rw[he];exact M5 s S j w hs hS
variable{n:Nat}
theorem gQ{l:Bs}(h:fN k (l.drop i)=n)(hb:Below w.heap.size w w'):aL w (.int .i64 (fN k (l.drop i):Nat)) (.returned (.int .i64 (n:Int))) w':=⟨by rw[h],hb⟩
theorem ER(k:Int)(s:ByteArray)(i:Nat)(w:World)(hs:s.size<=1000000)(hi:i<=1000000):
  Calls Tryz.prog 111 #[.int .i64 k,.string s,.int .i64 (i:Int)] w (aL w (.int .i64 (fN k ((bl s).drop i):Nat))):=by
 have aa:s.size<=maxLen:=by unfold maxLen;omega
 by_cases hk:k=1
 ·subst hk;have I:=au (TH (bl s) i);have q:=au (fun W=>show Calls Tryz.prog 134 #[.string s,.int .i64 (i:Int),.string ⟨#[97,98,99,100,101,102,103,104,105,106,107,108,109,110,111,112,113,114,115,116,117,118,119,120,121,122]⟩] W (aL W (.bool (has bL (bl s)[i]?))) from kT s _ _ (i) ff W aa fW);cases z:has bL (bl s)[i]? with
  | false=>
   have J:=au (show fN 1 ((bl s).drop i)=0 by rw[I.o,z];rfl);rw[z] at q;clear z I
   go_enter Tryz.func111,Tryz.ntmps111
   have h:=au (q.o w);clear q;go_wp2_with fail;refine h.o.mono ?_;rintro M w1 ⟨rfl,hb⟩;clear h;have p:=au hb;clear hb;go_wp2;go_ret;exact gQ J.o p.o
  | true=>
   have J:=au (show fN 1 ((bl s).drop i)=1 by rw[I.o,z];rfl);rw[z] at q;clear z I
   go_enter Tryz.func111,Tryz.ntmps111
   have h:=au (q.o w);clear q;go_wp2_with fail;refine h.o.mono ?_;rintro M w1 ⟨rfl,hb⟩;clear h;have p:=au hb;clear hb;go_wp2;go_ret;exact gQ J.o p.o
 have ac:=hk;clear hk;by_cases hk:k=2
 ·subst hk;have I:=au (TI (bl s) i);have q:=au (fun W=>show Calls Tryz.prog 134 #[.string s,.int .i64 (i:Int),.string ⟨#[97,98,99,100,101,102,103,104,105,106,107,108,109,110,111,112,113,114,115,116,117,118,119,120,121,122,65,66,67,68,69,70,71,72,73,74,75,76,77,78,79,80,81,82,83,84,85,86,87,88,89,90]⟩] W (aL W (.bool (has (bL++Pj) (bl s)[i]?))) from kT s _ _ (i) ff W aa fW);have K2:=au (fun W=>show Calls Tryz.prog 134 #[.string s,.int .i64 ((i:Int)+1),.string ⟨#[39,96,94]⟩] W (aL W (.bool (has oC (bl s)[i+1]?))) from kT s _ _ (i+1) ff W aa fW);cases z:has (bL++Pj) (bl s)[i]? with
  | false=>
   have J:=au (show fN 2 ((bl s).drop i)=0 by rw[I.o,z];rfl);rw[z] at q;clear z I K2
   go_enter Tryz.func111,Tryz.ntmps111
   have h:=au (q.o w);clear q;go_wp2_with fail;refine h.o.mono ?_;rintro M w1 ⟨rfl,hb⟩;clear h;have p:=au hb;clear hb;go_wp2;go_ret;exact gQ J.o p.o
  | true=>
   rw[z] at q;cases h2:has oC (bl s)[i+1]? with
   | false=>
    have J:=au (show fN 2 ((bl s).drop i)=1 by rw[I.o,z,h2];rfl);rw[h2] at K2;clear z h2 I
    go_enter Tryz.func111,Tryz.ntmps111
    have h:=au (q.o w);clear q;go_wp2_with fail;refine h.o.mono ?_;rintro M w1 ⟨rfl,hb⟩;clear h;have p:=au hb;clear hb;have h:=au (K2.o w1);clear K2;go_wp2_with fail;refine h.o.mono ?_;rintro M w2 ⟨rfl,hb⟩;clear h;have F:=au (aG p.o hb);clear p;clear hb;go_wp2;go_ret;exact gQ J.o F.o
   | true=>
    have J:=au (show fN 2 ((bl s).drop i)=2 by rw[I.o,z,h2];rfl);rw[h2] at K2;clear z h2 I
    go_enter Tryz.func111,Tryz.ntmps111
    have h:=au (q.o w);clear q;go_wp2_with fail;refine h.o.mono ?_;rintro M w1 ⟨rfl,hb⟩;clear h;have p:=au hb;clear hb;have h:=au (K2.o w1);clear K2;go_wp2_with fail;refine h.o.mono ?_;rintro M w2 ⟨rfl,hb⟩;clear h;have F:=au (aG p.o hb);clear p;clear hb;go_wp2;go_ret;exact gQ J.o F.o
 have af:=hk;clear hk;by_cases hk:k=3
 ·subst hk;have I:=au (TJ (bl s) i);have q:=au (fun W=>show Calls Tryz.prog 134 #[.string s,.int .i64 (i:Int),.string ⟨#[98,100,102,103,104,106,107,108,109,110,112,113,114,115,116,119,120,121,122,39]⟩] W (aL W (.bool (has zJ (bl s)[i]?))) from kT s _ _ (i) ff W aa fW);cases z:has zJ (bl s)[i]? with
  | false=>
   have J:=au (show fN 3 ((bl s).drop i)=0 by rw[I.o,z];rfl);rw[z] at q;clear z I
   go_enter Tryz.func111,Tryz.ntmps111
   have h:=au (q.o w);clear q;go_wp2_with fail;refine h.o.mono ?_;rintro M w1 ⟨rfl,hb⟩;clear h;have p:=au hb;clear hb;go_wp2;go_ret;exact gQ J.o p.o
  | true=>
   have J:=au (show fN 3 ((bl s).drop i)=1 by rw[I.o,z];rfl);rw[z] at q;clear z I
   go_enter Tryz.func111,Tryz.ntmps111
   have h:=au (q.o w);clear q;go_wp2_with fail;refine h.o.mono ?_;rintro M w1 ⟨rfl,hb⟩;clear h;have p:=au hb;clear hb;go_wp2;go_ret;exact gQ J.o p.o
 have ae:=hk;clear hk;by_cases hk:k=4
 ·subst hk;have I:=au (TK (bl s) i);have q:=au (fun W=>show Calls Tryz.prog 134 #[.string s,.int .i64 (i:Int),.string ⟨#[97,105,117,101,111]⟩] W (aL W (.bool (has kJ (bl s)[i]?))) from kT s _ _ (i) ff W aa fW);have K2:=au (fun W=>show Calls Tryz.prog 134 #[.string s,.int .i64 (i:Int),.string ⟨#[107,115,116,110,104,109,121,114,119,103,122,100,98,112]⟩] W (aL W (.bool (has uS (bl s)[i]?))) from kT s _ _ (i) ff W aa fW);have K3:=au (fun W=>show Calls Tryz.prog 134 #[.string s,.int .i64 ((i:Int)+1),.string ⟨#[97,105,117,101,111]⟩] W (aL W (.bool (has kJ (bl s)[i+1]?))) from kT s _ _ (i+1) ff W aa fW);have K4:=au (fun W=>show Calls Tryz.prog 134 #[.string s,.int .i64 (i:Int),.string ⟨#[110]⟩] W (aL W (.bool (has [110] (bl s)[i]?))) from kT s _ _ (i) ff W aa fW);cases z:has kJ (bl s)[i]? with
  | false=>
   rw[z] at q;cases h2:has uS (bl s)[i]? with
   | false=>
    rw[h2] at K2;cases h4:has [110] (bl s)[i]? with
    | false=>
     rw[h4] at K4;have J:=au (show fN 4 ((bl s).drop i)=0 by rw[I.o,z,h2,h4];rfl);clear z h2 h4 I K3
     go_enter Tryz.func111,Tryz.ntmps111
     have h:=au (q.o w);clear q;go_wp2_with fail;refine h.o.mono ?_;rintro M w1 ⟨rfl,hb⟩;clear h;have p:=au hb;clear hb;have h:=au (K2.o w1);clear K2;go_wp2_with fail;refine h.o.mono ?_;rintro M w2 ⟨rfl,hb⟩;clear h;have F:=au (aG p.o hb);clear p;clear hb;have h:=au (K4.o w2);clear K4;go_wp2_with fail;refine h.o.mono ?_;rintro M w3 ⟨rfl,hb⟩;clear h;have V:=au (aG F.o hb);clear F;clear hb;go_wp2;go_ret;exact gQ J.o V.o
    | true=>
     rw[h4] at K4;have J:=au (show fN 4 ((bl s).drop i)=1 by rw[I.o,z,h2,h4];rfl);clear z h2 h4 I K3
     go_enter Tryz.func111,Tryz.ntmps111
     have h:=au (q.o w);clear q;go_wp2_with fail;refine h.o.mono ?_;rintro M w1 ⟨rfl,hb⟩;clear h;have p:=au hb;clear hb;have h:=au (K2.o w1);clear K2;go_wp2_with fail;refine h.o.mono ?_;rintro M w2 ⟨rfl,hb⟩;clear h;have F:=au (aG p.o hb);clear p;clear hb;have h:=au (K4.o w2);clear K4;go_wp2_with fail;refine h.o.mono ?_;rintro M w3 ⟨rfl,hb⟩;clear h;have V:=au (aG F.o hb);clear F;clear hb;go_wp2;go_ret;exact gQ J.o V.o
   | true=>
    rw[h2] at K2;cases h3:has kJ (bl s)[i+1]? with
    | false=>
     rw[h3] at K3;cases h4:has [110] (bl s)[i]? with
     | false=>
      rw[h4] at K4;have J:=au (show fN 4 ((bl s).drop i)=0 by rw[I.o,z,h2,h3,h4];rfl);clear z h2 h3 h4 I 
      go_enter Tryz.func111,Tryz.ntmps111
      have h:=au (q.o w);clear q;go_wp2_with fail;refine h.o.mono ?_;rintro M w1 ⟨rfl,hb⟩;clear h;have p:=au hb;clear hb;have h:=au (K2.o w1);clear K2;go_wp2_with fail;refine h.o.mono ?_;rintro M w2 ⟨rfl,hb⟩;clear h;have F:=au (aG p.o hb);clear p;clear hb;have h:=au (K3.o w2);clear K3;go_wp2_with fail;refine h.o.mono ?_;rintro M w3 ⟨rfl,hb⟩;clear h;have V:=au (aG F.o hb);clear F;clear hb;have h:=au (K4.o w3);clear K4;go_wp2_with fail;refine h.o.mono ?_;rintro M w4 ⟨rfl,hb⟩;clear h;have ad:=au (aG V.o hb);clear V;clear hb;go_wp2;go_ret;exact gQ J.o ad.o
     | true=>
      rw[h4] at K4;have J:=au (show fN 4 ((bl s).drop i)=1 by rw[I.o,z,h2,h3,h4];rfl);clear z h2 h3 h4 I 
      go_enter Tryz.func111,Tryz.ntmps111
      have h:=au (q.o w);clear q;go_wp2_with fail;refine h.o.mono ?_;rintro M w1 ⟨rfl,hb⟩;clear h;have p:=au hb;clear hb;have h:=au (K2.o w1);clear K2;go_wp2_with fail;refine h.o.mono ?_;rintro M w2 ⟨rfl,hb⟩;clear h;have F:=au (aG p.o hb);clear p;clear hb;have h:=au (K3.o w2);clear K3;go_wp2_with fail;refine h.o.mono ?_;rintro M w3 ⟨rfl,hb⟩;clear h;have V:=au (aG F.o hb);clear F;clear hb;have h:=au (K4.o w3);clear K4;go_wp2_with fail;refine h.o.mono ?_;rintro M w4 ⟨rfl,hb⟩;clear h;have ad:=au (aG V.o hb);clear V;clear hb;go_wp2;go_ret;exact gQ J.o ad.o
    | true=>
     rw[h3] at K3;have J:=au (show fN 4 ((bl s).drop i)=2 by rw[I.o,z,h2,h3];rfl);clear z h2 h3 I K4
     go_enter Tryz.func111,Tryz.ntmps111
     have h:=au (q.o w);clear q;go_wp2_with fail;refine h.o.mono ?_;rintro M w1 ⟨rfl,hb⟩;clear h;have p:=au hb;clear hb;have h:=au (K2.o w1);clear K2;go_wp2_with fail;refine h.o.mono ?_;rintro M w2 ⟨rfl,hb⟩;clear h;have F:=au (aG p.o hb);clear p;clear hb;have h:=au (K3.o w2);clear K3;go_wp2_with fail;refine h.o.mono ?_;rintro M w3 ⟨rfl,hb⟩;clear h;have V:=au (aG F.o hb);clear F;clear hb;go_wp2;go_ret;exact gQ J.o V.o
  | true=>
   rw[z] at q;have J:=au (show fN 4 ((bl s).drop i)=1 by rw[I.o,z];rfl);clear z I K2 K3 K4
   go_enter Tryz.func111,Tryz.ntmps111
   have h:=au (q.o w);clear q;go_wp2_with fail;refine h.o.mono ?_;rintro M w1 ⟨rfl,hb⟩;clear h;have p:=au hb;clear hb;go_wp2;go_ret;exact gQ J.o p.o
 have ab:=hk;clear hk;have J:=au (show fN k ((bl s).drop i)=0 from KS _ ac af ae ab);have t1:(k==1)=false:=by simpa using ac
 have t2:(k==2)=false:=by simpa using af
 have t3:(k==3)=false:=by simpa using ae
 have t4:(k==4)=false:=by simpa using ab
 clear ac af ae ab
 go_enter Tryz.func111,Tryz.ntmps111
 go_wp2;go_ret;exact gQ J.o (YC _ _)
def ig(k:Int):Nat->Bs->Bs
 | 0,l=>l
 | i+1,l=>(ig k i l).drop (fN k (ig k i l))
theorem ES(k:Int)(l:Bs):∀ i,i<=(aM k l).1.length->aM k (ig k i l)=((aM k l).1.drop i,(aM k l).2):=by
 intro i
 induction i with
 | zero=>intro _;rfl
 | succ i ih=>
  intro hi;have h:=ih ff;have hd:(aM k l).1.drop i=(aM k l).1[i]::(aM k l).1.drop (i+1):=Y7 ff;have hn:fN k (ig k i l)≠0:=fun z=>by
   rw[dP z,hd] at h;cases h
  rw[fB hn,hd] at h
  show aM k ((ig k i l).drop (fN k (ig k i l)))=_
  have q:=congrArg Prod.fst h;have p:=congrArg Prod.snd h;simp only[List.cons.injEq] at q p;exact Prod.ext q.2 p
variable{b1 b2:Nat}{F0:Nat->Prop}{w0 W:World}{X:Go.CH.bq}
theorem O8(hi:i<(aM k l).1.length):fN k (ig k i l)≠0/\(aM k l).1[i]=(ig k i l).take (fN k (ig k i l)):=by
 have h:=ES k l i ff;have hd:(aM k l).1.drop i=(aM k l).1[i]::(aM k l).1.drop (i+1):=Y7 ff;have hn:fN k (ig k i l)≠0:=fun q=>by
  rw[dP q,hd] at h;cases h
 refine⟨hn,?_⟩;rw[fB hn,hd] at h;have p:=congrArg Prod.fst h;simp only[List.cons.injEq] at p;exact p.1.symm
theorem K6(k:Int)(l:Bs):fN k (ig k (aM k l).1.length l)=0/\ig k (aM k l).1.length l=(aM k l).2:=by
 have h:=ES k l _ (YG _);rw[ly] at h;have hn:fN k (ig k (aM k l).1.length l)=0:=by
  refine my fun hn=>?_;rw[fB hn] at h;cases h
 refine⟨hn,?_⟩;rw[dP hn] at h;exact congrArg Prod.snd h
theorem O9(k:Int)(l:Bs):∀ i,(ig k i l).length<=l.length:=by
 intro i
 induction i with
 | zero=>exact YG _
 | succ i ih=>show((ig k i l).drop _).length<=_;rw[Y8];omega
def Zl(k:Int)(l:Bs)(b1 b2 i:Nat):Go.CH.bq:=aj (av b1 (gb k) 3) (av b2 (iu (bs (ig k i l))) 9)
theorem K7(i:Nat):(Zl k l b1 b2 i).Ok:=ay aC aC
def Wh(x:Bs):Array Value:=(iu (bs x))
def Ce(b2:Nat)(w:World):Nat:=match w.cell? ⟨b2,0,none⟩ with|some (.string s)=>s.size|_=>0
theorem TL(l:Bs)(n:Nat):bs (l.take n)=(bs l).extract 0 n:=DJ (by rw[kI,fO,fO,me])
theorem rR(l:Bs)(n:Nat):bs (l.drop n)=(bs l).extract n (bs l).size:=DJ (by rw[kI,fO,fO,bB,YO])
theorem qL(h:aI F0 w0 (aj (Zl k l b1 b2 i) X) W):
  W.cell? ⟨b1,0,none⟩=some (.int .i64 k)/\W.cell? ⟨b2,0,none⟩=some (.string (bs (ig k i l)))/\W.frozen? ⟨b2,0,none⟩=false:=by
 obtain⟨F,q⟩:=(h.assoc).fst;obtain⟨z,p⟩:=(h.assoc.oM).fst;exact⟨aB q rfl,aB p rfl,aP p 0⟩
theorem TM(J:X.Ok)(h:aI F0 w0 (aj (Zl k l b1 b2 i) X) W):
  aI F0 w0 (aj (Zl k l b1 b2 (i+1)) X) (W.setCell ⟨b2,0,none⟩ (.string (bs (ig k (i+1) l)))):=by
 have z:=h.assoc.oM;obtain⟨F,I,-,p⟩:=z.take aC aQ;have q:=p _ _ (qX I 0 (.string (bs (ig k (i+1) l))));exact(q.perm (by ac_rfl):aI F0 w0 (aj (aj (av b1 (gb k) 3) (av b2 (#[Value.string (bs (ig k i l))].setIfInBounds 0 (.string (bs (ig k (i+1) l)))) 9)) X) _)
theorem zI{s:ByteArray}(h:w.cell? ⟨b2,0,none⟩=some (.string s)):Ce b2 w=s.size:=by unfold Ce;rw[h]
theorem DK(k:Int)(l:Bs)(b1 b2:Nat)(hl:l.length<=1000000):
  VI Tryz.prog 91 #[.pointer (some ⟨b1,0,none⟩),.pointer (some ⟨b2,0,none⟩)] LZ (Zl k l b1 b2) Wh (aM k l).1:=by
 intro n lo W F0 w0 X Y V aq hE h0 hY;have HY:=au hY;have HE:=au hE;have HL:=au (fun (t:ByteArray) (W:World) (ht:t.size<=1000000) (hz:LZ W)=>IY k t W ht hz);clear hY hE;obtain⟨N,hN⟩:∃ N,N=(aM k l).1.length:=⟨_,rfl⟩;refine callsIn_of_wp Tryz.func91 rfl trivial ?_ rfl;simp only[Tryz.ntmps91,kz,YR,Zz,Nat.reduceAdd,Nat.reduceSub,ZN,ZO,kB,ZX,Z8,Zq];obtain⟨c1,c2,c3⟩:=qL h0;have K0:=au (HL.o (bs (ig k 0 l)) W (by rw[bB];exact hl) (HE.o W h0.mod));have H0:=au h0;clear h0
 gi_wp2_with (refine⟨trivial,fun h=>(by cases h),?_⟩;gi_at_call 92;refine(callsIn_wide.2 K0.o).mono ?_;rintro e9 w9 ⟨rfl,hb⟩;clear K0;have H1:=au (H0.o.below (ay (K7 0) (V 0)) hb);clear H0 hb c1 c2 c3)
 gi_loopw [4] (fun p wr=>∃ i:Nat,i<=N/\p=.int .i64 (fN k (ig k i l):Nat)/\aI F0 w0 (aj (Zl k l b1 b2 i) (X i)) wr)
  (fun p wr=>Ce b2 wr)
 case atStart=>exact⟨0,YE _,by rw[fO],H1.o⟩
 case round=>
  clear H1;obtain⟨i,hi,rfl,hR⟩:=hrel;have HR:=au hR;clear hR;by_cases ab:i<N
  ·have q:=ab;rw[hN] at q;obtain⟨hn,hx⟩:=O8 q;have hw:=HY.o i q wr HR.o;rw[hx,Wh,TL] at hw;obtain⟨fn,tmps,assign,body,hy,hround⟩:=hw;have M:=au hround;obtain⟨c1,c2,c3⟩:=qL HR.o;have HS:=au (show bs (ig k (i+1) l)=_ from rR (ig k i l) (fN k (ig k i l)));have ap:fN k (ig k i l)<=(bs (ig k i l)).size:=by rw[bB];exact lT
   have af:(bs (ig k (i+1) l)).size<=1000000:=by rw[bB];exact YQ (O9 k l (i+1)) hl
   have am:(bs (ig k i l)).size<=1000000:=by rw[bB];exact YQ (O9 k l i) hl
   have ar:(bs (ig k (i+1) l)).size+fN k (ig k i l)=(bs (ig k i l)).size:=by
    rw[bB,bB] at *
    show((ig k i l).drop _).length+_=_
    rw[Y8];omega
   have HA:=au (fun (W':World) (h:aI F0 w0 (aj (Zl k l b1 b2 i) (X (i+1))) W')=>show W'.cell? ⟨b1,0,none⟩=some (.int .i64 k)/\W'.cell? ⟨b2,0,none⟩=some (.string (bs (ig k i l)))/\W'.frozen? ⟨b2,0,none⟩=false from qL h)
   have HB:=au (fun (W':World) (h:aI F0 w0 (aj (Zl k l b1 b2 i) (X (i+1))) W')=>show
     aI F0 w0 (aj (Zl k l b1 b2 (i+1)) (X (i+1))) (W'.setCell ⟨b2,0,none⟩ (.string ((bs (ig k i l)).extract (fN k (ig k i l)) (bs (ig k i l)).size))) /\
     (W'.setCell ⟨b2,0,none⟩ (.string ((bs (ig k i l)).extract (fN k (ig k i l)) (bs (ig k i l)).size))).cell? ⟨b1,0,none⟩=some (.int .i64 k) /\
     (W'.setCell ⟨b2,0,none⟩ (.string ((bs (ig k i l)).extract (fN k (ig k i l)) (bs (ig k i l)).size))).cell? ⟨b2,0,none⟩=some (.string ((bs (ig k i l)).extract (fN k (ig k i l)) (bs (ig k i l)).size)) /\
     Calls Tryz.prog 92 #[.int .i64 k,.string ((bs (ig k i l)).extract (fN k (ig k i l)) (bs (ig k i l)).size)] (W'.setCell ⟨b2,0,none⟩ (.string ((bs (ig k i l)).extract (fN k (ig k i l)) (bs (ig k i l)).size)))
      (zH (W'.setCell ⟨b2,0,none⟩ (.string ((bs (ig k i l)).extract (fN k (ig k i l)) (bs (ig k i l)).size))) k (ig k (i+1) l)) from by
    have h2:=TM (V (i+1)) h;rw[HS.o] at h2;obtain⟨d1,d2,-⟩:=qL h2;rw[HS.o] at d2;refine⟨h2,d1,d2,?_⟩;have I:=HL.o (bs (ig k (i+1) l)) _ af (HE.o _ h2.mod);rw[fO,HS.o] at I
    exact I)
   have HZ:=au (fun (W':World) (hb:aI F0 w0 (aj (Zl k l b1 b2 (i+1)) (X (i+1))) W')=>show Ce b2 W'=(bs (ig k (i+1) l)).size from zI (qL hb).2.1);have ak:=au (show Ce b2 wr=(bs (ig k i l)).size from zI c2);have ai:=au (fun (W W':World) (h:aI F0 w0 (aj (Zl k l b1 b2 (i+1)) (X (i+1))) W) (hb:Below W.heap.size W W')=>h.below (ay (K7 (i+1)) (V (i+1))) hb);clear HS HL HE HY HR hx hN hl q;have z:∀ W',aI F0 w0 (aj (Zl k l b1 b2 (i+1)) (X (i+1))) W'->∃ i':Nat,i'<=N/\Value.int .i64 (fN k (ig k (i+1) l):Nat)=.int .i64 (fN k (ig k i' l):Nat)/\aI F0 w0 (aj (Zl k l b1 b2 i') (X i')) W':=fun W' h=>⟨i+1,ab,rfl,h⟩;have ac:=au z;have F:∀ W',aI F0 w0 (aj (Zl k l b1 b2 i) Y) W'->(∃ v,(Ending.returned (.tuple #[]))=.returned v)/\(aI F0 w0 (aj (Zl k l b1 b2 (aM k l).1.length) (X (aM k l).1.length)) W'\/∃ i,aI F0 w0 (aj (Zl k l b1 b2 i) Y) W'):=fun W' h=>⟨⟨_,rfl⟩,.inr ⟨i,h⟩⟩;have aa:=au F;clear z F;generalize ae:(bs (ig k (i+1) l)).size=s2 at *
   generalize ht:bs (ig k i l)=t at *
   generalize al:fN k (ig k i l)=n1 at *
   clear ae ht al;have an:0<n1:=by omega
   clear hn;gi_wp2;refine⟨fun h=>(by cases h),?_⟩;clear c1 c2 c3 hy;refine M.o.mono ?_;rintro e W3 (⟨rfl,I⟩|⟨rfl,I⟩)
   ·obtain⟨h4,d1,d2,K4⟩:=HB.o W3 I;obtain⟨a1,a2,a3⟩:=HA.o W3 I;have H4:=au h4;have KK:=au K4;have ao:=au (show Ce b2 W3=t.size from zI a2);clear M HB HA I h4 K4
    gi_wp2_with (refine⟨trivial,fun h=>(by cases h),?_⟩;gi_at_call 92;refine(callsIn_wide.2 KK.o).mono ?_;rintro e9 w9 ⟨rfl,hb⟩;clear KK)
    have h5:=ai.o _ _ H4.o hb
    go_roundw
    case rel=>exact ac.o _ h5
    case measure=>rw[HZ.o _ h5,ak.o];omega
   ·have ag:=au (aa.o _ I);clear M HB HA I;gi_wp2
    go_end0
    exact ag.o
  ·obtain rfl:i=N:=by omega
   have hz:fN k (ig k i l)=0:=by rw[hN];exact(K6 k l).1
   have J:(∃ v,(Ending.returned (.tuple #[]))=.returned v)/\(aI F0 w0 (aj (Zl k l b1 b2 (aM k l).1.length) (X (aM k l).1.length)) wr\/∃ i,aI F0 w0 (aj (Zl k l b1 b2 i) Y) wr):=⟨⟨_,rfl⟩,.inl (by rw[<-hN];exact HR.o)⟩;have ad:=au J;clear J;rw[hz];gi_wp2;refine⟨fun _ h=>(by cases h),?_⟩;gi_wp2
   go_end0
   exact ad.o
attribute [local go_sem] Zi
def Xz(b1 b2:Nat):Value:=.func (.func 91) #[] (ln (some ⟨b1,0,none⟩) (some ⟨b2,0,none⟩))
theorem ET(k:Int)(s:ByteArray)(w:World):
  Calls Tryz.prog 52 #[.int .i64 k,.string s] w fun e w'=>∃ b1 b2,e=.returned (Xz b1 b2)/\bS w fh (Zl k (bl s) b1 b2 0) w':=by
 have p:bS w fh (Zl k (bl s) w.heap.size (w.heap.size+1) 0) ((w.alloc (.cells (gb k) 3)).alloc (.cells (iu s) 9)):=by
  have F:=(aI.begin w).fresh aO (fG w (gb k) 3);have h:=F.fresh aQ (fG _ (iu s) 9);rw[YN] at h;have z:aI fh w (aj (Zl k (bl s) w.heap.size (w.heap.size+1) 0) aS) _:=h.perm (by unfold Zl;rw[show ig k 0 (bl s)=bl s from rfl,qh];ac_rfl);exact(z.swap.drop).post (K7 0)
 have q:=au p;clear p
 go_enter Tryz.func52,Tryz.ntmps52
 go_wp2;go_ret;exact⟨_,_,rfl,q.o⟩
theorem wK:d9 Tryz.prog 26 9 (.string ByteArray.empty) 1 16:=⟨Tryz.underlying26,by kernel_rfl,by decide,by decide⟩
def mE(xs:List Bs):List Value:=xs.map fun x=>.string (bs x)
theorem Pb(l:List Bs):∀ u ∈ mE l,u.oneCell'=true:=by
 intro u hu;obtain⟨s,_,rfl⟩:=List.mem_map.1 hu;rfl
variable{l:List Bs}{A:fj}{c:Nat}{a:Act}{K:Act->World->Prop}{Q:Exit->Act->World->Prop}
theorem Pd{k:Nat}(h:k<l.length):(mE l)[k]?=some (.string (bs l[k])):=by simp[mE,h]
def bO(A:fj)(c:Nat)(l:List Bs):CH.bq:=aZ 9 1 (.slice A l.length c) l.length (mE l)
theorem fq:(bO A c l).Ok:=cB
instance {A:fj} {c:Nat} {l:List Bs}:(bO A c l).Ok:=fq
theorem EU{x:Bs}:aZ 9 1 (.slice A (l.length+1) c) (l.length+1) (mE l++[.string (bs x)])=bO A c (l++[x]):=by
 unfold bO;have e:mE (l++[x])=mE l++[.string (bs x)]:=by simp[mE]
 rw[e,Yz,Y1]
theorem yS(w:World):bO none 0 [] w fh:=fZ w 9 1
def aU(k:Int)(l:Bs):List Bs × Int:=if word k l then((aM k l).1,0) else([],1)
def jT(w:World)(k:Int)(l:Bs)(e:Ending)(w':World):Prop:=
 ∃ A c,e=.returned (.tuple (j1 A (aU k l).1.length c (aU k l).2))/\bS w fh (bO A c (aU k l).1) w'
theorem Pe{Y:CH.bq}{o:Oper}(s x:Operand)(V:o.op=.call { callee:=.builtin .append,args:=#[s,x],argTypes:=#[26,26] }){i:ByteArray}(hl:l.length=n)(hsv:a.eval s=.slice A n c)(hx:a.eval x=.slice (some ⟨W.heap.size,0,none⟩) 1 1)(hn:n<=1000000)(hY:Y.Ok)(h:aI F0 w0 (aj (bO A c l) Y) W)(hK:∀ J c' w',aI F0 w0 (aj (bO J c' (l++[bl i])) Y) w'->K (a.put o.dst (.slice J (n+1) c')) w'):o.wp Tryz.prog a (W.alloc (.cells (iu i) 9)) K Q:=by
 subst hl;obtain⟨F7,q,-,F⟩:=(h.below aQ ((YC _ _).alloc (YG _) (.cells (iu i) 9))).take fq hY;refine yR s x V wK _ 0 (v:=.slice A l.length c) (n:=l.length) (xs:=mE l) hsv q.1 (A:=some ⟨W.heap.size,0,none⟩) (m:=1) (c:=1) (news:=[.string i]) hx (zS W _ 9 rfl) (by unfold maxLen;omega) ff (YE _) ?_;intro v8 w8 p I z;have M:=F _ _ (iy q p I z);obtain⟨A8,c8,rfl⟩:=fV p;rw[show Value.string i=.string (bs (bl i)) by rw[qh],EU] at M;exact hK A8 c8 w8 M
def XA(k:Int)(l:Bs)(c6 c7 i:Nat):CH.bq:=pG fun p:fj × Nat=>aj (av c6 #[.slice p.1 i p.2] 26) (aj (bO p.1 p.2 ((aM k l).1.take i)) (av c7 (iu (bs (ig k i l))) 9))
abbrev Yt(k:Int)(l:Bs)(c6 c7 i:Nat)(A:fj)(c:Nat):CH.bq:=aj (av c6 #[.slice A i c] 26) (aj (bO A c ((aM k l).1.take i)) (av c7 (iu (bs (ig k i l))) 9))
variable{l:Bs}{c6 c7 g:Nat}{S T U X:CH.bq}{W':World}{v:Value}{t:TypeId}
theorem Pf(i:Nat):(XA k l c6 c7 i).Ok:=eO fun _=>ay aC (ay fq aC)
def XB(k:Int)(l:Bs)(c6 c7:Nat):Code->CH.bq
 | .exit 0=>pG fun i:Nat=>yU (12<i/\i<=(aM k l).1.length) (XA k l c6 c7 i)
 | _=>Xt
theorem Wi(c:Code):(XB k l c6 c7 c).Ok:=by
 unfold XB;split
 ·exact eO fun i=>iW (Pf i)
 ·exact Lh
theorem Yi(hS:S.Ok)(hT:T.Ok)(h:aI F0 w0 (aj S (aj (av g #[v] t) T)) W)(v':Value):
  aI F0 w0 (aj S (aj (av g #[v'] t) T)) (W.setCell ⟨g,0,none⟩ v'):=by
 obtain⟨F,hF,-,bk⟩:=h.oM.take aC aQ;exact(bk _ _ (qX hF 0 v')).oM
theorem Yj(J:S.Ok)(I:U.Ok)(M:T.Ok)(h:aI F0 w0 (aj S (aj U (aj (av g #[v] t) T))) W)(p:Value):
  aI F0 w0 (aj S (aj U (aj (av g #[p] t) T))) (W.setCell ⟨g,0,none⟩ p):=by
 obtain⟨F,z,-,q⟩:=h.WM.take aC aQ;exact(q _ _ (qX z 0 p)).perm (by ac_rfl)
theorem Wj(h:aI F0 w0 (aj S (aj (av g #[v] t) T)) W):W.cell? ⟨g,0,none⟩=some v/\W.frozen? ⟨g,0,none⟩=false:=by
 obtain⟨F,hF⟩:=h.oM.fst;exact⟨aB hF rfl,aP hF 0⟩
theorem Wl(h:aI F0 w0 (aj S (aj U (aj (av g #[v] t) T))) W):W.cell? ⟨g,0,none⟩=some v/\W.frozen? ⟨g,0,none⟩=false:=by
 obtain⟨F,hF⟩:=h.WM.fst;exact⟨aB hF rfl,aP hF 0⟩
theorem IZ(k:Int)(l:Bs):(aM k l).1.length<=l.length:=by
 refine mF (k:=k) (P:=fun l=>(aM k l).1.length<=l.length) (fun l h=>?_) (fun l h ih=>?_) l
 ·show(aM k l).1.length<=l.length
  rw[dP h];exact YE _
 ·show(aM k l).1.length<=l.length
  have ih:(aM k (l.drop (fN k l))).1.length<=(l.drop (fN k l)).length:=ih;rw[fB h];rw[Y8] at ih;have:=lT (k:=k) (l:=l);simp only[YR];omega
theorem M7(hi:i<(aM k l).1.length):(aM k l).1.take i++[bl (bs (aM k l).1[i])]=(aM k l).1.take (i+1) /\
  (bs (ig k i l)).extract (bs (aM k l).1[i]).size (bs (ig k i l)).size=bs (ig k (i+1) l)/\(bs (aM k l).1[i]).size<=(bs (ig k i l)).size:=by
 have h:=O8 hi;have e:(bs (aM k l).1[i]).size=fN k (ig k i l):=by
  rw[h.2,bB,YU];have:=lT (k:=k) (l:=ig k i l);omega
 refine⟨by rw[fO,YD hi],?_,?_⟩
 ·rw[e,<-rR];rfl
 ·rw[e,bB];exact lT
theorem kU(h:aU k l=([],1))(hm:CH.Mod fh w W'):jT w k l (.returned (.tuple (j1 none 0 0 1))) W':=
 ⟨none,0,by rw[h];rfl,fun _=>False,by rw[h];exact yS _,hm,fun i hi=>.inl hi⟩
theorem EW(h:aU k l=((aM k l).1,0))(hr:aI fh w (aj (bO A c (aM k l).1) X) W'):
  jT w k l (.returned (.tuple (j1 A (aM k l).1.length c 0))) W':=⟨A,c,by rw[h],by rw[h];exact(hr.swap.drop).post fq⟩
theorem uQ(h:¬ ((aM k l).2=[]/\1<=(aM k l).1.length/\(aM k l).1.length<=12)):aU k l=([],1):=by
 unfold aU;rw[if_neg (fun hw=>h (eH.1 hw))]
theorem K8(h:(aM k l).2=[]/\1<=(aM k l).1.length/\(aM k l).1.length<=12):aU k l=((aM k l).1,0):=by
 unfold aU;rw[if_pos (eH.2 h)]
theorem dY:(bs l).toList=[]↔l=[]:=by
 rw[mN];exact jq
theorem Pg(k:Int)(s:ByteArray)(w:World):aI fh w (XA k (bl s) w.heap.size (w.heap.size+1) 0) ((w.alloc (.cells #[.slice none 0 0] 26)).alloc (.cells (iu s) 9)):=by
 have q:=(aI.begin w).fresh aO (⟨fun _=>False,yS w,Mod.refl _ _,fun i hi=>.inl hi⟩:bS w fh (bO none 0 []) w);have F:=q.fresh aQ (fG w #[.slice none 0 0] 26);have p:=F.fresh aQ (fG _ (iu s) 9);rw[YN] at p;have z:aI fh w (aj (aj (av w.heap.size #[.slice none 0 0] 26) (aj (bO none 0 []) (av (w.heap.size+1) (iu s) 9))) aS) _:=p.perm (by ac_rfl);refine z.swap.drop.imp fun _ _ h=>⟨(none,0),?_⟩;rw[show bs (ig k 0 (bl s))=s from qh s];exact h
theorem kV(k:Int)(s:ByteArray)(w:World)(hs:s.size<=1000000)(hz:LZ w):
  Calls Tryz.prog 24 #[.int .i64 k,.string s] w (jT w k (bl s)):=by
 have HZ:=au hz;have HL:=au (fun W=>ET k s W);clear hz;refine(callsIn_wide (n:=8)).1 ?_;refine callsIn_of_wp_marks Tryz.func24 rfl trivial ?_ rfl;simp only[Tryz.ntmps24,kz,YR,Zz,Nat.reduceAdd,Nat.reduceSub,ZN,ZO,kB,ZX,Z8,Zq];refine(wpIn_wide (n:=8)).2 ?_;have S0:=au (Pg k s w);go_wp2_with fail;generalize ((w.alloc (.cells #[.slice none 0 0] 26)).alloc (.cells (iu s) 9))=W2 at *
 refine(HL.o W2).mono ?_;rintro e9 w9 ⟨b1,b2,rfl,hp⟩;have S1:=au (S0.o.fresh (Pf 0) hp);clear S0 hp HL;have hE:∀ W,Mod fh w W->LZ W:=fun W h=>HZ.o.below (h.below (fun _ _ h=>h));dsimp only;go_wp2_with fail;have hl:(bl s).length<=1000000:=by rw[jG];exact hs
 have HL:=au hl;generalize w.heap.size+1=q at *
 generalize w.heap.size=I at *
 clear hl;refine Om (gf:=91) (lb:=(ln (some ⟨b1,0,none⟩) (some ⟨b2,0,none⟩))) rfl (enters_of Tryz.func91 fi rfl) (DK k (bl s) b1 b2 HL.o) K7 (fun _=>rfl) hE
  (XA k (bl s) I q) (XB k (bl s) I q) Pf Wi S1.o
  (fun x=>{ tmps:=#[.int .i64 k,.string s,undef,undef,.slice none 0 0,.int .i64 0,.pointer (some ⟨I,0,none⟩),.pointer (some ⟨q,0,none⟩),.string (bs x),.string s,.int .i64 k,.string s,Xz b1 b2,.string (bs x),undef,undef,undef,undef,undef,undef,undef,undef,undef,undef,undef,undef,undef,undef,undef,undef,undef,undef,undef,undef,undef,undef,undef,undef],defers:=[] }) ?assign ?body ?done ?stop
 case assign=>
  intro l m x W K z;unfold Wh;gi_wp2;exact z
 case body=>
  intro lo m i hi R W hR M;obtain⟨⟨A,c⟩,F⟩:=M.ex;dsimp only at F;obtain⟨F6,h6⟩:=F.assoc.fst;obtain⟨F7,h7⟩:=F.assoc.oM.assoc.oM.fst;have ab:=aB (i:=0) h6 rfl;have az:=aP h6 0;have aa:=aB (i:=0) h7 rfl;have aq:=aP h7 0;have H1:=au F;clear F h6 h7 M S1;obtain⟨q1,q2,q3⟩:=M7 hi;have Q1:=au q1;have an:=au (show i+1<=(aM k (bl s)).1.length from hi);have aD:i<1000000:=by
   have:=HL.o;have h2:=IZ k (bl s);omega
  have al:(aj (av I #[.slice A i c] 26) (aj (av q (iu (bs (ig k i (bl s)))) 9) R)).Ok:=ay aC aQ;have HA:=au ((H1.o.perm (by ac_rfl):aI fh w (aj (bO A c ((aM k (bl s)).1.take i)) (aj (av I #[.slice A i c] 26) (aj (av q (iu (bs (ig k i (bl s)))) 9) R))) W).drew aQ);have ag:=au al;have ap:=au hR;have af:((aM k (bl s)).1.take i).length=i:=by rw[YU];omega
  have ak:=au af;clear al H1 af q1 hR;generalize (aM k (bl s)).1[i]=x at *
  generalize hr:bs (ig k i (bl s))=r at *
  clear hr hi;refine wpIn_block (wpIn_seq ?_);refine nR [2,3,8,9] [1,0,1,2,3,3,3,3,3,4]
   (fun w'=>w'.cell? ⟨I,0,none⟩=some (.slice A i c)/\w'.cell? ⟨q,0,none⟩=some (.string r))
   [fun w'=>w'.cell? ⟨I,0,none⟩=some (.slice A i c)/\w'.cell? ⟨q,0,none⟩=some (.string r),fun w'=>w'.cell? ⟨q,0,none⟩=some (.string r),fun w'=>w'.cell? ⟨q,0,none⟩=some (.string r)]
   ⟨fun _ h=>h,fun _ h=>h.2,fun _ h=>h,trivial⟩ rfl (fun⟨a,w,h⟩=>h) rfl fi fi fi ⟨ab,aa⟩ ?_
  (repeat(first|refine kE ?_|refine kF ?_))
  refine eD rfl ft (fun K z=>?_);go_wp2;refine z.o _ _ ?_ ?_
  ·obtain⟨d1,-⟩:=Wj (HA.o.below (ay fq ag.o) ((YC _ _).alloc (YG _) (.cells (iu (bs x)) 9)));obtain⟨d2,-⟩:=Wl (HA.o.below (ay fq ag.o) ((YC _ _).alloc (YG _) (.cells (iu (bs x)) 9)));exact⟨d1,d2⟩
  clear z ab az aa aq
  (repeat(first|refine kE ?_|refine kF ?_))
  refine eD rfl ft (fun K z=>?_);refine Pe (.tmp 14) (.tmp 16) rfl ak.o rfl rfl ff ag.o HA.o ?_;intro A' c' w2 ac;rw[Q1.o] at ac;have H2:=au ac;obtain⟨e6,f6⟩:=Wj ac;obtain⟨e7,f7⟩:=Wl ac;refine z.o _ _ e7 ?_;clear z HA ac Q1
  (repeat(first|refine kE ?_|refine kF ?_))
  refine eD rfl ft (fun K z=>?_);go_wp2;have ax:=ap.o;have h3:=Yi fq aQ H2.o (.slice A' (i+1) c');have H3:=au h3;obtain⟨ai,ao⟩:=Wl h3;refine z.o _ _ ai ?_;clear z h3 e6 f6 e7 f7 H2;refine eD rfl ft (fun K z=>?_);go_wp2;have h4:=Yj fq aC ax H3.o (.string (r.extract (bs x).size r.size));rw[q2] at h4;obtain⟨e6,-⟩:=Wj h4;have H4:=au (aI.uf (O:=fun p:fj × Nat=>aj (av I #[.slice p.1 (i+1) p.2] 26) (aj (bO p.1 p.2 ((aM k (bl s)).1.take (i+1))) (av q (iu (bs (ig k (i+1) (bl s)))) 9))) (A',c') (h4.perm (by ac_rfl)));refine z.o _ _ trivial (rZ ?_);clear z H3 ai ao h4
  show Code.wpIn _ _ _ _ _ _ _
  generalize (w2.setCell ⟨I,0,none⟩ (.slice A' (i+1) c')).setCell ⟨q,0,none⟩ (.string (bs (ig k (i+1) (bl s))))=w3 at *
  by_cases am:(12:Int)<(i:Int)+1
  ·have HX:=au (show aI fh w (aj (XB k (bl s) I q (.exit 0)) R) w3 from aI.uf (i+1) (aI.kD ⟨by omega,an.o⟩ H4.o));clear H4;gi_wp2;exact HX.o
  ·gi_wp2;exact H4.o
 case done=>
  intro D R W hR M;obtain⟨⟨A,c⟩,F⟩:=M.ex;dsimp only at F ⊢;obtain⟨F6,h6⟩:=F.assoc.fst;obtain⟨F7,h7⟩:=F.assoc.oM.assoc.oM.fst;have ab:W.cell? ⟨I,0,none⟩=some (.slice A (aM k (bl s)).1.length c):=aB (i:=0) h6 rfl;have aa:W.cell? ⟨q,0,none⟩=some (.string (bs (ig k (aM k (bl s)).1.length (bl s)))):=aB (i:=0) h7 rfl;have ad:(aj (Yt k (bl s) I q (aM k (bl s)).1.length A c) R).Ok:=ay aQ hR;obtain⟨FD,hD,-,bk⟩:=F.oM.take bX ad;have z:=hD.1;have HF:=au ((bk _ _ (ji hD (.deferred none))).perm (by ac_rfl:_=aj (bO A c ((aM k (bl s)).1.take (aM k (bl s)).1.length)) (aj (av I #[.slice A (aM k (bl s)).1.length c] 26) (aj (av q (iu (bs (ig k (aM k (bl s)).1.length (bl s)))) 9) (aj (bQ D (.deferred none)) R)))));have HK:=au z;clear F h6 h7 M S1 z hD bk ad;rw[(K6 k (bl s)).2] at aa;obtain⟨n,hn⟩:∃ n,n=(aM k (bl s)).1.length:=⟨_,rfl⟩;have V:=au (fun h:aU k (bl s)=((aM k (bl s)).1,0)=>show jT w k (bl s) (.returned (.tuple (j1 A (aM k (bl s)).1.length c 0))) (W.putObj D (.deferred none)) from EW h (by have:=HF.o;rw[YO] at this;exact this));have J:=au (fun h:¬ ((aM k (bl s)).2=[]/\1<=n/\n<=12)=>show aU k (bl s)=([],1) from uQ (by rw[<-hn];exact h));have ae:=au (fun h:(aM k (bl s)).2=[]/\1<=n/\n<=12=>show aU k (bl s)=((aM k (bl s)).1,0) from K8 (by rw[<-hn];exact h));rw[<-hn] at ab V;clear hn;by_cases he:(aM k (bl s)).2=[]
  ·have aw:(bs (aM k (bl s)).2).toList=[]:=dY.2 he;by_cases h0:n=0
   ·have t0:((n:Int)==0)=true:=by simp[h0]
    have HN:=au (J.o ff);clear V J ae he;go_wp2_with fail;refine⟨by simp,.inl ⟨_,_,rfl,run_takeDeferred HK.o,?_⟩⟩;refine⟨_,results_tmp2 rfl _ _ _,?_⟩;exact kU HN.o HF.o.mod
   ·have t0:((n:Int)==0)=false:=by simp[h0]
    by_cases am:(12:Int)<(n:Int)
    ·have HN:=au (J.o ff);clear V J ae he;go_wp2_with fail;refine⟨by simp,.inl ⟨_,_,rfl,run_takeDeferred HK.o,?_⟩⟩;refine⟨_,results_tmp2 rfl _ _ _,?_⟩;exact kU HN.o HF.o.mod
    ·have HX:=au (V.o (ae.o ⟨he,by omega,by omega⟩));clear V J ae he;go_wp2_with fail;refine⟨by simp,.inl ⟨_,_,rfl,run_takeDeferred HK.o,?_⟩⟩;refine⟨_,results_tmp2 rfl _ _ _,?_⟩;exact HX.o
  ·have aw:¬ (bs (aM k (bl s)).2).toList=[]:=fun h=>he (dY.1 h);have HN:=au (J.o (fun h=>he h.1));clear V J ae he;go_wp2_with fail;refine⟨by simp,.inl ⟨_,_,rfl,run_takeDeferred HK.o,?_⟩⟩;refine⟨_,results_tmp2 rfl _ _ _,?_⟩;exact kU HN.o HF.o.mod
 case stop=>
  intro D c R W hR M;have ar:∃ i,(12<i/\i<=(aM k (bl s)).1.length)/\c=.exit 0/\aI fh w (aj (XA k (bl s) I q i) (aj (bQ D (.deferred (some []))) R)) W:=by
   unfold XB at M;split at M
   ·obtain⟨i,hi⟩:=M.ex;exact⟨i,hi.pure.1,rfl,hi.pure.2⟩
   ·exact M.no.elim
  clear M;obtain⟨i,⟨am,aA⟩,rfl,M⟩:=ar;obtain⟨⟨A,c⟩,F⟩:=M.ex;dsimp only at F ⊢;obtain⟨F6,h6⟩:=F.assoc.fst;obtain⟨F7,h7⟩:=F.assoc.oM.assoc.oM.fst;have ab:W.cell? ⟨I,0,none⟩=some (.slice A i c):=aB (i:=0) h6 rfl;have aa:W.cell? ⟨q,0,none⟩=some (.string (bs (ig k i (bl s)))):=aB (i:=0) h7 rfl;have ad:(aj (Yt k (bl s) I q i A c) R).Ok:=ay aQ hR;obtain⟨FD,hD,-,bk⟩:=F.oM.take bX ad;have z:=hD.1;have HF:=au ((bk _ _ (ji hD (.deferred none))).perm (by ac_rfl:_=aj (bO A c ((aM k (bl s)).1.take i)) (aj (av I #[.slice A i c] 26) (aj (av q (iu (bs (ig k i (bl s)))) 9) (aj (bQ D (.deferred none)) R)))));have HK:=au z;clear F h6 h7 M S1 z hD bk ad;have HN:=au (show aU k (bl s)=([],1) from uQ ff);have t0:((i:Int)==0)=false:=by simp;omega
  have aE:(12:Int)<(i:Int):=by omega
  generalize ig k i (bl s)=rr at *
  by_cases he:(bs rr).toList=[]
  ·go_wp2_with fail;refine⟨by simp,.inl ⟨_,_,rfl,run_takeDeferred HK.o,?_⟩⟩;refine⟨_,results_tmp2 rfl _ _ _,?_⟩;exact kU HN.o HF.o.mod
  ·go_wp2_with fail;refine⟨by simp,.inl ⟨_,_,rfl,run_takeDeferred HK.o,?_⟩⟩;refine⟨_,results_tmp2 rfl _ _ _,?_⟩;exact kU HN.o HF.o.mod
def fM(w:World)(A:fj)(l:List Bs):Prop:=Src w A l.length 1 (mE l)
variable{xs:List Value}{l:List Bs}{F:Nat->Prop}
theorem aT{size:Nat}(h:Src w A n size xs)(hb:Below w.heap.size w w'):Src w' A n size xs:=
 ((aI.begin w).below aO hb).XM h
theorem fM.below(h:fM w A l)(hb:Below w.heap.size w w'):fM w' A l:=aT h hb
theorem fM.at(h:fM w A l)(hn:0<l.length):
  ∃ b o,A=some ⟨b,o,none⟩/\∀ w',Below w.heap.size w w'->∀ j (q:j<l.length),w'.cell? ⟨b,o+j,none⟩=some (.string (bs l[j])):=by
 obtain⟨b,o,rfl,z⟩:=Src.open_ h hn ff;refine⟨b,o,rfl,fun w' F j q=>?_⟩;have p:=z j _ (Pd q);rw[F.cell (YW _ _ p)];exact p
theorem jm(h:bO A c l w F):fM w A l:=iG h (Pb l)
def xQ(w:World)(k:Int)(l:Bs)(e:Ending)(w':World):Prop:=
 ∃ A c,e=.returned (.tuple (j1 A (aU k l).1.length c (aU k l).2))/\Below w.heap.size w w'/\fM w' A (aU k l).1
theorem Cg(k:Int)(s:ByteArray)(w:World)(hs:s.size<=1000000)(hz:LZ w):
  Calls Tryz.prog 24 #[.int .i64 k,.string s] w (xQ w k (bl s)):=by
 refine(kV k s w hs hz).mono ?_;rintro e w' ⟨A,c,rfl,F,h1,h2,h3⟩;exact⟨A,c,rfl,h2.below (fun _ _ h=>h),jm h1⟩
def fE(k:Int)(l:Bs):Bs × Int:=if word k l then(lower l,0) else([],1)
theorem Ch:(∀ c ∈ bL,c.toNat<128)/\(∀ c ∈ zJ,c.toNat<128)/\(∀ c ∈ kJ,c.toNat<128)/\(∀ c ∈ uS,c.toNat<128)/\(∀ c ∈ oC,c.toNat<128)/\(∀ c ∈ ([110]:Bs),c.toNat<128):=by decide
theorem M8{a:UInt8}{b:Option UInt8}(h:nk k a b≠0):a.toNat<128:=by
 obtain⟨z,q,F,J,V,I⟩:=Ch;unfold nk at h;split at h
 ·split at h
  ·rename_i p;exact z _ (iF.1 p)
  ·exact absurd rfl h
 split at h
 ·split at h
  ·rename_i p;refine my fun M=>?_;rw[EO a ff] at p;cases p
  ·exact absurd rfl h
 split at h
 ·split at h
  ·rename_i p;exact q _ (iF.1 p)
  ·exact absurd rfl h
 split at h
 ·split at h
  ·rename_i p;rw[YF] at p;exact J _ (iF.1 p.1)
  ·split at h
   ·rename_i p;rw[ZQ] at p;rcases p with p|p
    ·exact F _ (iF.1 p)
    ·exact I _ (iF.1 p)
   ·exact absurd rfl h
 ·exact absurd rfl h
theorem M9{c:UInt8}(h:has (rq k) (some c)=true):c.toNat<128:=by
 obtain⟨s1,s2,s3,s4,s5,s6⟩:=Ch;have hm:=iF.1 h;unfold rq at hm;split at hm
 ·exact s5 _ hm
 split at hm
 ·exact s3 _ hm
 ·cases hm
theorem DL{l:Bs}(h:fN k l≠0):∀ b ∈ l.take (fN k l),b.toNat<128:=by
 cases l with
 | nil=>intro b p;simp at p
 | cons a t=>
  have F:nk k a t.head?≠0:=h;have q:=M8 F
  show ∀ b ∈ (a::t).take (nk k a t.head?),b.toNat<128
  have M:=zK (k:=k) (a:=a) (b:=t.head?);by_cases z:nk k a t.head?=2
  ·have J:=DN z;rw[z];cases t with
   | nil=>intro b p;simp at p;rw[p];exact q
   | cons c t=>
    have I:=M9 J;intro b p;simp at p;rcases p with rfl|rfl
    ·exact q
    ·exact I
  ·rw[show nk k a t.head?=1 by omega];intro b p;simp at p;rw[p];exact q
theorem EZ{l:Bs}(h:word k l=true):∀ b ∈ l,b.toNat<128:=by
 have key:∀ l:Bs,(aM k l).2=[]->∀ b ∈ l,b.toNat<128:=fun l=>by
  refine mF (k:=k) (P:=fun l=>(aM k l).2=[]->∀ b ∈ l,b.toNat<128) (fun l h q b p=>?_) (fun l h ih q b p=>?_) l
  ·rw[dP h] at q;have q:l=[]:=q;rw[q] at p;cases p
  ·rw[fB h] at q;have:=ih q;rw[<-ZK (fN k l) l] at p;rcases List.mem_append.1 p with p|p
   ·exact DL h b p
   ·exact this b p
 exact key l (eH.1 h).1
theorem uR(k:Int)(s:ByteArray)(w:World)(hs:s.size<=1000000)(J:LZ w):
  Calls Tryz.prog 23 #[.int .i64 k,.string s] w (aL w (.tuple #[.string (bs (fE k (bl s)).1),.int .i64 (fE k (bl s)).2])):=by
 have HZ:=au J;have p:=au (Cg k s w hs J);have F:=au (fun W (h:Below w.heap.size w W)=>Tryz.strings_ToLower_any s W ff (HZ.o.below h).c (HZ.o.below h).t);by_cases q:word k (bl s)=true
 ·have z:aU k (bl s)=((aM k (bl s)).1,0):=by unfold aU;rw[if_pos q]
  have e2:fE k (bl s)=(lower (bl s),0):=by unfold fE;rw[if_pos q]
  have e3:(⟨(Lib.toLowerD (bl s)).toArray⟩:ByteArray)=bs (lower (bl s)):=by
   rw[Lib.toLowerD_ascii _ (EZ q),qK];rfl
  unfold xQ at p;simp only[z] at p;simp only[e3] at F;rw[e2];clear z e2 e3 q J
  go_enter Tryz.func23,Tryz.ntmps23
  go_wp2_with fail;refine p.o.mono ?_;rintro e9 V ⟨A,c,rfl,hb,-⟩;have I:=au hb;have KF:=au (F.o V hb);clear hb p F;dsimp only;go_wp2_with fail;refine KF.o.mono ?_;rintro e9 w2 ⟨rfl,hb⟩;have M:=au (aG I.o hb);clear KF I hb;go_wp2;refine bodyPost_ret (results_tmp2 rfl _ _ _) rfl ?_;exact⟨rfl,M.o⟩
 ·have z:aU k (bl s)=([],1):=by unfold aU;rw[if_neg q]
  have e2:fE k (bl s)=([],1):=by unfold fE;rw[if_neg q]
  unfold xQ at p;simp only[z] at p;rw[e2];clear z e2 q J F
  go_enter Tryz.func23,Tryz.ntmps23
  go_wp2_with fail;refine p.o.mono ?_;rintro e9 V ⟨A,c,rfl,hb,-⟩;have I:=au hb;clear hb p;dsimp only;go_wp2;refine bodyPost_ret (results_tmp2 rfl _ _ _) rfl ?_;exact⟨rfl,I.o⟩
open Go.CH.eG
def eX(R:ib):List Value:=[.int .i64 R.k,.string (bs R.f),.string (bs R.t),.int .i64 R.c]
def tY(d:Drop):List Value:=[.int .i64 d.k,.string (bs d.w),.int .i64 d.c]
def PG(p:Pt):List Value:=[.int .i64 p.i,.int .i64 p.j,.string (bs p.a),.bool p.r,.int .i64 p.h]
def tH{α:Type}(R:α->List Value)(size:Nat)(w:World)(A:fj)(l:List α):Prop:=Src w A l.length size (l.flatMap R)
theorem rW{α:Type}{R:α->List Value}{size:Nat}(p:∀ x,(R x).length=size):∀ {l:List α} {j:Nat} (h:j<l.length) {i:Nat},i<size->(l.flatMap R)[j*size+i]?=(R l[j])[i]?
 | [],j,h,_,_=>absurd h (Zn _)
 | x::l,0,h,i,hi=>by
  rw[Zm,mA (by rw[p];omega),li,Zx];rfl
 | x::l,j+1,h,i,hi=>by
  rw[Zm,pk (by rw[p,jz];omega),p];rw[show(j+1)*size+i-size=j*size+i by rw[jz];omega];exact rW p (by simpa using h) hi
section
variable{α:Type}{R:α→List Value}{size:Nat}{w w':World}{A:fj}{l:List α}
theorem tH.below(h:tH R size w A l)(hb:Below w.heap.size w w'):tH R size w' A l:=aT h hb
theorem tH.at(q:∀ x,(R x).length=size)(J:0<size)(h:tH R size w A l)(hn:0<l.length):
  ∃ b o,A=some ⟨b,o,none⟩/\∀ w',Below w.heap.size w w'->∀ j (z:j<l.length) i u,(R l[j])[i]?=some u->w'.cell? ⟨b,o+j*size+i,none⟩=some u:=by
 obtain⟨b,o,rfl,I⟩:=Src.open_ h hn J;refine⟨b,o,rfl,fun w' M j z i u F=>?_⟩;have hi:i<size:=by rw[<-q l[j]];exact(List.getElem?_eq_some_iff.1 F).1
 have p:=I (j*size+i) u (by rw[rW q z hi];exact F);rw[<-kq] at p;rw[M.cell (YW _ _ p)];exact p
end
section
variable{w:World}{A:fj}
abbrev lD(w:World)(A:fj)(l:List ib):Prop:=tH eX 4 w A l
abbrev jV(w:World)(A:fj)(l:List Drop):Prop:=tH tY 3 w A l
abbrev XE(w:World)(A:fj)(l:List Pt):Prop:=tH PG 5 w A l
theorem lD.at{l:List ib}(h:lD w A l)(hn:0<l.length):∃ b o,A=some ⟨b,o,none⟩/\∀ w',Below w.heap.size w w'->∀ j (p:j<l.length),
  w'.cell? ⟨b,o+j*4,none⟩=some (.int .i64 l[j].k)/\w'.cell? ⟨b,o+j*4+1,none⟩=some (.string (bs l[j].f))/\w'.cell? ⟨b,o+j*4+2,none⟩=some (.string (bs l[j].t))/\w'.cell? ⟨b,o+j*4+3,none⟩=some (.int .i64 l[j].c):=by
 obtain⟨b,o,e,q⟩:=tH.at (R:=eX) (fun _=>rfl) ff h hn;exact⟨b,o,e,fun w' z j p=>⟨q w' z j p 0 _ rfl,q w' z j p 1 _ rfl,q w' z j p 2 _ rfl,q w' z j p 3 _ rfl⟩⟩
theorem jV.at{l:List Drop}(h:jV w A l)(hn:0<l.length):∃ b o,A=some ⟨b,o,none⟩/\∀ w',Below w.heap.size w w'->∀ j (p:j<l.length),
  w'.cell? ⟨b,o+j*3,none⟩=some (.int .i64 l[j].k)/\w'.cell? ⟨b,o+j*3+1,none⟩=some (.string (bs l[j].w))/\w'.cell? ⟨b,o+j*3+2,none⟩=some (.int .i64 l[j].c):=by
 obtain⟨b,o,e,q⟩:=tH.at (R:=tY) (fun _=>rfl) ff h hn;exact⟨b,o,e,fun w' z j p=>⟨q w' z j p 0 _ rfl,q w' z j p 1 _ rfl,q w' z j p 2 _ rfl⟩⟩
theorem XE.at{l:List Pt}(h:XE w A l)(hn:0<l.length):∃ b o,A=some ⟨b,o,none⟩/\∀ w',Below w.heap.size w w'->∀ j (p:j<l.length),
  w'.cell? ⟨b,o+j*5,none⟩=some (.int .i64 l[j].i)/\w'.cell? ⟨b,o+j*5+1,none⟩=some (.int .i64 l[j].j)/\w'.cell? ⟨b,o+j*5+2,none⟩=some (.string (bs l[j].a))/\w'.cell? ⟨b,o+j*5+3,none⟩=some (.bool l[j].r)/\w'.cell? ⟨b,o+j*5+4,none⟩=some (.int .i64 l[j].h):=by
 obtain⟨b,o,e,q⟩:=tH.at (R:=PG) (fun _=>rfl) ff h hn;exact⟨b,o,e,fun w' z j p=>⟨q w' z j p 0 _ rfl,q w' z j p 1 _ rfl,q w' z j p 2 _ rfl,q w' z j p 3 _ rfl,q w' z j p 4 _ rfl⟩⟩
end
structure TA where
 A:fj
 c:Nat
 D:fj
 d:Nat
 E:fj
 e:Nat
def dh(T:fy)(a:TA):Array Value:=(fw a.A T.rs.length a.c a.D T.ds.length a.d a.E T.es.length a.e T.drop T.ord T.ini)
def eu(T:fy)(a:TA):Value:=.agg (dh T a)
structure iR(w:World)(T:fy)(a:TA):Prop where
 rs:lD w a.A T.rs
 ds:jV w a.D T.ds
 es:jV w a.E T.es
 lr:T.rs.length<=1000000
 ld:T.ds.length<=1000000
 le:T.es.length<=1000000
 sr:∀ R ∈ T.rs,R.f.length<=1000000/\R.t.length<=1000000
 sd:∀ d ∈ T.ds,d.w.length<=1000000
 se:∀ d ∈ T.es,d.w.length<=1000000
variable{T:fy}
theorem iR.below{a:TA}(h:iR w T a)(hb:Below w.heap.size w w'):iR w' T a:={ h with rs:=h.rs.below hb,ds:=h.ds.below hb,es:=h.es.below hb }
def iq(k:Int)(l:Bs):List Bs × Bool:=if word k l then((aM k (lower l)).1,true) else([],false)
def PI(w:World)(k:Int)(l:Bs)(e:Ending)(w':World):Prop:=
 ∃ A c,e=.returned (.tuple (j1 A (aU k l).1.length c (aU k l).2))/\Below w.heap.size w w'/\fM w' A (aU k l).1/\(aU k l).1.length<=c
theorem Co(k:Int)(s:ByteArray)(w:World)(hs:s.size<=1000000)(hz:LZ w):Calls Tryz.prog 24 #[.int .i64 k,.string s] w (PI w k (bl s)):=by
 refine(kV k s w hs hz).mono ?_;rintro e w' ⟨A,c,rfl,F,h1,h2,h3⟩;exact⟨A,c,rfl,h2.below (fun _ _ h=>h),jm h1,(zh h1.1).1⟩
theorem ug(n:Int)(w:World):Calls Tryz.prog 81 #[.int .i64 n] w (aL w (.bool (dJ n))):=by
 by_cases q:0<=n
 ·by_cases p:n<=1000
  ·have e:dJ n=true:=eY.2 ⟨q,p⟩;rw[e]
   go_enter Tryz.func81,Tryz.ntmps81
   go_wp2;go_ret;exact⟨rfl,YC _ _⟩
  ·have e:dJ n=false:=by rw[Y4];exact fun h=>p (eY.1 h).2
   rw[e]
   go_enter Tryz.func81,Tryz.ntmps81
   go_wp2;go_ret;exact⟨rfl,YC _ _⟩
 ·have e:dJ n=false:=by rw[Y4];exact fun h=>q (eY.1 h).1
  rw[e]
  go_enter Tryz.func81,Tryz.ntmps81
  go_wp2;go_ret;exact⟨rfl,YC _ _⟩
theorem zT(k:Int)(s:ByteArray)(gh:Nat)(w:World)(hs:s.size<=1000000)(hz:LZ w):Calls Tryz.prog 82 #[.int .i64 k,.string s,.int .i64 (gh:Int)] w (aL w (.bool (dQ k (bl s) gh))):=by
 have p:=au (uR k s w hs hz);have I:=au (fun W (hz:LZ W)=>Co k s W hs hz);have HZ:=au hz;clear hz;unfold aL at p;by_cases J:word k (bl s)=true
 ·have e1:fE k (bl s)=(lower (bl s),0):=by unfold fE;rw[if_pos J]
  have e2:aU k (bl s)=((aM k (bl s)).1,0):=by unfold aU;rw[if_pos J]
  simp only[e1] at p;unfold PI at I;simp only[e2] at I;by_cases hl:lower (bl s)=bl s
  ·have M:dQ k (bl s) gh=decide ((aM k (bl s)).1.length<=gh):=by unfold dQ;rw[J,decide_eq_true hl];simp
   have aa:bs (lower (bl s))=s:=by rw[hl,qh]
   rw[M];rw[aa] at p;have tq:(s.toList==s.toList)=true:=by simp
   clear e1 e2 M hl aa J;generalize (aM k (bl s)).1=L at *
   by_cases hm:L.length<=gh
   ·have ab:(L.length:Int)<=(gh:Int):=by omega
    rw[decide_eq_true hm]
    go_enter Tryz.func82,Tryz.ntmps82
    go_wp2_with fail;refine p.o.mono ?_;rintro e9 w1 ⟨rfl,hb⟩;have F:=au hb;have q:=au (I.o w1 (HZ.o.below hb));clear p I hb;dsimp only;go_wp2_with fail;refine q.o.mono ?_;rintro e9 w2 ⟨A,c,rfl,hb,hA,hc⟩;have V:=au (aG F.o hb);clear q F hb hA hc;dsimp only;go_wp2;go_ret;exact⟨rfl,V.o⟩
   ·have ab:¬ (L.length:Int)<=(gh:Int):=by omega
    rw[decide_eq_false hm]
    go_enter Tryz.func82,Tryz.ntmps82
    go_wp2_with fail;refine p.o.mono ?_;rintro e9 w1 ⟨rfl,hb⟩;have F:=au hb;have q:=au (I.o w1 (HZ.o.below hb));clear p I hb;dsimp only;go_wp2_with fail;refine q.o.mono ?_;rintro e9 w2 ⟨A,c,rfl,hb,hA,hc⟩;have V:=au (aG F.o hb);clear q F hb hA hc;dsimp only;go_wp2;go_ret;exact⟨rfl,V.o⟩
  ·have M:dQ k (bl s) gh=false:=by unfold dQ;rw[decide_eq_false hl];simp
   have tq:((bs (lower (bl s))).toList==s.toList)=false:=by
    rw[dI];exact decide_eq_false fun h=>hl (by have h2:=congrArg bl h;rw[fO] at h2;exact h2)
   rw[M];clear e1 e2 M hl J;generalize bs (lower (bl s))=z at *
   go_enter Tryz.func82,Tryz.ntmps82
   go_wp2_with fail;refine p.o.mono ?_;rintro e9 w1 ⟨rfl,hb⟩;have F:=au hb;clear p I hb;dsimp only;go_wp2;go_ret;exact⟨rfl,F.o⟩
 ·have e1:fE k (bl s)=([],1):=by unfold fE;rw[if_neg J]
  have M:dQ k (bl s) gh=false:=by unfold dQ;rw[Bool.eq_false_iff.2 J];rfl
  simp only[e1] at p;rw[M];clear e1 M J
  go_enter Tryz.func82,Tryz.ntmps82
  go_wp2_with fail;refine p.o.mono ?_;rintro e9 w1 ⟨rfl,hb⟩;have F:=au hb;clear p I hb;dsimp only;go_wp2;go_ret;exact⟨rfl,F.o⟩
theorem Uc(c:UInt8):bL.contains c=nI c:=by
 have h:∀ n:Fin 256,bL.contains (UInt8.ofNat n.1)=nI (UInt8.ofNat n.1):=by decide +kernel
 have:=h ⟨c.toNat,c.toNat_lt⟩;simpa using this
theorem Ja{α:Type}{p:α->Bool}:∀ l:List α,l.dropWhile p=[]↔l.all p=true
 | []=>by simp
 | a::l=>by
  rw[List.dropWhile_cons,rj];cases h:p a with
  | true=>simp[Ja l]
  | false=>simp
theorem Fv(s:Bs):Lib.trimS s bL=[]↔s.all nI=true:=by
 have e:s.all nI=s.all (bL.contains ·):=by congr 1;funext c;exact(Uc c).symm
 rw[e];unfold Lib.trimS Lib.trimLeftS Lib.trimRightS;constructor
 ·intro h;rw[Ja,List.all_reverse] at h;rw[YX] at h ⊢;intro c F;by_cases hd:c ∈ s.reverse.dropWhile (bL.contains ·)
  ·exact h c hd
  ·have:=List.takeWhile_append_dropWhile (p:=(bL.contains ·)) (l:=s.reverse);have z:c ∈ s.reverse:=List.mem_reverse.2 F;rw[<-this,sX] at z;rcases z with q|q
   ·exact List.all_eq_true.1 (List.all_takeWhile) c q
   ·exact absurd q hd
 ·intro h;have q:s.reverse.dropWhile (bL.contains ·)=[]:=(Ja _).2 (by rw[List.all_reverse];exact h);rw[q];rfl
theorem Jb(s:ByteArray)(w:World)(hs:s.size<=1000000):Calls Tryz.prog 83 #[.string s] w (aL w (.bool (kW (bl s)))):=by
 have q:=au (Any.strings_Trim_laid Tryz.U6 fi s ⟨#[97,98,99,100,101,102,103,104,105,106,107,108,109,110,111,112,113,114,115,116,117,118,119,120,121,122]⟩ w ff fW (_root_.Go.Proofs.ascii_of_all fW));have q:=au (show Calls Tryz.prog 115 #[.string s,.string ⟨#[97,98,99,100,101,102,103,104,105,106,107,108,109,110,111,112,113,114,115,116,117,118,119,120,121,122]⟩] w (fun e w'=>e=.returned (.string (bs (Lib.trimS (bl s) bL)))/\Below w.heap.size w w') from q.o);have p:(bl s).length=s.size:=jG s;by_cases V:s.size<=3
 ·have I:(s.size:Int)<=3:=by omega
  by_cases F:Lib.trimS (bl s) bL=[]
  ·have e:kW (bl s)=true:=l5.2 ⟨by omega,(Fv _).1 F⟩;have t1:(bs (Lib.trimS (bl s) bL)).toList.isEmpty=true:=by rw[Z9];exact dY.2 F
   rw[e];clear e F p;generalize bs (Lib.trimS (bl s) bL)=z at *
   go_enter Tryz.func83,Tryz.ntmps83
   go_wp2_with fail;refine q.o.mono ?_;rintro e9 M ⟨rfl,hb⟩;have J:=au hb;clear q hb;dsimp only;go_wp2;go_ret;exact⟨rfl,J.o⟩
  ·have e:kW (bl s)=false:=by rw[Y4];exact fun h=>F ((Fv _).2 (l5.1 h).2)
   have t1:(bs (Lib.trimS (bl s) bL)).toList.isEmpty=false:=by rw[Zo];exact fun h=>F (dY.1 h)
   rw[e];clear e F p;generalize bs (Lib.trimS (bl s) bL)=z at *
   go_enter Tryz.func83,Tryz.ntmps83
   go_wp2_with fail;refine q.o.mono ?_;rintro e9 M ⟨rfl,hb⟩;have J:=au hb;clear q hb;dsimp only;go_wp2;go_ret;exact⟨rfl,J.o⟩
 ·have I:¬ (s.size:Int)<=3:=by omega
  have e:kW (bl s)=false:=by rw[Y4];exact fun h=>V (by have:=(l5.1 h).1;omega)
  rw[e];clear e q p
  go_enter Tryz.func83,Tryz.ntmps83
  go_wp2;go_ret;exact⟨rfl,YC _ _⟩
def gG(s:St):Array Value:=(gl s.i s.j (bs s.a) s.r)
theorem PN(a b:Bs):(⟨(Lib.trimPrefix a b).toArray⟩:ByteArray)=bs (if b.isPrefixOf a then a.drop b.length else a):=by
 unfold Lib.trimPrefix Lib.hasPrefix bs;split<;>rfl
theorem zR(a p:Bs)(w:World):Calls Tryz.prog 128 #[.string (bs a),.string (bs p)] w (fun e w'=>e=.returned (.tuple #[.string (bs (if p.isPrefixOf a then a.drop p.length else a)),.bool (p.isPrefixOf a)])/\w'=w):=by
 refine(Tryz.strings_CutPrefix (bs a) (bs p) w).mono ?_;rintro e w' ⟨rfl,rfl⟩;exact⟨by rw[<-PN];rfl,rfl⟩
section
variable{W:Wd}{s:St}{R:ib}
end
section
variable{F0:Nat→Prop}{w0 w:World}{O X:CH.bq}{g:Nat}{cs:Array Value}{t:TypeId}
theorem aJ(h:aI F0 w0 (aj (av g cs t) X) w)(hX:X.Ok)(i:Nat)(v:Value):aI F0 w0 (aj (av g (cs.setIfInBounds i v) t) X) (w.setCell ⟨g,i,none⟩ v):=by
 obtain⟨F,hF,-,bk⟩:=h.take aC hX;exact bk _ _ (qX hF i v)
theorem aY{a b c d:Value}(h:aI F0 w0 (aj (av g #[a,b,c,d] t) X) w):w.cell? ⟨g,0,none⟩=some a/\w.cell? ⟨g,1,none⟩=some b/\w.cell? ⟨g,2,none⟩=some c/\w.cell? ⟨g,3,none⟩=some d/\∀ i,w.frozen? ⟨g,i,none⟩=false:=by
 obtain⟨F,hF⟩:=h.fst;exact⟨aB hF rfl,aB hF rfl,aB hF rfl,aB hF rfl,fun i=>aP hF i⟩
theorem aH(h:aI F0 w0 O w)(ho:O.Ok)(cs:Array Value)(t:TypeId):aI F0 w0 (aj (av w.heap.size cs t) O) (w.alloc (.cells cs t)):=h.fresh ho (fG w cs t)
end
theorem Lf{k:Nat}(h:fM w A l)(hk:k<=l.length)(hc:l.length<=c):fM w (wZ A c k 1) (l.drop k):=by
 have h1:=Src.cut h hk hc;unfold fM;have e:mE (l.drop k)=(mE l).drop (k*1):=by unfold mE;rw[o3,List.map_drop]
 rw[Y8,e];exact h1
section
def VD(s:St):Value:=.agg (gG s)
end
theorem tZ(a b:Bs):(bs a==bs b)=decide (a=b):=by
 rw[OE];exact decide_eq_decide.2 ⟨fun h=>nO h,fun h=>by rw[h]⟩
theorem Ub(a b:St):mI [⟨"i",3,0,false, "", "customhouse/potential",0⟩,⟨"j",3,1,false, "", "customhouse/potential",8⟩,⟨"ahead",9,2,false, "", "customhouse/potential",16⟩,⟨"right",4,3,false, "", "customhouse/potential",32⟩] (gG a) (gG b)=decide (a=b):=by
 have e:mI [⟨"i",3,0,false, "", "customhouse/potential",0⟩,⟨"j",3,1,false, "", "customhouse/potential",8⟩,⟨"ahead",9,2,false, "", "customhouse/potential",16⟩,⟨"right",4,3,false, "", "customhouse/potential",32⟩] (gG a) (gG b)=(((a.i:Int)==(b.i:Int))&&(((a.j:Int)==(b.j:Int))&&((bs a.a==bs b.a)&&((a.r==b.r)&&true)))):=rfl;rw[e,tZ];obtain⟨i,j,x,r⟩:=a;obtain⟨z,F,I,J⟩:=b;simp only[Bool.and_true];by_cases p:i=z
 ·by_cases h:j=F
  ·by_cases q:x=I
   ·by_cases M:r=J<;>simp[p,h,q,M]
   ·simp[q]
  ·simp only[St.mk.injEq,h,false_and,and_false,decide_false];have:((j:Int)==(F:Int))=false:=by simp;omega
   rw[this];simp
 ·simp only[St.mk.injEq,p,false_and,decide_false];have:((i:Int)==(z:Int))=false:=by simp;omega
  rw[this];rfl
def lM(b:Nat)(l:List (St × Int)):CH.bq:=iE VD b (l.map fun p=>(p.1,.int .i64 p.2))
variable{b:Nat}{s:St}
theorem jW{L:List (St × Int)}:(lM b L).Ok:=map_ok
instance {b:Nat} {L:List (St × Int)}:(lM b L).Ok:=jW
theorem DX{L:List (St × Int)}{v:Int}(hn:(fU L).Nodup)(h:(s,v) ∈ L):ny (L.map fun p=>(p.1,Value.int .i64 p.2)) s=some (.int .i64 v):=by
 induction L with
 | nil=>cases h
 | cons p L ih=>
  have q:=List.nodup_cons.1 hn;rw[Zb,su];rcases List.mem_cons.1 h with e|h
  ·rw[<-e];simp
  ·rw[if_neg (fun e:s=p.1=>q.1 (List.mem_map.2 ⟨(s,v),h,e⟩))];exact ih q.2 h
theorem Lg{L:List (St × Int)}(h:s ∉ fU L):ny (L.map fun p=>(p.1,Value.int .i64 p.2)) s=none:=by
 refine Bb ?_;rw[lj];exact h
theorem pF{W:Wd}{s':St}{c:Int}(q:W.xR)(I:s.a.length<=3)(h:(c,s') ∈ W.moves s):s'.a.length<=3:=by
 obtain⟨R,z,hm⟩:=wL h;obtain⟨-,-,x,p,rfl⟩:=DU hm;have F:=(q R z).1;have key:x.1.length<=3:=by
  unfold Wd.ah at p;split at p
  ·injection p with p;subst p;rw[Y8];omega
  ·split at p
   ·injection p with p;subst p;rw[Y8];omega
   ·cases p
 split<;>exact key
def Fw(x:Int × Bs × Bs):Array Value:=(js x.1 (bs x.2.1) (bs x.2.2))
def Ud(x:Int × Bs × Bs):Value:=.agg (Fw x)
def PS:List Field:=[⟨"script",3,0,false, "", "customhouse/rewrite",0⟩,⟨"from",9,1,false, "", "customhouse/rewrite",8⟩,⟨"to",9,2,false, "", "customhouse/rewrite",24⟩]
theorem Nl(x:Int × Bs × Bs):tJ Tryz.prog PS (Fw x):=by
 intro f hf;simp only[PS,YV,sx,or_false] at hf;rcases hf with rfl|rfl|rfl
 ·exact⟨by decide,_,rfl,.int Tryz.underlying3 _⟩
 ·exact⟨by decide,_,rfl,.str Tryz.underlying9 _⟩
 ·exact⟨by decide,_,rfl,.str Tryz.underlying9 _⟩
theorem PU(a b:Int × Bs × Bs):mI PS (Fw a) (Fw b)=decide (a=b):=by
 have e:mI PS (Fw a) (Fw b)=((a.1==b.1)&&((bs a.2.1==bs b.2.1)&&((bs a.2.2==bs b.2.2)&&true))):=rfl;rw[e,tZ,tZ];obtain⟨i,x,y⟩:=a;obtain⟨i',x',y'⟩:=b;by_cases h1:i=i'<;>by_cases h2:x=x'<;>by_cases h3:y=y'<;>simp[h1,h2,h3]
theorem Cq:nJ Tryz.prog 146 Ud:=by
 refine pV (cs:=Fw) (fs:=PS.toArray) Tryz.underlying146 fi Nl PU (fun a=>?_);simp[Fw,Instr.sameBits,tZ]
def wO(b:Nat)(l:List (Int × Bs × Bs)):CH.bq:=iE Ud b (l.map fun x=>(x,.bool true))
variable{l:List (Int × Bs × Bs)}
theorem zU:(wO b l).Ok:=map_ok
instance {b:Nat} {l:List (Int × Bs × Bs)}:(wO b l).Ok:=zU
theorem Li(h:wO b l w F)(x:Int × Bs × Bs):
  (Instr.lookup 144 (.map (some b)) (.agg (js x.1 (bs x.2.1) (bs x.2.2))) false).run Tryz.prog w=.ok (.bool (decide (x ∈ l))) w:=by
 have q:=Hq Cq Tryz.underlying144 Tryz.zeroValue4 h x;rw[Bc] at q;refine q.trans ?_;by_cases p:x ∈ l
 ·rw[if_pos p,decide_eq_true p];rfl
 ·rw[if_neg p,decide_eq_false p];rfl
theorem Lj(h:wO b l w F){x:Int × Bs × Bs}(z:x ∉ l):
  ∃ w',(Instr.mapUpdate 144 (.map (some b)) (.agg (js x.1 (bs x.2.1) (bs x.2.2))) (.bool true)).run Tryz.prog w=.ok () w'/\bS w F (wO b (l++[x])) w':=by
 obtain⟨w',q,p⟩:=oU Cq Tryz.underlying144 h x (.bool true);refine⟨w',q,?_⟩;have e:lG (l.map fun x=>(x,Value.bool true)) x (.bool true)=(l++[x]).map fun x=>(x,Value.bool true):=by
  rw[oV (by rw[lj];simpa using z),YS];rfl
 rw[e] at p;exact p
variable{l:List Drop}{k:Nat}
theorem PV{gh:Nat}(F:k<l.length)(h:gK l[k] ∈ (l.take k).map gK\/lK gh l[k]=false):iU gh l=false:=by
 rw[Y4];intro p;unfold iU at p;simp only[YF,decide_eq_true_eq] at p;rcases h with h|h
 ·obtain⟨x,I,e⟩:=List.mem_map.1 h;obtain⟨j,J,rfl⟩:=List.mem_iff_getElem.1 I;have q:j<k:=by rw[YU] at J;omega
  have z:=List.pairwise_iff_getElem.1 p.1 j k (by rw[YI];omega) (by rw[YI];omega) q;rw[ZA,ZA] at z;rw[List.getElem_take] at e;exact z e
 ·have:=List.all_eq_true.1 p.2.1 l[k] (YL F);rw[h] at this;cases this
theorem Nn{gh:Nat}(h1:(l.map gK).Nodup)(h2:∀ d ∈ l,lK gh d=true):iU gh l=decide (l.length<=40):=by
 unfold iU;rw[decide_eq_true h1,List.all_eq_true.2 h2];simp
theorem Np(h:k<l.length)(p:((l.take k).map gK).Nodup)(q:gK l[k] ∉ (l.take k).map gK):((l.take (k+1)).map gK)=(l.take k).map gK++[gK l[k]]/\((l.take (k+1)).map gK).Nodup:=by
 have e:((l.take (k+1)).map gK)=(l.take k).map gK++[gK l[k]]:=by rw[YD h,YS];rfl
 refine⟨e,?_⟩;rw[e,nt];refine⟨p,by simp,fun a z b F e=>?_⟩;rw[List.mem_singleton.1 F] at e;exact q (e ▸ z)
theorem PW{gh:Nat}(hk:k<l.length)(h1:∀ d ∈ l.take k,lK gh d=true)(h2:lK gh l[k]=true):∀ d ∈ l.take (k+1),lK gh d=true:=by
 intro d hd;rw[YD hk] at hd;rcases List.mem_append.1 hd with hd|hd
 ·exact h1 d hd
 ·rw[List.mem_singleton.1 hd];exact h2
theorem qM{gh:Nat}(hA:jV w A l)(hl:l.length<=1000000)(hs:∀ d ∈ l,d.w.length<=1000000)(hz:LZ w):
  Calls Tryz.prog 84 #[.slice A l.length c,.int .i64 (gh:Int)] w (aL w (.bool (iU gh l))):=by
 have HA:=au hA;have HZ:=au hz;have HS:=au hs;obtain⟨N,hN⟩:∃ N,N=l.length:=⟨_,rfl⟩;have HN:=au hN;rw[<-hN] at hl ⊢;have h0:=(aI.begin w).fresh aO (lX (kv:=Ud) w);have H0:=au (show aI fh w (aj (wO w.heap.size ((l.take 0).map gK)) aS) (w.alloc (.map #[] 0)) from h0);have a1:∀ w:World,(Instr.makeMap 144 none).run Tryz.prog w=.ok (.map (some w.heap.size)) (w.alloc (.map #[] 0)):=fun w=>by kernel_rfl
 clear hA hz hs hN h0
 go_enter Tryz.func84,Tryz.ntmps84
 go_wp2;clear a1;generalize w.alloc (.map #[] 0)=w1 at *
 generalize w.heap.size=bm at *
 go_loopw [12] (fun i wr=>∃ k:Nat,k<=N/\i=.int .i64 k/\(∀ d ∈ l.take k,lK gh d=true)/\((l.take k).map gK).Nodup/\aI fh w (aj (wO bm ((l.take k).map gK)) aS) wr) (fun i _=>N-(intOf i).toNat)
 case atStart=>exact⟨0,YE _,rfl,by simp,by simp,H0.o⟩
 case round=>
  clear H0;obtain⟨k,hk,rfl,ha,aq,hR⟩:=hrel;have ad:=au ha;have af:=au aq;have HR:=au hR;clear ha aq hR;by_cases ak:k<N
  ·have J:k<l.length:=by rw[<-HN.o];exact ak
   have ai:=au (show k+1<=N from ak);have a6:(k:Int)<1000000:=by omega
   obtain⟨b,o,rfl,hc⟩:=HA.o.at ff;obtain⟨r0,r1,r2⟩:=hc wr (HR.o.mod.below (fun _ _ h=>h)) k J;have a0:=HS.o _ (YL J);clear hc;have h2:=aH HR.o aQ (kt l[k].k (bs l[k].w) l[k].c) 104;have h3:=aH h2 aQ (js l[k].k (bs l[k].w) ⟨#[]⟩) 146;rw[YN] at h3;obtain⟨FS,ao⟩:=h3.drop.drop.fst;have al:=Li ao (gK l[k]);have I:(Instr.lookup 144 (.map (some bm)) (.agg (js l[k].k (bs l[k].w) ⟨#[]⟩)) false).run Tryz.prog ((wr.alloc (.cells (kt l[k].k (bs l[k].w) l[k].c) 104)).alloc (.cells (js l[k].k (bs l[k].w) ⟨#[]⟩) 146))=.ok (.bool (decide (gK l[k] ∈ (l.take k).map gK))) _:=al;have aa:=au (fun h=>PV (gh:=gh) J h);have ab:=au (fun h=>Np J af.o h);have am:=au (fun h=>PW (gh:=gh) J ad.o h);have H3:=au h3;clear al h2 h3 ao HR;by_cases q:gK l[k] ∈ (l.take k).map gK
   ·rw[decide_eq_true q] at I;have V:=au (aa.o (.inl q));clear q aa ab am;generalize l[k]=d at *
    have HB:=au (H3.o.mod.below (fun _ _ h=>h));go_wp2;go_ret;exact aN V.o HB.o
   ·rw[decide_eq_false q] at I;have ax:=au (ab.o q);have a3:=au q;have KF:=au (fun W (hz:LZ W)=>zT l[k].k (bs l[k].w) gh W (by rw[bB];exact a0) hz);clear q ab;simp only[fO] at KF;have ar:=au (KF.o _ (HZ.o.below (H3.o.mod.below (fun _ _ h=>h))));have KC:=au (fun W=>ug l[k].c W);have aw:(aj (av (wr.heap.size+1) (js l[k].k (bs l[k].w) ⟨#[]⟩) 146) (aj (av wr.heap.size (kt l[k].k (bs l[k].w) l[k].c) 104) (aj (wO bm ((l.take k).map gK)) aS))).Ok:=ay aC aQ;have ag:=au aw;have aE:lK gh l[k]=(dQ l[k].k l[k].w gh&&dJ l[k].c):=rfl;have ae:=au aE;have ap:gK l[k]=(l[k].k,l[k].w,[]):=rfl;have a4:=au ap;clear KF aw aE ap;go_wp2_with fail;refine ar.o.mono ?_;rintro e9 w3 ⟨rfl,hb⟩;have H4:=au (H3.o.below ag.o hb);clear ar H3 hb I r0 r1 r2;generalize wr.heap.size+1=g2 at *
    generalize wr.heap.size=g1 at *
    obtain⟨F1,p⟩:=H4.o.fst;obtain⟨F2,aA⟩:=H4.o.drop.fst;have y0:=aB (i:=0) p rfl;have y1:=aB (i:=1) p rfl;have y2:=aB (i:=2) p rfl;have x2:=aB (i:=2) aA rfl;clear p aA;dsimp only;cases z:dQ l[k].k l[k].w gh with
    | false=>
     have V:=au (aa.o (.inr (by rw[ae.o,z];rfl)));have HB:=au (H4.o.mod.below (fun _ _ h=>h));clear z;go_wp2;go_ret;exact aN V.o HB.o
    | true=>
     cases F:dJ l[k].c with
     | false=>
      have V:=au (aa.o (.inr (by rw[ae.o,z,F];rfl)));rw[F] at KC;clear z F;go_wp2_with fail;refine(KC.o _).mono ?_;rintro e9 w4 ⟨rfl,hb⟩;have H5:=au (H4.o.below ag.o hb);have HB:=au (H5.o.mod.below (fun _ _ h=>h));clear KC H4 hb;dsimp only;go_wp2;go_ret;exact aN V.o HB.o
     | true=>
      have a2:=au (am.o (by rw[ae.o,z,F];rfl));rw[F] at KC;clear z F;go_wp2_with fail;refine(KC.o _).mono ?_;rintro e9 w4 ⟨rfl,hb⟩;have H5:=au (H4.o.below ag.o hb);clear KC H4 hb y0 y1 y2 x2;dsimp only;obtain⟨F1,p⟩:=H5.o.fst;have y0:=aB (i:=0) p rfl;have y1:=aB (i:=1) p rfl;have y2:=aB (i:=2) p rfl;obtain⟨FM,az,-,bk⟩:=(H5.o.drop.drop).take zU aO;obtain⟨w5,ac,M⟩:=Lj az a3.o;have h6:=bk _ _ M;rw[<-ax.o.1] at h6;have H6:=au h6;rw[a4.o] at ac;have a5:(Instr.mapUpdate 144 (.map (some bm)) (.agg (js l[k].k (bs l[k].w) ⟨#[]⟩)) (.bool true)).run Tryz.prog w4=.ok () w5:=ac;clear p az bk ac M h6;go_wp2
      go_roundw
      case rel=>exact⟨k+1,ai.o,by go_num,a2.o,ax.o.2,H6.o⟩
      case measure=>have:=ai.o;simp[intOf];omega
  ·obtain rfl:k=N:=by omega
   have V:=au (Nn (gh:=gh) (l:=l) (by have:=af.o;rw[HN.o,YO] at this;exact this) (by have:=ad.o;rw[HN.o,YO] at this;exact this));rw[<-HN.o] at V;have HB:=au (HR.o.mod.below (fun _ _ h=>h));clear af ad;by_cases aD:k<=40
   ·have an:(k:Int)<=40:=by omega
    rw[decide_eq_true aD] at V;go_wp2;go_ret;exact aN V.o HB.o
   ·have an:¬ (k:Int)<=40:=by omega
    rw[decide_eq_false aD] at V;go_wp2;go_ret;exact aN V.o HB.o
variable{l:List ib}
theorem PZ(z:k<l.length)(h:gF l[k] ∈ (l.take k).map gF\/ql l[k]=false):fQ l=false:=by
 rw[Y4];intro J;obtain⟨F,M⟩:=iV.1 J;rcases h with h|h
 ·obtain⟨x,I,e⟩:=List.mem_map.1 h;obtain⟨j,V,rfl⟩:=List.mem_iff_getElem.1 I;have p:j<k:=by rw[YU] at V;omega
  have q:=List.pairwise_iff_getElem.1 F j k (by rw[YI];omega) (by rw[YI];omega) p;rw[ZA,ZA] at q;rw[List.getElem_take] at e;exact q e
 ·have:=M l[k] (YL z);rw[h] at this;cases this
theorem Jc(h:k<l.length)(p:((l.take k).map gF).Nodup)(q:gF l[k] ∉ (l.take k).map gF):((l.take (k+1)).map gF)=(l.take k).map gF++[gF l[k]]/\((l.take (k+1)).map gF).Nodup:=by
 have e:((l.take (k+1)).map gF)=(l.take k).map gF++[gF l[k]]:=by rw[YD h,YS];rfl
 refine⟨e,?_⟩;rw[e,nt];refine⟨p,by simp,fun a z b F e=>?_⟩;rw[List.mem_singleton.1 F] at e;exact q (e ▸ z)
theorem Nq(hk:k<l.length)(h1:∀ d ∈ l.take k,ql d=true)(h2:ql l[k]=true):∀ d ∈ l.take (k+1),ql d=true:=by
 intro d hd;rw[YD hk] at hd;rcases List.mem_append.1 hd with hd|hd
 ·exact h1 d hd
 ·rw[List.mem_singleton.1 hd];exact h2
theorem mG(h:T.rs=[]\/80<T.rs.length\/dJ T.drop=false\/dJ T.ord=false\/dJ T.ini=false):bC T=false:=by
 rw[Y4];intro h2;obtain⟨⟨g1,g2,g3,g4,g5⟩,-⟩:=eU.1 h2;rcases h with h|h|h|h|h
 ·exact g1 h
 ·omega
 ·rw[h] at g3;cases g3
 ·rw[h] at g4;cases g4
 ·rw[h] at g5;cases g5
theorem Fx(h:fQ T.rs=false):bC T=false:=by
 rw[Y4];intro h2;have:=(eU.1 h2).2.1;rw[h] at this;cases this
theorem Jd(h:T.rs≠[]/\T.rs.length<=80/\dJ T.drop=true/\dJ T.ord=true/\dJ T.ini=true)(h2:fQ T.rs=true):bC T=(iU 12 T.ds&&iU 4 T.es):=by
 rw[ZH,eU,YF];exact⟨fun g=>g.2.2,fun g=>⟨h,h2,g⟩⟩
theorem pO{a:TA}(hT:iR w T a)(hz:LZ w):Calls Tryz.prog 47 #[eu T a] w (aL w (.bool (bC T))):=by
 obtain⟨A,ac,D,dc,E,ec⟩:=a;have HT:=au hT;have HZ:=au hz;have HC:=au (fun n W=>ug n W);have h1:aI fh w (aj (av w.heap.size (dh T ⟨A,ac,D,dc,E,ec⟩) 25) aS) _:=aH (aI.begin w) aO (dh T ⟨A,ac,D,dc,E,ec⟩) 25;have H1:=au h1;obtain⟨N,hN⟩:∃ N,N=T.rs.length:=⟨_,rfl⟩;have HN:=au hN;unfold eu dh;dsimp only;unfold dh at H1;dsimp only at H1;rw[<-hN] at H1 ⊢;clear hT hz h1 hN
 go_enter Tryz.func47,Tryz.ntmps47
 iterate 12 (first|go_values|go_guarded|go_step)
 have ae:∀ W,aI fh w (aj (av w.heap.size (fw A N ac D T.ds.length dc E T.es.length ec T.drop T.ord T.ini) 25) aS) W ->
   (iz W w.heap.size (.slice A N ac) (.slice D T.ds.length dc) (.slice E T.es.length ec) (.int .i64 T.drop) (.int .i64 T.ord) (.int .i64 T.ini)):=fun W h=>by
  obtain⟨F,hF⟩:=h.fst;exact⟨aB hF rfl,aB hF rfl,aB hF rfl,aB hF rfl,aB hF rfl,aB hF rfl⟩
 have ap:=au ae;clear ae;generalize w.alloc (.cells (fw A N ac D T.ds.length dc E T.es.length ec T.drop T.ord T.ini) 25)=w1 at *
 obtain⟨c0,c1,c2,c3,c4,c5⟩:=ap.o _ H1.o;have V:=au (H1.o.mod.below (fun _ _ h=>h));by_cases ab:N=0
 ·have t1:((N:Int)==0)=true:=by simp[ab]
  have I:=au (mG (T:=T) (.inl (by rw[<-tG,<-HN.o];exact ab)));clear ab;go_wp2;go_ret;exact aN I.o V.o
 ·have t1:((N:Int)==0)=false:=by simp[ab]
  by_cases ba:80<N
  ·have t2:(80:Int)<(N:Int):=by omega
   have I:=au (mG (T:=T) (.inr (.inl (by rw[<-HN.o];exact ba))));clear ab ba;go_wp2;go_ret;exact aN I.o V.o
  ·have t2:¬ (80:Int)<(N:Int):=by omega
   have K1:=au (HC.o T.drop);have K2:=au (HC.o T.ord);have K3:=au (HC.o T.ini);have a0:=au (show T.rs≠[]/\T.rs.length<=80 from⟨by rw[ne_eq,<-tG,<-HN.o];exact ab,by rw[<-HN.o];omega⟩);clear HC ab;cases h3:dJ T.drop with
   | false=>
    have I:=au (mG (T:=T) (.inr (.inr (.inl h3))));simp only[h3] at K1;clear h3;go_wp2_with fail;refine(K1.o _).mono ?_;rintro e9 w2 ⟨rfl,p⟩;have aa:=au (aG V.o p);clear K1 K2 K3 p;dsimp only;go_wp2;go_ret;exact aN I.o aa.o
   | true=>
    simp only[h3] at K1;go_wp2_with fail;refine(K1.o _).mono ?_;rintro e9 w2 ⟨rfl,p⟩;have H2:=au (H1.o.below aQ p);have aa:=au (aG V.o p);clear K1 p c0 c1 c2 c3 c4 c5 H1 V;obtain⟨c0,c1,c2,c3,c4,c5⟩:=ap.o _ H2.o;dsimp only;cases h4:dJ T.ord with
    | false=>
     have I:=au (mG (T:=T) (.inr (.inr (.inr (.inl h4)))));simp only[h4] at K2;clear h3 h4;go_wp2_with fail;refine(K2.o _).mono ?_;rintro e9 w3 ⟨rfl,p⟩;have ao:=au (aG aa.o p);clear K2 K3 p;dsimp only;go_wp2;go_ret;exact aN I.o ao.o
    | true=>
     simp only[h4] at K2;go_wp2_with fail;refine(K2.o _).mono ?_;rintro e9 w3 ⟨rfl,p⟩;have H3:=au (H2.o.below aQ p);have ao:=au (aG aa.o p);clear K2 p c0 c1 c2 c3 c4 c5 H2 aa;obtain⟨c0,c1,c2,c3,c4,c5⟩:=ap.o _ H3.o;dsimp only;cases h5:dJ T.ini with
     | false=>
      have I:=au (mG (T:=T) (.inr (.inr (.inr (.inr h5)))));simp only[h5] at K3;clear h3 h4 h5;go_wp2_with fail;refine(K3.o _).mono ?_;rintro e9 w4 ⟨rfl,p⟩;have aD:=au (aG ao.o p);clear K3 p;dsimp only;go_wp2;go_ret;exact aN I.o aD.o
     | true=>
      have bn:=au (show T.rs≠[]/\T.rs.length<=80/\dJ T.drop=true/\dJ T.ord=true/\dJ T.ini=true from⟨a0.o.1,a0.o.2,h3,h4,h5⟩);simp only[h5] at K3;clear h3 h4 h5;go_wp2_with fail;refine(K3.o _).mono ?_;rintro e9 w4 ⟨rfl,p⟩;have H4:=au (H3.o.below aQ p);have aD:=au (aG ao.o p);clear K3 p c0 c1 c2 c3 c4 c5 H3 ao;obtain⟨c0,c1,c2,c3,c4,c5⟩:=ap.o _ H4.o;dsimp only;have bo:∀ w:World,(Instr.makeMap 144 none).run Tryz.prog w=.ok (.map (some w.heap.size)) (w.alloc (.map #[] 0)):=fun w=>by kernel_rfl
      have H5:=au (show aI fh w (aj (wO w4.heap.size ((T.rs.take 0).map gF)) _) (w4.alloc (.map #[] 0)) from H4.o.fresh aQ (lX (kv:=Ud) w4));have a8:∀ W O,aI fh w (aj O (aj (av w.heap.size (fw A N ac D T.ds.length dc E T.es.length ec T.drop T.ord T.ini) 25) aS)) W->W.cell? ⟨w.heap.size,0,none⟩=some (.slice A N ac):=fun W O h=>(ap.o _ h.drop).1;have br:=a8 _ _ H5.o;clear a8 c0 c1 c2 c3 c4 c5 H4 aD;go_wp2;clear bo br;generalize w4.alloc (.map #[] 0)=w5 at *
      generalize w4.heap.size=bm at *
      generalize w.heap.size=gt at *
      have bv:=au (show ∀ wr O,aI fh w O wr->Below w.heap.size w wr from fun wr O h=>h.mod.below (fun _ _ h=>h));go_loopw [39] (fun i wr=>∃ k:Nat,k<=N/\i=.int .i64 k/\(∀ d ∈ T.rs.take k,ql d=true)/\((T.rs.take k).map gF).Nodup/\aI fh w (aj (wO bm ((T.rs.take k).map gF)) (aj (av gt (fw A N ac D T.ds.length dc E T.es.length ec T.drop T.ord T.ini) 25) aS)) wr) (fun i _=>N-(intOf i).toNat)
      case atStart=>exact⟨0,YE _,rfl,by simp,by simp,H5.o⟩
      case round=>
       clear H5 bv;obtain⟨k,hk,rfl,ha,bb,hR⟩:=hrel;have aA:=au ha;have aE:=au bb;have HR:=au hR;clear ha bb hR;by_cases a4:k<N
       ·have al:k<T.rs.length:=by rw[<-HN.o];exact a4
        have a3:=au (show k+1<=N from a4);have b0:(k:Int)<1000000:=by have:=a0.o.2;omega
        obtain⟨b,o,rfl,hc⟩:=lD.at HT.o.rs ff;obtain⟨r0,r1,r2,r3⟩:=hc wr (HR.o.mod.below (fun _ _ h=>h)) k al;have bi:=HT.o.sr _ (YL al);clear hc;have a1:(aj (wO bm ((T.rs.take k).map gF)) (aj (av gt (fw (some ⟨b,o,none⟩) N ac D T.ds.length dc E T.es.length ec T.drop T.ord T.ini) 25) aS)).Ok:=ay zU aQ;have h2:=aH HR.o a1 (gO T.rs[k].k (bs T.rs[k].f) (bs T.rs[k].t) T.rs[k].c) 113;have h3:=aH h2 aQ (js T.rs[k].k (bs T.rs[k].f) (bs T.rs[k].t)) 146;rw[YN] at h3;obtain⟨FS,a9⟩:=h3.drop.drop.fst;have a5:=Li a9 (gF T.rs[k]);have ak:(Instr.lookup 144 (.map (some bm)) (.agg (js T.rs[k].k (bs T.rs[k].f) (bs T.rs[k].t))) false).run Tryz.prog ((wr.alloc (.cells (gO T.rs[k].k (bs T.rs[k].f) (bs T.rs[k].t) T.rs[k].c) 113)).alloc (.cells (js T.rs[k].k (bs T.rs[k].f) (bs T.rs[k].t)) 146))=.ok (.bool (decide (gF T.rs[k] ∈ (T.rs.take k).map gF))) _:=a5;have ai:=au (fun h=>Fx (PZ al h));have ax:=au (fun h=>Jc al aE.o h);have a6:=au (fun h=>Nq al aA.o h);have H3:=au h3;clear a5 h2 h3 a9 HR;by_cases ad:gF T.rs[k] ∈ (T.rs.take k).map gF
        ·rw[decide_eq_true ad] at ak;have I:=au (ai.o (.inl ad));clear ad ai ax a6;generalize T.rs[k]=d at *
         have V:=au (H3.o.mod.below (fun _ _ h=>h));go_wp2;go_ret;exact aN I.o V.o
        ·rw[decide_eq_false ad] at ak;have bf:=au (ax.o ad);have bu:=au ad;have KF:=au (fun W (hz:LZ W)=>zT T.rs[k].k (bs T.rs[k].f) 3 W (by rw[bB];exact bi.1) hz);have KG:=au (fun W=>Jb (bs T.rs[k].t) W (by rw[bB];exact bi.2));clear ad ax;simp only[fO] at KF KG;have bc:=au (KF.o _ (HZ.o.below (H3.o.mod.below (fun _ _ h=>h))));have KC:=au (fun W=>ug T.rs[k].c W);have be:(aj (av (wr.heap.size+1) (js T.rs[k].k (bs T.rs[k].f) (bs T.rs[k].t)) 146) (aj (av wr.heap.size (gO T.rs[k].k (bs T.rs[k].f) (bs T.rs[k].t) T.rs[k].c) 113) (aj (wO bm ((T.rs.take k).map gF)) (aj (av gt (fw (some ⟨b,o,none⟩) N ac D T.ds.length dc E T.es.length ec T.drop T.ord T.ini) 25) aS)))).Ok:=ay aC aQ;have am:=au be;have bz:=au a1;have aq:=au (show ql T.rs[k]=(dQ T.rs[k].k T.rs[k].f 3&&(kW T.rs[k].t&&dJ T.rs[k].c)) from rfl);have bw:=au (show gF T.rs[k]=(T.rs[k].k,T.rs[k].f,T.rs[k].t) from rfl);clear KF be a1;go_wp2_with fail;refine bc.o.mono ?_;rintro e9 w6 ⟨rfl,p⟩;have H4:=au (H3.o.below am.o p);clear bc H3 p ak r0 r1 r2 r3;generalize wr.heap.size+1=g2 at *
         generalize wr.heap.size=g1 at *
         obtain⟨F1,q⟩:=H4.o.fst;have y0:=aB (i:=0) q rfl;have y1:=aB (i:=1) q rfl;have y2:=aB (i:=2) q rfl;obtain⟨F2,z⟩:=H4.o.drop.fst;have x0:=aB (i:=0) z rfl;have x1:=aB (i:=1) z rfl;have x2:=aB (i:=2) z rfl;have x3:=aB (i:=3) z rfl;clear q z;dsimp only;cases M:dQ T.rs[k].k T.rs[k].f 3 with
         | false=>
          have I:=au (ai.o (.inr (by rw[aq.o,M];rfl)));have V:=au (H4.o.mod.below (fun _ _ h=>h));clear M;go_wp2;go_ret;exact aN I.o V.o
         | true=>
          cases J:kW T.rs[k].t with
          | false=>
           have I:=au (ai.o (.inr (by rw[aq.o,M,J];rfl)));simp only[J] at KG;clear M J;go_wp2_with fail;refine(KG.o _).mono ?_;rintro e9 w7 ⟨rfl,p⟩;have H5:=au (H4.o.below am.o p);have V:=au (H5.o.mod.below (fun _ _ h=>h));clear KG H4 p;dsimp only;go_wp2;go_ret;exact aN I.o V.o
          | true=>
           simp only[J] at KG;go_wp2_with fail;refine(KG.o _).mono ?_;rintro e9 w7 ⟨rfl,p⟩;have H5:=au (H4.o.below am.o p);clear KG H4 p y0 y1 y2 x0 x1 x2 x3;obtain⟨F1,q⟩:=H5.o.fst;have y0:=aB (i:=0) q rfl;have y1:=aB (i:=1) q rfl;have y2:=aB (i:=2) q rfl;obtain⟨F2,z⟩:=H5.o.drop.fst;have x0:=aB (i:=0) z rfl;have x1:=aB (i:=1) z rfl;have x2:=aB (i:=2) z rfl;have x3:=aB (i:=3) z rfl;clear q z;dsimp only;cases ag:dJ T.rs[k].c with
           | false=>
            have I:=au (ai.o (.inr (by rw[aq.o,M,J,ag];rfl)));simp only[ag] at KC;clear M J ag;go_wp2_with fail;refine(KC.o _).mono ?_;rintro e9 w8 ⟨rfl,p⟩;have H6:=au (H5.o.below am.o p);have V:=au (H6.o.mod.below (fun _ _ h=>h));clear KC H5 p;dsimp only;go_wp2;go_ret;exact aN I.o V.o
           | true=>
            have bp:=au (a6.o (by rw[aq.o,M,J,ag];rfl));simp only[ag] at KC;clear M J ag;go_wp2_with fail;refine(KC.o _).mono ?_;rintro e9 w8 ⟨rfl,p⟩;have H6:=au (H5.o.below am.o p);clear KC H5 p y0 y1 y2 x0 x1 x2 x3;dsimp only;obtain⟨F1,q⟩:=H6.o.fst;have y0:=aB (i:=0) q rfl;have y1:=aB (i:=1) q rfl;have y2:=aB (i:=2) q rfl;clear q;obtain⟨FM,bh,-,bk⟩:=(H6.o.drop.drop).take zU aQ;obtain⟨w9,az,an⟩:=Lj bh bu.o;have h6:=bk _ _ an;rw[<-bf.o.1] at h6;have H7:=au h6;rw[bw.o] at az;have bx:(Instr.mapUpdate 144 (.map (some bm)) (.agg (js T.rs[k].k (bs T.rs[k].f) (bs T.rs[k].t))) (.bool true)).run Tryz.prog w8=.ok () w9:=az;clear bh bk az an h6;go_wp2
            go_roundw
            case rel=>exact⟨k+1,a3.o,by go_num,bp.o,bf.o.2,H7.o⟩
            case measure=>have:=a3.o;simp[intOf];omega
       ·obtain rfl:k=N:=by omega
        have a2:fQ T.rs=true:=iV.2 ⟨by have:=aE.o;rw[HN.o,YO] at this;exact this,by have:=aA.o;rw[HN.o,YO] at this;exact this⟩;have a7:=au (Jd bn.o a2);clear aE aA a2;obtain⟨FT,af⟩:=HR.o.drop.fst;have c1:=aB (i:=1) af rfl;have c2:=aB (i:=2) af rfl;clear af;have bj:(aj (wO bm ((T.rs.take k).map gF)) (aj (av gt (fw A k ac D T.ds.length dc E T.es.length ec T.drop T.ord T.ini) 25) aS)).Ok:=ay zU aQ;have aw:=au (HR.o.mod.below (fun _ _ h=>h));have KD:=au (qM (gh:=12) (c:=dc) (HT.o.ds.below aw.o) HT.o.ld HT.o.sd (HZ.o.below aw.o));have KE:=au (fun W (p:Below w.heap.size w W)=>qM (w:=W) (gh:=4) (c:=ec) (HT.o.es.below p) HT.o.le HT.o.se (HZ.o.below p));go_wp2_with fail;refine KD.o.mono ?_;rintro e9 w6 ⟨rfl,p⟩;have H4:=au (HR.o.below bj p);have V:=au (aG aw.o p);clear KD p c1 c2 bj HR aw;obtain⟨FT,af⟩:=H4.o.drop.fst;have c2:=aB (i:=2) af rfl;clear af H4;dsimp only;cases ar:iU 12 T.ds with
        | false=>
         have I:=au (show bC T=false by rw[a7.o,ar];rfl);clear ar KE;go_wp2;go_ret;exact aN I.o V.o
        | true=>
         have I:=au (show bC T=iU 4 T.es by rw[a7.o,ar];rfl);have bd:=au (KE.o w6 V.o);clear ar KE;go_wp2_with fail;refine bd.o.mono ?_;rintro e9 w7 ⟨rfl,p⟩;have aa:=au (aG V.o p);clear bd p;dsimp only;go_wp2;go_ret;exact aN I.o aa.o
def Ta(T:fy)(k:Int)(x:Bs)(k2:Int)(y:Bs):Wd:=⟨k,k2,(iq k x).1,(iq k2 y).1,T.rs⟩
variable{k:Int}
theorem PO{k2:Int}{x y:Bs}(h:okW T k x k2 y=true):Ta T k x k2 y=bP T k x k2 y:=by
 obtain⟨h1,h2,-⟩:=gI.1 h;unfold Ta bP iq;rw[if_pos h1,if_pos h2]
theorem wN(k:Int)(x:Bs):(iq k x).1.length<=12:=by
 unfold iq;split
 ·rename_i h;exact(eH.1 (iA h)).2.2
 ·exact YE _
theorem dH{fn:Func}{p u:Tmp}{q:TypeId}(h:fn.results=#[.cell p q,.tmp u]){P:Program}(tmps:Array Value)(w:World)(g:Nat)(t:TypeId)(cs:Array Value)(z:Nat × Nat){d:Array Field}(F:tmps.getD p undef=.pointer (some ⟨g,0,none⟩))(J:w.heap[g]?=some (.cells cs t z))(I:P.underlying q=some (.struct d))(hi:(P.info? q).map (·.size)=some cs.size):
  (results fn tmps).run P w=.ok (.tuple #[.agg cs,tmps.getD u undef]) w:=by
 rw[results_cell_tmp h,F];simp[asAddr,run_loadVar_row w g t q cs z (.struct d) J I rfl hi]
def ED(n:bI)(A:fj)(c:Nat):Value:=.agg (gj n.k A n.ws.length c)
variable{n:bI}
theorem Ph(hi:i<n.ws.length)(h:¬ word n.k n.ws[i]=true):eZ n=false:=by
 unfold eZ
 rw[show n.ws.all (word n.k)=false from by
  rw[List.all_eq_false]
  exact⟨n.ws[i],YL hi,h⟩]
 rfl
theorem I4(hi:i<n.ws.length)(ha:∀ x ∈ n.ws.take i,word n.k x=true)(h:word n.k n.ws[i]=true):∀ x ∈ n.ws.take (i+1),word n.k x=true:=by
 intro x hx;rw[YD hi] at hx;rcases List.mem_append.1 hx with hx|hx
 ·exact ha x hx
 ·rw[List.mem_singleton.1 hx];exact h
theorem Na(ha:∀ x ∈ n.ws,word n.k x=true):eZ n=(decide (0<n.ws.length)&&decide (n.ws.length<=6)):=by
 unfold eZ;rw[show n.ws.all (word n.k)=true from List.all_eq_true.2 ha];rfl
theorem rT(hA:fM w A n.ws)(hl:n.ws.length<=1000000)(hw:∀ x ∈ n.ws,x.length<=1000000)(hz:LZ w):
  Calls Tryz.prog 54 #[ED n A c] w (aL w (.bool (eZ n))):=by
 have HZ:=au hz;have HA:=au hA;have HW:=au hw;have HL:=au (fun (k:Int) (x:Bs) (W:World) (hx:x.length<=1000000) (hz:LZ W)=>Cg k (bs x) W (by rw[bB];exact hx) hz);have h0:(w.alloc (.cells (gj n.k A n.ws.length c) 28)).cell? ⟨w.heap.size,0,none⟩=some (.int .i64 n.k):=aB (fG w (gj n.k A n.ws.length c) 28).choose_spec.1 rfl;have h1:(w.alloc (.cells (gj n.k A n.ws.length c) 28)).cell? ⟨w.heap.size,1,none⟩=some (.slice A n.ws.length c):=aB (fG w (gj n.k A n.ws.length c) 28).choose_spec.1 rfl;have ab:Below w.heap.size w (w.alloc (.cells (gj n.k A n.ws.length c) 28)):=(YC _ w).alloc (YG _) _;have h:=au ab
 have ac:=au (fun W (q:Below (w.alloc (.cells (gj n.k A n.ws.length c) 28)).heap.size (w.alloc (.cells (gj n.k A n.ws.length c) 28)) W)=>show (ja W w.heap.size (.int .i64 n.k) (.slice A n.ws.length c)) from
  ⟨by rw[q.cell (YW _ _ h0)];exact h0,by rw[q.cell (YW _ _ h1)];exact h1⟩)
 obtain⟨N,hN⟩:∃ N,N=n.ws.length:=⟨_,rfl⟩;have HN:=au hN;rw[<-hN] at hl;unfold ED;rw[<-hN] at h0 h1 ac h ⊢;clear hA hw hz ab hN
 go_enter Tryz.func54,Tryz.ntmps54
 go_wp2;generalize w.alloc (.cells (gj n.k A N c) 28)=w1 at *
 go_loopw [10] (fun i wr=>∃ k:Nat,k<=N/\i=.int .i64 k/\(∀ x ∈ n.ws.take k,word n.k x=true)/\Below w1.heap.size w1 wr) (fun i _=>N-(intOf i).toNat)
 case atStart=>exact⟨0,YE _,rfl,by simp,YC _ _⟩
 case round=>
  obtain⟨k,hk,rfl,ht,q⟩:=hrel;have HT:=au ht;have I:=au q;obtain⟨d0,d1⟩:=ac.o _ q;clear ht q h0 h1;by_cases ad:k<N
  ·have z:k<n.ws.length:=by rw[<-HN.o];exact ad
   obtain⟨b,o,rfl,hc⟩:=HA.o.at ff;have ck:=hc _ (aG h.o I.o) k z;have F:=au (HL.o n.k n.ws[k] wr (HW.o _ (YL z)) (HZ.o.below (aG h.o I.o)));rw[fO] at F;have V:=au (Ph z);have M:=au (I4 z HT.o);generalize n.ws[k]=x at *
   clear hc z;by_cases p:word n.k x=true
   ·have e1:aU n.k x=((aM n.k x).1,0):=by unfold aU;rw[if_pos p]
    have HS:=au (M.o p);unfold xQ at F;simp only[e1] at F;clear e1 V M p;go_wp2_with fail;refine F.o.mono ?_;rintro e9 w2 ⟨A2,c2,rfl,q,-⟩;have aa:=au (aG I.o q);clear F I q;dsimp only;go_wp2
    go_roundw
    case rel=>exact⟨k+1,by omega,by go_num,HS.o,aa.o⟩
    case measure=>simp[intOf];omega
   ·have e1:aU n.k x=([],1):=by unfold aU;rw[if_neg p]
    have J:=au (V.o p);unfold xQ at F;simp only[e1] at F;clear e1 V M p;go_wp2_with fail;refine F.o.mono ?_;rintro e9 w2 ⟨A2,c2,rfl,q,-⟩;have aa:=au (aG I.o q);clear F I q;dsimp only;go_wp2;go_ret;exact aN J.o (aG h.o aa.o)
  ·obtain rfl:k=N:=by omega
   have J:=au (Na (n:=n) (by have:=HT.o;rw[HN.o,YO] at this;exact this));rw[<-HN.o] at J;clear HT;by_cases h0:(0:Int)<(k:Int)
   ·have hd:(decide (0<k)&&decide (k<=6))=decide ((k:Int)<=6):=by
     rw[decide_eq_true (show 0<k by omega),ZI];exact decide_eq_decide.2 ff
    rw[hd] at J;go_wp2;go_ret;exact aN J.o (aG h.o I.o)
   ·have hd:(decide (0<k)&&decide (k<=6))=false:=by
     rw[decide_eq_false (show ¬ 0<k by omega),k5]
    rw[hd] at J;go_wp2;go_ret;exact aN J.o (aG h.o I.o)
end Go.Proofs.YtbnnlpjpnihheaaGreatDoor
