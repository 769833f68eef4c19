/- A part of the proof: lemmas. -/
import Derived.Test.YtbnnlpjpnihheaaGreatDoorME2
import Derived.OrdersIn
import Derived.TacticsIn
import Derived.Test.YtbnnlpjpnihheaaGreatDoorME1
import Derived.Lib.IndexAny
import Derived.Deep.QuietTactic
import Derived.BigQuiet
import Derived.Deep.DeepCutAuto
import Derived.IntWalk
import Derived.WalkKit
import Derived.OwnWalkIn
import Derived.TacticsInMore
import Derived.LoopNIn
import Derived.LoopIn
set_option maxHeartbeats 16000000
set_option maxRecDepth 100000
set_option linter.unusedSimpArgs false
set_option linter.unusedVariables false
namespace Go.CH
open Go.RowKit
section
variable {P:Program} {l n:Nat} {o:Oper} {ops:Array Oper} {a:Act} {w:World} {K:Act→World→Prop} {Q:Exit→Act→World→Prop}
def jA (o:Oper):Bool:=match o.op with | .defer _=>false | _=>true
theorem Gg (h:jA o=true):∀ c,o.op≠.defer c:=fun c e=>by unfold jA at h;rw [e] at h;cases h
theorem Ig (hd:jA o=true) (h:o.wp P a w K Q):o.wpIn (Fence.wide.inRound l) n P a w K Q:=by
 unfold Oper.wp at h;refine ⟨fun _ _=>trivial,?_⟩;have e:(Fence.wide.inRound l).round=some l:=rfl;rw [e,Oper.semAt_some l _ _ (Gg hd)];generalize (execOp a.eval o).run P w=r at h ⊢;have hdep:(Fence.wide.inRound l).depth.isSome=true→1≤n:=fun h=>by cases h
 cases r with
 | ok x w' =>
  cases x <;> first
   | exact h
   | exact h.elim
   | (refine ⟨hdep,(CallsIn.inRound l (callsIn_wide.2 h)).mono fun e w'' he=>?_⟩
      cases e <;> exact he)
   | exact ⟨hdep,fun c cs _=>let ⟨v,w',r,s⟩:=h c cs; ⟨v,w',r,stepsIn_wide.2 s⟩⟩
 | halt x w' =>
  cases x <;> first | exact h | exact h.elim
theorem PW (hout:¬ LetsOut Q) {i:Nat} (hd:∀ o:Oper,ops[i]?=some o→jA o=true) (h:wpOp P ops Q i K a w):wpOpIn (Fence.wide.inRound l) n P ops Q i K a w:=by
 unfold wpOp at h;unfold wpOpIn;cases ho:ops[i]? with
 | none=>simp only [ho] at h;exact h
 | some o =>
  simp only [ho] at h ⊢;by_cases hw:Region.wanted o (yielded ops a.tmps)=true
  ·rw [if_pos hw] at h ⊢;rcases h with h | ⟨_,h⟩
   ·exact Ig (hd o ho) h
   ·exact absurd h hout
  ·rw [if_neg hw] at h ⊢;exact ⟨fun _ _=>trivial,h⟩
theorem Dx (hout:¬ LetsOut Q) {md:Region.Mode} (hd:∀ (i:Nat) (o:Oper),ops[i]?=some o→jA o=true):∀ (fuel:Nat) (listed:Array Bool) (a:Act) (w:World),wpAny P md ops Q fuel listed a w→wpAnyIn (Fence.wide.inRound l) n P md ops Q fuel listed a w:=by
 intro fuel
 induction fuel with
 | zero=>intro listed a w h;exact h
 | succ fuel ih =>
  intro listed a w h;exact ⟨h.1,fun i hi=>wpOpIn_mono (fun a w=>ih _ a w) (PW hout (hd i) (h.2 i hi))⟩
theorem J6 (hout:¬ LetsOut Q):∀ (r:List Oper) (a:Act) (w:World),r.all jA=true→wpList P ops Q r a w→wpListIn (Fence.wide.inRound l) n P ops Q r a w:=by
 intro r
 induction r with
 | nil=>intro a w _ h;exact h
 | cons o r ih =>
  intro a w hd h;rw [List.all_cons,Bool.and_eq_true] at hd;unfold wpList at h;unfold wpListIn;by_cases hw:Region.wanted o (yielded ops a.tmps)=true
  ·rw [if_pos hw] at h ⊢;rcases h with h | ⟨_,h⟩
   ·exact Oper.wpIn_mono (fun a w=>ih a w hd.2) (Ig hd.1 h)
   ·exact absurd h hout
  ·rw [if_neg hw] at h ⊢;exact ⟨fun _ _=>trivial,ih _ _ hd.2 h⟩

theorem dB {id:Nat} {r:List Oper} (hd:r.all jA=true) (hout:¬ LetsOut Q) (h:wpList P r.toArray Q r a w):(Code.region id r.toArray false).wpIn (Fence.wide.inRound l) n P Q a w:=by
 refine wpIn_region ?_;rw [List.range_eq_range',←Array.length_toList,wpOpsIn_eq_wpListIn r.toArray.toList 0 (by simp)];simp only [List.toList_toArray];exact J6 hout r a w hd h
theorem Ih {r:List Oper} (hd:r.all jA=true):∀ (i:Nat) (o:Oper),r.toArray[i]?=some o→jA o=true:=fun i o ho=>by
 rw [List.getElem?_toArray] at ho;exact List.all_eq_true.1 hd o (List.mem_of_getElem? ho)

theorem qM {id:Nat} {r:List Oper} (S:World→Prop) (hd:r.all jA=true) (hout:¬ LetsOut Q) (hm:P.follows .mixedOrders=true) (hB:nH r.toArray=true) (hS:S w.drew)
  (h:nI P r.toArray S Q r a w.drew):(Code.region id r.toArray true).wpIn (Fence.wide.inRound l) n P Q a w:=by
 refine wpIn_region_any hm (Dx hout (Ih hd) _ _ _ _ ?_);have hu:kU r.toArray (Array.replicate r.toArray.size false)=List.range r.toArray.size:=by
  unfold kU;refine List.filter_eq_self.2 fun i hi=>?_;have:=List.mem_range.1 hi;simp at this;simp [this]
 refine vF (S:=S) hB _ _ _ _ (by rw [hu];simp) (by simp) ?_ hS ?_
 ·intro j o ho hl;have:j < r.length:=by have:=(Array.getElem?_eq_some_iff.1 ho).1;simpa using this
  simp [this] at hl
 ·rw [hu];have:=uR (P:=P) (ops:=r.toArray) (S:=S) (Q:=Q) r 0 a w.drew (by simp) h;simpa [List.range_eq_range'] using this
end
end Go.CH
namespace Go.CH
open Go.RowKit
open Go.ChangeMaps (setBlock)
section
variable {P:Program}
theorem Ku (a b:ByteArray):(a == b)=decide (a=b):=by
 rw [Bool.eq_iff_iff,Go.MapKept.bytes_beq];simp
theorem toList_inj {a b:ByteArray}:a.toList=b.toList↔a=b:=by
 constructor
 ·intro h;rw [ByteArray.toList_eq,ByteArray.toList_eq] at h;cases a;cases b;simp at h;rw [h]
 ·rintro rfl;rfl
theorem iW (a b:ByteArray):(a.toList == b.toList)=decide (a=b):=by
 rw [Bool.eq_iff_iff,beq_iff_eq,toList_inj];simp
end
section
variable {α:Type} [DecidableEq α] {P:Program} {kv:α→Value} {t K E:TypeId}
theorem oQ (H:mg P K kv) (ht:P.underlying t=some (.map K E)) {b:Nat} {l:List (α × Value)} {w:World} {F:Nat→Prop} (h:fQ kv b l w F) (k:α) (v:Value) :
  ∃ w',(Instr.mapUpdate t (.map (some b)) (kv k) v).run P w=.ok () w'∧Post w F (fQ kv b (jW l k v)) w':=by
 obtain ⟨⟨es,clock,h1,h2⟩,hF⟩:=h;obtain ⟨es',clock',h3,h4⟩:=zh H ht h2 b k v;exact ⟨_,h4 w h1,F,⟨⟨es',clock',rD h1,h3⟩,hF⟩,(Mod.refl _ _).setBlock _ (fun _=>(hF b).2 rfl),fun i hi=>.inl hi⟩
theorem D8 {z:Value} (H:mg P K kv) (ht:P.underlying t=some (.map K E)) (hz:∀ w,(zeroValue E).run P w=.ok z w) {b:Nat} {l:List (α × Value)} {w:World} {F:Nat→Prop} (h:fQ kv b l w F) (k:α) :
  (Instr.lookup t (.map (some b)) (kv k) false).run P w=.ok ((mV l k).getD z) w:=by
 obtain ⟨⟨es,clock,h1,h2⟩,hF⟩:=h;exact xU H ht hz h2 k w h1
theorem qh {l:List (α × Value)} {k:α} {v:Value} (h:k ∉ l.map (·.1)):jW l k v=l ++ [(k,v)]:=by
 cases hf:rO k l 0 with
 | none=>exact (sI hf).2 v
 | some p =>
  obtain ⟨j,u⟩:=p;obtain ⟨n,h1,h2,h3⟩:=sJ hf;exact absurd (List.mem_map.2 ⟨(k,u),List.mem_of_getElem? h2,rfl⟩) h
theorem yH {k:α}:∀ {l:List (α × Value)},k ∉ l.map (·.1)→mV l k=none
 | [],_=>rfl
 | (a,u) :: l,h=>by
  simp only [List.map_cons,List.mem_cons,not_or] at h;rw [pV,if_neg h.1,yH h.2]
theorem yI {k:α} {v:Value}:∀ {l:List α},mV (l.map fun x=>(x,v)) k=if k ∈ l then some v else none
 | []=>rfl
 | a :: l=>by
  rw [List.map_cons,pV,yI];by_cases h:k=a
  ·simp [h]
  ·simp [h]
end
end Go.CH
namespace Go.Proofs.YtbnnlpjpnihheaaGreatDoor
open Go.RowKit Go.CH Go.CH.Scr
open Go.ChangeMaps (setBlock)
def aP (w:World) (v:Value) (e:Ending) (w':World):Prop:=e=.returned v∧Below w.heap.size w w'
def Quiet (w:World) (v:Value) (e:Ending) (w':World):Prop:=e=.returned v∧w=w'

abbrev bl (s:ByteArray):Bs:=s.data.toList
def bs (l:Bs):ByteArray:=⟨l.toArray⟩
theorem gQ (l:Bs):bl (bs l)=l:=rfl
theorem qG (s:ByteArray):bs (bl s)=s:=by cases s;rfl
theorem uF (s:ByteArray):(bl s).length=s.size:=by cases s;rfl
theorem bX (l:Bs):(bs l).size=l.length:=by cases l;rfl;rfl
theorem AZ {a b:Bs} (h:bs a=bs b):a=b:=by have:=congrArg bl h;exact this
theorem ET {a b:ByteArray} (h:bl a=bl b):a=b:=by rw [←qG a,←qG b,h]
theorem TK (s:ByteArray) (i:Nat) (h:i < s.size):(bl s)[i]?=some s[i]:=Lib.data_getElem? s i h
theorem TL (s:ByteArray) (i:Nat) (h:¬ i < s.size):(bl s)[i]?=none:=List.getElem?_eq_none (by rw [uF];omega)
theorem gU {w:World} {a b:Bool} (h:a=b):Quiet w (.bool b) (.returned (.bool a)) w:=⟨by rw [h],rfl⟩
theorem za (S:Bs) (x:UInt8):decide (0≤Lib.indexByte S x)=has S (some x):=(Lib.contains_iff_indexByte S x).symm
theorem OY (x:UInt8):((x.toNat:Int)).toNat.toUInt8=x:=by simp
theorem nT (s S:ByteArray) (i:Nat) (w:World) (hs:s.size≤maxLen) :
  Calls Tryz.prog 123 #[.string s,.int .i64 (i:Int),.string S] w (Quiet w (.bool (has (bl S) (bl s)[i]?))):=by
 by_cases h:i < s.size
 ·rw [TK s i h];obtain ⟨x,hx⟩:∃ x:UInt8,s[i]=x:=⟨_,rfl⟩;rw [hx];have KI:=hide (Tryz.strings_IndexByte S (x.toNat:Int) w);rw [OY] at KI;have HB:=hide (za (bl S) x);generalize has (bl S) (some x)=r at *
  have hx256:=x.toNat_lt;have hi:(i:Int) < (s.size:Int):=by omega
  go_enter Tryz.func123,Tryz.ntmps123
  generalize Lib.indexByte (bl S) x=ix at *
  go_wp2_with fail;refine KI.out.mono ?_;rintro e9 w9 ⟨rfl,rfl⟩;clear KI;go_wp2;go_ret;exact gU HB.out
 ·rw [TL s i h];have hi:¬ (i:Int) < (s.size:Int):=by omega
  go_enter Tryz.func123,Tryz.ntmps123
  go_wp2;go_ret;exact gU rfl
end Go.Proofs.YtbnnlpjpnihheaaGreatDoor
namespace Go.Proofs.YtbnnlpjpnihheaaGreatDoor
open Go.RowKit Go.CH Go.CH.Scr
open Go.ChangeMaps (setBlock)

structure LZ (w:World):Prop where
 c:Lib.CaseVar 0 Lib.caseA w
 t:Lib.Utf8Tabs 2 3 w
 m:∃ m,w.cell? ⟨1,0,none⟩=some (.int .i64 m)
theorem LZ.below {w w':World} (h:LZ w) (hb:Below w.heap.size w w'):LZ w':=⟨Lib.CaseVar_below h.c hb,Utf8Tabs_below h.t hb,h.m.imp fun _ h=>by rw [hb.cell (World.block_lt_of_cell? _ _ h)];exact h⟩
theorem rQ (k:Int) (l:Bs):len1 k l =
  if k=1 then (if has bM l[0]? then 1 else 0)
  else if k=2 then (if has bM (l[0]?.map low) then (if has nX l[1]? then 2 else 1) else 0)
  else if k=3 then (if has Cq l[0]? then 1 else 0)
  else if k=4 then (if has Cr l[0]? && has qC l[1]? then 2 else if has qC l[0]? || has [110] l[0]? then 1 else 0)
  else 0:=by
 cases l with
 | nil=>simp [len1,has]
 | cons a t =>
  show lg k a t.head?=_
  have e:t.head?=(a :: t)[1]?:=by cases t <;> rfl
  rw [e];rfl
theorem OZ (l:Bs):len1 1 l=if has bM l[0]?=true then 1 else 0:=by rw [rQ];rfl
theorem O0 (l:Bs):len1 2 l=if has bM (l[0]?.map low)=true then (if has nX l[1]?=true then 2 else 1) else 0:=by rw [rQ];rfl
theorem O1 (l:Bs):len1 3 l=if has Cq l[0]?=true then 1 else 0:=by rw [rQ];rfl
theorem O3 (l:Bs):len1 4 l=if (has Cr l[0]? && has qC l[1]?)=true then 2 else if (has qC l[0]? || has [110] l[0]?)=true then 1 else 0:=by rw [rQ];rfl
theorem O4 {k:Int} (l:Bs) (h1:¬ k=1) (h2:¬ k=2) (h3:¬ k=3) (h4:¬ k=4):len1 k l=0:=by rw [rQ,if_neg h1,if_neg h2,if_neg h3,if_neg h4]
theorem O5 (c:UInt8):Lib.lowerB c=low c:=by
 have key:∀ n:Fin 256,Lib.lowerB (UInt8.ofNat n.val)=low (UInt8.ofNat n.val):=by decide +kernel
 have:=key ⟨c.toNat,c.toNat_lt⟩;simpa using this
theorem nU (l:Bs):Lib.toLowerA l=lower l:=List.map_congr_left fun c _=>O5 c
theorem decode_high (c:UInt8) (h:128≤c.toNat):Lib.decodeL [c]=(65533,1):=by
 have key:∀ n:Fin 256,128≤n.val→Lib.decodeL [UInt8.ofNat n.val]=(65533,1):=by decide +kernel
 have:=key ⟨c.toNat,c.toNat_lt⟩ h;simpa using this
theorem zI:Lib.toLowerU 65533=65533:=by decide +kernel
theorem wR:Lib.encodeRune 65533=[239,191,189]:=by decide +kernel
theorem Ci (c:UInt8) (h:128≤c.toNat):has bM (some (low c))=false:=by
 have key:∀ n:Fin 256,128≤n.val→has bM (some (low (UInt8.ofNat n.val)))=false:=by decide +kernel
 have:=key ⟨c.toNat,c.toNat_lt⟩ h;simpa using this
theorem Jf (l:Bs) (hl:l.length≤1):has bM (Lib.toLowerD l)[0]?=has bM (l[0]?.map low):=by
 match l,hl with
 | [],_=>rfl
 | [c],_ =>
  by_cases hc:c.toNat < 128
  ·rw [Lib.toLowerD_ascii [c] (fun b hb=>by rw [List.mem_singleton.1 hb];exact hc),nU];rfl
  ·show has bM (Lib.mapD Lib.toLowerU [c])[0]?=has bM (some (low c))
   rw [Ci c (by omega),Lib.mapD_step _ _ (by simp),decode_high c (by omega)];rw [show (((65533,1):Nat × Nat).1:Int)=65533 from rfl,zI,if_pos (by decide),wR];rfl
theorem O6 (l:Bs) (hl:l.length≤1):(Lib.toLowerD l).length≤10:=by
 match l,hl with
 | [],_=>decide
 | [c],_ =>
  by_cases hc:c.toNat < 128
  ·rw [Lib.toLowerD_ascii [c] (fun b hb=>by rw [List.mem_singleton.1 hb];exact hc),nU];simp [lower]
  ·show (Lib.mapD Lib.toLowerU [c]).length≤10
   rw [Lib.mapD_step _ _ (by simp),decode_high c (by omega)];rw [show (((65533,1):Nat × Nat).1:Int)=65533 from rfl,zI,if_pos (by decide),wR];simp [Lib.mapD,Lib.mapGoD]
theorem qP (s:ByteArray) (a b:Nat):bl (s.extract a b)=((bl s).take b).drop a:=by
 simp [bl,ByteArray.data_extract,List.drop_take]
def wS (w:World) (k:Int) (l:Bs) (e:Ending) (w':World):Prop:=e=.returned (.int .i64 (len1 k l:Nat))∧Below w.heap.size w w'
theorem l7 {w w':World} {k:Int} {l:Bs} (h:len1 k l=0) (hb:Below w.heap.size w w'):wS w k l (.returned (.int .i64 0)) w':=⟨by rw [h];rfl,hb⟩
theorem kK {w w':World} {k:Int} {l:Bs} (h:len1 k l=1) (hb:Below w.heap.size w w'):wS w k l (.returned (.int .i64 1)) w':=⟨by rw [h];rfl,hb⟩
theorem Cj {w w':World} {k:Int} {l:Bs} (h:len1 k l=2) (hb:Below w.heap.size w w'):wS w k l (.returned (.int .i64 2)) w':=⟨by rw [h];rfl,hb⟩
theorem EU (k:Int) (s:ByteArray) (w:World) (hs:s.size≤1000000) (hz:LZ w) :
  Calls Tryz.prog 92 #[.int .i64 k,.string s] w (wS w k (bl s)):=by
 have hs0:s.size≤maxLen:=by unfold maxLen;omega
 have HZ:=hide hz;clear hz;by_cases hk:k=1
 ·subst hk;have HE:=hide (OZ (bl s));have K1:=hide (show Calls Tryz.prog 123 #[.string s,.int .i64 0,.string ⟨#[97,98,99,100,101,102,103,104,105,106,107,108,109,110,111,112,113,114,115,116,117,118,119,120,121,122]⟩] w (Quiet w (.bool (has bM (bl s)[0]?))) from nT s _ 0 w hs0);cases h1:has bM (bl s)[0]? with
  | false =>
   have HL:=hide (show len1 1 (bl s)=0 by rw [HE.out,h1];rfl);rw [h1] at K1;clear h1 HE
   go_enter Tryz.func92,Tryz.ntmps92
   go_wp2_with fail;refine K1.out.mono ?_;rintro e9 w9 ⟨rfl,rfl⟩;clear K1;go_wp2;go_ret;exact l7 HL.out (Below.refl _ _)
  | true =>
   have HL:=hide (show len1 1 (bl s)=1 by rw [HE.out,h1];rfl);rw [h1] at K1;clear h1 HE
   go_enter Tryz.func92,Tryz.ntmps92
   go_wp2_with fail;refine K1.out.mono ?_;rintro e9 w9 ⟨rfl,rfl⟩;clear K1;go_wp2;go_ret;exact kK HL.out (Below.refl _ _)
 have hk1:=hk;clear hk;by_cases hk:k=2
 ·subst hk;have HE:=hide (O0 (bl s));have K3:=hide (show ∀ W:World,Calls Tryz.prog 123 #[.string s,.int .i64 1,.string ⟨#[39,96,94]⟩] W (Quiet W (.bool (has nX (bl s)[1]?))) from fun W=>nT s _ 1 W hs0);have HTL:=hide (fun (x:ByteArray) (hx:x.size≤1)=>Tryz.strings_ToLower_any x w (by omega) HZ.out.c HZ.out.t);have HIS:=hide (fun (x:ByteArray) (W:World) (hx:x.size≤10)=>show Calls Tryz.prog 123 #[.string x,.int .i64 0,.string ⟨#[97,98,99,100,101,102,103,104,105,106,107,108,109,110,111,112,113,114,115,116,117,118,119,120,121,122]⟩] W (Quiet W (.bool (has bM (bl x)[0]?))) from nT x _ 0 W (by unfold maxLen;omega));obtain ⟨x,hx⟩:∃ x,x=s.extract 0 (min 1 (s.size:Int)).toNat:=⟨_,rfl⟩;have hxl:(bl x).length≤1∧(bl x)[0]?=(bl s)[0]?:=by
   have h1:bl x=(bl s).take 1:=by
    rw [hx,qP,List.drop_zero];have h2:=uF s;by_cases h0:s.size=0
    ·have e0:bl s=[]:=List.eq_nil_of_length_eq_zero (by omega);rw [e0];simp
    ·rw [show (min 1 (s.size:Int)).toNat=1 by omega]
   rw [h1];refine ⟨by rw [List.length_take];omega,?_⟩;cases bl s <;> rfl
  have hxs:x.size≤1:=by rw [←uF];exact hxl.1
  have hyl:(Lib.toLowerD (bl x)).length≤10:=O6 _ hxl.1;have hfl:=Jf (bl x) hxl.1;rw [hxl.2] at hfl;have KT0:=HTL.out x hxs;have KI0:=fun W=>HIS.out (bs (Lib.toLowerD (bl x))) W (by rw [bX];exact hyl);simp only [gQ] at KI0;rw [hfl] at KI0;unfold bs at KI0;generalize Lib.toLowerD (bl x)=y at KT0 KI0;rw [hx] at KT0;have KT:=hide KT0;have KI:=hide KI0;clear HTL HIS hxl hxs hyl hfl hx KT0 KI0;cases h1:has bM ((bl s)[0]?.map low) with
  | false =>
   have HL:=hide (show len1 2 (bl s)=0 by rw [HE.out,h1];rfl);rw [h1] at KI;clear h1 HE K3
   go_enter Tryz.func92,Tryz.ntmps92
   go_wp2_with fail;refine KT.out.mono ?_;rintro e9 w1 ⟨rfl,hb⟩;have HB:=hide hb;have KI2:=hide (KI.out w1);clear KT hb KI;go_wp2_with fail;refine KI2.out.mono ?_;rintro e9 w9 ⟨rfl,rfl⟩;clear KI2;go_wp2;go_ret;exact l7 HL.out HB.out
  | true =>
   rw [h1] at KI;cases h2:has nX (bl s)[1]? with
   | false =>
    have HL:=hide (show len1 2 (bl s)=1 by rw [HE.out,h1,h2];rfl);rw [h2] at K3;clear h1 h2 HE
    go_enter Tryz.func92,Tryz.ntmps92
    go_wp2_with fail;refine KT.out.mono ?_;rintro e9 w1 ⟨rfl,hb⟩;have HB:=hide hb;have KI2:=hide (KI.out w1);have K4:=hide (K3.out w1);clear KT hb KI K3;go_wp2_with fail;refine KI2.out.mono ?_;rintro e9 w9 ⟨rfl,rfl⟩;clear KI2;go_wp2_with fail;refine K4.out.mono ?_;rintro e9 w9 ⟨rfl,rfl⟩;clear K4;go_wp2;go_ret;exact kK HL.out HB.out
   | true =>
    have HL:=hide (show len1 2 (bl s)=2 by rw [HE.out,h1,h2];rfl);rw [h2] at K3;clear h1 h2 HE
    go_enter Tryz.func92,Tryz.ntmps92
    go_wp2_with fail;refine KT.out.mono ?_;rintro e9 w1 ⟨rfl,hb⟩;have HB:=hide hb;have KI2:=hide (KI.out w1);have K4:=hide (K3.out w1);clear KT hb KI K3;go_wp2_with fail;refine KI2.out.mono ?_;rintro e9 w9 ⟨rfl,rfl⟩;clear KI2;go_wp2_with fail;refine K4.out.mono ?_;rintro e9 w9 ⟨rfl,rfl⟩;clear K4;go_wp2;go_ret;exact Cj HL.out HB.out
 have hk2:=hk;clear hk;by_cases hk:k=3
 ·subst hk;have HE:=hide (O1 (bl s));have K1:=hide (show Calls Tryz.prog 123 #[.string s,.int .i64 0,.string ⟨#[98,100,102,103,104,106,107,108,109,110,112,113,114,115,116,119,120,121,122,39]⟩] w (Quiet w (.bool (has Cq (bl s)[0]?))) from nT s _ 0 w hs0);cases h1:has Cq (bl s)[0]? with
  | false =>
   have HL:=hide (show len1 3 (bl s)=0 by rw [HE.out,h1];rfl);rw [h1] at K1;clear h1 HE
   go_enter Tryz.func92,Tryz.ntmps92
   go_wp2_with fail;refine K1.out.mono ?_;rintro e9 w9 ⟨rfl,rfl⟩;clear K1;go_wp2;go_ret;exact l7 HL.out (Below.refl _ _)
  | true =>
   have HL:=hide (show len1 3 (bl s)=1 by rw [HE.out,h1];rfl);rw [h1] at K1;clear h1 HE
   go_enter Tryz.func92,Tryz.ntmps92
   go_wp2_with fail;refine K1.out.mono ?_;rintro e9 w9 ⟨rfl,rfl⟩;clear K1;go_wp2;go_ret;exact kK HL.out (Below.refl _ _)
 have hk3:=hk;clear hk;by_cases hk:k=4
 ·subst hk;have HE:=hide (O3 (bl s));have K1:=hide (show Calls Tryz.prog 123 #[.string s,.int .i64 0,.string ⟨#[107,115,116,110,104,109,121,114,119,103,122,100,98,112]⟩] w (Quiet w (.bool (has Cr (bl s)[0]?))) from nT s _ 0 w hs0);have K2:=hide (show Calls Tryz.prog 123 #[.string s,.int .i64 1,.string ⟨#[97,105,117,101,111]⟩] w (Quiet w (.bool (has qC (bl s)[1]?))) from nT s _ 1 w hs0);have K3:=hide (show Calls Tryz.prog 123 #[.string s,.int .i64 0,.string ⟨#[97,105,117,101,111]⟩] w (Quiet w (.bool (has qC (bl s)[0]?))) from nT s _ 0 w hs0);have K4:=hide (show Calls Tryz.prog 123 #[.string s,.int .i64 0,.string ⟨#[110]⟩] w (Quiet w (.bool (has [110] (bl s)[0]?))) from nT s _ 0 w hs0);cases h1:has Cr (bl s)[0]? with
  | false =>
   rw [h1] at K1;cases h3:has qC (bl s)[0]? with
   | false =>
    rw [h3] at K3;cases h4:has [110] (bl s)[0]? with
    | false =>
     have HL:=hide (show len1 4 (bl s)=0 by rw [HE.out,h1,h3,h4];rfl);rw [h4] at K4;clear HE h1 h3 h4
     go_enter Tryz.func92,Tryz.ntmps92
     go_wp2_with fail;refine K1.out.mono ?_;rintro e9 w9 ⟨rfl,rfl⟩;clear K1;clear K2;go_wp2_with fail;refine K3.out.mono ?_;rintro e9 w9 ⟨rfl,rfl⟩;clear K3;go_wp2_with fail;refine K4.out.mono ?_;rintro e9 w9 ⟨rfl,rfl⟩;clear K4;go_wp2;go_ret;exact l7 HL.out (Below.refl _ _)
    | true =>
     have HL:=hide (show len1 4 (bl s)=1 by rw [HE.out,h1,h3,h4];rfl);rw [h4] at K4;clear HE h1 h3 h4
     go_enter Tryz.func92,Tryz.ntmps92
     go_wp2_with fail;refine K1.out.mono ?_;rintro e9 w9 ⟨rfl,rfl⟩;clear K1;clear K2;go_wp2_with fail;refine K3.out.mono ?_;rintro e9 w9 ⟨rfl,rfl⟩;clear K3;go_wp2_with fail;refine K4.out.mono ?_;rintro e9 w9 ⟨rfl,rfl⟩;clear K4;go_wp2;go_ret;exact kK HL.out (Below.refl _ _)
   | true =>
    rw [h3] at K3;have HL:=hide (show len1 4 (bl s)=1 by rw [HE.out,h1,h3];rfl);clear HE h1 h3 K4
    go_enter Tryz.func92,Tryz.ntmps92
    go_wp2_with fail;refine K1.out.mono ?_;rintro e9 w9 ⟨rfl,rfl⟩;clear K1;clear K2;go_wp2_with fail;refine K3.out.mono ?_;rintro e9 w9 ⟨rfl,rfl⟩;clear K3;go_wp2;go_ret;exact kK HL.out (Below.refl _ _)
  | true =>
   rw [h1] at K1;cases h2:has qC (bl s)[1]? with
   | false =>
    rw [h2] at K2;cases h3:has qC (bl s)[0]? with
    | false =>
     rw [h3] at K3;cases h4:has [110] (bl s)[0]? with
     | false =>
      have HL:=hide (show len1 4 (bl s)=0 by rw [HE.out,h1,h2,h3,h4];rfl);rw [h4] at K4;clear HE h1 h3 h4 h2
      go_enter Tryz.func92,Tryz.ntmps92
      go_wp2_with fail;refine K1.out.mono ?_;rintro e9 w9 ⟨rfl,rfl⟩;clear K1;go_wp2_with fail;refine K2.out.mono ?_;rintro e9 w9 ⟨rfl,rfl⟩;clear K2;go_wp2_with fail;refine K3.out.mono ?_;rintro e9 w9 ⟨rfl,rfl⟩;clear K3;go_wp2_with fail;refine K4.out.mono ?_;rintro e9 w9 ⟨rfl,rfl⟩;clear K4;go_wp2;go_ret;exact l7 HL.out (Below.refl _ _)
     | true =>
      have HL:=hide (show len1 4 (bl s)=1 by rw [HE.out,h1,h2,h3,h4];rfl);rw [h4] at K4;clear HE h1 h3 h4 h2
      go_enter Tryz.func92,Tryz.ntmps92
      go_wp2_with fail;refine K1.out.mono ?_;rintro e9 w9 ⟨rfl,rfl⟩;clear K1;go_wp2_with fail;refine K2.out.mono ?_;rintro e9 w9 ⟨rfl,rfl⟩;clear K2;go_wp2_with fail;refine K3.out.mono ?_;rintro e9 w9 ⟨rfl,rfl⟩;clear K3;go_wp2_with fail;refine K4.out.mono ?_;rintro e9 w9 ⟨rfl,rfl⟩;clear K4;go_wp2;go_ret;exact kK HL.out (Below.refl _ _)
    | true =>
     rw [h3] at K3;have HL:=hide (show len1 4 (bl s)=1 by rw [HE.out,h1,h2,h3];rfl);clear HE h1 h3 K4 h2
     go_enter Tryz.func92,Tryz.ntmps92
     go_wp2_with fail;refine K1.out.mono ?_;rintro e9 w9 ⟨rfl,rfl⟩;clear K1;go_wp2_with fail;refine K2.out.mono ?_;rintro e9 w9 ⟨rfl,rfl⟩;clear K2;go_wp2_with fail;refine K3.out.mono ?_;rintro e9 w9 ⟨rfl,rfl⟩;clear K3;go_wp2;go_ret;exact kK HL.out (Below.refl _ _)
   | true =>
    have HL:=hide (show len1 4 (bl s)=2 by rw [HE.out,h1,h2];rfl);rw [h2] at K2;clear HE h1 h2 K3 K4
    go_enter Tryz.func92,Tryz.ntmps92
    go_wp2_with fail;refine K1.out.mono ?_;rintro e9 w9 ⟨rfl,rfl⟩;clear K1;go_wp2_with fail;refine K2.out.mono ?_;rintro e9 w9 ⟨rfl,rfl⟩;clear K2;go_wp2;go_ret;exact Cj HL.out (Below.refl _ _)
 have hk4:=hk;clear hk;have HL:=hide (show len1 k (bl s)=0 from O4 _ hk1 hk2 hk3 hk4);have t1:(k == 1)=false:=by simpa using hk1
 have t2:(k == 2)=false:=by simpa using hk2
 have t3:(k == 3)=false:=by simpa using hk3
 have t4:(k == 4)=false:=by simpa using hk4
 clear hk1 hk2 hk3 hk4
 go_enter Tryz.func92,Tryz.ntmps92
 go_wp2;go_ret;exact l7 HL.out (Below.refl _ _)
end Go.Proofs.YtbnnlpjpnihheaaGreatDoor
namespace Go.Proofs.YtbnnlpjpnihheaaGreatDoor
open Go.RowKit Go.CH Go.CH.Scr
open Go.ChangeMaps (setBlock)
theorem aC {w w' w'':World} (h:Below w.heap.size w w') (h':Below w'.heap.size w' w''):Below w.heap.size w w'':=h.trans (h'.mono h.size)
theorem aQ {w w':World} {a b:Bool} (h:b=a) (hb:Below w.heap.size w w'):aP w (.bool b) (.returned (.bool a)) w':=⟨by rw [h],hb⟩
end Go.Proofs.YtbnnlpjpnihheaaGreatDoor
namespace Go.Proofs.YtbnnlpjpnihheaaGreatDoor
open Go.RowKit Go.CH Go.CH.Scr
open Go.ChangeMaps (setBlock)
end Go.Proofs.YtbnnlpjpnihheaaGreatDoor
namespace Go.Proofs.YtbnnlpjpnihheaaGreatDoor
open Go.RowKit Go.CH Go.CH.Scr
open Go.ChangeMaps (setBlock)

def fM (k:Int):Nat→Bs→Bs
 | 0,l=>l
 | i+1,l=>(fM k i l).drop (len1 k (fM k i l))
theorem Ck (k:Int) (l:Bs):∀ i,i≤(aM k l).1.length→aM k (fM k i l)=((aM k l).1.drop i,(aM k l).2):=by
 intro i
 induction i with
 | zero=>intro _;rfl
 | succ i ih =>
  intro hi;have h:=ih (by omega);have hd:(aM k l).1.drop i=(aM k l).1[i] :: (aM k l).1.drop (i+1):=List.drop_eq_getElem_cons (by omega);have hn:len1 k (fM k i l)≠0:=fun h0=>by
   rw [dL h0,hd] at h;cases h
  rw [eH hn,hd] at h
  show aM k ((fM k i l).drop (len1 k (fM k i l)))=_
  have h1:=congrArg Prod.fst h;have h2:=congrArg Prod.snd h;simp only [List.cons.injEq] at h1 h2;exact Prod.ext h1.2 h2
theorem Lp {k:Int} {l:Bs} {i:Nat} (hi:i < (aM k l).1.length):len1 k (fM k i l)≠0∧(aM k l).1[i]=(fM k i l).take (len1 k (fM k i l)):=by
 have h:=Ck k l i (by omega);have hd:(aM k l).1.drop i=(aM k l).1[i] :: (aM k l).1.drop (i+1):=List.drop_eq_getElem_cons (by omega);have hn:len1 k (fM k i l)≠0:=fun h0=>by
  rw [dL h0,hd] at h;cases h
 refine ⟨hn,?_⟩;rw [eH hn,hd] at h;have h1:=congrArg Prod.fst h;simp only [List.cons.injEq] at h1;exact h1.1.symm
theorem GZ (k:Int) (l:Bs):len1 k (fM k (aM k l).1.length l)=0∧fM k (aM k l).1.length l=(aM k l).2:=by
 have h:=Ck k l _ (Nat.le_refl _);rw [List.drop_length] at h;have hn:len1 k (fM k (aM k l).1.length l)=0:=by
  refine Classical.byContradiction fun hn=>?_;rw [eH hn] at h;cases h
 refine ⟨hn,?_⟩;rw [dL hn] at h;exact congrArg Prod.snd h
theorem Lr (k:Int) (l:Bs):∀ i,(fM k i l).length≤l.length:=by
 intro i
 induction i with
 | zero=>exact Nat.le_refl _
 | succ i ih=>show ((fM k i l).drop _).length≤_;rw [List.length_drop];omega

def Zl (k:Int) (l:Bs) (b1 b2 i:Nat):Go.CH.Own:=star (au b1 #[.int .i64 k] 3) (au b2 #[.string (bs (fM k i l))] 9)
theorem G5 {k:Int} {l:Bs} {b1 b2:Nat} (i:Nat):(Zl k l b1 b2 i).Ok:=aj av av
def RN (x:Bs):Array Value:=#[.string (bs x)]
def zJ (b2:Nat) (w:World):Nat:=match w.cell? ⟨b2,0,none⟩ with | some (.string s)=>s.size | _=>0
theorem O7 (l:Bs) (n:Nat):bs (l.take n)=(bs l).extract 0 n:=ET (by rw [qP,gQ,gQ,List.drop_zero])
theorem G6 (l:Bs) (n:Nat):bs (l.drop n)=(bs l).extract n (bs l).size:=ET (by rw [qP,gQ,gQ,bX,List.take_length])
theorem nV {k:Int} {l:Bs} {b1 b2 i:Nat} {F0:Nat→Prop} {w0 W:World} {X:Go.CH.Own} (h:Run F0 w0 (star (Zl k l b1 b2 i) X) W) :
  W.cell? ⟨b1,0,none⟩=some (.int .i64 k)∧W.cell? ⟨b2,0,none⟩=some (.string (bs (fM k i l)))∧W.frozen? ⟨b2,0,none⟩=false:=by
 obtain ⟨F,hF⟩:=(h.assoc).fst;obtain ⟨F2,hF2⟩:=(h.assoc.mh).fst;exact ⟨ay hF rfl,ay hF2 rfl,aJ hF2 0⟩
theorem O8 {k:Int} {l:Bs} {b1 b2 i:Nat} {F0:Nat→Prop} {w0 W:World} {X:Go.CH.Own} (hX:X.Ok) (h:Run F0 w0 (star (Zl k l b1 b2 i) X) W) :
  Run F0 w0 (star (Zl k l b1 b2 (i+1)) X) (W.setCell ⟨b2,0,none⟩ (.string (bs (fM k (i+1) l)))):=by
 have h1:=h.assoc.mh;obtain ⟨F,hF,-,bk⟩:=h1.take av (aj av hX);have h2:=bk _ _ (oL hF 0 (.string (bs (fM k (i+1) l))));exact (h2.perm (by ac_rfl):Run F0 w0 (star (star (au b1 #[.int .i64 k] 3) (au b2 (#[Value.string (bs (fM k i l))].setIfInBounds 0 (.string (bs (fM k (i+1) l)))) 9)) X) _)
theorem wT {b2:Nat} {w:World} {s:ByteArray} (h:w.cell? ⟨b2,0,none⟩=some (.string s)):zJ b2 w=s.size:=by unfold zJ;rw [h]
theorem Ba (k:Int) (l:Bs) (b1 b2:Nat) (hl:l.length≤1000000) :
  Rl Tryz.prog 91 #[.pointer (some ⟨b1,0,none⟩),.pointer (some ⟨b2,0,none⟩)] LZ (Zl k l b1 b2) RN (aM k l).1:=by
 intro n lo W F0 w0 X Y okX okY hE h0 hY;have HY:=hide hY;have HE:=hide hE;have HL:=hide (fun (t:ByteArray) (W:World) (ht:t.size≤1000000) (hz:LZ W)=>EU k t W ht hz);clear hY hE;obtain ⟨N,hN⟩:∃ N,N=(aM k l).1.length:=⟨_,rfl⟩;refine callsIn_of_wp Tryz.func91 rfl trivial ?_ rfl;simp only [Tryz.ntmps91,List.size_toArray,List.length_cons,List.length_nil,Nat.reduceAdd,Nat.reduceSub,Array.replicate_succ,Array.replicate_zero,List.push_toArray,List.append_toArray,List.nil_append,List.cons_append];obtain ⟨c1,c2,c3⟩:=nV h0;have K0:=hide (HL.out (bs (fM k 0 l)) W (by rw [bX];exact hl) (HE.out W h0.mod));have H0:=hide h0;clear h0
 gi_wp2_with (refine ⟨trivial,fun h=>(by cases h),?_⟩;gi_at_call 92;refine (callsIn_wide.2 K0.out).mono ?_;rintro e9 w9 ⟨rfl,hb⟩;clear K0;have H1:=hide (H0.out.below (aj (G5 0) (okX 0)) hb);clear H0 hb c1 c2 c3)
 gi_loopw [4] (fun p wr=>∃ i:Nat,i≤N∧p=.int .i64 (len1 k (fM k i l):Nat)∧Run F0 w0 (star (Zl k l b1 b2 i) (X i)) wr)
  (fun p wr=>zJ b2 wr)
 case atStart=>exact ⟨0,Nat.zero_le _,by rw [gQ],H1.out⟩
 case round =>
  clear H1;obtain ⟨i,hi,rfl,hR⟩:=hrel;have HR:=hide hR;clear hR;by_cases hlt:i < N
  ·have hlt':=hlt;rw [hN] at hlt';obtain ⟨hn,hx⟩:=Lp hlt';have hw:=HY.out i hlt' wr HR.out;rw [hx,RN,O7] at hw;obtain ⟨fn,tmps,assign,body,hy,hround⟩:=hw;have HRD:=hide hround;obtain ⟨c1,c2,c3⟩:=nV HR.out;have HS:=hide (show bs (fM k (i+1) l)=_ from G6 (fM k i l) (len1 k (fM k i l)));have hle:len1 k (fM k i l)≤(bs (fM k i l)).size:=by rw [bX];exact mP
   have htn:(bs (fM k (i+1) l)).size≤1000000:=by rw [bX];exact Nat.le_trans (Lr k l (i+1)) hl
   have hts:(bs (fM k i l)).size≤1000000:=by rw [bX];exact Nat.le_trans (Lr k l i) hl
   have hsz:(bs (fM k (i+1) l)).size+len1 k (fM k i l)=(bs (fM k i l)).size:=by
    rw [bX,bX] at *
    show ((fM k i l).drop _).length+_=_
    rw [List.length_drop];omega
   have HA:=hide (fun (W':World) (h:Run F0 w0 (star (Zl k l b1 b2 i) (X (i+1))) W')=>show W'.cell? ⟨b1,0,none⟩=some (.int .i64 k)∧W'.cell? ⟨b2,0,none⟩=some (.string (bs (fM k i l)))∧W'.frozen? ⟨b2,0,none⟩=false from nV h)
   have HB:=hide (fun (W':World) (h:Run F0 w0 (star (Zl k l b1 b2 i) (X (i+1))) W')=>show
     Run F0 w0 (star (Zl k l b1 b2 (i+1)) (X (i+1))) (W'.setCell ⟨b2,0,none⟩ (.string ((bs (fM k i l)).extract (len1 k (fM k i l)) (bs (fM k i l)).size))) ∧
     (W'.setCell ⟨b2,0,none⟩ (.string ((bs (fM k i l)).extract (len1 k (fM k i l)) (bs (fM k i l)).size))).cell? ⟨b1,0,none⟩=some (.int .i64 k) ∧
     (W'.setCell ⟨b2,0,none⟩ (.string ((bs (fM k i l)).extract (len1 k (fM k i l)) (bs (fM k i l)).size))).cell? ⟨b2,0,none⟩=some (.string ((bs (fM k i l)).extract (len1 k (fM k i l)) (bs (fM k i l)).size)) ∧
     Calls Tryz.prog 92 #[.int .i64 k,.string ((bs (fM k i l)).extract (len1 k (fM k i l)) (bs (fM k i l)).size)] (W'.setCell ⟨b2,0,none⟩ (.string ((bs (fM k i l)).extract (len1 k (fM k i l)) (bs (fM k i l)).size)))
      (wS (W'.setCell ⟨b2,0,none⟩ (.string ((bs (fM k i l)).extract (len1 k (fM k i l)) (bs (fM k i l)).size))) k (fM k (i+1) l)) from by
    have h2:=O8 (okX (i+1)) h;rw [HS.out] at h2;obtain ⟨d1,d2,-⟩:=nV h2;rw [HS.out] at d2;refine ⟨h2,d1,d2,?_⟩;have h3:=HL.out (bs (fM k (i+1) l)) _ htn (HE.out _ h2.mod);rw [gQ,HS.out] at h3
    exact h3)
   have HZ:=hide (fun (W':World) (hb:Run F0 w0 (star (Zl k l b1 b2 (i+1)) (X (i+1))) W')=>show zJ b2 W'=(bs (fM k (i+1) l)).size from wT (nV hb).2.1);have HZ0:=hide (show zJ b2 wr=(bs (fM k i l)).size from wT c2);have HN2:=hide (fun (W W':World) (h:Run F0 w0 (star (Zl k l b1 b2 (i+1)) (X (i+1))) W) (hb:Below W.heap.size W W')=>h.below (aj (G5 (i+1)) (okX (i+1))) hb);clear HS HL HE HY HR hx hN hl hlt';have hrel2:∀ W',Run F0 w0 (star (Zl k l b1 b2 (i+1)) (X (i+1))) W'→∃ i':Nat,i'≤N∧Value.int .i64 (len1 k (fM k (i+1) l):Nat)=.int .i64 (len1 k (fM k i' l):Nat)∧Run F0 w0 (star (Zl k l b1 b2 i') (X i')) W':=fun W' h=>⟨i+1,hlt,rfl,h⟩;have HREL:=hide hrel2;have hstop:∀ W',Run F0 w0 (star (Zl k l b1 b2 i) Y) W'→(∃ v,(Ending.returned (.tuple #[]))=.returned v)∧(Run F0 w0 (star (Zl k l b1 b2 (aM k l).1.length) (X (aM k l).1.length)) W'∨∃ i,Run F0 w0 (star (Zl k l b1 b2 i) Y) W'):=fun W' h=>⟨⟨_,rfl⟩,.inr ⟨i,h⟩⟩;have HSTOP:=hide hstop;clear hrel2 hstop;generalize hsz2:(bs (fM k (i+1) l)).size=s2 at *
   generalize ht:bs (fM k i l)=t at *
   generalize hn1:len1 k (fM k i l)=n1 at *
   clear hsz2 ht hn1;have hn0:0 < n1:=by omega
   clear hn;gi_wp2;refine ⟨fun h=>(by cases h),?_⟩;clear c1 c2 c3 hy;refine HRD.out.mono ?_;rintro e W3 (⟨rfl,h3⟩ | ⟨rfl,h3⟩)
   ·obtain ⟨h4,d1,d2,K4⟩:=HB.out W3 h3;obtain ⟨a1,a2,a3⟩:=HA.out W3 h3;have H4:=hide h4;have KK:=hide K4;have HZZ:=hide (show zJ b2 W3=t.size from wT a2);clear HRD HB HA h3 h4 K4
    gi_wp2_with (refine ⟨trivial,fun h=>(by cases h),?_⟩;gi_at_call 92;refine (callsIn_wide.2 KK.out).mono ?_;rintro e9 w9 ⟨rfl,hb⟩;clear KK)
    have h5:=HN2.out _ _ H4.out hb
    go_roundw
    case rel=>exact HREL.out _ h5
    case measure=>rw [HZ.out _ h5,HZ0.out];omega
   ·have HR3:=hide (HSTOP.out _ h3);clear HRD HB HA h3;gi_wp2
    go_end0
    exact HR3.out
  ·obtain rfl:i=N:=by omega
   have hz:len1 k (fM k i l)=0:=by rw [hN];exact (GZ k l).1
   have hend:(∃ v,(Ending.returned (.tuple #[]))=.returned v)∧(Run F0 w0 (star (Zl k l b1 b2 (aM k l).1.length) (X (aM k l).1.length)) wr∨∃ i,Run F0 w0 (star (Zl k l b1 b2 i) Y) wr):=⟨⟨_,rfl⟩,.inl (by rw [←hN];exact HR.out)⟩;have HEND:=hide hend;clear hend;rw [hz];gi_wp2;refine ⟨fun _ h=>(by cases h),?_⟩;gi_wp2
   go_end0
   exact HEND.out
end Go.Proofs.YtbnnlpjpnihheaaGreatDoor
namespace Go.CH
open Go.RowKit
section
variable {P:Program} {ops:Array Oper} {Ts:List Nat} {St:Nat→World→Prop} {Q:Exit→Act→World→Prop}

def xM:List (World→Prop)→Nat→World→Prop
 | [],_,_=>True
 | S :: _,0,w=>S w
 | _ :: l,n+1,w=>xM l n w

def Ib:List (World→Prop)→Prop
 | []=>True
 | [_]=>True
 | S :: T :: l=>(∀ w,S w→T w)∧Ib (T :: l)
theorem xO:∀ (l:List (World→Prop)),Ib l→∀ c w,xM l c w→xM l (c+1) w
 | [],_,_,_,_=>trivial
 | [_],_,0,_,_=>trivial
 | [_],_,_+1,_,_=>trivial
 | S :: T :: l,h,0,w,hs=>h.1 w hs
 | S :: T :: l,h,c+1,w,hs=>xO (T :: l) h.2 c w hs
def nG (P:Program) (ops:Array Oper) (St:Nat→World→Prop) (Q:Exit→Act→World→Prop):List Nat→List Oper→Act→World→Prop
 | _,[],a,w=>Q .normal a w
 | [],_ :: _,_,_=>False
 | n :: lv,o :: r,a,w=>(bR o.op=false∧∃ v,YieldsIf P ops (St n) o v a∧nG P ops St Q lv r (a.put o.dst v) w) ∨
   (bR o.op=true∧Region.wanted o (yielded ops a.tmps)=true∧o.wp P a w (fun a' w'=>St n w'∧nG P ops St Q lv r a' w') fI)
theorem uQ:∀ (l:List Oper) (lv:List Nat) (k:Nat) (a:Act) (w:World),(∀ j,l[j]?=ops[k+j]?)→(∀ j,j < l.length→lv[j]?=some (Sq ops Ts (k+j)))→nG P ops St Q lv l a w→nL P ops Ts St Q (List.range' k l.length) a w
 | [],lv,_,_,_,_,_,h=>by cases lv <;> exact h
 | o :: l,[],k,a,w,hl,hv,h=>h.elim
 | o :: l,n :: lv,k,a,w,hl,hv,h=>by
  have h0:ops[k]?=some o:=by simpa using (hl 0).symm
  have hn:n=Sq ops Ts k:=by have:=hv 0 (by simp);simpa using this
  have ei:bK ops k=bR o.op:=by simp [bK,h0]
  have ih:=fun a w=>uQ l lv (k+1) a w (fun j=>by have:=hl (j+1);simpa [Nat.add_assoc,Nat.add_comm 1 j] using this)
   (fun j hj=>by have:=hv (j+1) (by simpa using hj);simpa [Nat.add_assoc,Nat.add_comm 1 j] using this)
  simp only [List.length_cons,List.range'_succ];unfold nL;simp only [h0];unfold Sq at hn;rcases h with ⟨h0,v,h1,h2⟩ | ⟨h1,h2,h3⟩
  ·rw [ei,h0] at hn;have hn:n=lvl ops Ts k:=by simpa using hn
   subst hn;exact .inl ⟨h0,v,h1,ih _ _ h2⟩
  ·rw [ei,h1] at hn;have hn:n=BU Ts k:=by simpa using hn
   subst hn;exact .inr ⟨h1,h2,Oper.wp_mono (fun a' w' hk=>⟨hk.1,ih _ _ hk.2⟩) h3⟩
theorem qJ {id:Nat} {l:List Oper} {a:Act} {w:World} (Ts lv:List Nat) (S0:World→Prop) (Sl:List (World→Prop)) (hdn:Ib (S0 :: Sl)) (hm:P.follows .mixedOrders=true) (hB:nH l.toArray=true) (hL:FK l.toArray Ts=true) (hlv:JQ l.toArray Ts=lv) (hS:S0 w.drew)
  (h:nG P l.toArray (xM (S0 :: Sl)) Q lv l a w.drew):(Code.region id l.toArray true).wp P Q a w:=by
 refine wp_region_any hm ?_;have hu:kU l.toArray (Array.replicate l.toArray.size false)=List.range l.toArray.size:=by
  unfold kU;refine List.filter_eq_self.2 fun i hi=>?_;have:=List.mem_range.1 hi;simp at this;simp [this]
 refine oD (Ts:=Ts) (St:=xM (S0 :: Sl)) (xO _ hdn) hB hL _ _ _ _ (by rw [hu];simp) (by simp) ?_ ⟨0,hS,fun i _ _=>by split <;> omega⟩ ?_
 ·intro j o ho hl;have:j < l.length:=by have:=(Array.getElem?_eq_some_iff.1 ho).1;simpa using this
  simp [this] at hl
 ·rw [hu]
  have:=uQ (P:=P) (ops:=l.toArray) (Ts:=Ts) (St:=xM (S0 :: Sl)) (Q:=Q) l lv 0 a w.drew (by simp) (fun j hj=>by
   rw [←hlv];unfold JQ;rw [List.getElem?_map,List.getElem?_range (by simpa using hj)];simp) h
  simpa [List.range_eq_range'] using this
theorem lQ {l n:Nat} {a:Act} {w:World} {id:Nat} {r:List Oper} (Ts lv:List Nat) (S0:World→Prop) (Sl:List (World→Prop)) (hdn:Ib (S0 :: Sl)) (hd:r.all jA=true) (hout:¬ LetsOut Q) (hm:P.follows .mixedOrders=true) (hB:nH r.toArray=true) (hL:FK r.toArray Ts=true) (hlv:JQ r.toArray Ts=lv) (hS:S0 w.drew)
  (h:nG P r.toArray (xM (S0 :: Sl)) Q lv r a w.drew):(Code.region id r.toArray true).wpIn (Fence.wide.inRound l) n P Q a w:=by
 refine wpIn_region_any hm (Dx hout (Ih hd) _ _ _ _ ?_);have hu:kU r.toArray (Array.replicate r.toArray.size false)=List.range r.toArray.size:=by
  unfold kU;refine List.filter_eq_self.2 fun i hi=>?_;have:=List.mem_range.1 hi;simp at this;simp [this]
 refine oD (Ts:=Ts) (St:=xM (S0 :: Sl)) (xO _ hdn) hB hL _ _ _ _ (by rw [hu];simp) (by simp) ?_ ⟨0,hS,fun i _ _=>by split <;> omega⟩ ?_
 ·intro j o ho hl;have:j < r.length:=by have:=(Array.getElem?_eq_some_iff.1 ho).1;simpa using this
  simp [this] at hl
 ·rw [hu]
  have:=uQ (P:=P) (ops:=r.toArray) (Ts:=Ts) (St:=xM (S0 :: Sl)) (Q:=Q) r lv 0 a w.drew (by simp) (fun j hj=>by
   rw [←hlv];unfold JQ;rw [List.getElem?_map,List.getElem?_range (by simpa using hj)];simp) h
  simpa [List.range_eq_range'] using this
section
variable {o:Oper} {r:List Oper} {n:Nat} {lv:List Nat} {a:Act} {w:World}
theorem sD (h:Q .normal a w):nG P ops St Q lv [] a w:=by cases lv <;> exact h
theorem fG (hc:bR o.op=false) (hw:Region.wanted o (yielded ops a.tmps)=false) (h:nG P ops St Q lv r (a.put o.dst undef) w):nG P ops St Q (n :: lv) (o :: r) a w:=.inl ⟨hc,undef,.inr ⟨hw,rfl⟩,h⟩
theorem dW {v:Value} (hc:bR o.op=false) (hw:Region.wanted o (yielded ops a.tmps)=true) (hv:∀ w',St n w'→(execOp a.eval o).run P w'=.ok (.value v) w') (h:nG P ops St Q lv r (a.put o.dst v) w):nG P ops St Q (n :: lv) (o :: r) a w :=
 .inl ⟨hc,v,.inl ⟨hw,hv⟩,h⟩
theorem dO (hc:bR o.op=true) (hw:Region.wanted o (yielded ops a.tmps)=true) (h:∀ K:Act→World→Prop,Hid (∀ a' w',St n w'→nG P ops St Q lv r a' w'→K a' w')→o.wp P a w K fI):nG P ops St Q (n :: lv) (o :: r) a w :=
 .inr ⟨hc,hw,h _ fun _ _ h1 h2=>⟨h1,h2⟩⟩
end
end
end Go.CH
namespace Go.CH
open Go.RowKit
section
variable {P:Program}
theorem Lm {t e:TypeId} {z:Value} {size bytes:Nat} (S:dh P t e z size bytes) (ty:TypeId) (w:World) (base:Nat) {v:Value} {n:Nat} {xs:List Value} (hown:w.ownsRow base e size v n xs)
  {A:Option Addr} {m c:Nat} {news:List Value} (hs:Src w A m size news) (h63:n+m≤maxLen) (hb:(n+m)*bytes≤140737488355328) (hbase:base≤w.heap.size) :
  ∃ v' w',(Builtin.append_ #[t,t] ty #[v,.slice A m c]).run P w=.ok v' w'∧w'.ownsRow base e size v' (n+m) (xs ++ news)∧w.grownBy w' v.ownBlock ∧
   (v'.ownBlock=v.ownBlock∨v'.ownBlock=some w.heap.size):=by
 obtain ⟨ht,hi,hz,hsz⟩:=S;obtain ⟨i,hi,hi1,hi2,hi3⟩:=info_parts hi;cases A with
 | some ad =>
  obtain ⟨v',w',h1,h2,h3,_,h5⟩:=run_append_own_at (P:=P) w base t ty e i z size bytes ht hi hi1 hi2 hi3 hz hsz v n xs hown ad m c news hs.1 (hs.cells rfl) hs.2.1 h63 hb hbase;exact ⟨v',w',h1,h2,h3,h5⟩
 | none =>
  have hm:m=0:=by
   rcases Nat.eq_zero_or_pos m with h0 | h0
   ·exact h0
   ·obtain ⟨ad,h,_⟩:=hs.2.2 h0;cases h
  subst hm;have hn:news=[]:=List.eq_nil_of_length_eq_zero (by simpa using hs.1);subst hn;refine ⟨v,w,?_,by simpa using hown,⟨rfl,rfl,rfl,Nat.le_refl _,fun _ _ _=>rfl⟩,.inl rfl⟩;rcases hown.2 with ⟨rfl,rfl⟩ | ⟨g,cap,cur,rfl,_,_,hnc,_⟩
  ·simp [Builtin.append_,run_underlying ht,sizeOf,typeInfo,hi,Builtin.lenOf,Builtin.firstCells]
  ·simp [Builtin.append_,run_underlying ht,sizeOf,typeInfo,hi,Builtin.lenOf,Builtin.firstCells,hnc,storeCells]
theorem wh {o:Oper} {a:Act} {K:Act→World→Prop} {Q:Exit→Act→World→Prop} (s x:Operand) {t:TypeId}
  (ho:o.op=.call { callee:=.builtin .append,args:=#[s,x],argTypes:=#[t,t] })
  {e:TypeId} {z:Value} {size bytes:Nat} (S:dh P t e z size bytes) (w:World) (base:Nat) {v:Value} {n:Nat} {xs:List Value} (hsv:a.eval s=v) (hown:w.ownsRow base e size v n xs)
  {A:Option Addr} {m c:Nat} {news:List Value} (hx:a.eval x=.slice A m c) (hs:Src w A m size news) (h63:n+m≤maxLen) (hb:(n+m)*bytes≤140737488355328) (hbase:base≤w.heap.size)
  (h:∀ v' w',w'.ownsRow base e size v' (n+m) (xs ++ news)→w.grownBy w' v.ownBlock→(v'.ownBlock=v.ownBlock∨v'.ownBlock=some w.heap.size)→K (a.put o.dst v') w'):o.wp P a w K Q:=by
 obtain ⟨v',w',hrun,h2,h3,h4⟩:=Lm S o.type w base hown (c:=c) hs h63 hb hbase;unfold Oper.wp execOp;simp only [ho,resolve,invoke,builtin,Sem.run_bind,Sem.run_pure,Result.andThen_ok,List.map_toArray,List.map_cons,List.map_nil,hsv,hx,hrun];exact h v' w' h2 h3 h4
theorem Ch {ops:Array Oper} {rest:List Oper} {o:Oper} {a:Act} {Q:Exit→Act→World→Prop} (hgd:o.guard=none) (s x:Operand) {t:TypeId}
  (ho:o.op=.call { callee:=.builtin .append,args:=#[s,x],argTypes:=#[t,t] })
  {e:TypeId} {z:Value} {size bytes:Nat} (S:dh P t e z size bytes) (w:World) (base:Nat) {v:Value} {n:Nat} {xs:List Value} (hsv:a.eval s=v) (hown:w.ownsRow base e size v n xs)
  {A:Option Addr} {m c:Nat} {news:List Value} (hx:a.eval x=.slice A m c) (hs:Src w A m size news) (h63:n+m≤maxLen) (hb:(n+m)*bytes≤140737488355328) (hbase:base≤w.heap.size)
  (h:∀ v' w',w'.ownsRow base e size v' (n+m) (xs ++ news)→w.grownBy w' v.ownBlock→(v'.ownBlock=v.ownBlock∨v'.ownBlock=some w.heap.size)→wpList P ops Q rest (a.put o.dst v') w'):wpList P ops Q (o :: rest) a w :=
 wpList_plain hgd fun _ hK=>wh s x ho S w base hsv hown hx hs h63 hb hbase fun v' w' h2 h3 h4=>hK _ _ (h v' w' h2 h3 h4)
end
end Go.CH
namespace Go.CH
open Go.RowKit
def nE {α:Type} (O:α→Own):Own:=fun w F=>∃ x,O x w F
theorem cO {α:Type} {O:α→Own} (h:∀ x,(O x).Ok):(nE O).Ok:=⟨fun ⟨c,h1⟩=>(h c).lt h1,fun ⟨c,h1⟩ hk=>⟨c,(h c).keep h1 hk⟩⟩
theorem Run.ex {α:Type} {O:α→Own} {R:Own} {F0:Nat→Prop} {w0 W:World} (h:Run F0 w0 (star (nE O) R) W):∃ x,Run F0 w0 (star (O x) R) W:=by
 obtain ⟨⟨F,⟨F1,F2,⟨c,g1⟩,g2,g3,g4⟩,hF⟩,hm⟩:=h;exact ⟨c,⟨⟨F,⟨F1,F2,g1,g2,g3,g4⟩,hF⟩,hm⟩⟩
theorem Run.qW {α:Type} {O:α→Own} {R:Own} {F0:Nat→Prop} {w0 W:World} (x:α) (h:Run F0 w0 (star (O x) R) W):Run F0 w0 (star (nE O) R) W :=
 h.imp fun _ _ hh=>bF hh (fun _ h=>⟨x,h⟩) (fun _ h=>h)

def xw (p:Prop) (O:Own):Own:=fun w F=>p∧O w F
theorem iE {p:Prop} {O:Own} (h:O.Ok):(xw p O).Ok:=⟨fun h1=>h.lt h1.2,fun h1 hk=>⟨h1.1,h.keep h1.2 hk⟩⟩
theorem Run.pure {p:Prop} {O R:Own} {F0:Nat→Prop} {w0 W:World} (h:Run F0 w0 (star (xw p O) R) W):p∧Run F0 w0 (star O R) W:=by
 obtain ⟨⟨F,⟨F1,F2,⟨c,g1⟩,g2,g3,g4⟩,hF⟩,hm⟩:=h;exact ⟨c,⟨⟨F,⟨F1,F2,g1,g2,g3,g4⟩,hF⟩,hm⟩⟩
theorem Run.jF {p:Prop} {O R:Own} {F0:Nat→Prop} {w0 W:World} (hp:p) (h:Run F0 w0 (star O R) W):Run F0 w0 (star (xw p O) R) W :=
 h.imp fun _ _ hh=>bF hh (fun _ h=>⟨hp,h⟩) (fun _ h=>h)
def TT:Own:=fun _ _=>False
theorem Ma:TT.Ok:=⟨fun h=>h.elim,fun h=>h.elim⟩
theorem Run.no {R:Own} {F0:Nat→Prop} {w0 W:World} (h:Run F0 w0 (star TT R) W):False:=by
 obtain ⟨⟨F,⟨F1,F2,g1,g2,g3,g4⟩,hF⟩,hm⟩:=h;exact g1
theorem CK (W:World) (v:Value) (t:TypeId) (h:v.oneCell'=true):Src (W.alloc (.cells #[v] t)) (some ⟨W.heap.size,0,none⟩) 1 1 [v]:=Src.one (heap_alloc_new W _) h
end Go.CH
namespace Go.Proofs.YtbnnlpjpnihheaaGreatDoor
open Go.RowKit Go.CH Go.CH.Scr
open Go.ChangeMaps (setBlock)
attribute [local go_sem] Oper.semAt_some
def TM (b1 b2:Nat):Value:=.func (.func 91) #[] #[.pointer (some ⟨b1,0,none⟩),.pointer (some ⟨b2,0,none⟩)]
theorem Cm (k:Int) (s:ByteArray) (w:World) :
  Calls Tryz.prog 52 #[.int .i64 k,.string s] w fun e w'=>∃ b1 b2,e=.returned (TM b1 b2)∧Post w (fun _=>False) (Zl k (bl s) b1 b2 0) w':=by
 have hp:Post w (fun _=>False) (Zl k (bl s) w.heap.size (w.heap.size+1) 0) ((w.alloc (.cells #[.int .i64 k] 3)).alloc (.cells #[.string s] 9)):=by
  have h1:=(Run.begin w).fresh aB (dJ w #[.int .i64 k] 3);have h2:=h1.fresh (aj av aB) (dJ _ #[.string s] 9);rw [World.size_alloc] at h2;have h3:Run (fun _=>False) w (star (Zl k (bl s) w.heap.size (w.heap.size+1) 0) emp) _:=h2.perm (by unfold Zl;rw [show fM k 0 (bl s)=bl s from rfl,qG];ac_rfl);exact (h3.swap.drop).post (G5 0)
 have HP:=hide hp;clear hp
 go_enter Tryz.func52,Tryz.ntmps52
 go_wp2;go_ret;exact ⟨_,_,rfl,HP.out⟩
theorem Bb:dh Tryz.prog 26 9 (.string ByteArray.empty) 1 16:=⟨Tryz.underlying26,by kernel_rfl,by decide,by decide⟩
def lq (xs:List Bs):List Value:=xs.map fun x=>.string (bs x)
theorem Ls (l:List Bs):∀ u ∈ lq l,u.oneCell'=true:=by
 intro u hu;obtain ⟨s,_,rfl⟩:=List.mem_map.1 hu;rfl
theorem Lu {l:List Bs} {k:Nat} (h:k < l.length):(lq l)[k]?=some (.string (bs l[k])):=by simp [lq,h]
def ig (A:Option Addr) (c:Nat) (l:List Bs):CH.Own:=aS 9 1 (.slice A l.length c) l.length (lq l)
theorem dX {A:Option Addr} {c:Nat} {l:List Bs}:(ig A c l).Ok:=bA
theorem Lv {A:Option Addr} {c:Nat} {l:List Bs} {x:Bs}:aS 9 1 (.slice A (l.length+1) c) (l.length+1) (lq l ++ [.string (bs x)])=ig A c (l ++ [x]):=by
 unfold ig;have e:lq (l ++ [x])=lq l ++ [.string (bs x)]:=by simp [lq]
 rw [e,List.length_append,List.length_singleton]
theorem G7 (w:World):ig none 0 [] w (fun _=>False):=fH w 9 1

def aT (k:Int) (l:Bs):List Bs × Int:=if word k l then ((aM k l).1,0) else ([],1)
def mO (w:World) (k:Int) (l:Bs) (e:Ending) (w':World):Prop :=
 ∃ A c,e=.returned (.tuple #[.slice A (aT k l).1.length c,.int .i64 (aT k l).2])∧Post w (fun _=>False) (ig A c (aT k l).1) w'
theorem Lx {F0:Nat→Prop} {w0 W:World} {Y:CH.Own} {o:Oper} {a:Act} {K:Act→World→Prop} {Q:Exit→Act→World→Prop} (s x:Operand)
  (ho:o.op=.call { callee:=.builtin .append,args:=#[s,x],argTypes:=#[26,26] }) {A:Option Addr} {c n:Nat} {l:List Bs} {i:ByteArray} (hl:l.length=n) (hsv:a.eval s=.slice A n c) (hx:a.eval x=.slice (some ⟨W.heap.size,0,none⟩) 1 1) (hn:n≤1000000) (hY:Y.Ok)
  (h:Run F0 w0 (star (ig A c l) Y) W)
  (hK:∀ A' c' w',Run F0 w0 (star (ig A' c' (l ++ [bl i])) Y) w'→K (a.put o.dst (.slice A' (n+1) c')) w'):o.wp Tryz.prog a (W.alloc (.cells #[.string i] 9)) K Q:=by
 subst hl;obtain ⟨F7,hR7,-,bk7⟩:=(h.below (aj dX hY) ((Below.refl _ _).alloc (Nat.le_refl _) (.cells #[.string i] 9))).take dX hY;refine wh s x ho Bb _ 0 (v:=.slice A l.length c) (n:=l.length) (xs:=lq l) hsv hR7.1 (A:=some ⟨W.heap.size,0,none⟩) (m:=1) (c:=1) (news:=[.string i]) hx (CK W _ 9 rfl) (by unfold maxLen;omega) (by omega) (Nat.zero_le _) ?_;intro v8 w8 ho8 hg8 hv8;have S8:=bk7 _ _ (iA hR7 ho8 hg8 hv8);obtain ⟨A8,c8,rfl⟩:=gy ho8;rw [show Value.string i=.string (bs (bl i)) by rw [qG],Lv] at S8;exact hK A8 c8 w8 S8
end Go.Proofs.YtbnnlpjpnihheaaGreatDoor
namespace Go.Proofs.YtbnnlpjpnihheaaGreatDoor
open Go.RowKit Go.CH Go.CH.Scr
open Go.ChangeMaps (setBlock)
attribute [local go_sem] Oper.semAt_some

def TN (k:Int) (l:Bs) (c6 c7 i:Nat):CH.Own:=nE fun p:Option Addr × Nat=>star (au c6 #[.slice p.1 i p.2] 26) (star (ig p.1 p.2 ((aM k l).1.take i)) (au c7 #[.string (bs (fM k i l))] 9))
def UY (k:Int) (l:Bs) (c6 c7 i:Nat) (A:Option Addr) (c:Nat):CH.Own:=star (au c6 #[.slice A i c] 26) (star (ig A c ((aM k l).1.take i)) (au c7 #[.string (bs (fM k i l))] 9))
theorem LA {k:Int} {l:Bs} {c6 c7:Nat} (i:Nat):(TN k l c6 c7 i).Ok:=cO fun _=>aj av (aj dX av)
def TP (k:Int) (l:Bs) (c6 c7:Nat):Code→CH.Own
 | .exit 0=>nE fun i:Nat=>xw (12 < i∧i≤(aM k l).1.length) (TN k l c6 c7 i)
 | _=>TT
theorem RO {k:Int} {l:Bs} {c6 c7:Nat} (c:Code):(TP k l c6 c7 c).Ok:=by
 unfold TP;split
 ·exact cO fun i=>iE (LA i)
 ·exact Ma
theorem UG {S T:CH.Own} {F0:Nat→Prop} {w0 W:World} {g:Nat} {v:Value} {t:TypeId} (hS:S.Ok) (hT:T.Ok) (h:Run F0 w0 (star S (star (au g #[v] t) T)) W) (v':Value) :
  Run F0 w0 (star S (star (au g #[v'] t) T)) (W.setCell ⟨g,0,none⟩ v'):=by
 obtain ⟨F,hF,-,bk⟩:=h.mh.take av (aj hS hT);exact (bk _ _ (oL hF 0 v')).mh
theorem UH {S T U:CH.Own} {F0:Nat→Prop} {w0 W:World} {g:Nat} {v:Value} {t:TypeId} (hS:S.Ok) (hU:U.Ok) (hT:T.Ok) (h:Run F0 w0 (star S (star U (star (au g #[v] t) T))) W) (v':Value) :
  Run F0 w0 (star S (star U (star (au g #[v'] t) T))) (W.setCell ⟨g,0,none⟩ v'):=by
 obtain ⟨F,hF,-,bk⟩:=h.SC.take av (aj hS (aj hU hT));exact (bk _ _ (oL hF 0 v')).perm (by ac_rfl)
theorem RQ {S T:CH.Own} {F0:Nat→Prop} {w0 W:World} {g:Nat} {v:Value} {t:TypeId} (h:Run F0 w0 (star S (star (au g #[v] t) T)) W):W.cell? ⟨g,0,none⟩=some v∧W.frozen? ⟨g,0,none⟩=false:=by
 obtain ⟨F,hF⟩:=h.mh.fst;exact ⟨ay hF rfl,aJ hF 0⟩
theorem RS {S T U:CH.Own} {F0:Nat→Prop} {w0 W:World} {g:Nat} {v:Value} {t:TypeId} (h:Run F0 w0 (star S (star U (star (au g #[v] t) T))) W):W.cell? ⟨g,0,none⟩=some v∧W.frozen? ⟨g,0,none⟩=false:=by
 obtain ⟨F,hF⟩:=h.SC.fst;exact ⟨ay hF rfl,aJ hF 0⟩
theorem EW (k:Int) (l:Bs):(aM k l).1.length≤l.length:=by
 refine kL (k:=k) (P:=fun l=>(aM k l).1.length≤l.length) (fun l h=>?_) (fun l h ih=>?_) l
 ·show (aM k l).1.length≤l.length
  rw [dL h];exact Nat.zero_le _
 ·show (aM k l).1.length≤l.length
  have ih:(aM k (l.drop (len1 k l))).1.length≤(l.drop (len1 k l)).length:=ih;rw [eH h];rw [List.length_drop] at ih;have:=mP (k:=k) (l:=l);simp only [List.length_cons];omega
theorem Jg {k:Int} {l:Bs} {i:Nat} (hi:i < (aM k l).1.length):(aM k l).1.take i ++ [bl (bs (aM k l).1[i])]=(aM k l).1.take (i+1) ∧
  (bs (fM k i l)).extract (bs (aM k l).1[i]).size (bs (fM k i l)).size=bs (fM k (i+1) l)∧(bs (aM k l).1[i]).size≤(bs (fM k i l)).size:=by
 have h:=Lp hi;have e:(bs (aM k l).1[i]).size=len1 k (fM k i l):=by
  rw [h.2,bX,List.length_take];have:=mP (k:=k) (l:=fM k i l);omega
 refine ⟨by rw [gQ,List.take_succ_eq_append_getElem hi],?_,?_⟩
 ·rw [e,←G6];rfl
 ·rw [e,bX];exact mP
theorem nW {k:Int} {l:Bs} {w W':World} (h:aT k l=([],1)) (hm:CH.Mod (fun _=>False) w W'):mO w k l (.returned (.tuple #[.slice none 0 0,.int .i64 1])) W' :=
 ⟨none,0,by rw [h];rfl,fun _=>False,by rw [h];exact G7 _,hm,fun i hi=>.inl hi⟩
theorem LB {k:Int} {l:Bs} {w W':World} {A:Option Addr} {c:Nat} {X:CH.Own} (h:aT k l=((aM k l).1,0)) (hr:Run (fun _=>False) w (star (ig A c (aM k l).1) X) W') :
  mO w k l (.returned (.tuple #[.slice A (aM k l).1.length c,.int .i64 0])) W':=⟨A,c,by rw [h],by rw [h];exact (hr.swap.drop).post dX⟩
theorem G8 {k:Int} {l:Bs} (h:¬ ((aM k l).2=[]∧1≤(aM k l).1.length∧(aM k l).1.length≤12)):aT k l=([],1):=by
 unfold aT;rw [if_neg (fun hw=>h (dz.1 hw))]
theorem O9 {k:Int} {l:Bs} (h:(aM k l).2=[]∧1≤(aM k l).1.length∧(aM k l).1.length≤12):aT k l=((aM k l).1,0):=by
 unfold aT;rw [if_pos (dz.2 h)]
theorem iJ {l:Bs}:(bs l).toList=[]↔l=[]:=by
 rw [ByteArray.toList_eq];exact Iff.rfl
theorem LC (k:Int) (s:ByteArray) (w:World):Run (fun _=>False) w (TN k (bl s) w.heap.size (w.heap.size+1) 0) ((w.alloc (.cells #[.slice none 0 0] 26)).alloc (.cells #[.string s] 9)):=by
 have h0:=(Run.begin w).fresh aB (⟨fun _=>False,G7 w,Mod.refl _ _,fun i hi=>.inl hi⟩:Post w (fun _=>False) (ig none 0 []) w);have h1:=h0.fresh (aj dX aB) (dJ w #[.slice none 0 0] 26);have h2:=h1.fresh (aj av (aj dX aB)) (dJ _ #[.string s] 9);rw [World.size_alloc] at h2;have h3:Run (fun _=>False) w (star (star (au w.heap.size #[.slice none 0 0] 26) (star (ig none 0 []) (au (w.heap.size+1) #[.string s] 9))) emp) _:=h2.perm (by ac_rfl);refine h3.swap.drop.imp fun _ _ h=>⟨(none,0),?_⟩;rw [show bs (fM k 0 (bl s))=s from qG s];exact h
theorem jR (k:Int) (s:ByteArray) (w:World) (hs:s.size≤1000000) (hz:LZ w) :
  Calls Tryz.prog 24 #[.int .i64 k,.string s] w (mO w k (bl s)):=by
 have HZ:=hide hz;have HL:=hide (fun W=>Cm k s W);clear hz;refine (callsIn_wide (n:=8)).1 ?_;refine callsIn_of_wp_marks Tryz.func24 rfl trivial ?_ rfl;simp only [Tryz.ntmps24,List.size_toArray,List.length_cons,List.length_nil,Nat.reduceAdd,Nat.reduceSub,Array.replicate_succ,Array.replicate_zero,List.push_toArray,List.append_toArray,List.nil_append,List.cons_append];refine (wpIn_wide (n:=8)).2 ?_;have S0:=hide (LC k s w);go_wp2_with fail;generalize ((w.alloc (.cells #[.slice none 0 0] 26)).alloc (.cells #[.string s] 9))=W2 at *
 refine (HL.out W2).mono ?_;rintro e9 w9 ⟨b1,b2,rfl,hp⟩;have S1:=hide (S0.out.fresh (LA 0) hp);clear S0 hp HL;have hE:∀ W,Mod (fun _=>False) w W→LZ W:=fun W h=>HZ.out.below (h.below (fun _ _ h=>h));dsimp only;go_wp2_with fail;have hl:(bl s).length≤1000000:=by rw [uF];exact hs
 have HL:=hide hl;generalize w.heap.size+1=c7 at *
 generalize w.heap.size=c6 at *
 clear hl;refine J7 (gf:=91) (lb:=#[.pointer (some ⟨b1,0,none⟩),.pointer (some ⟨b2,0,none⟩)]) rfl (enters_of Tryz.func91 (by kernel_rfl) rfl) (Ba k (bl s) b1 b2 HL.out) G5 (fun _=>rfl) hE
  (TN k (bl s) c6 c7) (TP k (bl s) c6 c7) LA RO S1.out
  (fun x=>{ tmps:=#[.int .i64 k,.string s,undef,undef,.slice none 0 0,.int .i64 0,.pointer (some ⟨c6,0,none⟩),.pointer (some ⟨c7,0,none⟩),.string (bs x),.string s,.int .i64 k,.string s,TM b1 b2,.string (bs x),undef,undef,undef,undef,undef,undef,undef,undef,undef,undef,undef,undef,undef,undef,undef,undef,undef,undef,undef,undef,undef,undef,undef,undef],defers:=[] }) ?assign ?body ?done ?stop
 case assign =>
  intro l m x W K hK;unfold RN;gi_wp2;exact hK
 case body =>
  intro lo m i hi R W hR hI;obtain ⟨⟨A,c⟩,h1⟩:=hI.ex;dsimp only at h1;obtain ⟨F6,h6⟩:=h1.assoc.fst;obtain ⟨F7,h7⟩:=h1.assoc.mh.assoc.mh.fst;have c6a:=ay (i:=0) h6 rfl;have c6b:=aJ h6 0;have c7a:=ay (i:=0) h7 rfl;have c7b:=aJ h7 0;have H1:=hide h1;clear h1 h6 h7 hI S1;obtain ⟨q1,q2,q3⟩:=Jg hi;have Q1:=hide q1;have HI1:=hide (show i+1≤(aM k (bl s)).1.length from hi);have hi6:i < 1000000:=by
   have:=HL.out;have h2:=EW k (bl s);omega
  have okY:(star (au c6 #[.slice A i c] 26) (star (au c7 #[.string (bs (fM k i (bl s)))] 9) R)).Ok:=aj av (aj av hR);have HA:=hide ((H1.out.perm (by ac_rfl):Run (fun _=>False) w (star (ig A c ((aM k (bl s)).1.take i)) (star (au c6 #[.slice A i c] 26) (star (au c7 #[.string (bs (fM k i (bl s)))] 9) R))) W).drew (aj dX okY));have OKY:=hide okY;have OKR:=hide hR;have hlen:((aM k (bl s)).1.take i).length=i:=by rw [List.length_take];omega
  have HLEN:=hide hlen;clear okY H1 hlen q1 hR;generalize (aM k (bl s)).1[i]=x at *
  generalize hr:bs (fM k i (bl s))=r at *
  clear hr hi;refine wpIn_block (wpIn_seq ?_);refine lQ [2,3,8,9] [1,0,1,2,3,3,3,3,3,4]
   (fun w'=>w'.cell? ⟨c6,0,none⟩=some (.slice A i c)∧w'.cell? ⟨c7,0,none⟩=some (.string r))
   [fun w'=>w'.cell? ⟨c6,0,none⟩=some (.slice A i c)∧w'.cell? ⟨c7,0,none⟩=some (.string r),fun w'=>w'.cell? ⟨c7,0,none⟩=some (.string r),fun w'=>w'.cell? ⟨c7,0,none⟩=some (.string r)]
   ⟨fun _ h=>h,fun _ h=>h.2,fun _ h=>h,trivial⟩ rfl (fun ⟨a,w,h⟩=>h) rfl (by kernel_rfl) (by kernel_rfl) (by kernel_rfl) ⟨c6a,c7a⟩ ?_
  (repeat (first | (refine fG (by rfl) (by rfl) ?_;try simp only [Act.put,List.setIfInBounds_toArray,List.set_cons_zero,List.set_cons_succ]) | (refine dW (v:=?_) (by rfl) (by rfl) ?_ ?_;rotate_left;(focus (intro w' hS';(try simp only [xM] at hS');go_simp;(try with_reducible rfl);done));try simp only [Act.put,List.setIfInBounds_toArray,List.set_cons_zero,List.set_cons_succ])))
  refine dO rfl (by rfl) (fun K hK=>?_);go_wp2;refine hK.out _ _ ?_ ?_
  ·obtain ⟨d1,-⟩:=RQ (HA.out.below (aj dX OKY.out) ((Below.refl _ _).alloc (Nat.le_refl _) (.cells #[.string (bs x)] 9)));obtain ⟨d2,-⟩:=RS (HA.out.below (aj dX OKY.out) ((Below.refl _ _).alloc (Nat.le_refl _) (.cells #[.string (bs x)] 9)));exact ⟨d1,d2⟩
  clear hK c6a c6b c7a c7b
  (repeat (first | (refine fG (by rfl) (by rfl) ?_;try simp only [Act.put,List.setIfInBounds_toArray,List.set_cons_zero,List.set_cons_succ]) | (refine dW (v:=?_) (by rfl) (by rfl) ?_ ?_;rotate_left;(focus (intro w' hS';(try simp only [xM] at hS');go_simp;(try with_reducible rfl);done));try simp only [Act.put,List.setIfInBounds_toArray,List.set_cons_zero,List.set_cons_succ])))
  refine dO rfl (by rfl) (fun K hK=>?_);refine Lx (.tmp 14) (.tmp 16) rfl HLEN.out rfl rfl (by omega) OKY.out HA.out ?_;intro A' c' w2 hw2;rw [Q1.out] at hw2;have H2:=hide hw2;obtain ⟨e6,f6⟩:=RQ hw2;obtain ⟨e7,f7⟩:=RS hw2;refine hK.out _ _ e7 ?_;clear hK HA hw2 Q1
  (repeat (first | (refine fG (by rfl) (by rfl) ?_;try simp only [Act.put,List.setIfInBounds_toArray,List.set_cons_zero,List.set_cons_succ]) | (refine dW (v:=?_) (by rfl) (by rfl) ?_ ?_;rotate_left;(focus (intro w' hS';(try simp only [xM] at hS');go_simp;(try with_reducible rfl);done));try simp only [Act.put,List.setIfInBounds_toArray,List.set_cons_zero,List.set_cons_succ])))
  refine dO rfl (by rfl) (fun K hK=>?_);go_wp2;have okR:=OKR.out;have h3:=UG dX (aj av okR) H2.out (.slice A' (i+1) c');have H3:=hide h3;obtain ⟨e7',f7'⟩:=RS h3;refine hK.out _ _ e7' ?_;clear hK h3 e6 f6 e7 f7 H2;refine dO rfl (by rfl) (fun K hK=>?_);go_wp2;have h4:=UH dX av okR H3.out (.string (r.extract (bs x).size r.size));rw [q2] at h4;obtain ⟨e6,-⟩:=RQ h4;have H4:=hide (Run.qW (O:=fun p:Option Addr × Nat=>star (au c6 #[.slice p.1 (i+1) p.2] 26) (star (ig p.1 p.2 ((aM k (bl s)).1.take (i+1))) (au c7 #[.string (bs (fM k (i+1) (bl s)))] 9))) (A',c') (h4.perm (by ac_rfl)));refine hK.out _ _ trivial (sD ?_);clear hK H3 e7' f7' h4
  show Code.wpIn _ _ _ _ _ _ _
  generalize (w2.setCell ⟨c6,0,none⟩ (.slice A' (i+1) c')).setCell ⟨c7,0,none⟩ (.string (bs (fM k (i+1) (bl s))))=w3 at *
  by_cases h12:(12:Int) < (i:Int)+1
  ·have HX:=hide (show Run (fun _=>False) w (star (TP k (bl s) c6 c7 (.exit 0)) R) w3 from Run.qW (i+1) (Run.jF ⟨by omega,HI1.out⟩ H4.out));clear H4;gi_wp2;exact HX.out
  ·gi_wp2;exact H4.out
 case done =>
  intro D R W hR hI;obtain ⟨⟨A,c⟩,h1⟩:=hI.ex;dsimp only at h1 ⊢;obtain ⟨F6,h6⟩:=h1.assoc.fst;obtain ⟨F7,h7⟩:=h1.assoc.mh.assoc.mh.fst;have c6a:W.cell? ⟨c6,0,none⟩=some (.slice A (aM k (bl s)).1.length c):=ay (i:=0) h6 rfl;have c7a:W.cell? ⟨c7,0,none⟩=some (.string (bs (fM k (aM k (bl s)).1.length (bl s)))):=ay (i:=0) h7 rfl;have okD:(star (UY k (bl s) c6 c7 (aM k (bl s)).1.length A c) R).Ok:=aj (aj av (aj dX av)) hR;obtain ⟨FD,hD,-,bk⟩:=h1.mh.take bH okD;have hK:=hD.1;have HF:=hide ((bk _ _ (iy hD (.deferred none))).perm (by ac_rfl:_=star (ig A c ((aM k (bl s)).1.take (aM k (bl s)).1.length)) (star (au c6 #[.slice A (aM k (bl s)).1.length c] 26) (star (au c7 #[.string (bs (fM k (aM k (bl s)).1.length (bl s)))] 9) (star (bE D (.deferred none)) R)))));have HK:=hide hK;clear h1 h6 h7 hI S1 hK hD bk okD;rw [(GZ k (bl s)).2] at c7a;obtain ⟨n,hn⟩:∃ n,n=(aM k (bl s)).1.length:=⟨_,rfl⟩;have HX0:=hide (fun h:aT k (bl s)=((aM k (bl s)).1,0)=>show mO w k (bl s) (.returned (.tuple #[.slice A (aM k (bl s)).1.length c,.int .i64 0])) (W.putObj D (.deferred none)) from LB h (by have:=HF.out;rw [List.take_length] at this;exact this));have HN0:=hide (fun h:¬ ((aM k (bl s)).2=[]∧1≤n∧n≤12)=>show aT k (bl s)=([],1) from G8 (by rw [←hn];exact h));have HW0:=hide (fun h:(aM k (bl s)).2=[]∧1≤n∧n≤12=>show aT k (bl s)=((aM k (bl s)).1,0) from O9 (by rw [←hn];exact h));rw [←hn] at c6a HX0;clear hn;by_cases he:(aM k (bl s)).2=[]
  ·have he2:(bs (aM k (bl s)).2).toList=[]:=iJ.2 he;by_cases h0:n=0
   ·have t0:((n:Int) == 0)=true:=by simp [h0]
    have HN:=hide (HN0.out (by omega));clear HX0 HN0 HW0 he;go_wp2_with fail;refine ⟨by simp,.inl ⟨_,_,rfl,run_takeDeferred HK.out,?_⟩⟩;refine ⟨_,results_tmp2 rfl _ _ _,?_⟩;exact nW HN.out HF.out.mod
   ·have t0:((n:Int) == 0)=false:=by simp [h0]
    by_cases h12:(12:Int) < (n:Int)
    ·have HN:=hide (HN0.out (by omega));clear HX0 HN0 HW0 he;go_wp2_with fail;refine ⟨by simp,.inl ⟨_,_,rfl,run_takeDeferred HK.out,?_⟩⟩;refine ⟨_,results_tmp2 rfl _ _ _,?_⟩;exact nW HN.out HF.out.mod
    ·have HX:=hide (HX0.out (HW0.out ⟨he,by omega,by omega⟩));clear HX0 HN0 HW0 he;go_wp2_with fail;refine ⟨by simp,.inl ⟨_,_,rfl,run_takeDeferred HK.out,?_⟩⟩;refine ⟨_,results_tmp2 rfl _ _ _,?_⟩;exact HX.out
  ·have he2:¬ (bs (aM k (bl s)).2).toList=[]:=fun h=>he (iJ.1 h);have HN:=hide (HN0.out (fun h=>he h.1));clear HX0 HN0 HW0 he;go_wp2_with fail;refine ⟨by simp,.inl ⟨_,_,rfl,run_takeDeferred HK.out,?_⟩⟩;refine ⟨_,results_tmp2 rfl _ _ _,?_⟩;exact nW HN.out HF.out.mod
 case stop =>
  intro D c R W hR hI;have hI2:∃ i,(12 < i∧i≤(aM k (bl s)).1.length)∧c=.exit 0∧Run (fun _=>False) w (star (TN k (bl s) c6 c7 i) (star (bE D (.deferred (some []))) R)) W:=by
   unfold TP at hI;split at hI
   ·obtain ⟨i,hi⟩:=hI.ex;exact ⟨i,hi.pure.1,rfl,hi.pure.2⟩
   ·exact hI.no.elim
  clear hI;obtain ⟨i,⟨h12,hin⟩,rfl,hI⟩:=hI2;obtain ⟨⟨A,c⟩,h1⟩:=hI.ex;dsimp only at h1 ⊢;obtain ⟨F6,h6⟩:=h1.assoc.fst;obtain ⟨F7,h7⟩:=h1.assoc.mh.assoc.mh.fst;have c6a:W.cell? ⟨c6,0,none⟩=some (.slice A i c):=ay (i:=0) h6 rfl;have c7a:W.cell? ⟨c7,0,none⟩=some (.string (bs (fM k i (bl s)))):=ay (i:=0) h7 rfl;have okD:(star (UY k (bl s) c6 c7 i A c) R).Ok:=aj (aj av (aj dX av)) hR;obtain ⟨FD,hD,-,bk⟩:=h1.mh.take bH okD;have hK:=hD.1;have HF:=hide ((bk _ _ (iy hD (.deferred none))).perm (by ac_rfl:_=star (ig A c ((aM k (bl s)).1.take i)) (star (au c6 #[.slice A i c] 26) (star (au c7 #[.string (bs (fM k i (bl s)))] 9) (star (bE D (.deferred none)) R)))));have HK:=hide hK;clear h1 h6 h7 hI S1 hK hD bk okD;have HN:=hide (show aT k (bl s)=([],1) from G8 (by omega));have t0:((i:Int) == 0)=false:=by simp;omega
  have t12:(12:Int) < (i:Int):=by omega
  generalize fM k i (bl s)=rr at *
  by_cases he:(bs rr).toList=[]
  ·go_wp2_with fail;refine ⟨by simp,.inl ⟨_,_,rfl,run_takeDeferred HK.out,?_⟩⟩;refine ⟨_,results_tmp2 rfl _ _ _,?_⟩;exact nW HN.out HF.out.mod
  ·go_wp2_with fail;refine ⟨by simp,.inl ⟨_,_,rfl,run_takeDeferred HK.out,?_⟩⟩;refine ⟨_,results_tmp2 rfl _ _ _,?_⟩;exact nW HN.out HF.out.mod
end Go.Proofs.YtbnnlpjpnihheaaGreatDoor
namespace Go.Proofs.YtbnnlpjpnihheaaGreatDoor
open Go.RowKit Go.CH Go.CH.Scr
open Go.ChangeMaps (setBlock)

def fF (w:World) (A:Option Addr) (l:List Bs):Prop:=Src w A l.length 1 (lq l)
theorem aR {w w':World} {A:Option Addr} {n size:Nat} {xs:List Value} (h:Src w A n size xs) (hb:Below w.heap.size w w'):Src w' A n size xs :=
 ((Run.begin w).below aB hb).Uc h
theorem fF.below {w w':World} {A:Option Addr} {l:List Bs} (h:fF w A l) (hb:Below w.heap.size w w'):fF w' A l:=aR h hb
theorem fF.at {w:World} {A:Option Addr} {l:List Bs} (h:fF w A l) (hn:0 < l.length) :
  ∃ b o,A=some ⟨b,o,none⟩∧∀ w',Below w.heap.size w w'→∀ j (hj:j < l.length),w'.cell? ⟨b,o+j,none⟩=some (.string (bs l[j])):=by
 obtain ⟨b,o,rfl,hc⟩:=Src.open_ h hn (by omega);refine ⟨b,o,rfl,fun w' hb j hj=>?_⟩;have h1:=hc j _ (Lu hj);rw [hb.cell (World.block_lt_of_cell? _ _ h1)];exact h1
theorem wU {w:World} {F:Nat→Prop} {A:Option Addr} {c:Nat} {l:List Bs} (h:ig A c l w F):fF w A l:=iT h (Ls l)

def Cn (w:World) (k:Int) (l:Bs) (e:Ending) (w':World):Prop :=
 ∃ A c,e=.returned (.tuple #[.slice A (aT k l).1.length c,.int .i64 (aT k l).2])∧Below w.heap.size w w'∧fF w' A (aT k l).1
theorem uG (k:Int) (s:ByteArray) (w:World) (hs:s.size≤1000000) (hz:LZ w) :
  Calls Tryz.prog 24 #[.int .i64 k,.string s] w (Cn w k (bl s)):=by
 refine (jR k s w hs hz).mono ?_;rintro e w' ⟨A,c,rfl,F,h1,h2,h3⟩;exact ⟨A,c,rfl,h2.below (fun _ _ h=>h),wU h1⟩

def fO (k:Int) (l:Bs):Bs × Int:=if word k l then (lower l,0) else ([],1)
theorem zK:(∀ c ∈ bM,c.toNat < 128)∧(∀ c ∈ Cq,c.toNat < 128)∧(∀ c ∈ qC,c.toNat < 128)∧(∀ c ∈ Cr,c.toNat < 128)∧(∀ c ∈ nX,c.toNat < 128)∧(∀ c ∈ ([110]:Bs),c.toNat < 128):=by decide
theorem Jh {k:Int} {a:UInt8} {b:Option UInt8} (h:lg k a b≠0):a.toNat < 128:=by
 obtain ⟨s1,s2,s3,s4,s5,s6⟩:=zK;unfold lg at h;split at h
 ·split at h
  ·rename_i hh;exact s1 _ (iq.1 hh)
  ·exact absurd rfl h
 split at h
 ·split at h
  ·rename_i hh;refine Classical.byContradiction fun hc=>?_;rw [Ci a (by omega)] at hh;cases hh
  ·exact absurd rfl h
 split at h
 ·split at h
  ·rename_i hh;exact s2 _ (iq.1 hh)
  ·exact absurd rfl h
 split at h
 ·split at h
  ·rename_i hh;rw [Bool.and_eq_true] at hh;exact s4 _ (iq.1 hh.1)
  ·split at h
   ·rename_i hh;rw [Bool.or_eq_true] at hh;rcases hh with hh | hh
    ·exact s3 _ (iq.1 hh)
    ·exact s6 _ (iq.1 hh)
   ·exact absurd rfl h
 ·exact absurd rfl h
theorem Ji {k:Int} {c:UInt8} (h:has (sec k) (some c)=true):c.toNat < 128:=by
 obtain ⟨s1,s2,s3,s4,s5,s6⟩:=zK;have hm:=iq.1 h;unfold sec at hm;split at hm
 ·exact s5 _ hm
 split at hm
 ·exact s3 _ hm
 ·cases hm
theorem Bc {k:Int} {l:Bs} (h:len1 k l≠0):∀ b ∈ l.take (len1 k l),b.toNat < 128:=by
 cases l with
 | nil=>intro b hb;simp at hb
 | cons a t =>
  have h1:lg k a t.head?≠0:=h;have ha:=Jh h1
  show ∀ b ∈ (a :: t).take (lg k a t.head?),b.toNat < 128
  have hle:=wV (k:=k) (a:=a) (b:=t.head?);by_cases h2:lg k a t.head?=2
  ·have hs:=Bf h2;rw [h2];cases t with
   | nil=>intro b hb;simp at hb;rw [hb];exact ha
   | cons c t =>
    have hc:=Ji hs;intro b hb;simp at hb;rcases hb with rfl | rfl
    ·exact ha
    ·exact hc
  ·rw [show lg k a t.head?=1 by omega];intro b hb;simp at hb;rw [hb];exact ha
theorem Co {k:Int} {l:Bs} (h:word k l=true):∀ b ∈ l,b.toNat < 128:=by
 have key:∀ l:Bs,(aM k l).2=[]→∀ b ∈ l,b.toNat < 128:=fun l=>by
  refine kL (k:=k) (P:=fun l=>(aM k l).2=[]→∀ b ∈ l,b.toNat < 128) (fun l h he b hb=>?_) (fun l h ih he b hb=>?_) l
  ·rw [dL h] at he;have he:l=[]:=he;rw [he] at hb;cases hb
  ·rw [eH h] at he;have:=ih he;rw [←List.take_append_drop (len1 k l) l] at hb;rcases List.mem_append.1 hb with hb | hb
   ·exact Bc h b hb
   ·exact this b hb
 exact key l (dz.1 h).1
theorem rR (k:Int) (s:ByteArray) (w:World) (hs:s.size≤1000000) (hz:LZ w) :
  Calls Tryz.prog 23 #[.int .i64 k,.string s] w (aP w (.tuple #[.string (bs (fO k (bl s)).1),.int .i64 (fO k (bl s)).2])):=by
 have HZ:=hide hz;have HL:=hide (uG k s w hs hz);have HF:=hide (fun W (h:Below w.heap.size w W)=>Tryz.strings_ToLower_any s W (by omega) (HZ.out.below h).c (HZ.out.below h).t);by_cases hw:word k (bl s)=true
 ·have e1:aT k (bl s)=((aM k (bl s)).1,0):=by unfold aT;rw [if_pos hw]
  have e2:fO k (bl s)=(lower (bl s),0):=by unfold fO;rw [if_pos hw]
  have e3:(⟨(Lib.toLowerD (bl s)).toArray⟩:ByteArray)=bs (lower (bl s)):=by
   rw [Lib.toLowerD_ascii _ (Co hw),nU];rfl
  unfold Cn at HL;simp only [e1] at HL;simp only [e3] at HF;rw [e2];clear e1 e2 e3 hw hz
  go_enter Tryz.func23,Tryz.ntmps23
  go_wp2_with fail;refine HL.out.mono ?_;rintro e9 w1 ⟨A,c,rfl,hb,-⟩;have HB:=hide hb;have KF:=hide (HF.out w1 hb);clear hb HL HF;dsimp only;go_wp2_with fail;refine KF.out.mono ?_;rintro e9 w2 ⟨rfl,hb⟩;have HB2:=hide (aC HB.out hb);clear KF HB hb;go_wp2;refine bodyPost_ret (results_tmp2 rfl _ _ _) rfl ?_;exact ⟨rfl,HB2.out⟩
 ·have e1:aT k (bl s)=([],1):=by unfold aT;rw [if_neg hw]
  have e2:fO k (bl s)=([],1):=by unfold fO;rw [if_neg hw]
  unfold Cn at HL;simp only [e1] at HL;rw [e2];clear e1 e2 hw hz HF
  go_enter Tryz.func23,Tryz.ntmps23
  go_wp2_with fail;refine HL.out.mono ?_;rintro e9 w1 ⟨A,c,rfl,hb,-⟩;have HB:=hide hb;clear hb HL;dsimp only;go_wp2;refine bodyPost_ret (results_tmp2 rfl _ _ _) rfl ?_;exact ⟨rfl,HB.out⟩
end Go.Proofs.YtbnnlpjpnihheaaGreatDoor
