import Derived.Test.YtbnnlpjpnihheaaGreatDoorMD2
import Derived.OrdersIn
import Derived.TacticsIn
import Derived.Test.YtbnnlpjpnihheaaGreatDoorMD1
import Derived.Lib.IndexAny
import Derived.Deep.QuietTactic
import Derived.BigQuiet
import Derived.Deep.DeepCutAuto
import Derived.IntWalk
import Derived.WalkKit
import Derived.OwnWalkIn
import Derived.TacticsInMore
import Derived.LoopNIn
import Derived.LoopIn
set_option linter.unusedSimpArgs false
set_option linter.unusedVariables false
namespace Go.CH
open Go.RowKit
section
variable {P:Program} {l n:Nat} {o:Oper} {ops:Array Oper} {a:Act} {w:World} {K:Act→World→Prop} {Q:Exit→Act→World→Prop}
def noDefer (o:Oper):Bool:=match o.op with | .defer _=>false | _=>true
theorem noDefer_ne (h:noDefer o=true):∀ c,o.op≠.defer c:=fun c e=>by unfold noDefer at h;rw [e] at h;cases h
theorem oper_in (hd:noDefer o=true) (h:o.wp P a w K Q):o.wpIn (Fence.wide.inRound l) n P a w K Q:=by
 unfold Oper.wp at h
 refine ⟨fun _ _=>trivial,?_⟩
 have e:(Fence.wide.inRound l).round=some l:=rfl
 rw [e,Oper.semAt_some l _ _ (noDefer_ne hd)]
 generalize (execOp a.eval o).run P w=r at h ⊢
 have hdep:(Fence.wide.inRound l).depth.isSome=true→1≤n:=fun h=>by cases h
 cases r with
 | ok x w' =>
  cases x <;> first
   | exact h
   | exact h.elim
   | (refine ⟨hdep,(CallsIn.inRound l (callsIn_wide.2 h)).mono fun e w'' he=>?_⟩
      cases e <;> exact he)
   | exact ⟨hdep,fun c cs _=>let ⟨v,w',r,s⟩:=h c cs; ⟨v,w',r,stepsIn_wide.2 s⟩⟩
 | halt x w' =>
  cases x <;> first | exact h | exact h.elim
theorem opIn_of (hout:¬ LetsOut Q) {i:Nat} (hd:∀ o:Oper,ops[i]?=some o→noDefer o=true) (h:wpOp P ops Q i K a w):wpOpIn (Fence.wide.inRound l) n P ops Q i K a w:=by
 unfold wpOp at h
 unfold wpOpIn
 cases ho:ops[i]? with
 | none=>simp only [ho] at h;exact h
 | some o =>
  simp only [ho] at h ⊢
  by_cases hw:Region.wanted o (yielded ops a.tmps)=true
  ·rw [if_pos hw] at h ⊢
   rcases h with h | ⟨_,h⟩
   ·exact oper_in (hd o ho) h
   ·exact absurd h hout
  ·rw [if_neg hw] at h ⊢;exact ⟨fun _ _=>trivial,h⟩
theorem anyIn_of (hout:¬ LetsOut Q) {md:Region.Mode} (hd:∀ (i:Nat) (o:Oper),ops[i]?=some o→noDefer o=true):∀ (fuel:Nat) (listed:Array Bool) (a:Act) (w:World),wpAny P md ops Q fuel listed a w→wpAnyIn (Fence.wide.inRound l) n P md ops Q fuel listed a w:=by
 intro fuel
 induction fuel with
 | zero=>intro listed a w h;exact h
 | succ fuel ih =>
  intro listed a w h
  exact ⟨h.1,fun i hi=>wpOpIn_mono (fun a w=>ih _ a w) (opIn_of hout (hd i) (h.2 i hi))⟩
theorem listIn_of (hout:¬ LetsOut Q):∀ (r:List Oper) (a:Act) (w:World),r.all noDefer=true→wpList P ops Q r a w→wpListIn (Fence.wide.inRound l) n P ops Q r a w:=by
 intro r
 induction r with
 | nil=>intro a w _ h;exact h
 | cons o r ih =>
  intro a w hd h
  rw [List.all_cons,Bool.and_eq_true] at hd
  unfold wpList at h
  unfold wpListIn
  by_cases hw:Region.wanted o (yielded ops a.tmps)=true
  ·rw [if_pos hw] at h ⊢
   rcases h with h | ⟨_,h⟩
   ·exact Oper.wpIn_mono (fun a w=>ih a w hd.2) (oper_in hd.1 h)
   ·exact absurd h hout
  ·rw [if_neg hw] at h ⊢;exact ⟨fun _ _=>trivial,ih _ _ hd.2 h⟩

theorem region_in {id:Nat} {r:List Oper} (hd:r.all noDefer=true) (hout:¬ LetsOut Q) (h:wpList P r.toArray Q r a w):(Code.region id r.toArray false).wpIn (Fence.wide.inRound l) n P Q a w:=by
 refine wpIn_region ?_
 rw [List.range_eq_range',←Array.length_toList,wpOpsIn_eq_wpListIn r.toArray.toList 0 (by simp)]
 simp only [List.toList_toArray]
 exact listIn_of hout r a w hd h
theorem all_ops {r:List Oper} (hd:r.all noDefer=true):∀ (i:Nat) (o:Oper),r.toArray[i]?=some o→noDefer o=true:=fun i o ho=>by
 rw [List.getElem?_toArray] at ho
 exact List.all_eq_true.1 hd o (List.mem_of_getElem? ho)

theorem region_in_lex {id:Nat} {r:List Oper} (S:World→Prop) (hd:r.all noDefer=true) (hout:¬ LetsOut Q) (hm:P.follows .mixedOrders=true) (hB:lexOk r.toArray=true) (hS:S w.drew)
  (h:wpLex P r.toArray S Q r a w.drew):(Code.region id r.toArray true).wpIn (Fence.wide.inRound l) n P Q a w:=by
 refine wpIn_region_any hm (anyIn_of hout (all_ops hd) _ _ _ _ ?_)
 have hu:unl r.toArray (Array.replicate r.toArray.size false)=List.range r.toArray.size:=by
  unfold unl
  refine List.filter_eq_self.2 fun i hi=>?_
  have:=List.mem_range.1 hi
  simp at this
  simp [this]
 refine wpAny_of_lx (S:=S) hB _ _ _ _ (by rw [hu];simp) (by simp) ?_ hS ?_
 ·intro j o ho hl
  have:j < r.length:=by have:=(Array.getElem?_eq_some_iff.1 ho).1;simpa using this
  simp [this] at hl
 ·rw [hu]
  have:=lx_of_lex (P:=P) (ops:=r.toArray) (S:=S) (Q:=Q) r 0 a w.drew (by simp) h
  simpa [List.range_eq_range'] using this
end
end Go.CH
namespace Go.CH
open Go.RowKit
open Go.ChangeMaps (setBlock)
section
variable {P:Program}
theorem bytes_dec (a b:ByteArray):(a == b)=decide (a=b):=by
 rw [Bool.eq_iff_iff,Go.MapKept.bytes_beq];simp
theorem toList_inj {a b:ByteArray}:a.toList=b.toList↔a=b:=by
 constructor
 ·intro h
  rw [ByteArray.toList_eq,ByteArray.toList_eq] at h
  cases a;cases b;simp at h;rw [h]
 ·rintro rfl;rfl
theorem toList_beq (a b:ByteArray):(a.toList == b.toList)=decide (a=b):=by
 rw [Bool.eq_iff_iff,beq_iff_eq,toList_inj];simp
end
section
variable {α:Type} [DecidableEq α] {P:Program} {kv:α→Value} {t K E:TypeId}
theorem mapO_put (H:KeyOk P K kv) (ht:P.underlying t=some (.map K E)) {b:Nat} {l:List (α × Value)} {w:World} {F:Nat→Prop} (h:MapO kv b l w F) (k:α) (v:Value) :
  ∃ w',(Instr.mapUpdate t (.map (some b)) (kv k) v).run P w=.ok () w'∧Post w F (MapO kv b (mput l k v)) w':=by
 obtain ⟨⟨es,clock,h1,h2⟩,hF⟩:=h
 obtain ⟨es',clock',h3,h4⟩:=run_mapUpdate H ht h2 b k v
 exact ⟨_,h4 w h1,F,⟨⟨es',clock',heap_setBlock_self h1,h3⟩,hF⟩,(Mod.refl _ _).setBlock _ (fun _=>(hF b).2 rfl),fun i hi=>.inl hi⟩
theorem mapO_get {z:Value} (H:KeyOk P K kv) (ht:P.underlying t=some (.map K E)) (hz:∀ w,(zeroValue E).run P w=.ok z w) {b:Nat} {l:List (α × Value)} {w:World} {F:Nat→Prop} (h:MapO kv b l w F) (k:α) :
  (Instr.lookup t (.map (some b)) (kv k) false).run P w=.ok ((mget l k).getD z) w:=by
 obtain ⟨⟨es,clock,h1,h2⟩,hF⟩:=h
 exact run_lookup H ht hz h2 k w h1
theorem mput_new_ {l:List (α × Value)} {k:α} {v:Value} (h:k ∉ l.map (·.1)):mput l k v=l ++ [(k,v)]:=by
 cases hf:fnd k l 0 with
 | none=>exact (fnd_none hf).2 v
 | some p =>
  obtain ⟨j,u⟩:=p
  obtain ⟨n,h1,h2,h3⟩:=fnd_some hf
  exact absurd (List.mem_map.2 ⟨(k,u),List.mem_of_getElem? h2,rfl⟩) h
theorem mget_none_ {k:α}:∀ {l:List (α × Value)},k ∉ l.map (·.1)→mget l k=none
 | [],_=>rfl
 | (a,u) :: l,h=>by
  simp only [List.map_cons,List.mem_cons,not_or] at h
  rw [mget_cons,if_neg h.1,mget_none_ h.2]
theorem mget_all {k:α} {v:Value}:∀ {l:List α},mget (l.map fun x=>(x,v)) k=if k ∈ l then some v else none
 | []=>rfl
 | a :: l=>by
  rw [List.map_cons,mget_cons,mget_all]
  by_cases h:k=a
  ·simp [h]
  ·simp [h]
end
end Go.CH
namespace Go.Proofs.YtbnnlpjpnihheaaGreatDoor
open Go.RowKit Go.CH Go.CH.Scr
open Go.ChangeMaps (setBlock)
def BelowRet (w:World) (v:Value) (e:Ending) (w':World):Prop:=e=.returned v∧Below w.heap.size w w'
def Quiet (w:World) (v:Value) (e:Ending) (w':World):Prop:=e=.returned v∧w=w'

abbrev bl (s:ByteArray):Bs:=s.data.toList
def bs (l:Bs):ByteArray:=⟨l.toArray⟩
theorem bl_bs (l:Bs):bl (bs l)=l:=rfl
theorem bs_bl (s:ByteArray):bs (bl s)=s:=by cases s;rfl
theorem bl_len (s:ByteArray):(bl s).length=s.size:=by cases s;rfl
theorem bs_size (l:Bs):(bs l).size=l.length:=by cases l;rfl;rfl
theorem bs_inj {a b:Bs} (h:bs a=bs b):a=b:=by have:=congrArg bl h;exact this
theorem bl_inj {a b:ByteArray} (h:bl a=bl b):a=b:=by rw [←bs_bl a,←bs_bl b,h]
theorem bl_at (s:ByteArray) (i:Nat) (h:i < s.size):(bl s)[i]?=some s[i]:=Lib.data_getElem? s i h
theorem bl_no (s:ByteArray) (i:Nat) (h:¬ i < s.size):(bl s)[i]?=none:=List.getElem?_eq_none (by rw [bl_len];omega)
theorem quiet_bool {w:World} {a b:Bool} (h:a=b):Quiet w (.bool b) (.returned (.bool a)) w:=⟨by rw [h],rfl⟩
theorem indexByte_has (S:Bs) (x:UInt8):decide (0≤Lib.indexByte S x)=has S (some x):=(Lib.contains_iff_indexByte S x).symm
theorem u8_back (x:UInt8):((x.toNat:Int)).toNat.toUInt8=x:=by simp
set_option maxHeartbeats 1600000 in
theorem is_any (s S:ByteArray) (i:Nat) (w:World) (hs:s.size≤maxLen) :
  Calls Tryz.prog 123 #[.string s,.int .i64 (i:Int),.string S] w (Quiet w (.bool (has (bl S) (bl s)[i]?))):=by
 by_cases h:i < s.size
 ·rw [bl_at s i h]
  obtain ⟨x,hx⟩:∃ x:UInt8,s[i]=x:=⟨_,rfl⟩
  rw [hx]
  have KI:=hide (Tryz.strings_IndexByte S (x.toNat:Int) w)
  rw [u8_back] at KI
  have HB:=hide (indexByte_has (bl S) x)
  generalize has (bl S) (some x)=r at *
  have hx256:=x.toNat_lt
  have hi:(i:Int) < (s.size:Int):=by omega
  go_enter Tryz.func123,Tryz.ntmps123
  generalize Lib.indexByte (bl S) x=ix at *
  go_wp2_with fail
  refine KI.out.mono ?_
  rintro e9 w9 ⟨rfl,rfl⟩
  clear KI
  go_wp2
  go_ret
  exact quiet_bool HB.out
 ·rw [bl_no s i h]
  have hi:¬ (i:Int) < (s.size:Int):=by omega
  go_enter Tryz.func123,Tryz.ntmps123
  go_wp2
  go_ret
  exact quiet_bool rfl
end Go.Proofs.YtbnnlpjpnihheaaGreatDoor
namespace Go.Proofs.YtbnnlpjpnihheaaGreatDoor
open Go.RowKit Go.CH Go.CH.Scr
open Go.ChangeMaps (setBlock)

structure LZ (w:World):Prop where
 c:Lib.CaseVar 0 Lib.caseA w
 t:Lib.Utf8Tabs 2 3 w
 m:∃ m,w.cell? ⟨1,0,none⟩=some (.int .i64 m)
theorem LZ.below {w w':World} (h:LZ w) (hb:Below w.heap.size w w'):LZ w':=⟨Lib.CaseVar_below h.c hb,Utf8Tabs_below h.t hb,h.m.imp fun _ h=>by rw [hb.cell (World.block_lt_of_cell? _ _ h)];exact h⟩
theorem len1_at (k:Int) (l:Bs):len1 k l =
  if k=1 then (if has smallS l[0]? then 1 else 0)
  else if k=2 then (if has smallS (l[0]?.map low) then (if has accS l[1]? then 2 else 1) else 0)
  else if k=3 then (if has abjS l[0]? then 1 else 0)
  else if k=4 then (if has onsS l[0]? && has vowS l[1]? then 2 else if has vowS l[0]? || has [110] l[0]? then 1 else 0)
  else 0:=by
 cases l with
 | nil=>simp [len1,has]
 | cons a t =>
  show lt2 k a t.head?=_
  have e:t.head?=(a :: t)[1]?:=by cases t <;> rfl
  rw [e];rfl
theorem len1_k1 (l:Bs):len1 1 l=if has smallS l[0]?=true then 1 else 0:=by rw [len1_at];rfl
theorem len1_k2 (l:Bs):len1 2 l=if has smallS (l[0]?.map low)=true then (if has accS l[1]?=true then 2 else 1) else 0:=by rw [len1_at];rfl
theorem len1_k3 (l:Bs):len1 3 l=if has abjS l[0]?=true then 1 else 0:=by rw [len1_at];rfl
theorem len1_k4 (l:Bs):len1 4 l=if (has onsS l[0]? && has vowS l[1]?)=true then 2 else if (has vowS l[0]? || has [110] l[0]?)=true then 1 else 0:=by rw [len1_at];rfl
theorem len1_k0 {k:Int} (l:Bs) (h1:¬ k=1) (h2:¬ k=2) (h3:¬ k=3) (h4:¬ k=4):len1 k l=0:=by rw [len1_at,if_neg h1,if_neg h2,if_neg h3,if_neg h4]
theorem low_lib (c:UInt8):Lib.lowerB c=low c:=by
 have key:∀ n:Fin 256,Lib.lowerB (UInt8.ofNat n.val)=low (UInt8.ofNat n.val):=by decide +kernel
 have:=key ⟨c.toNat,c.toNat_lt⟩
 simpa using this
theorem toLowerA_is (l:Bs):Lib.toLowerA l=lower l:=List.map_congr_left fun c _=>low_lib c
theorem decode_high (c:UInt8) (h:128≤c.toNat):Lib.decodeL [c]=(65533,1):=by
 have key:∀ n:Fin 256,128≤n.val→Lib.decodeL [UInt8.ofNat n.val]=(65533,1):=by decide +kernel
 have:=key ⟨c.toNat,c.toNat_lt⟩ h
 simpa using this
theorem lower_err:Lib.toLowerU 65533=65533:=by decide +kernel
theorem encode_err:Lib.encodeRune 65533=[239,191,189]:=by decide +kernel
theorem has_high (c:UInt8) (h:128≤c.toNat):has smallS (some (low c))=false:=by
 have key:∀ n:Fin 256,128≤n.val→has smallS (some (low (UInt8.ofNat n.val)))=false:=by decide +kernel
 have:=key ⟨c.toNat,c.toNat_lt⟩ h
 simpa using this
theorem first_low (l:Bs) (hl:l.length≤1):has smallS (Lib.toLowerD l)[0]?=has smallS (l[0]?.map low):=by
 match l,hl with
 | [],_=>rfl
 | [c],_ =>
  by_cases hc:c.toNat < 128
  ·rw [Lib.toLowerD_ascii [c] (fun b hb=>by rw [List.mem_singleton.1 hb];exact hc),toLowerA_is];rfl
  ·show has smallS (Lib.mapD Lib.toLowerU [c])[0]?=has smallS (some (low c))
   rw [has_high c (by omega),Lib.mapD_step _ _ (by simp),decode_high c (by omega)]
   rw [show (((65533,1):Nat × Nat).1:Int)=65533 from rfl,lower_err,if_pos (by decide),encode_err]
   rfl
theorem low_len (l:Bs) (hl:l.length≤1):(Lib.toLowerD l).length≤10:=by
 match l,hl with
 | [],_=>decide
 | [c],_ =>
  by_cases hc:c.toNat < 128
  ·rw [Lib.toLowerD_ascii [c] (fun b hb=>by rw [List.mem_singleton.1 hb];exact hc),toLowerA_is];simp [lower]
  ·show (Lib.mapD Lib.toLowerU [c]).length≤10
   rw [Lib.mapD_step _ _ (by simp),decode_high c (by omega)]
   rw [show (((65533,1):Nat × Nat).1:Int)=65533 from rfl,lower_err,if_pos (by decide),encode_err]
   simp [Lib.mapD,Lib.mapGoD]
theorem bl_extract (s:ByteArray) (a b:Nat):bl (s.extract a b)=((bl s).take b).drop a:=by
 simp [bl,ByteArray.data_extract,List.drop_take]
def LenRet (w:World) (k:Int) (l:Bs) (e:Ending) (w':World):Prop:=e=.returned (.int .i64 (len1 k l:Nat))∧Below w.heap.size w w'
theorem len_ret0 {w w':World} {k:Int} {l:Bs} (h:len1 k l=0) (hb:Below w.heap.size w w'):LenRet w k l (.returned (.int .i64 0)) w':=⟨by rw [h];rfl,hb⟩
theorem len_ret1 {w w':World} {k:Int} {l:Bs} (h:len1 k l=1) (hb:Below w.heap.size w w'):LenRet w k l (.returned (.int .i64 1)) w':=⟨by rw [h];rfl,hb⟩
theorem len_ret2 {w w':World} {k:Int} {l:Bs} (h:len1 k l=2) (hb:Below w.heap.size w w'):LenRet w k l (.returned (.int .i64 2)) w':=⟨by rw [h];rfl,hb⟩
set_option maxRecDepth 100000 in
set_option maxHeartbeats 3200000 in
theorem length_any (k:Int) (s:ByteArray) (w:World) (hs:s.size≤1000000) (hz:LZ w) :
  Calls Tryz.prog 92 #[.int .i64 k,.string s] w (LenRet w k (bl s)):=by
 have hs0:s.size≤maxLen:=by unfold maxLen;omega
 have HZ:=hide hz
 clear hz
 by_cases hk:k=1
 ·subst hk
  have HE:=hide (len1_k1 (bl s))
  have K1:=hide (show Calls Tryz.prog 123 #[.string s,.int .i64 0,.string ⟨#[97,98,99,100,101,102,103,104,105,106,107,108,109,110,111,112,113,114,115,116,117,118,119,120,121,122]⟩] w (Quiet w (.bool (has smallS (bl s)[0]?))) from is_any s _ 0 w hs0)
  cases h1:has smallS (bl s)[0]? with
  | false =>
   have HL:=hide (show len1 1 (bl s)=0 by rw [HE.out,h1];rfl)
   rw [h1] at K1
   clear h1 HE
   go_enter Tryz.func92,Tryz.ntmps92
   go_wp2_with fail
   refine K1.out.mono ?_
   rintro e9 w9 ⟨rfl,rfl⟩
   clear K1
   go_wp2
   go_ret
   exact len_ret0 HL.out (Below.refl _ _)
  | true =>
   have HL:=hide (show len1 1 (bl s)=1 by rw [HE.out,h1];rfl)
   rw [h1] at K1
   clear h1 HE
   go_enter Tryz.func92,Tryz.ntmps92
   go_wp2_with fail
   refine K1.out.mono ?_
   rintro e9 w9 ⟨rfl,rfl⟩
   clear K1
   go_wp2
   go_ret
   exact len_ret1 HL.out (Below.refl _ _)
 have hk1:=hk
 clear hk
 by_cases hk:k=2
 ·subst hk
  have HE:=hide (len1_k2 (bl s))
  have K3:=hide (show ∀ W:World,Calls Tryz.prog 123 #[.string s,.int .i64 1,.string ⟨#[39,96,94]⟩] W (Quiet W (.bool (has accS (bl s)[1]?))) from fun W=>is_any s _ 1 W hs0)
  have HTL:=hide (fun (x:ByteArray) (hx:x.size≤1)=>Tryz.strings_ToLower_any x w (by omega) HZ.out.c HZ.out.t)
  have HIS:=hide (fun (x:ByteArray) (W:World) (hx:x.size≤10)=>show Calls Tryz.prog 123 #[.string x,.int .i64 0,.string ⟨#[97,98,99,100,101,102,103,104,105,106,107,108,109,110,111,112,113,114,115,116,117,118,119,120,121,122]⟩] W (Quiet W (.bool (has smallS (bl x)[0]?))) from is_any x _ 0 W (by unfold maxLen;omega))
  obtain ⟨x,hx⟩:∃ x,x=s.extract 0 (min 1 (s.size:Int)).toNat:=⟨_,rfl⟩
  have hxl:(bl x).length≤1∧(bl x)[0]?=(bl s)[0]?:=by
   have h1:bl x=(bl s).take 1:=by
    rw [hx,bl_extract,List.drop_zero]
    have h2:=bl_len s
    by_cases h0:s.size=0
    ·have e0:bl s=[]:=List.eq_nil_of_length_eq_zero (by omega)
     rw [e0];simp
    ·rw [show (min 1 (s.size:Int)).toNat=1 by omega]
   rw [h1]
   refine ⟨by rw [List.length_take];omega,?_⟩
   cases bl s <;> rfl
  have hxs:x.size≤1:=by rw [←bl_len];exact hxl.1
  have hyl:(Lib.toLowerD (bl x)).length≤10:=low_len _ hxl.1
  have hfl:=first_low (bl x) hxl.1
  rw [hxl.2] at hfl
  have KT0:=HTL.out x hxs
  have KI0:=fun W=>HIS.out (bs (Lib.toLowerD (bl x))) W (by rw [bs_size];exact hyl)
  simp only [bl_bs] at KI0
  rw [hfl] at KI0
  unfold bs at KI0
  generalize Lib.toLowerD (bl x)=y at KT0 KI0
  rw [hx] at KT0
  have KT:=hide KT0
  have KI:=hide KI0
  clear HTL HIS hxl hxs hyl hfl hx KT0 KI0
  cases h1:has smallS ((bl s)[0]?.map low) with
  | false =>
   have HL:=hide (show len1 2 (bl s)=0 by rw [HE.out,h1];rfl)
   rw [h1] at KI
   clear h1 HE K3
   go_enter Tryz.func92,Tryz.ntmps92
   go_wp2_with fail
   refine KT.out.mono ?_
   rintro e9 w1 ⟨rfl,hb⟩
   have HB:=hide hb
   have KI2:=hide (KI.out w1)
   clear KT hb KI
   go_wp2_with fail
   refine KI2.out.mono ?_
   rintro e9 w9 ⟨rfl,rfl⟩
   clear KI2
   go_wp2
   go_ret
   exact len_ret0 HL.out HB.out
  | true =>
   rw [h1] at KI
   cases h2:has accS (bl s)[1]? with
   | false =>
    have HL:=hide (show len1 2 (bl s)=1 by rw [HE.out,h1,h2];rfl)
    rw [h2] at K3
    clear h1 h2 HE
    go_enter Tryz.func92,Tryz.ntmps92
    go_wp2_with fail
    refine KT.out.mono ?_
    rintro e9 w1 ⟨rfl,hb⟩
    have HB:=hide hb
    have KI2:=hide (KI.out w1)
    have K4:=hide (K3.out w1)
    clear KT hb KI K3
    go_wp2_with fail
    refine KI2.out.mono ?_
    rintro e9 w9 ⟨rfl,rfl⟩
    clear KI2
    go_wp2_with fail
    refine K4.out.mono ?_
    rintro e9 w9 ⟨rfl,rfl⟩
    clear K4
    go_wp2
    go_ret
    exact len_ret1 HL.out HB.out
   | true =>
    have HL:=hide (show len1 2 (bl s)=2 by rw [HE.out,h1,h2];rfl)
    rw [h2] at K3
    clear h1 h2 HE
    go_enter Tryz.func92,Tryz.ntmps92
    go_wp2_with fail
    refine KT.out.mono ?_
    rintro e9 w1 ⟨rfl,hb⟩
    have HB:=hide hb
    have KI2:=hide (KI.out w1)
    have K4:=hide (K3.out w1)
    clear KT hb KI K3
    go_wp2_with fail
    refine KI2.out.mono ?_
    rintro e9 w9 ⟨rfl,rfl⟩
    clear KI2
    go_wp2_with fail
    refine K4.out.mono ?_
    rintro e9 w9 ⟨rfl,rfl⟩
    clear K4
    go_wp2
    go_ret
    exact len_ret2 HL.out HB.out
 have hk2:=hk
 clear hk
 by_cases hk:k=3
 ·subst hk
  have HE:=hide (len1_k3 (bl s))
  have K1:=hide (show Calls Tryz.prog 123 #[.string s,.int .i64 0,.string ⟨#[98,100,102,103,104,106,107,108,109,110,112,113,114,115,116,119,120,121,122,39]⟩] w (Quiet w (.bool (has abjS (bl s)[0]?))) from is_any s _ 0 w hs0)
  cases h1:has abjS (bl s)[0]? with
  | false =>
   have HL:=hide (show len1 3 (bl s)=0 by rw [HE.out,h1];rfl)
   rw [h1] at K1
   clear h1 HE
   go_enter Tryz.func92,Tryz.ntmps92
   go_wp2_with fail
   refine K1.out.mono ?_
   rintro e9 w9 ⟨rfl,rfl⟩
   clear K1
   go_wp2
   go_ret
   exact len_ret0 HL.out (Below.refl _ _)
  | true =>
   have HL:=hide (show len1 3 (bl s)=1 by rw [HE.out,h1];rfl)
   rw [h1] at K1
   clear h1 HE
   go_enter Tryz.func92,Tryz.ntmps92
   go_wp2_with fail
   refine K1.out.mono ?_
   rintro e9 w9 ⟨rfl,rfl⟩
   clear K1
   go_wp2
   go_ret
   exact len_ret1 HL.out (Below.refl _ _)
 have hk3:=hk
 clear hk
 by_cases hk:k=4
 ·subst hk
  have HE:=hide (len1_k4 (bl s))
  have K1:=hide (show Calls Tryz.prog 123 #[.string s,.int .i64 0,.string ⟨#[107,115,116,110,104,109,121,114,119,103,122,100,98,112]⟩] w (Quiet w (.bool (has onsS (bl s)[0]?))) from is_any s _ 0 w hs0)
  have K2:=hide (show Calls Tryz.prog 123 #[.string s,.int .i64 1,.string ⟨#[97,105,117,101,111]⟩] w (Quiet w (.bool (has vowS (bl s)[1]?))) from is_any s _ 1 w hs0)
  have K3:=hide (show Calls Tryz.prog 123 #[.string s,.int .i64 0,.string ⟨#[97,105,117,101,111]⟩] w (Quiet w (.bool (has vowS (bl s)[0]?))) from is_any s _ 0 w hs0)
  have K4:=hide (show Calls Tryz.prog 123 #[.string s,.int .i64 0,.string ⟨#[110]⟩] w (Quiet w (.bool (has [110] (bl s)[0]?))) from is_any s _ 0 w hs0)
  cases h1:has onsS (bl s)[0]? with
  | false =>
   rw [h1] at K1
   cases h3:has vowS (bl s)[0]? with
   | false =>
    rw [h3] at K3
    cases h4:has [110] (bl s)[0]? with
    | false =>
     have HL:=hide (show len1 4 (bl s)=0 by rw [HE.out,h1,h3,h4];rfl)
     rw [h4] at K4
     clear HE h1 h3 h4
     go_enter Tryz.func92,Tryz.ntmps92
     go_wp2_with fail
     refine K1.out.mono ?_
     rintro e9 w9 ⟨rfl,rfl⟩
     clear K1
     clear K2
     go_wp2_with fail
     refine K3.out.mono ?_
     rintro e9 w9 ⟨rfl,rfl⟩
     clear K3
     go_wp2_with fail
     refine K4.out.mono ?_
     rintro e9 w9 ⟨rfl,rfl⟩
     clear K4
     go_wp2
     go_ret
     exact len_ret0 HL.out (Below.refl _ _)
    | true =>
     have HL:=hide (show len1 4 (bl s)=1 by rw [HE.out,h1,h3,h4];rfl)
     rw [h4] at K4
     clear HE h1 h3 h4
     go_enter Tryz.func92,Tryz.ntmps92
     go_wp2_with fail
     refine K1.out.mono ?_
     rintro e9 w9 ⟨rfl,rfl⟩
     clear K1
     clear K2
     go_wp2_with fail
     refine K3.out.mono ?_
     rintro e9 w9 ⟨rfl,rfl⟩
     clear K3
     go_wp2_with fail
     refine K4.out.mono ?_
     rintro e9 w9 ⟨rfl,rfl⟩
     clear K4
     go_wp2
     go_ret
     exact len_ret1 HL.out (Below.refl _ _)
   | true =>
    rw [h3] at K3
    have HL:=hide (show len1 4 (bl s)=1 by rw [HE.out,h1,h3];rfl)
    clear HE h1 h3 K4
    go_enter Tryz.func92,Tryz.ntmps92
    go_wp2_with fail
    refine K1.out.mono ?_
    rintro e9 w9 ⟨rfl,rfl⟩
    clear K1
    clear K2
    go_wp2_with fail
    refine K3.out.mono ?_
    rintro e9 w9 ⟨rfl,rfl⟩
    clear K3
    go_wp2
    go_ret
    exact len_ret1 HL.out (Below.refl _ _)
  | true =>
   rw [h1] at K1
   cases h2:has vowS (bl s)[1]? with
   | false =>
    rw [h2] at K2
    cases h3:has vowS (bl s)[0]? with
    | false =>
     rw [h3] at K3
     cases h4:has [110] (bl s)[0]? with
     | false =>
      have HL:=hide (show len1 4 (bl s)=0 by rw [HE.out,h1,h2,h3,h4];rfl)
      rw [h4] at K4
      clear HE h1 h3 h4 h2
      go_enter Tryz.func92,Tryz.ntmps92
      go_wp2_with fail
      refine K1.out.mono ?_
      rintro e9 w9 ⟨rfl,rfl⟩
      clear K1
      go_wp2_with fail
      refine K2.out.mono ?_
      rintro e9 w9 ⟨rfl,rfl⟩
      clear K2
      go_wp2_with fail
      refine K3.out.mono ?_
      rintro e9 w9 ⟨rfl,rfl⟩
      clear K3
      go_wp2_with fail
      refine K4.out.mono ?_
      rintro e9 w9 ⟨rfl,rfl⟩
      clear K4
      go_wp2
      go_ret
      exact len_ret0 HL.out (Below.refl _ _)
     | true =>
      have HL:=hide (show len1 4 (bl s)=1 by rw [HE.out,h1,h2,h3,h4];rfl)
      rw [h4] at K4
      clear HE h1 h3 h4 h2
      go_enter Tryz.func92,Tryz.ntmps92
      go_wp2_with fail
      refine K1.out.mono ?_
      rintro e9 w9 ⟨rfl,rfl⟩
      clear K1
      go_wp2_with fail
      refine K2.out.mono ?_
      rintro e9 w9 ⟨rfl,rfl⟩
      clear K2
      go_wp2_with fail
      refine K3.out.mono ?_
      rintro e9 w9 ⟨rfl,rfl⟩
      clear K3
      go_wp2_with fail
      refine K4.out.mono ?_
      rintro e9 w9 ⟨rfl,rfl⟩
      clear K4
      go_wp2
      go_ret
      exact len_ret1 HL.out (Below.refl _ _)
    | true =>
     rw [h3] at K3
     have HL:=hide (show len1 4 (bl s)=1 by rw [HE.out,h1,h2,h3];rfl)
     clear HE h1 h3 K4 h2
     go_enter Tryz.func92,Tryz.ntmps92
     go_wp2_with fail
     refine K1.out.mono ?_
     rintro e9 w9 ⟨rfl,rfl⟩
     clear K1
     go_wp2_with fail
     refine K2.out.mono ?_
     rintro e9 w9 ⟨rfl,rfl⟩
     clear K2
     go_wp2_with fail
     refine K3.out.mono ?_
     rintro e9 w9 ⟨rfl,rfl⟩
     clear K3
     go_wp2
     go_ret
     exact len_ret1 HL.out (Below.refl _ _)
   | true =>
    have HL:=hide (show len1 4 (bl s)=2 by rw [HE.out,h1,h2];rfl)
    rw [h2] at K2
    clear HE h1 h2 K3 K4
    go_enter Tryz.func92,Tryz.ntmps92
    go_wp2_with fail
    refine K1.out.mono ?_
    rintro e9 w9 ⟨rfl,rfl⟩
    clear K1
    go_wp2_with fail
    refine K2.out.mono ?_
    rintro e9 w9 ⟨rfl,rfl⟩
    clear K2
    go_wp2
    go_ret
    exact len_ret2 HL.out (Below.refl _ _)
 have hk4:=hk
 clear hk
 have HL:=hide (show len1 k (bl s)=0 from len1_k0 _ hk1 hk2 hk3 hk4)
 have t1:(k == 1)=false:=by simpa using hk1
 have t2:(k == 2)=false:=by simpa using hk2
 have t3:(k == 3)=false:=by simpa using hk3
 have t4:(k == 4)=false:=by simpa using hk4
 clear hk1 hk2 hk3 hk4
 go_enter Tryz.func92,Tryz.ntmps92
 go_wp2
 go_ret
 exact len_ret0 HL.out (Below.refl _ _)
end Go.Proofs.YtbnnlpjpnihheaaGreatDoor
namespace Go.Proofs.YtbnnlpjpnihheaaGreatDoor
open Go.RowKit Go.CH Go.CH.Scr
open Go.ChangeMaps (setBlock)
theorem bel_trans {w w' w'':World} (h:Below w.heap.size w w') (h':Below w'.heap.size w' w''):Below w.heap.size w w'':=h.trans (h'.mono h.size)
theorem bel_bool {w w':World} {a b:Bool} (h:b=a) (hb:Below w.heap.size w w'):BelowRet w (.bool b) (.returned (.bool a)) w':=⟨by rw [h],hb⟩
end Go.Proofs.YtbnnlpjpnihheaaGreatDoor
namespace Go.Proofs.YtbnnlpjpnihheaaGreatDoor
open Go.RowKit Go.CH Go.CH.Scr
open Go.ChangeMaps (setBlock)
end Go.Proofs.YtbnnlpjpnihheaaGreatDoor
namespace Go.Proofs.YtbnnlpjpnihheaaGreatDoor
open Go.RowKit Go.CH Go.CH.Scr
open Go.ChangeMaps (setBlock)

def rst (k:Int):Nat→Bs→Bs
 | 0,l=>l
 | i+1,l=>(rst k i l).drop (len1 k (rst k i l))
theorem rst_ltrs (k:Int) (l:Bs):∀ i,i≤(ltrs k l).1.length→ltrs k (rst k i l)=((ltrs k l).1.drop i,(ltrs k l).2):=by
 intro i
 induction i with
 | zero=>intro _;rfl
 | succ i ih =>
  intro hi
  have h:=ih (by omega)
  have hd:(ltrs k l).1.drop i=(ltrs k l).1[i] :: (ltrs k l).1.drop (i+1):=List.drop_eq_getElem_cons (by omega)
  have hn:len1 k (rst k i l)≠0:=fun h0=>by
   rw [ltrs_stop h0,hd] at h
   cases h
  rw [ltrs_step hn,hd] at h
  show ltrs k ((rst k i l).drop (len1 k (rst k i l)))=_
  have h1:=congrArg Prod.fst h
  have h2:=congrArg Prod.snd h
  simp only [List.cons.injEq] at h1 h2
  exact Prod.ext h1.2 h2
theorem rst_at {k:Int} {l:Bs} {i:Nat} (hi:i < (ltrs k l).1.length):len1 k (rst k i l)≠0∧(ltrs k l).1[i]=(rst k i l).take (len1 k (rst k i l)):=by
 have h:=rst_ltrs k l i (by omega)
 have hd:(ltrs k l).1.drop i=(ltrs k l).1[i] :: (ltrs k l).1.drop (i+1):=List.drop_eq_getElem_cons (by omega)
 have hn:len1 k (rst k i l)≠0:=fun h0=>by
  rw [ltrs_stop h0,hd] at h
  cases h
 refine ⟨hn,?_⟩
 rw [ltrs_step hn,hd] at h
 have h1:=congrArg Prod.fst h
 simp only [List.cons.injEq] at h1
 exact h1.1.symm
theorem rst_end (k:Int) (l:Bs):len1 k (rst k (ltrs k l).1.length l)=0∧rst k (ltrs k l).1.length l=(ltrs k l).2:=by
 have h:=rst_ltrs k l _ (Nat.le_refl _)
 rw [List.drop_length] at h
 have hn:len1 k (rst k (ltrs k l).1.length l)=0:=by
  refine Classical.byContradiction fun hn=>?_
  rw [ltrs_step hn] at h
  cases h
 refine ⟨hn,?_⟩
 rw [ltrs_stop hn] at h
 exact congrArg Prod.snd h
theorem rst_le (k:Int) (l:Bs):∀ i,(rst k i l).length≤l.length:=by
 intro i
 induction i with
 | zero=>exact Nat.le_refl _
 | succ i ih=>show ((rst k i l).drop _).length≤_;rw [List.length_drop];omega

def Zl (k:Int) (l:Bs) (b1 b2 i:Nat):Go.CH.Own:=star (CellO b1 #[.int .i64 k] 3) (CellO b2 #[.string (bs (rst k i l))] 9)
theorem Zl_ok {k:Int} {l:Bs} {b1 b2:Nat} (i:Nat):(Zl k l b1 b2 i).Ok:=star_ok cell_ok cell_ok
def encL (x:Bs):Array Value:=#[.string (bs x)]
def leftL (b2:Nat) (w:World):Nat:=match w.cell? ⟨b2,0,none⟩ with | some (.string s)=>s.size | _=>0
theorem bs_take (l:Bs) (n:Nat):bs (l.take n)=(bs l).extract 0 n:=bl_inj (by rw [bl_extract,bl_bs,bl_bs,List.drop_zero])
theorem bs_drop (l:Bs) (n:Nat):bs (l.drop n)=(bs l).extract n (bs l).size:=bl_inj (by rw [bl_extract,bl_bs,bl_bs,bs_size,List.take_length])
theorem Zl_cells {k:Int} {l:Bs} {b1 b2 i:Nat} {F0:Nat→Prop} {w0 W:World} {X:Go.CH.Own} (h:Run F0 w0 (star (Zl k l b1 b2 i) X) W) :
  W.cell? ⟨b1,0,none⟩=some (.int .i64 k)∧W.cell? ⟨b2,0,none⟩=some (.string (bs (rst k i l)))∧W.frozen? ⟨b2,0,none⟩=false:=by
 obtain ⟨F,hF⟩:=(h.assoc).fst
 obtain ⟨F2,hF2⟩:=(h.assoc.rot).fst
 exact ⟨cell_at hF rfl,cell_at hF2 rfl,cell_free hF2 0⟩
theorem Zl_next {k:Int} {l:Bs} {b1 b2 i:Nat} {F0:Nat→Prop} {w0 W:World} {X:Go.CH.Own} (hX:X.Ok) (h:Run F0 w0 (star (Zl k l b1 b2 i) X) W) :
  Run F0 w0 (star (Zl k l b1 b2 (i+1)) X) (W.setCell ⟨b2,0,none⟩ (.string (bs (rst k (i+1) l)))):=by
 have h1:=h.assoc.rot
 obtain ⟨F,hF,-,bk⟩:=h1.take cell_ok (star_ok cell_ok hX)
 have h2:=bk _ _ (cell_set hF 0 (.string (bs (rst k (i+1) l))))
 exact (h2.perm (by ac_rfl):Run F0 w0 (star (star (CellO b1 #[.int .i64 k] 3) (CellO b2 (#[Value.string (bs (rst k i l))].setIfInBounds 0 (.string (bs (rst k (i+1) l)))) 9)) X) _)
theorem leftL_at {b2:Nat} {w:World} {s:ByteArray} (h:w.cell? ⟨b2,0,none⟩=some (.string s)):leftL b2 w=s.size:=by unfold leftL;rw [h]
set_option maxHeartbeats 3200000 in
theorem letters_iter (k:Int) (l:Bs) (b1 b2:Nat) (hl:l.length≤1000000) :
  IterK Tryz.prog 91 #[.pointer (some ⟨b1,0,none⟩),.pointer (some ⟨b2,0,none⟩)] LZ (Zl k l b1 b2) encL (ltrs k l).1:=by
 intro n lo W F0 w0 X Y okX okY hE h0 hY
 have HY:=hide hY
 have HE:=hide hE
 have HL:=hide (fun (t:ByteArray) (W:World) (ht:t.size≤1000000) (hz:LZ W)=>length_any k t W ht hz)
 clear hY hE
 obtain ⟨N,hN⟩:∃ N,N=(ltrs k l).1.length:=⟨_,rfl⟩
 refine callsIn_of_wp Tryz.func91 rfl trivial ?_ rfl
 simp only [Tryz.ntmps91,List.size_toArray,List.length_cons,List.length_nil,Nat.reduceAdd,Nat.reduceSub,Array.replicate_succ,Array.replicate_zero,List.push_toArray,List.append_toArray,List.nil_append,List.cons_append]
 obtain ⟨c1,c2,c3⟩:=Zl_cells h0
 have K0:=hide (HL.out (bs (rst k 0 l)) W (by rw [bs_size];exact hl) (HE.out W h0.mod))
 have H0:=hide h0
 clear h0
 gi_wp2_with (refine ⟨trivial,fun h=>(by cases h),?_⟩;gi_at_call 92;refine (callsIn_wide.2 K0.out).mono ?_;rintro e9 w9 ⟨rfl,hb⟩;clear K0;have H1:=hide (H0.out.below (star_ok (Zl_ok 0) (okX 0)) hb);clear H0 hb c1 c2 c3)
 gi_loopw [4] (fun p wr=>∃ i:Nat,i≤N∧p=.int .i64 (len1 k (rst k i l):Nat)∧Run F0 w0 (star (Zl k l b1 b2 i) (X i)) wr)
  (fun p wr=>leftL b2 wr)
 case atStart=>exact ⟨0,Nat.zero_le _,by rw [bl_bs],H1.out⟩
 case round =>
  clear H1
  obtain ⟨i,hi,rfl,hR⟩:=hrel
  have HR:=hide hR
  clear hR
  by_cases hlt:i < N
  ·have hlt':=hlt
   rw [hN] at hlt'
   obtain ⟨hn,hx⟩:=rst_at hlt'
   have hw:=HY.out i hlt' wr HR.out
   rw [hx,encL,bs_take] at hw
   obtain ⟨fn,tmps,assign,body,hy,hround⟩:=hw
   have HRD:=hide hround
   obtain ⟨c1,c2,c3⟩:=Zl_cells HR.out
   have HS:=hide (show bs (rst k (i+1) l)=_ from bs_drop (rst k i l) (len1 k (rst k i l)))
   have hle:len1 k (rst k i l)≤(bs (rst k i l)).size:=by rw [bs_size];exact len1_le
   have htn:(bs (rst k (i+1) l)).size≤1000000:=by rw [bs_size];exact Nat.le_trans (rst_le k l (i+1)) hl
   have hts:(bs (rst k i l)).size≤1000000:=by rw [bs_size];exact Nat.le_trans (rst_le k l i) hl
   have hsz:(bs (rst k (i+1) l)).size+len1 k (rst k i l)=(bs (rst k i l)).size:=by
    rw [bs_size,bs_size] at *
    show ((rst k i l).drop _).length+_=_
    rw [List.length_drop];omega
   have HA:=hide (fun (W':World) (h:Run F0 w0 (star (Zl k l b1 b2 i) (X (i+1))) W')=>show W'.cell? ⟨b1,0,none⟩=some (.int .i64 k)∧W'.cell? ⟨b2,0,none⟩=some (.string (bs (rst k i l)))∧W'.frozen? ⟨b2,0,none⟩=false from Zl_cells h)
   have HB:=hide (fun (W':World) (h:Run F0 w0 (star (Zl k l b1 b2 i) (X (i+1))) W')=>show
     Run F0 w0 (star (Zl k l b1 b2 (i+1)) (X (i+1))) (W'.setCell ⟨b2,0,none⟩ (.string ((bs (rst k i l)).extract (len1 k (rst k i l)) (bs (rst k i l)).size))) ∧
     (W'.setCell ⟨b2,0,none⟩ (.string ((bs (rst k i l)).extract (len1 k (rst k i l)) (bs (rst k i l)).size))).cell? ⟨b1,0,none⟩=some (.int .i64 k) ∧
     (W'.setCell ⟨b2,0,none⟩ (.string ((bs (rst k i l)).extract (len1 k (rst k i l)) (bs (rst k i l)).size))).cell? ⟨b2,0,none⟩=some (.string ((bs (rst k i l)).extract (len1 k (rst k i l)) (bs (rst k i l)).size)) ∧
     Calls Tryz.prog 92 #[.int .i64 k,.string ((bs (rst k i l)).extract (len1 k (rst k i l)) (bs (rst k i l)).size)] (W'.setCell ⟨b2,0,none⟩ (.string ((bs (rst k i l)).extract (len1 k (rst k i l)) (bs (rst k i l)).size)))
      (LenRet (W'.setCell ⟨b2,0,none⟩ (.string ((bs (rst k i l)).extract (len1 k (rst k i l)) (bs (rst k i l)).size))) k (rst k (i+1) l)) from by
    have h2:=Zl_next (okX (i+1)) h
    rw [HS.out] at h2
    obtain ⟨d1,d2,-⟩:=Zl_cells h2
    rw [HS.out] at d2
    refine ⟨h2,d1,d2,?_⟩
    have h3:=HL.out (bs (rst k (i+1) l)) _ htn (HE.out _ h2.mod)
    rw [bl_bs,HS.out] at h3
    exact h3)
   have HZ:=hide (fun (W':World) (hb:Run F0 w0 (star (Zl k l b1 b2 (i+1)) (X (i+1))) W')=>show leftL b2 W'=(bs (rst k (i+1) l)).size from leftL_at (Zl_cells hb).2.1)
   have HZ0:=hide (show leftL b2 wr=(bs (rst k i l)).size from leftL_at c2)
   have HN2:=hide (fun (W W':World) (h:Run F0 w0 (star (Zl k l b1 b2 (i+1)) (X (i+1))) W) (hb:Below W.heap.size W W')=>h.below (star_ok (Zl_ok (i+1)) (okX (i+1))) hb)
   clear HS HL HE HY HR hx hN hl hlt'
   have hrel2:∀ W',Run F0 w0 (star (Zl k l b1 b2 (i+1)) (X (i+1))) W'→∃ i':Nat,i'≤N∧Value.int .i64 (len1 k (rst k (i+1) l):Nat)=.int .i64 (len1 k (rst k i' l):Nat)∧Run F0 w0 (star (Zl k l b1 b2 i') (X i')) W':=fun W' h=>⟨i+1,hlt,rfl,h⟩
   have HREL:=hide hrel2
   have hstop:∀ W',Run F0 w0 (star (Zl k l b1 b2 i) Y) W'→(∃ v,(Ending.returned (.tuple #[]))=.returned v)∧(Run F0 w0 (star (Zl k l b1 b2 (ltrs k l).1.length) (X (ltrs k l).1.length)) W'∨∃ i,Run F0 w0 (star (Zl k l b1 b2 i) Y) W'):=fun W' h=>⟨⟨_,rfl⟩,.inr ⟨i,h⟩⟩
   have HSTOP:=hide hstop
   clear hrel2 hstop
   generalize hsz2:(bs (rst k (i+1) l)).size=s2 at *
   generalize ht:bs (rst k i l)=t at *
   generalize hn1:len1 k (rst k i l)=n1 at *
   clear hsz2 ht hn1
   have hn0:0 < n1:=by omega
   clear hn
   gi_wp2
   refine ⟨fun h=>(by cases h),?_⟩
   clear c1 c2 c3 hy
   refine HRD.out.mono ?_
   rintro e W3 (⟨rfl,h3⟩ | ⟨rfl,h3⟩)
   ·obtain ⟨h4,d1,d2,K4⟩:=HB.out W3 h3
    obtain ⟨a1,a2,a3⟩:=HA.out W3 h3
    have H4:=hide h4
    have KK:=hide K4
    have HZZ:=hide (show leftL b2 W3=t.size from leftL_at a2)
    clear HRD HB HA h3 h4 K4
    gi_wp2_with (refine ⟨trivial,fun h=>(by cases h),?_⟩;gi_at_call 92;refine (callsIn_wide.2 KK.out).mono ?_;rintro e9 w9 ⟨rfl,hb⟩;clear KK)
    have h5:=HN2.out _ _ H4.out hb
    go_roundw
    case rel=>exact HREL.out _ h5
    case measure=>rw [HZ.out _ h5,HZ0.out];omega
   ·have HR3:=hide (HSTOP.out _ h3)
    clear HRD HB HA h3
    gi_wp2
    go_end0
    exact HR3.out
  ·obtain rfl:i=N:=by omega
   have hz:len1 k (rst k i l)=0:=by rw [hN];exact (rst_end k l).1
   have hend:(∃ v,(Ending.returned (.tuple #[]))=.returned v)∧(Run F0 w0 (star (Zl k l b1 b2 (ltrs k l).1.length) (X (ltrs k l).1.length)) wr∨∃ i,Run F0 w0 (star (Zl k l b1 b2 i) Y) wr):=⟨⟨_,rfl⟩,.inl (by rw [←hN];exact HR.out)⟩
   have HEND:=hide hend
   clear hend
   rw [hz]
   gi_wp2
   refine ⟨fun _ h=>(by cases h),?_⟩
   gi_wp2
   go_end0
   exact HEND.out
end Go.Proofs.YtbnnlpjpnihheaaGreatDoor
namespace Go.CH
open Go.RowKit
section
variable {P:Program} {ops:Array Oper} {Ts:List Nat} {St:Nat→World→Prop} {Q:Exit→Act→World→Prop}

def stL:List (World→Prop)→Nat→World→Prop
 | [],_,_=>True
 | S :: _,0,w=>S w
 | _ :: l,n+1,w=>stL l n w

def downs:List (World→Prop)→Prop
 | []=>True
 | [_]=>True
 | S :: T :: l=>(∀ w,S w→T w)∧downs (T :: l)
theorem stL_mono:∀ (l:List (World→Prop)),downs l→∀ c w,stL l c w→stL l (c+1) w
 | [],_,_,_,_=>trivial
 | [_],_,0,_,_=>trivial
 | [_],_,_+1,_,_=>trivial
 | S :: T :: l,h,0,w,hs=>h.1 w hs
 | S :: T :: l,h,c+1,w,hs=>stL_mono (T :: l) h.2 c w hs
def wpLes (P:Program) (ops:Array Oper) (St:Nat→World→Prop) (Q:Exit→Act→World→Prop):List Nat→List Oper→Act→World→Prop
 | _,[],a,w=>Q .normal a w
 | [],_ :: _,_,_=>False
 | n :: lv,o :: r,a,w=>(chainK o.op=false∧∃ v,YieldsIf P ops (St n) o v a∧wpLes P ops St Q lv r (a.put o.dst v) w) ∨
   (chainK o.op=true∧Region.wanted o (yielded ops a.tmps)=true∧o.wp P a w (fun a' w'=>St n w'∧wpLes P ops St Q lv r a' w') NoExit)
theorem lw_of_les:∀ (l:List Oper) (lv:List Nat) (k:Nat) (a:Act) (w:World),(∀ j,l[j]?=ops[k+j]?)→(∀ j,j < l.length→lv[j]?=some (lev ops Ts (k+j)))→wpLes P ops St Q lv l a w→wpLw P ops Ts St Q (List.range' k l.length) a w
 | [],lv,_,_,_,_,_,h=>by cases lv <;> exact h
 | o :: l,[],k,a,w,hl,hv,h=>h.elim
 | o :: l,n :: lv,k,a,w,hl,hv,h=>by
  have h0:ops[k]?=some o:=by simpa using (hl 0).symm
  have hn:n=lev ops Ts k:=by have:=hv 0 (by simp);simpa using this
  have ei:isChain ops k=chainK o.op:=by simp [isChain,h0]
  have ih:=fun a w=>lw_of_les l lv (k+1) a w (fun j=>by have:=hl (j+1);simpa [Nat.add_assoc,Nat.add_comm 1 j] using this)
   (fun j hj=>by have:=hv (j+1) (by simpa using hj);simpa [Nat.add_assoc,Nat.add_comm 1 j] using this)
  simp only [List.length_cons,List.range'_succ]
  unfold wpLw
  simp only [h0]
  unfold lev at hn
  rcases h with ⟨h0,v,h1,h2⟩ | ⟨h1,h2,h3⟩
  ·rw [ei,h0] at hn
   have hn:n=lvl ops Ts k:=by simpa using hn
   subst hn
   exact .inl ⟨h0,v,h1,ih _ _ h2⟩
  ·rw [ei,h1] at hn
   have hn:n=chl Ts k:=by simpa using hn
   subst hn
   exact .inr ⟨h1,h2,Oper.wp_mono (fun a' w' hk=>⟨hk.1,ih _ _ hk.2⟩) h3⟩
theorem wp_region_les {id:Nat} {l:List Oper} {a:Act} {w:World} (Ts lv:List Nat) (S0:World→Prop) (Sl:List (World→Prop)) (hdn:downs (S0 :: Sl)) (hm:P.follows .mixedOrders=true) (hB:lexOk l.toArray=true) (hL:lvOk l.toArray Ts=true) (hlv:levs l.toArray Ts=lv) (hS:S0 w.drew)
  (h:wpLes P l.toArray (stL (S0 :: Sl)) Q lv l a w.drew):(Code.region id l.toArray true).wp P Q a w:=by
 refine wp_region_any hm ?_
 have hu:unl l.toArray (Array.replicate l.toArray.size false)=List.range l.toArray.size:=by
  unfold unl
  refine List.filter_eq_self.2 fun i hi=>?_
  have:=List.mem_range.1 hi
  simp at this
  simp [this]
 refine wpAny_of_lw (Ts:=Ts) (St:=stL (S0 :: Sl)) (stL_mono _ hdn) hB hL _ _ _ _ (by rw [hu];simp) (by simp) ?_ ⟨0,hS,fun i _ _=>by split <;> omega⟩ ?_
 ·intro j o ho hl
  have:j < l.length:=by have:=(Array.getElem?_eq_some_iff.1 ho).1;simpa using this
  simp [this] at hl
 ·rw [hu]
  have:=lw_of_les (P:=P) (ops:=l.toArray) (Ts:=Ts) (St:=stL (S0 :: Sl)) (Q:=Q) l lv 0 a w.drew (by simp) (fun j hj=>by
   rw [←hlv];unfold levs;rw [List.getElem?_map,List.getElem?_range (by simpa using hj)];simp) h
  simpa [List.range_eq_range'] using this
theorem region_in_les {l n:Nat} {a:Act} {w:World} {id:Nat} {r:List Oper} (Ts lv:List Nat) (S0:World→Prop) (Sl:List (World→Prop)) (hdn:downs (S0 :: Sl)) (hd:r.all noDefer=true) (hout:¬ LetsOut Q) (hm:P.follows .mixedOrders=true) (hB:lexOk r.toArray=true) (hL:lvOk r.toArray Ts=true) (hlv:levs r.toArray Ts=lv) (hS:S0 w.drew)
  (h:wpLes P r.toArray (stL (S0 :: Sl)) Q lv r a w.drew):(Code.region id r.toArray true).wpIn (Fence.wide.inRound l) n P Q a w:=by
 refine wpIn_region_any hm (anyIn_of hout (all_ops hd) _ _ _ _ ?_)
 have hu:unl r.toArray (Array.replicate r.toArray.size false)=List.range r.toArray.size:=by
  unfold unl
  refine List.filter_eq_self.2 fun i hi=>?_
  have:=List.mem_range.1 hi
  simp at this
  simp [this]
 refine wpAny_of_lw (Ts:=Ts) (St:=stL (S0 :: Sl)) (stL_mono _ hdn) hB hL _ _ _ _ (by rw [hu];simp) (by simp) ?_ ⟨0,hS,fun i _ _=>by split <;> omega⟩ ?_
 ·intro j o ho hl
  have:j < r.length:=by have:=(Array.getElem?_eq_some_iff.1 ho).1;simpa using this
  simp [this] at hl
 ·rw [hu]
  have:=lw_of_les (P:=P) (ops:=r.toArray) (Ts:=Ts) (St:=stL (S0 :: Sl)) (Q:=Q) r lv 0 a w.drew (by simp) (fun j hj=>by
   rw [←hlv];unfold levs;rw [List.getElem?_map,List.getElem?_range (by simpa using hj)];simp) h
  simpa [List.range_eq_range'] using this
section
variable {o:Oper} {r:List Oper} {n:Nat} {lv:List Nat} {a:Act} {w:World}
theorem les_nil (h:Q .normal a w):wpLes P ops St Q lv [] a w:=by cases lv <;> exact h
theorem les_skip (hc:chainK o.op=false) (hw:Region.wanted o (yielded ops a.tmps)=false) (h:wpLes P ops St Q lv r (a.put o.dst undef) w):wpLes P ops St Q (n :: lv) (o :: r) a w:=.inl ⟨hc,undef,.inr ⟨hw,rfl⟩,h⟩
theorem les_read {v:Value} (hc:chainK o.op=false) (hw:Region.wanted o (yielded ops a.tmps)=true) (hv:∀ w',St n w'→(execOp a.eval o).run P w'=.ok (.value v) w') (h:wpLes P ops St Q lv r (a.put o.dst v) w):wpLes P ops St Q (n :: lv) (o :: r) a w :=
 .inl ⟨hc,v,.inl ⟨hw,hv⟩,h⟩
theorem les_chain (hc:chainK o.op=true) (hw:Region.wanted o (yielded ops a.tmps)=true) (h:∀ K:Act→World→Prop,Hid (∀ a' w',St n w'→wpLes P ops St Q lv r a' w'→K a' w')→o.wp P a w K NoExit):wpLes P ops St Q (n :: lv) (o :: r) a w :=
 .inr ⟨hc,hw,h _ fun _ _ h1 h2=>⟨h1,h2⟩⟩
end
end
end Go.CH
namespace Go.CH
open Go.RowKit
section
variable {P:Program}
theorem run_appX {t e:TypeId} {z:Value} {size bytes:Nat} (S:SliceOk P t e z size bytes) (ty:TypeId) (w:World) (base:Nat) {v:Value} {n:Nat} {xs:List Value} (hown:w.ownsRow base e size v n xs)
  {A:Option Addr} {m c:Nat} {news:List Value} (hs:Src w A m size news) (h63:n+m≤maxLen) (hb:(n+m)*bytes≤140737488355328) (hbase:base≤w.heap.size) :
  ∃ v' w',(Builtin.append_ #[t,t] ty #[v,.slice A m c]).run P w=.ok v' w'∧w'.ownsRow base e size v' (n+m) (xs ++ news)∧w.grownBy w' v.ownBlock ∧
   (v'.ownBlock=v.ownBlock∨v'.ownBlock=some w.heap.size):=by
 obtain ⟨ht,hi,hz,hsz⟩:=S
 obtain ⟨i,hi,hi1,hi2,hi3⟩:=info_parts hi
 cases A with
 | some ad =>
  obtain ⟨v',w',h1,h2,h3,_,h5⟩:=run_append_own_at (P:=P) w base t ty e i z size bytes ht hi hi1 hi2 hi3 hz hsz v n xs hown ad m c news hs.1 (hs.cells rfl) hs.2.1 h63 hb hbase
  exact ⟨v',w',h1,h2,h3,h5⟩
 | none =>
  have hm:m=0:=by
   rcases Nat.eq_zero_or_pos m with h0 | h0
   ·exact h0
   ·obtain ⟨ad,h,_⟩:=hs.2.2 h0
    cases h
  subst hm
  have hn:news=[]:=List.eq_nil_of_length_eq_zero (by simpa using hs.1)
  subst hn
  refine ⟨v,w,?_,by simpa using hown,⟨rfl,rfl,rfl,Nat.le_refl _,fun _ _ _=>rfl⟩,.inl rfl⟩
  rcases hown.2 with ⟨rfl,rfl⟩ | ⟨g,cap,cur,rfl,_,_,hnc,_⟩
  ·simp [Builtin.append_,run_underlying ht,sizeOf,typeInfo,hi,Builtin.lenOf,Builtin.firstCells]
  ·simp [Builtin.append_,run_underlying ht,sizeOf,typeInfo,hi,Builtin.lenOf,Builtin.firstCells,hnc,storeCells]
theorem wp_appX {o:Oper} {a:Act} {K:Act→World→Prop} {Q:Exit→Act→World→Prop} (s x:Operand) {t:TypeId}
  (ho:o.op=.call { callee:=.builtin .append,args:=#[s,x],argTypes:=#[t,t] })
  {e:TypeId} {z:Value} {size bytes:Nat} (S:SliceOk P t e z size bytes) (w:World) (base:Nat) {v:Value} {n:Nat} {xs:List Value} (hsv:a.eval s=v) (hown:w.ownsRow base e size v n xs)
  {A:Option Addr} {m c:Nat} {news:List Value} (hx:a.eval x=.slice A m c) (hs:Src w A m size news) (h63:n+m≤maxLen) (hb:(n+m)*bytes≤140737488355328) (hbase:base≤w.heap.size)
  (h:∀ v' w',w'.ownsRow base e size v' (n+m) (xs ++ news)→w.grownBy w' v.ownBlock→(v'.ownBlock=v.ownBlock∨v'.ownBlock=some w.heap.size)→K (a.put o.dst v') w'):o.wp P a w K Q:=by
 obtain ⟨v',w',hrun,h2,h3,h4⟩:=run_appX S o.type w base hown (c:=c) hs h63 hb hbase
 unfold Oper.wp execOp
 simp only [ho,resolve,invoke,builtin,Sem.run_bind,Sem.run_pure,Result.andThen_ok,List.map_toArray,List.map_cons,List.map_nil,hsv,hx,hrun]
 exact h v' w' h2 h3 h4
theorem wpList_appX {ops:Array Oper} {rest:List Oper} {o:Oper} {a:Act} {Q:Exit→Act→World→Prop} (hgd:o.guard=none) (s x:Operand) {t:TypeId}
  (ho:o.op=.call { callee:=.builtin .append,args:=#[s,x],argTypes:=#[t,t] })
  {e:TypeId} {z:Value} {size bytes:Nat} (S:SliceOk P t e z size bytes) (w:World) (base:Nat) {v:Value} {n:Nat} {xs:List Value} (hsv:a.eval s=v) (hown:w.ownsRow base e size v n xs)
  {A:Option Addr} {m c:Nat} {news:List Value} (hx:a.eval x=.slice A m c) (hs:Src w A m size news) (h63:n+m≤maxLen) (hb:(n+m)*bytes≤140737488355328) (hbase:base≤w.heap.size)
  (h:∀ v' w',w'.ownsRow base e size v' (n+m) (xs ++ news)→w.grownBy w' v.ownBlock→(v'.ownBlock=v.ownBlock∨v'.ownBlock=some w.heap.size)→wpList P ops Q rest (a.put o.dst v') w'):wpList P ops Q (o :: rest) a w :=
 wpList_plain hgd fun _ hK=>wp_appX s x ho S w base hsv hown hx hs h63 hb hbase fun v' w' h2 h3 h4=>hK _ _ (h v' w' h2 h3 h4)
end
end Go.CH
namespace Go.CH
open Go.RowKit
def exA {α:Type} (O:α→Own):Own:=fun w F=>∃ x,O x w F
theorem exA_ok {α:Type} {O:α→Own} (h:∀ x,(O x).Ok):(exA O).Ok:=⟨fun ⟨c,h1⟩=>(h c).lt h1,fun ⟨c,h1⟩ hk=>⟨c,(h c).keep h1 hk⟩⟩
theorem Run.ex {α:Type} {O:α→Own} {R:Own} {F0:Nat→Prop} {w0 W:World} (h:Run F0 w0 (star (exA O) R) W):∃ x,Run F0 w0 (star (O x) R) W:=by
 obtain ⟨⟨F,⟨F1,F2,⟨c,g1⟩,g2,g3,g4⟩,hF⟩,hm⟩:=h
 exact ⟨c,⟨⟨F,⟨F1,F2,g1,g2,g3,g4⟩,hF⟩,hm⟩⟩
theorem Run.exI {α:Type} {O:α→Own} {R:Own} {F0:Nat→Prop} {w0 W:World} (x:α) (h:Run F0 w0 (star (O x) R) W):Run F0 w0 (star (exA O) R) W :=
 h.imp fun _ _ hh=>star_mono hh (fun _ h=>⟨x,h⟩) (fun _ h=>h)

def pur (p:Prop) (O:Own):Own:=fun w F=>p∧O w F
theorem pur_ok {p:Prop} {O:Own} (h:O.Ok):(pur p O).Ok:=⟨fun h1=>h.lt h1.2,fun h1 hk=>⟨h1.1,h.keep h1.2 hk⟩⟩
theorem Run.pure {p:Prop} {O R:Own} {F0:Nat→Prop} {w0 W:World} (h:Run F0 w0 (star (pur p O) R) W):p∧Run F0 w0 (star O R) W:=by
 obtain ⟨⟨F,⟨F1,F2,⟨c,g1⟩,g2,g3,g4⟩,hF⟩,hm⟩:=h
 exact ⟨c,⟨⟨F,⟨F1,F2,g1,g2,g3,g4⟩,hF⟩,hm⟩⟩
theorem Run.pureI {p:Prop} {O R:Own} {F0:Nat→Prop} {w0 W:World} (hp:p) (h:Run F0 w0 (star O R) W):Run F0 w0 (star (pur p O) R) W :=
 h.imp fun _ _ hh=>star_mono hh (fun _ h=>⟨hp,h⟩) (fun _ h=>h)
def noO:Own:=fun _ _=>False
theorem no_ok:noO.Ok:=⟨fun h=>h.elim,fun h=>h.elim⟩
theorem Run.no {R:Own} {F0:Nat→Prop} {w0 W:World} (h:Run F0 w0 (star noO R) W):False:=by
 obtain ⟨⟨F,⟨F1,F2,g1,g2,g3,g4⟩,hF⟩,hm⟩:=h
 exact g1
theorem src_lit1 (W:World) (v:Value) (t:TypeId) (h:v.oneCell'=true):Src (W.alloc (.cells #[v] t)) (some ⟨W.heap.size,0,none⟩) 1 1 [v]:=Src.one (heap_alloc_new W _) h
end Go.CH
namespace Go.Proofs.YtbnnlpjpnihheaaGreatDoor
open Go.RowKit Go.CH Go.CH.Scr
open Go.ChangeMaps (setBlock)
attribute [local go_sem] Oper.semAt_some
def fn36 (b1 b2:Nat):Value:=.func (.func 91) #[] #[.pointer (some ⟨b1,0,none⟩),.pointer (some ⟨b2,0,none⟩)]
theorem letters_any (k:Int) (s:ByteArray) (w:World) :
  Calls Tryz.prog 52 #[.int .i64 k,.string s] w fun e w'=>∃ b1 b2,e=.returned (fn36 b1 b2)∧Post w (fun _=>False) (Zl k (bl s) b1 b2 0) w':=by
 have hp:Post w (fun _=>False) (Zl k (bl s) w.heap.size (w.heap.size+1) 0) ((w.alloc (.cells #[.int .i64 k] 3)).alloc (.cells #[.string s] 9)):=by
  have h1:=(Run.begin w).fresh emp_ok (cell_new w #[.int .i64 k] 3)
  have h2:=h1.fresh (star_ok cell_ok emp_ok) (cell_new _ #[.string s] 9)
  rw [World.size_alloc] at h2
  have h3:Run (fun _=>False) w (star (Zl k (bl s) w.heap.size (w.heap.size+1) 0) emp) _:=h2.perm (by unfold Zl;rw [show rst k 0 (bl s)=bl s from rfl,bs_bl];ac_rfl)
  exact (h3.swap.drop).post (Zl_ok 0)
 have HP:=hide hp
 clear hp
 go_enter Tryz.func52,Tryz.ntmps52
 go_wp2
 go_ret
 exact ⟨_,_,rfl,HP.out⟩
theorem strsOk:SliceOk Tryz.prog 26 9 (.string ByteArray.empty) 1 16:=⟨Tryz.underlying26,by kernel_rfl,by decide,by decide⟩
def strB (xs:List Bs):List Value:=xs.map fun x=>.string (bs x)
theorem strB_one (l:List Bs):∀ u ∈ strB l,u.oneCell'=true:=by
 intro u hu
 obtain ⟨s,_,rfl⟩:=List.mem_map.1 hu
 rfl
theorem strB_get {l:List Bs} {k:Nat} (h:k < l.length):(strB l)[k]?=some (.string (bs l[k])):=by simp [strB,h]
def StrO (A:Option Addr) (c:Nat) (l:List Bs):CH.Own:=RowO 9 1 (.slice A l.length c) l.length (strB l)
theorem str_ok {A:Option Addr} {c:Nat} {l:List Bs}:(StrO A c l).Ok:=row_ok
theorem str_snoc {A:Option Addr} {c:Nat} {l:List Bs} {x:Bs}:RowO 9 1 (.slice A (l.length+1) c) (l.length+1) (strB l ++ [.string (bs x)])=StrO A c (l ++ [x]):=by
 unfold StrO
 have e:strB (l ++ [x])=strB l ++ [.string (bs x)]:=by simp [strB]
 rw [e,List.length_append,List.length_singleton]
theorem str_nil (w:World):StrO none 0 [] w (fun _=>False):=row_nil w 9 1

def lettersN (k:Int) (l:Bs):List Bs × Int:=if word k l then ((ltrs k l).1,0) else ([],1)
def LtrsRet (w:World) (k:Int) (l:Bs) (e:Ending) (w':World):Prop :=
 ∃ A c,e=.returned (.tuple #[.slice A (lettersN k l).1.length c,.int .i64 (lettersN k l).2])∧Post w (fun _=>False) (StrO A c (lettersN k l).1) w'
theorem app_str1 {F0:Nat→Prop} {w0 W:World} {Y:CH.Own} {o:Oper} {a:Act} {K:Act→World→Prop} {Q:Exit→Act→World→Prop} (s x:Operand)
  (ho:o.op=.call { callee:=.builtin .append,args:=#[s,x],argTypes:=#[26,26] }) {A:Option Addr} {c n:Nat} {l:List Bs} {i:ByteArray} (hl:l.length=n) (hsv:a.eval s=.slice A n c) (hx:a.eval x=.slice (some ⟨W.heap.size,0,none⟩) 1 1) (hn:n≤1000000) (hY:Y.Ok)
  (h:Run F0 w0 (star (StrO A c l) Y) W)
  (hK:∀ A' c' w',Run F0 w0 (star (StrO A' c' (l ++ [bl i])) Y) w'→K (a.put o.dst (.slice A' (n+1) c')) w'):o.wp Tryz.prog a (W.alloc (.cells #[.string i] 9)) K Q:=by
 subst hl
 obtain ⟨F7,hR7,-,bk7⟩:=(h.below (star_ok str_ok hY) ((Below.refl _ _).alloc (Nat.le_refl _) (.cells #[.string i] 9))).take str_ok hY
 refine wp_appX s x ho strsOk _ 0 (v:=.slice A l.length c) (n:=l.length) (xs:=strB l) hsv hR7.1 (A:=some ⟨W.heap.size,0,none⟩) (m:=1) (c:=1) (news:=[.string i]) hx (src_lit1 W _ 9 rfl) (by unfold maxLen;omega) (by omega) (Nat.zero_le _) ?_
 intro v8 w8 ho8 hg8 hv8
 have S8:=bk7 _ _ (row_app hR7 ho8 hg8 hv8)
 obtain ⟨A8,c8,rfl⟩:=own_form ho8
 rw [show Value.string i=.string (bs (bl i)) by rw [bs_bl],str_snoc] at S8
 exact hK A8 c8 w8 S8
end Go.Proofs.YtbnnlpjpnihheaaGreatDoor
namespace Go.Proofs.YtbnnlpjpnihheaaGreatDoor
open Go.RowKit Go.CH Go.CH.Scr
open Go.ChangeMaps (setBlock)
attribute [local go_sem] Oper.semAt_some

def LtO (k:Int) (l:Bs) (c6 c7 i:Nat):CH.Own:=exA fun p:Option Addr × Nat=>star (CellO c6 #[.slice p.1 i p.2] 26) (star (StrO p.1 p.2 ((ltrs k l).1.take i)) (CellO c7 #[.string (bs (rst k i l))] 9))
def LtT (k:Int) (l:Bs) (c6 c7 i:Nat) (A:Option Addr) (c:Nat):CH.Own:=star (CellO c6 #[.slice A i c] 26) (star (StrO A c ((ltrs k l).1.take i)) (CellO c7 #[.string (bs (rst k i l))] 9))
theorem lt_ok {k:Int} {l:Bs} {c6 c7:Nat} (i:Nat):(LtO k l c6 c7 i).Ok:=exA_ok fun _=>star_ok cell_ok (star_ok str_ok cell_ok)
def LtX (k:Int) (l:Bs) (c6 c7:Nat):Code→CH.Own
 | .exit 0=>exA fun i:Nat=>pur (12 < i∧i≤(ltrs k l).1.length) (LtO k l c6 c7 i)
 | _=>noO
theorem ltx_ok {k:Int} {l:Bs} {c6 c7:Nat} (c:Code):(LtX k l c6 c7 c).Ok:=by
 unfold LtX
 split
 ·exact exA_ok fun i=>pur_ok (lt_ok i)
 ·exact no_ok
theorem put2 {S T:CH.Own} {F0:Nat→Prop} {w0 W:World} {g:Nat} {v:Value} {t:TypeId} (hS:S.Ok) (hT:T.Ok) (h:Run F0 w0 (star S (star (CellO g #[v] t) T)) W) (v':Value) :
  Run F0 w0 (star S (star (CellO g #[v'] t) T)) (W.setCell ⟨g,0,none⟩ v'):=by
 obtain ⟨F,hF,-,bk⟩:=h.rot.take cell_ok (star_ok hS hT)
 exact (bk _ _ (cell_set hF 0 v')).rot
theorem put3 {S T U:CH.Own} {F0:Nat→Prop} {w0 W:World} {g:Nat} {v:Value} {t:TypeId} (hS:S.Ok) (hU:U.Ok) (hT:T.Ok) (h:Run F0 w0 (star S (star U (star (CellO g #[v] t) T))) W) (v':Value) :
  Run F0 w0 (star S (star U (star (CellO g #[v'] t) T))) (W.setCell ⟨g,0,none⟩ v'):=by
 obtain ⟨F,hF,-,bk⟩:=h.rot3.take cell_ok (star_ok hS (star_ok hU hT))
 exact (bk _ _ (cell_set hF 0 v')).perm (by ac_rfl)
theorem get2 {S T:CH.Own} {F0:Nat→Prop} {w0 W:World} {g:Nat} {v:Value} {t:TypeId} (h:Run F0 w0 (star S (star (CellO g #[v] t) T)) W):W.cell? ⟨g,0,none⟩=some v∧W.frozen? ⟨g,0,none⟩=false:=by
 obtain ⟨F,hF⟩:=h.rot.fst
 exact ⟨cell_at hF rfl,cell_free hF 0⟩
theorem get3 {S T U:CH.Own} {F0:Nat→Prop} {w0 W:World} {g:Nat} {v:Value} {t:TypeId} (h:Run F0 w0 (star S (star U (star (CellO g #[v] t) T))) W):W.cell? ⟨g,0,none⟩=some v∧W.frozen? ⟨g,0,none⟩=false:=by
 obtain ⟨F,hF⟩:=h.rot3.fst
 exact ⟨cell_at hF rfl,cell_free hF 0⟩
theorem ltrs_count (k:Int) (l:Bs):(ltrs k l).1.length≤l.length:=by
 refine ltrs_ind (k:=k) (P:=fun l=>(ltrs k l).1.length≤l.length) (fun l h=>?_) (fun l h ih=>?_) l
 ·show (ltrs k l).1.length≤l.length
  rw [ltrs_stop h];exact Nat.zero_le _
 ·show (ltrs k l).1.length≤l.length
  have ih:(ltrs k (l.drop (len1 k l))).1.length≤(l.drop (len1 k l)).length:=ih
  rw [ltrs_step h]
  rw [List.length_drop] at ih
  have:=len1_le (k:=k) (l:=l)
  simp only [List.length_cons]
  omega
theorem lt_letter {k:Int} {l:Bs} {i:Nat} (hi:i < (ltrs k l).1.length):(ltrs k l).1.take i ++ [bl (bs (ltrs k l).1[i])]=(ltrs k l).1.take (i+1) ∧
  (bs (rst k i l)).extract (bs (ltrs k l).1[i]).size (bs (rst k i l)).size=bs (rst k (i+1) l)∧(bs (ltrs k l).1[i]).size≤(bs (rst k i l)).size:=by
 have h:=rst_at hi
 have e:(bs (ltrs k l).1[i]).size=len1 k (rst k i l):=by
  rw [h.2,bs_size,List.length_take]
  have:=len1_le (k:=k) (l:=rst k i l)
  omega
 refine ⟨by rw [bl_bs,List.take_succ_eq_append_getElem hi],?_,?_⟩
 ·rw [e,←bs_drop];rfl
 ·rw [e,bs_size];exact len1_le
theorem ltrs_err {k:Int} {l:Bs} {w W':World} (h:lettersN k l=([],1)) (hm:CH.Mod (fun _=>False) w W'):LtrsRet w k l (.returned (.tuple #[.slice none 0 0,.int .i64 1])) W' :=
 ⟨none,0,by rw [h];rfl,fun _=>False,by rw [h];exact str_nil _,hm,fun i hi=>.inl hi⟩
theorem ltrs_okR {k:Int} {l:Bs} {w W':World} {A:Option Addr} {c:Nat} {X:CH.Own} (h:lettersN k l=((ltrs k l).1,0)) (hr:Run (fun _=>False) w (star (StrO A c (ltrs k l).1) X) W') :
  LtrsRet w k l (.returned (.tuple #[.slice A (ltrs k l).1.length c,.int .i64 0])) W':=⟨A,c,by rw [h],by rw [h];exact (hr.swap.drop).post str_ok⟩
theorem no_word {k:Int} {l:Bs} (h:¬ ((ltrs k l).2=[]∧1≤(ltrs k l).1.length∧(ltrs k l).1.length≤12)):lettersN k l=([],1):=by
 unfold lettersN
 rw [if_neg (fun hw=>h (word_iff.1 hw))]
theorem is_word {k:Int} {l:Bs} (h:(ltrs k l).2=[]∧1≤(ltrs k l).1.length∧(ltrs k l).1.length≤12):lettersN k l=((ltrs k l).1,0):=by
 unfold lettersN
 rw [if_pos (word_iff.2 h)]
theorem bs_empty {l:Bs}:(bs l).toList=[]↔l=[]:=by
 rw [ByteArray.toList_eq];exact Iff.rfl
theorem lt_start (k:Int) (s:ByteArray) (w:World):Run (fun _=>False) w (LtO k (bl s) w.heap.size (w.heap.size+1) 0) ((w.alloc (.cells #[.slice none 0 0] 26)).alloc (.cells #[.string s] 9)):=by
 have h0:=(Run.begin w).fresh emp_ok (⟨fun _=>False,str_nil w,Mod.refl _ _,fun i hi=>.inl hi⟩:Post w (fun _=>False) (StrO none 0 []) w)
 have h1:=h0.fresh (star_ok str_ok emp_ok) (cell_new w #[.slice none 0 0] 26)
 have h2:=h1.fresh (star_ok cell_ok (star_ok str_ok emp_ok)) (cell_new _ #[.string s] 9)
 rw [World.size_alloc] at h2
 have h3:Run (fun _=>False) w (star (star (CellO w.heap.size #[.slice none 0 0] 26) (star (StrO none 0 []) (CellO (w.heap.size+1) #[.string s] 9))) emp) _:=h2.perm (by ac_rfl)
 refine h3.swap.drop.imp fun _ _ h=>⟨(none,0),?_⟩
 rw [show bs (rst k 0 (bl s))=s from bs_bl s]
 exact h
set_option maxRecDepth 100000 in
set_option maxHeartbeats 3200000 in
theorem Letters_any (k:Int) (s:ByteArray) (w:World) (hs:s.size≤1000000) (hz:LZ w) :
  Calls Tryz.prog 24 #[.int .i64 k,.string s] w (LtrsRet w k (bl s)):=by
 have HZ:=hide hz
 have HL:=hide (fun W=>letters_any k s W)
 clear hz
 refine (callsIn_wide (n:=8)).1 ?_
 refine callsIn_of_wp_marks Tryz.func24 rfl trivial ?_ rfl
 simp only [Tryz.ntmps24,List.size_toArray,List.length_cons,List.length_nil,Nat.reduceAdd,Nat.reduceSub,Array.replicate_succ,Array.replicate_zero,List.push_toArray,List.append_toArray,List.nil_append,List.cons_append]
 refine (wpIn_wide (n:=8)).2 ?_
 have S0:=hide (lt_start k s w)
 go_wp2_with fail
 generalize ((w.alloc (.cells #[.slice none 0 0] 26)).alloc (.cells #[.string s] 9))=W2 at *
 refine (HL.out W2).mono ?_
 rintro e9 w9 ⟨b1,b2,rfl,hp⟩
 have S1:=hide (S0.out.fresh (lt_ok 0) hp)
 clear S0 hp HL
 have hE:∀ W,Mod (fun _=>False) w W→LZ W:=fun W h=>HZ.out.below (h.below (fun _ _ h=>h))
 dsimp only
 go_wp2_with fail
 have hl:(bl s).length≤1000000:=by rw [bl_len];exact hs
 have HL:=hide hl
 generalize w.heap.size+1=c7 at *
 generalize w.heap.size=c6 at *
 clear hl
 refine range_law (gf:=91) (lb:=#[.pointer (some ⟨b1,0,none⟩),.pointer (some ⟨b2,0,none⟩)]) rfl (enters_of Tryz.func91 (by kernel_rfl) rfl) (letters_iter k (bl s) b1 b2 HL.out) Zl_ok (fun _=>rfl) hE
  (LtO k (bl s) c6 c7) (LtX k (bl s) c6 c7) lt_ok ltx_ok S1.out
  (fun x=>{ tmps:=#[.int .i64 k,.string s,undef,undef,.slice none 0 0,.int .i64 0,.pointer (some ⟨c6,0,none⟩),.pointer (some ⟨c7,0,none⟩),.string (bs x),.string s,.int .i64 k,.string s,fn36 b1 b2,.string (bs x),undef,undef,undef,undef,undef,undef,undef,undef,undef,undef,undef,undef,undef,undef,undef,undef,undef,undef,undef,undef,undef,undef,undef,undef],defers:=[] }) ?assign ?body ?done ?stop
 case assign =>
  intro l m x W K hK
  unfold encL
  gi_wp2
  exact hK
 case body =>
  intro lo m i hi R W hR hI
  obtain ⟨⟨A,c⟩,h1⟩:=hI.ex
  dsimp only at h1
  obtain ⟨F6,h6⟩:=h1.assoc.fst
  obtain ⟨F7,h7⟩:=h1.assoc.rot.assoc.rot.fst
  have c6a:=cell_at (i:=0) h6 rfl
  have c6b:=cell_free h6 0
  have c7a:=cell_at (i:=0) h7 rfl
  have c7b:=cell_free h7 0
  have H1:=hide h1
  clear h1 h6 h7 hI S1
  obtain ⟨q1,q2,q3⟩:=lt_letter hi
  have Q1:=hide q1
  have HI1:=hide (show i+1≤(ltrs k (bl s)).1.length from hi)
  have hi6:i < 1000000:=by
   have:=HL.out
   have h2:=ltrs_count k (bl s)
   omega
  have okY:(star (CellO c6 #[.slice A i c] 26) (star (CellO c7 #[.string (bs (rst k i (bl s)))] 9) R)).Ok:=star_ok cell_ok (star_ok cell_ok hR)
  have HA:=hide ((H1.out.perm (by ac_rfl):Run (fun _=>False) w (star (StrO A c ((ltrs k (bl s)).1.take i)) (star (CellO c6 #[.slice A i c] 26) (star (CellO c7 #[.string (bs (rst k i (bl s)))] 9) R))) W).drew (star_ok str_ok okY))
  have OKY:=hide okY
  have OKR:=hide hR
  have hlen:((ltrs k (bl s)).1.take i).length=i:=by rw [List.length_take];omega
  have HLEN:=hide hlen
  clear okY H1 hlen q1 hR
  generalize (ltrs k (bl s)).1[i]=x at *
  generalize hr:bs (rst k i (bl s))=r at *
  clear hr hi
  refine wpIn_block (wpIn_seq ?_)
  refine region_in_les [2,3,8,9] [1,0,1,2,3,3,3,3,3,4]
   (fun w'=>w'.cell? ⟨c6,0,none⟩=some (.slice A i c)∧w'.cell? ⟨c7,0,none⟩=some (.string r))
   [fun w'=>w'.cell? ⟨c6,0,none⟩=some (.slice A i c)∧w'.cell? ⟨c7,0,none⟩=some (.string r),fun w'=>w'.cell? ⟨c7,0,none⟩=some (.string r),fun w'=>w'.cell? ⟨c7,0,none⟩=some (.string r)]
   ⟨fun _ h=>h,fun _ h=>h.2,fun _ h=>h,trivial⟩ rfl (fun ⟨a,w,h⟩=>h) rfl (by kernel_rfl) (by kernel_rfl) (by kernel_rfl) ⟨c6a,c7a⟩ ?_
  (repeat (first | (refine les_skip (by rfl) (by rfl) ?_;try simp only [Act.put,List.setIfInBounds_toArray,List.set_cons_zero,List.set_cons_succ]) | (refine les_read (v:=?_) (by rfl) (by rfl) ?_ ?_;rotate_left;(focus (intro w' hS';(try simp only [stL] at hS');go_simp;(try with_reducible rfl);done));try simp only [Act.put,List.setIfInBounds_toArray,List.set_cons_zero,List.set_cons_succ])))
  refine les_chain rfl (by rfl) (fun K hK=>?_)
  go_wp2
  refine hK.out _ _ ?_ ?_
  ·obtain ⟨d1,-⟩:=get2 (HA.out.below (star_ok str_ok OKY.out) ((Below.refl _ _).alloc (Nat.le_refl _) (.cells #[.string (bs x)] 9)))
   obtain ⟨d2,-⟩:=get3 (HA.out.below (star_ok str_ok OKY.out) ((Below.refl _ _).alloc (Nat.le_refl _) (.cells #[.string (bs x)] 9)))
   exact ⟨d1,d2⟩
  clear hK c6a c6b c7a c7b
  (repeat (first | (refine les_skip (by rfl) (by rfl) ?_;try simp only [Act.put,List.setIfInBounds_toArray,List.set_cons_zero,List.set_cons_succ]) | (refine les_read (v:=?_) (by rfl) (by rfl) ?_ ?_;rotate_left;(focus (intro w' hS';(try simp only [stL] at hS');go_simp;(try with_reducible rfl);done));try simp only [Act.put,List.setIfInBounds_toArray,List.set_cons_zero,List.set_cons_succ])))
  refine les_chain rfl (by rfl) (fun K hK=>?_)
  refine app_str1 (.tmp 14) (.tmp 16) rfl HLEN.out rfl rfl (by omega) OKY.out HA.out ?_
  intro A' c' w2 hw2
  rw [Q1.out] at hw2
  have H2:=hide hw2
  obtain ⟨e6,f6⟩:=get2 hw2
  obtain ⟨e7,f7⟩:=get3 hw2
  refine hK.out _ _ e7 ?_
  clear hK HA hw2 Q1
  (repeat (first | (refine les_skip (by rfl) (by rfl) ?_;try simp only [Act.put,List.setIfInBounds_toArray,List.set_cons_zero,List.set_cons_succ]) | (refine les_read (v:=?_) (by rfl) (by rfl) ?_ ?_;rotate_left;(focus (intro w' hS';(try simp only [stL] at hS');go_simp;(try with_reducible rfl);done));try simp only [Act.put,List.setIfInBounds_toArray,List.set_cons_zero,List.set_cons_succ])))
  refine les_chain rfl (by rfl) (fun K hK=>?_)
  go_wp2
  have okR:=OKR.out
  have h3:=put2 str_ok (star_ok cell_ok okR) H2.out (.slice A' (i+1) c')
  have H3:=hide h3
  obtain ⟨e7',f7'⟩:=get3 h3
  refine hK.out _ _ e7' ?_
  clear hK h3 e6 f6 e7 f7 H2
  refine les_chain rfl (by rfl) (fun K hK=>?_)
  go_wp2
  have h4:=put3 str_ok cell_ok okR H3.out (.string (r.extract (bs x).size r.size))
  rw [q2] at h4
  obtain ⟨e6,-⟩:=get2 h4
  have H4:=hide (Run.exI (O:=fun p:Option Addr × Nat=>star (CellO c6 #[.slice p.1 (i+1) p.2] 26) (star (StrO p.1 p.2 ((ltrs k (bl s)).1.take (i+1))) (CellO c7 #[.string (bs (rst k (i+1) (bl s)))] 9))) (A',c') (h4.perm (by ac_rfl)))
  refine hK.out _ _ trivial (les_nil ?_)
  clear hK H3 e7' f7' h4
  show Code.wpIn _ _ _ _ _ _ _
  generalize (w2.setCell ⟨c6,0,none⟩ (.slice A' (i+1) c')).setCell ⟨c7,0,none⟩ (.string (bs (rst k (i+1) (bl s))))=w3 at *
  by_cases h12:(12:Int) < (i:Int)+1
  ·have HX:=hide (show Run (fun _=>False) w (star (LtX k (bl s) c6 c7 (.exit 0)) R) w3 from Run.exI (i+1) (Run.pureI ⟨by omega,HI1.out⟩ H4.out))
   clear H4
   gi_wp2
   exact HX.out
  ·gi_wp2
   exact H4.out
 case done =>
  intro D R W hR hI
  obtain ⟨⟨A,c⟩,h1⟩:=hI.ex
  dsimp only at h1 ⊢
  obtain ⟨F6,h6⟩:=h1.assoc.fst
  obtain ⟨F7,h7⟩:=h1.assoc.rot.assoc.rot.fst
  have c6a:W.cell? ⟨c6,0,none⟩=some (.slice A (ltrs k (bl s)).1.length c):=cell_at (i:=0) h6 rfl
  have c7a:W.cell? ⟨c7,0,none⟩=some (.string (bs (rst k (ltrs k (bl s)).1.length (bl s)))):=cell_at (i:=0) h7 rfl
  have okD:(star (LtT k (bl s) c6 c7 (ltrs k (bl s)).1.length A c) R).Ok:=star_ok (star_ok cell_ok (star_ok str_ok cell_ok)) hR
  obtain ⟨FD,hD,-,bk⟩:=h1.rot.take obj_ok okD
  have hK:=hD.1
  have HF:=hide ((bk _ _ (obj_put hD (.deferred none))).perm (by ac_rfl:_=star (StrO A c ((ltrs k (bl s)).1.take (ltrs k (bl s)).1.length)) (star (CellO c6 #[.slice A (ltrs k (bl s)).1.length c] 26) (star (CellO c7 #[.string (bs (rst k (ltrs k (bl s)).1.length (bl s)))] 9) (star (ObjO D (.deferred none)) R)))))
  have HK:=hide hK
  clear h1 h6 h7 hI S1 hK hD bk okD
  rw [(rst_end k (bl s)).2] at c7a
  obtain ⟨n,hn⟩:∃ n,n=(ltrs k (bl s)).1.length:=⟨_,rfl⟩
  have HX0:=hide (fun h:lettersN k (bl s)=((ltrs k (bl s)).1,0)=>show LtrsRet w k (bl s) (.returned (.tuple #[.slice A (ltrs k (bl s)).1.length c,.int .i64 0])) (W.putObj D (.deferred none)) from ltrs_okR h (by have:=HF.out;rw [List.take_length] at this;exact this))
  have HN0:=hide (fun h:¬ ((ltrs k (bl s)).2=[]∧1≤n∧n≤12)=>show lettersN k (bl s)=([],1) from no_word (by rw [←hn];exact h))
  have HW0:=hide (fun h:(ltrs k (bl s)).2=[]∧1≤n∧n≤12=>show lettersN k (bl s)=((ltrs k (bl s)).1,0) from is_word (by rw [←hn];exact h))
  rw [←hn] at c6a HX0
  clear hn
  by_cases he:(ltrs k (bl s)).2=[]
  ·have he2:(bs (ltrs k (bl s)).2).toList=[]:=bs_empty.2 he
   by_cases h0:n=0
   ·have t0:((n:Int) == 0)=true:=by simp [h0]
    have HN:=hide (HN0.out (by omega))
    clear HX0 HN0 HW0 he
    go_wp2_with fail
    refine ⟨by simp,.inl ⟨_,_,rfl,run_takeDeferred HK.out,?_⟩⟩
    refine ⟨_,results_tmp2 rfl _ _ _,?_⟩
    exact ltrs_err HN.out HF.out.mod
   ·have t0:((n:Int) == 0)=false:=by simp [h0]
    by_cases h12:(12:Int) < (n:Int)
    ·have HN:=hide (HN0.out (by omega))
     clear HX0 HN0 HW0 he
     go_wp2_with fail
     refine ⟨by simp,.inl ⟨_,_,rfl,run_takeDeferred HK.out,?_⟩⟩
     refine ⟨_,results_tmp2 rfl _ _ _,?_⟩
     exact ltrs_err HN.out HF.out.mod
    ·have HX:=hide (HX0.out (HW0.out ⟨he,by omega,by omega⟩))
     clear HX0 HN0 HW0 he
     go_wp2_with fail
     refine ⟨by simp,.inl ⟨_,_,rfl,run_takeDeferred HK.out,?_⟩⟩
     refine ⟨_,results_tmp2 rfl _ _ _,?_⟩
     exact HX.out
  ·have he2:¬ (bs (ltrs k (bl s)).2).toList=[]:=fun h=>he (bs_empty.1 h)
   have HN:=hide (HN0.out (fun h=>he h.1))
   clear HX0 HN0 HW0 he
   go_wp2_with fail
   refine ⟨by simp,.inl ⟨_,_,rfl,run_takeDeferred HK.out,?_⟩⟩
   refine ⟨_,results_tmp2 rfl _ _ _,?_⟩
   exact ltrs_err HN.out HF.out.mod
 case stop =>
  intro D c R W hR hI
  have hI2:∃ i,(12 < i∧i≤(ltrs k (bl s)).1.length)∧c=.exit 0∧Run (fun _=>False) w (star (LtO k (bl s) c6 c7 i) (star (ObjO D (.deferred (some []))) R)) W:=by
   unfold LtX at hI
   split at hI
   ·obtain ⟨i,hi⟩:=hI.ex
    exact ⟨i,hi.pure.1,rfl,hi.pure.2⟩
   ·exact hI.no.elim
  clear hI
  obtain ⟨i,⟨h12,hin⟩,rfl,hI⟩:=hI2
  obtain ⟨⟨A,c⟩,h1⟩:=hI.ex
  dsimp only at h1 ⊢
  obtain ⟨F6,h6⟩:=h1.assoc.fst
  obtain ⟨F7,h7⟩:=h1.assoc.rot.assoc.rot.fst
  have c6a:W.cell? ⟨c6,0,none⟩=some (.slice A i c):=cell_at (i:=0) h6 rfl
  have c7a:W.cell? ⟨c7,0,none⟩=some (.string (bs (rst k i (bl s)))):=cell_at (i:=0) h7 rfl
  have okD:(star (LtT k (bl s) c6 c7 i A c) R).Ok:=star_ok (star_ok cell_ok (star_ok str_ok cell_ok)) hR
  obtain ⟨FD,hD,-,bk⟩:=h1.rot.take obj_ok okD
  have hK:=hD.1
  have HF:=hide ((bk _ _ (obj_put hD (.deferred none))).perm (by ac_rfl:_=star (StrO A c ((ltrs k (bl s)).1.take i)) (star (CellO c6 #[.slice A i c] 26) (star (CellO c7 #[.string (bs (rst k i (bl s)))] 9) (star (ObjO D (.deferred none)) R)))))
  have HK:=hide hK
  clear h1 h6 h7 hI S1 hK hD bk okD
  have HN:=hide (show lettersN k (bl s)=([],1) from no_word (by omega))
  have t0:((i:Int) == 0)=false:=by simp;omega
  have t12:(12:Int) < (i:Int):=by omega
  generalize rst k i (bl s)=rr at *
  by_cases he:(bs rr).toList=[]
  ·go_wp2_with fail
   refine ⟨by simp,.inl ⟨_,_,rfl,run_takeDeferred HK.out,?_⟩⟩
   refine ⟨_,results_tmp2 rfl _ _ _,?_⟩
   exact ltrs_err HN.out HF.out.mod
  ·go_wp2_with fail
   refine ⟨by simp,.inl ⟨_,_,rfl,run_takeDeferred HK.out,?_⟩⟩
   refine ⟨_,results_tmp2 rfl _ _ _,?_⟩
   exact ltrs_err HN.out HF.out.mod
end Go.Proofs.YtbnnlpjpnihheaaGreatDoor
namespace Go.Proofs.YtbnnlpjpnihheaaGreatDoor
open Go.RowKit Go.CH Go.CH.Scr
open Go.ChangeMaps (setBlock)

def Vst (w:World) (A:Option Addr) (l:List Bs):Prop:=Src w A l.length 1 (strB l)
theorem src_below {w w':World} {A:Option Addr} {n size:Nat} {xs:List Value} (h:Src w A n size xs) (hb:Below w.heap.size w w'):Src w' A n size xs :=
 ((Run.begin w).below emp_ok hb).src0 h
theorem Vst.below {w w':World} {A:Option Addr} {l:List Bs} (h:Vst w A l) (hb:Below w.heap.size w w'):Vst w' A l:=src_below h hb
theorem Vst.at {w:World} {A:Option Addr} {l:List Bs} (h:Vst w A l) (hn:0 < l.length) :
  ∃ b o,A=some ⟨b,o,none⟩∧∀ w',Below w.heap.size w w'→∀ j (hj:j < l.length),w'.cell? ⟨b,o+j,none⟩=some (.string (bs l[j])):=by
 obtain ⟨b,o,rfl,hc⟩:=Src.open_ h hn (by omega)
 refine ⟨b,o,rfl,fun w' hb j hj=>?_⟩
 have h1:=hc j _ (strB_get hj)
 rw [hb.cell (World.block_lt_of_cell? _ _ h1)];exact h1
theorem vst_of {w:World} {F:Nat→Prop} {A:Option Addr} {c:Nat} {l:List Bs} (h:StrO A c l w F):Vst w A l:=row_src h (strB_one l)

def LtrsB (w:World) (k:Int) (l:Bs) (e:Ending) (w':World):Prop :=
 ∃ A c,e=.returned (.tuple #[.slice A (lettersN k l).1.length c,.int .i64 (lettersN k l).2])∧Below w.heap.size w w'∧Vst w' A (lettersN k l).1
theorem Letters_b (k:Int) (s:ByteArray) (w:World) (hs:s.size≤1000000) (hz:LZ w) :
  Calls Tryz.prog 24 #[.int .i64 k,.string s] w (LtrsB w k (bl s)):=by
 refine (Letters_any k s w hs hz).mono ?_
 rintro e w' ⟨A,c,rfl,F,h1,h2,h3⟩
 exact ⟨A,c,rfl,h2.below (fun _ _ h=>h),vst_of h1⟩

def foldN (k:Int) (l:Bs):Bs × Int:=if word k l then (lower l,0) else ([],1)
theorem set_ascii:(∀ c ∈ smallS,c.toNat < 128)∧(∀ c ∈ abjS,c.toNat < 128)∧(∀ c ∈ vowS,c.toNat < 128)∧(∀ c ∈ onsS,c.toNat < 128)∧(∀ c ∈ accS,c.toNat < 128)∧(∀ c ∈ ([110]:Bs),c.toNat < 128):=by decide
theorem lt2_ascii {k:Int} {a:UInt8} {b:Option UInt8} (h:lt2 k a b≠0):a.toNat < 128:=by
 obtain ⟨s1,s2,s3,s4,s5,s6⟩:=set_ascii
 unfold lt2 at h
 split at h
 ·split at h
  ·rename_i hh;exact s1 _ (has_mem.1 hh)
  ·exact absurd rfl h
 split at h
 ·split at h
  ·rename_i hh
   refine Classical.byContradiction fun hc=>?_
   rw [has_high a (by omega)] at hh;cases hh
  ·exact absurd rfl h
 split at h
 ·split at h
  ·rename_i hh;exact s2 _ (has_mem.1 hh)
  ·exact absurd rfl h
 split at h
 ·split at h
  ·rename_i hh
   rw [Bool.and_eq_true] at hh
   exact s4 _ (has_mem.1 hh.1)
  ·split at h
   ·rename_i hh
    rw [Bool.or_eq_true] at hh
    rcases hh with hh | hh
    ·exact s3 _ (has_mem.1 hh)
    ·exact s6 _ (has_mem.1 hh)
   ·exact absurd rfl h
 ·exact absurd rfl h
theorem sec_ascii {k:Int} {c:UInt8} (h:has (sec k) (some c)=true):c.toNat < 128:=by
 obtain ⟨s1,s2,s3,s4,s5,s6⟩:=set_ascii
 have hm:=has_mem.1 h
 unfold sec at hm
 split at hm
 ·exact s5 _ hm
 split at hm
 ·exact s3 _ hm
 ·cases hm
theorem letter_ascii {k:Int} {l:Bs} (h:len1 k l≠0):∀ b ∈ l.take (len1 k l),b.toNat < 128:=by
 cases l with
 | nil=>intro b hb;simp at hb
 | cons a t =>
  have h1:lt2 k a t.head?≠0:=h
  have ha:=lt2_ascii h1
  show ∀ b ∈ (a :: t).take (lt2 k a t.head?),b.toNat < 128
  have hle:=lt2_le (k:=k) (a:=a) (b:=t.head?)
  by_cases h2:lt2 k a t.head?=2
  ·have hs:=lt2_two h2
   rw [h2]
   cases t with
   | nil=>intro b hb;simp at hb;rw [hb];exact ha
   | cons c t =>
    have hc:=sec_ascii hs
    intro b hb
    simp at hb
    rcases hb with rfl | rfl
    ·exact ha
    ·exact hc
  ·rw [show lt2 k a t.head?=1 by omega]
   intro b hb
   simp at hb
   rw [hb];exact ha
theorem words_ascii {k:Int} {l:Bs} (h:word k l=true):∀ b ∈ l,b.toNat < 128:=by
 have key:∀ l:Bs,(ltrs k l).2=[]→∀ b ∈ l,b.toNat < 128:=fun l=>by
  refine ltrs_ind (k:=k) (P:=fun l=>(ltrs k l).2=[]→∀ b ∈ l,b.toNat < 128) (fun l h he b hb=>?_) (fun l h ih he b hb=>?_) l
  ·rw [ltrs_stop h] at he
   have he:l=[]:=he
   rw [he] at hb;cases hb
  ·rw [ltrs_step h] at he
   have:=ih he
   rw [←List.take_append_drop (len1 k l) l] at hb
   rcases List.mem_append.1 hb with hb | hb
   ·exact letter_ascii h b hb
   ·exact this b hb
 exact key l (word_iff.1 h).1
theorem fold_any (k:Int) (s:ByteArray) (w:World) (hs:s.size≤1000000) (hz:LZ w) :
  Calls Tryz.prog 23 #[.int .i64 k,.string s] w (BelowRet w (.tuple #[.string (bs (foldN k (bl s)).1),.int .i64 (foldN k (bl s)).2])):=by
 have HZ:=hide hz
 have HL:=hide (Letters_b k s w hs hz)
 have HF:=hide (fun W (h:Below w.heap.size w W)=>Tryz.strings_ToLower_any s W (by omega) (HZ.out.below h).c (HZ.out.below h).t)
 by_cases hw:word k (bl s)=true
 ·have e1:lettersN k (bl s)=((ltrs k (bl s)).1,0):=by unfold lettersN;rw [if_pos hw]
  have e2:foldN k (bl s)=(lower (bl s),0):=by unfold foldN;rw [if_pos hw]
  have e3:(⟨(Lib.toLowerD (bl s)).toArray⟩:ByteArray)=bs (lower (bl s)):=by
   rw [Lib.toLowerD_ascii _ (words_ascii hw),toLowerA_is];rfl
  unfold LtrsB at HL
  simp only [e1] at HL
  simp only [e3] at HF
  rw [e2]
  clear e1 e2 e3 hw hz
  go_enter Tryz.func23,Tryz.ntmps23
  go_wp2_with fail
  refine HL.out.mono ?_
  rintro e9 w1 ⟨A,c,rfl,hb,-⟩
  have HB:=hide hb
  have KF:=hide (HF.out w1 hb)
  clear hb HL HF
  dsimp only
  go_wp2_with fail
  refine KF.out.mono ?_
  rintro e9 w2 ⟨rfl,hb⟩
  have HB2:=hide (bel_trans HB.out hb)
  clear KF HB hb
  go_wp2
  refine bodyPost_ret (results_tmp2 rfl _ _ _) rfl ?_
  exact ⟨rfl,HB2.out⟩
 ·have e1:lettersN k (bl s)=([],1):=by unfold lettersN;rw [if_neg hw]
  have e2:foldN k (bl s)=([],1):=by unfold foldN;rw [if_neg hw]
  unfold LtrsB at HL
  simp only [e1] at HL
  rw [e2]
  clear e1 e2 hw hz HF
  go_enter Tryz.func23,Tryz.ntmps23
  go_wp2_with fail
  refine HL.out.mono ?_
  rintro e9 w1 ⟨A,c,rfl,hb,-⟩
  have HB:=hide hb
  clear hb HL
  dsimp only
  go_wp2
  refine bodyPost_ret (results_tmp2 rfl _ _ _) rfl ?_
  exact ⟨rfl,HB.out⟩
end Go.Proofs.YtbnnlpjpnihheaaGreatDoor
