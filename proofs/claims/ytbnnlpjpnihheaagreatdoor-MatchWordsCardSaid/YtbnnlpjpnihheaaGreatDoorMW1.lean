/- A part of the proof: lemmas. -/
import Derived.Deep.RegionHeld3
import Derived.WalkSpells
import Derived.WalkLawsBesides
import Derived.Deep.AppendLies
import Derived.ProofKit
import Derived.DataShut
import Derived.Deep.Fields
set_option maxHeartbeats 16000000
set_option maxRecDepth 100000
set_option linter.all false
set_option linter.defProp false
namespace Go
open Go.RowKit
def Yy:=@List.setIfInBounds_toArray
def Yz:=@List.length_append
def YA:=@List.set_cons_zero
def YB:=@List.set_cons_succ
def YC:=@Below.refl
def YD:=@List.take_succ_eq_append_getElem
def YE:=@Nat.zero_le
def YF:=@Bool.and_eq_true
def YG:=@Nat.le_refl
def YH:=@List.getElem?_eq_getElem
def YI:=@List.length_map
def YJ:=@List.getElem_cons_succ
def YK:=@List.getElem_cons_zero
def YL:=@List.getElem_mem
def YM:=@List.getElem_toArray
def YN:=@World.size_alloc
def YO:=@List.take_length
def YP:=@List.getD_eq_getElem?_getD
def YQ:=@Nat.le_trans
def YR:=@List.length_cons
def YS:=@List.map_append
def YT:=@List.not_mem_nil
def YU:=@List.length_take
def YV:=@List.mem_cons
def YW:=@World.block_lt_of_cell?
def YX:=@List.all_eq_true
def YZ:=@IntWalk.i64_in
def Y0:=@List.eq_nil_of_length_eq_zero
def Y1:=@List.length_singleton
def Y2:=@List.append_nil
def Y3:=@List.append_assoc
def Y4:=@Bool.eq_false_iff
def Y5:=@List.getElem?_toArray
def Y6:=@List.getElem?_map
def Y7:=@List.drop_eq_getElem_cons
def Y8:=@List.length_drop
def Y9:=@Result.andThen_ok
def Za:=@List.mem_of_getElem?
def Zb:=@List.map_cons
def Zc:=@List.getElem?_cons_succ
def Zd:=@List.getElem?_cons_zero
def Ze:=@List.mem_cons_self
def Zf:=@List.mem_of_find?_eq_some
def Zg:=@Oper.wp_mono
def Zh:=@List.filterMap_append
def Zi:=@Oper.semAt_some
def Zj:=@List.mem_cons_of_mem
def Zk:=@Sem.run_bind
def Zm:=@List.flatMap_cons
def Zn:=@Nat.not_lt_zero
def Zo:=@List.isEmpty_eq_false_iff
def Zp:=@List.mem_range
def Zq:=@List.cons_append
def Zr:=@IntWalk.wrap64_in
def Zt:=@Nat.lt_irrefl
def Zu:=@List.map_congr_left
def Zv:=@Sem.run_pure
def Zx:=@Nat.zero_add
def Zz:=@List.length_nil
def ZA:=@List.getElem_map
def ZB:=@Int.le_refl
def ZC:=@List.mem_of_mem_take
def ZE:=@List.range_eq_range'
def ZF:=@Nat.sub_self
def ZG:=@Bool.false_eq_true
def ZH:=@Bool.eq_iff_iff
def ZI:=@Bool.true_and
def ZJ:=@List.length_filterMap_le
def ZK:=@List.take_append_drop
def ZL:=@Int.toNat_natCast
def ZM:=@Nat.add_zero
def ZN:=@Array.replicate_succ
def ZO:=@Array.replicate_zero
def ZP:=@Region.noSelect_spec
def ZQ:=@Bool.or_eq_true
def ZR:=@List.take_of_length_le
def ZT:=@List.flatMap_singleton
def ZU:=@List.find?_eq_some_iff_getElem
def ZV:=@Act.put_comm
def ZW:=@Array.getElem?_eq_getElem
def ZX:=@List.append_toArray
def ZY:=@List.flatMap_append
def Z4:=@Bool.not_eq_true'
def Z5:=@Nat.one_shiftLeft
def Z6:=@List.getElem?_eq_none
def Z7:=@List.map_nil
def Z8:=@List.nil_append
def Z9:=@List.isEmpty_iff
def kz:=@List.size_toArray
def kB:=@List.push_toArray
def jz:=@Nat.succ_mul
def km:=@Option.map_some
def my:=@Classical.byContradiction
def mA:=@List.getElem?_append_left
def lx:=@List.length_zipIdx
def ki:=@Bool.false_or
def j9:=@Nat.lt_or_ge
def mB:=@List.filterMap_cons_some
def kp:=@Option.map_map
def lL:=@List.mem_append_left
def kO:=@List.mem_filter
def kj:=@Int.zero_add
def kq:=@Nat.add_assoc
def ly:=@List.drop_length
def k5:=@Bool.false_and
def pj:=@List.isPrefixOf_iff_prefix
def k6:=@List.drop_left
def pk:=@List.getElem?_append_right
def k8:=@List.take_zero
def mC:=@List.mem_append_right
def mL:=@Bool.and_eq_false_iff
def po:=@List.mem_take_iff_getElem
def lz:=@List.foldl_cons
def pw:=@List.filterMap_cons_none
def mN:=@ByteArray.toList_eq
def mS:=@List.flatten_append
def mT:=@List.getElem?_range
def lO:=@List.map_toArray
def lA:=@DataW.trod_int
def px:=@Int.eq_ofNat_of_zero_le
def k9:=@Nat.add_comm
def lh:=@Int.add_zero
def nh:=@List.find?_eq_none
def nn:=@Nat.eq_zero_or_pos
def py:=@Option.map_eq_some_iff
def li:=@Nat.zero_mul
def lj:=@List.map_map
def pH:=@MapKept.run_getObj_map
def lR:=@List.find?_some
def l3:=@List.length_set
def ma:=@Int.natCast_add
def jq:=@Iff.rfl
def nt:=@List.nodup_append
def nB:=@List.ext_getElem?
def nF:=@Nat.le_succ_of_le
def me:=@List.drop_zero
def pM:=@World.cell?_of_block
def tt:=@Std.Legacy.Range.forIn_eq_forIn_range'
def pN:=@Nat.mul_le_mul_right
def pP:=@List.getElem?_mapIdx
def mj:=@Bool.and_assoc
def oc:=@Bool.not_eq_true
def lB:=@Nat.sub_zero
def ot:=@List.range'_succ
def rI:=@List.getElem_append_right
def pS:=@List.mem_map_of_mem
def rK:=@Array.setIfInBounds_comm
def ov:=@Oper.apart_spec
def oy:=@List.range_succ
def pT:=@List.getElem?_drop
def pZ:=@List.getElem?_take
def qk:=@List.mem_singleton
def qq:=@List.flatten_cons
def oA:=@Nat.mul_le_mul
def rL:=@Array.getElem?_eq_none
def tv:=@Array.getElem?_setIfInBounds_ne
def qt:=@Option.bind_some
def qu:=@Option.getD_some
def oB:=@Bool.not_true
def oE:=@DataW.trod_lt
def ml:=@Int.add_mul
def qv:=@List.forIn_cons
def qS:=@Exit.noGoto_ret
def rN:=@Array.toList_modify
def oS:=@Int.le_trans
def kl:=@Ne.symm
def oT:=@List.map_set
def o0:=@Nat.le_of_eq
def qT:=@List.nodup_nil
def mn:=@Calls.mono
def tz:=@Option.isNone_iff_eq_none
def rS:=@List.foldl_append
def o3:=@Nat.mul_one
def sb:=@List.length_range
def sk:=@List.mem_range'_1
def sl:=@DataW.trod_string
def re:=@Bool.or_false
def tA:=@List.find?_range_eq_some
def rh:=@List.map_take
def rj:=@List.all_cons
def tB:=@Option.isSome_iff_exists
def sn:=@Int.min_le_right
def tG:=@List.length_eq_zero_iff
def sx:=@List.mem_nil_iff
def sy:=@Nat.lt_succ_self
def sA:=@Below.heap_alloc
def sB:=@List.mem_flatMap
def sC:=@List.flatMap_nil
def sE:=@Nat.le_of_not_lt
def rk:=@Nat.le_of_lt
def rl:=@List.mem_map
def tM:=@MapKept.run_setObj_map
def o6:=@Below.trod
def sL:=@UInt8.toNat_add
def sR:=@List.take_left'
def sT:=@List.mem_zipIdx
def sX:=@List.mem_append
def sY:=@List.all_append
def s7:=@Int.natCast_pow
def tc:=@List.find?_cons
def tP:=@Array.getElem?_toList
def tW:=@UInt8.le_iff_toNat_le
def td:=@Bool.not_false
def rm:=@Nat.one_mul
def tg:=@Int.add_assoc
def tj:=@Bool.and_comm
abbrev fX(a1:Int)(a2:Int)(a3:Int)(a4:Int)(a5:Int)(a6:Int)(a7:Int)(a8:Option Addr)(a9:Nat)(a10:Nat)(a11:Option Addr)(a12:Nat)(a13:Nat)(a14:ByteArray):Array Value:=#[.int .i64 a1,.int .i64 a2,.int .i64 a3,.int .i64 a4,.int .i64 a5,.int .i64 a6,.int .i64 a7,.slice a8 a9 a10,.slice a11 a12 a13,.string a14]
abbrev fw(a1:Option Addr)(a2:Nat)(a3:Nat)(a4:Option Addr)(a5:Nat)(a6:Nat)(a7:Option Addr)(a8:Nat)(a9:Nat)(a10:Int)(a11:Int)(a12:Int):Array Value:=#[.slice a1 a2 a3,.slice a4 a5 a6,.slice a7 a8 a9,.int .i64 a10,.int .i64 a11,.int .i64 a12]
abbrev fR(a1:Int)(a2:Int)(a3:ByteArray)(a4:Bool)(a5:Int):Array Value:=#[.int .i64 a1,.int .i64 a2,.string a3,.bool a4,.int .i64 a5]
abbrev j0(a1:Int)(a2:Option Addr)(a3:Nat)(a4:Nat)(a5:Option Addr)(a6:Nat)(a7:Nat):Array Value:=#[.int .i64 a1,.slice a2 a3 a4,.slice a5 a6 a7]
abbrev fY(a1:Int)(a2:Option Addr)(a3:Nat)(a4:Nat)(a5:Option Addr)(a6:Nat)(a7:Nat)(a8:ByteArray):Array Value:=#[.int .i64 a1,.slice a2 a3 a4,.slice a5 a6 a7,.string a8]
abbrev gl(a1:Int)(a2:Int)(a3:ByteArray)(a4:Bool):Array Value:=#[.int .i64 a1,.int .i64 a2,.string a3,.bool a4]
abbrev im(a1:Int)(a2:Int)(a3:Int)(a4:Int)(a5:Int)(a6:Int)(a7:Int)(a8:Option Addr)(a9:Nat)(a10:Nat)(a11:Option Addr)(a12:Nat)(a13:Nat)(a14:ByteArray)(a15:ByteArray)(a16:ByteArray):Array Value:=#[.int .i64 a1,.int .i64 a2,.int .i64 a3,.int .i64 a4,.int .i64 a5,.int .i64 a6,.int .i64 a7,.slice a8 a9 a10,.slice a11 a12 a13,.string a14,.string a15,.string a16]
abbrev gO(a1:Int)(a2:ByteArray)(a3:ByteArray)(a4:Int):Array Value:=#[.int .i64 a1,.string a2,.string a3,.int .i64 a4]
abbrev gA(a1:Int)(a2:Option Addr)(a3:Nat)(a4:Nat)(a5:Option Addr)(a6:Nat)(a7:Nat)(a8:Option Addr)(a9:Nat)(a10:Nat):Array Value:=#[.int .i64 a1,.slice a2 a3 a4,.slice a5 a6 a7,.slice a8 a9 a10]
abbrev fL(a1:Option Addr)(a2:Nat)(a3:Nat)(a4:Option Addr)(a5:Nat)(a6:Nat):Array Value:=#[.slice a1 a2 a3,.slice a4 a5 a6]
abbrev gn(a1:Int)(a2:Bool)(a3:Option Addr)(a4:Nat)(a5:Nat):Array Value:=#[.int .i64 a1,.bool a2,.slice a3 a4 a5]
abbrev gS(a1:Int)(a2:Int)(a3:Option Addr)(a4:Nat)(a5:Nat)(a6:ByteArray):Array Value:=#[.int .i64 a1,.int .i64 a2,.slice a3 a4 a5,.string a6]
abbrev gj(a1:Int)(a2:Option Addr)(a3:Nat)(a4:Nat):Array Value:=#[.int .i64 a1,.slice a2 a3 a4]
abbrev hJ(a1:Option Addr)(a2:Nat)(a3:Nat)(a4:Option Addr)(a5:Nat)(a6:Nat)(a7:Option Addr)(a8:Nat)(a9:Nat)(a10:Option Addr)(a11:Nat)(a12:Nat):Array Value:=#[.slice a1 a2 a3,.slice a4 a5 a6,.slice a7 a8 a9,.slice a10 a11 a12]
abbrev gb(a1:Int):Array Value:=#[.int .i64 a1]
abbrev il(a1:ByteArray)(a2:Int)(a3:Int):Array Value:=#[.string a1,.int .i64 a2,.int .i64 a3]
abbrev js(a1:Int)(a2:ByteArray)(a3:ByteArray):Array Value:=#[.int .i64 a1,.string a2,.string a3]
abbrev rp(a1:Int)(a2:Int)(a3:Int)(a4:Int)(a5:ByteArray)(a6:Bool)(a7:Int):Array Value:=#[.int .i64 a1,.int .i64 a2,.int .i64 a3,.int .i64 a4,.string a5,.bool a6,.int .i64 a7]
abbrev kt(a1:Int)(a2:ByteArray)(a3:Int):Array Value:=#[.int .i64 a1,.string a2,.int .i64 a3]
abbrev j1(a1:Option Addr)(a2:Nat)(a3:Nat)(a4:Int):Array Value:=#[.slice a1 a2 a3,.int .i64 a4]
abbrev j7(a1:Int)(a2:Bool):Array Value:=#[.int .i64 a1,.bool a2]
abbrev kx(a1:Int)(a2:Int):Array Value:=#[.int .i64 a1,.int .i64 a2]
abbrev mr(a1:Option Addr)(a2:Option Addr)(a3:Option Addr):Array Value:=#[.pointer a1,.pointer a2,.pointer a3]
abbrev ln(a1:Option Addr)(a2:Option Addr):Array Value:=#[.pointer a1,.pointer a2]
abbrev gE(a1:Bool):Array Value:=#[.bool a1]
abbrev iu(a1:ByteArray):Array Value:=#[.string a1]
theorem gv{α:Type}{a b:α}(h:a=b:=by kernel_rfl):some a=some b:=congrArg some h
theorem fi{p:Prop}(h:p:=by kernel_rfl):p:=h
theorem ff{p:Prop}(h:p:=by omega):p:=h
theorem ft{p:Prop}(h:p:=by rfl):p:=h
theorem fW{p:Prop}(h:p:=by decide):p:=h
theorem gw{p:Prop}(h:p:=by simp):p:=h
theorem ky{p:Prop}(h:p:=by simp;omega):p:=h
theorem uu{p:Prop}[Decidable p](h:decide p=true:=by kernel_rfl):p:=of_decide_eq_true h
abbrev fj:=Option Addr
abbrev uv(w W:World):Prop:=Below w.heap.size w W
abbrev fh:Nat->Prop:=fun _=>False
theorem RowKit.Hid.o{p:Prop}(h:Hid p):p:=h.out
abbrev ja(w:World)(g:Nat)(v0 v1:Value):Prop:=w.cell? ⟨g,0,none⟩=some v0/\w.cell? ⟨g,1,none⟩=some v1
abbrev iz(w:World)(g:Nat)(v0 v1 v2 v3 v4 v5:Value):Prop:=w.cell? ⟨g,0,none⟩=some v0/\w.cell? ⟨g,1,none⟩=some v1/\w.cell? ⟨g,2,none⟩=some v2/\w.cell? ⟨g,3,none⟩=some v3/\w.cell? ⟨g,4,none⟩=some v4/\w.cell? ⟨g,5,none⟩=some v5
abbrev i6(w:World)(g:Nat)(v0 v1 v2 v3:Value):Prop:=w.cell? ⟨g,0,none⟩=some v0/\w.cell? ⟨g,1,none⟩=some v1/\w.cell? ⟨g,2,none⟩=some v2/\w.cell? ⟨g,3,none⟩=some v3
abbrev pa(w:World)(g:Nat)(v0 v1 v2:Value):Prop:=w.cell? ⟨g,0,none⟩=some v0/\w.cell? ⟨g,1,none⟩=some v1/\w.cell? ⟨g,2,none⟩=some v2
abbrev ub(w:World)(g:Nat)(v0 v1 v2 v3 v4:Value):Prop:=w.cell? ⟨g,0,none⟩=some v0/\w.cell? ⟨g,1,none⟩=some v1/\w.cell? ⟨g,2,none⟩=some v2/\w.cell? ⟨g,3,none⟩=some v3/\w.cell? ⟨g,4,none⟩=some v4
abbrev ui(w:World)(g:Nat)(v0 v1 v2 v3 v4:Value):Prop:=w.cell? ⟨g,5,none⟩=some v0/\w.cell? ⟨g,6,none⟩=some v1/\w.cell? ⟨g,7,none⟩=some v2/\w.cell? ⟨g,8,none⟩=some v3/\w.cell? ⟨g,9,none⟩=some v4
abbrev uk(w:World)(g:Nat)(v0 v1 v2 v3 v4 v5:Value):Prop:=w.cell? ⟨g,6,none⟩=some v0/\w.cell? ⟨g,7,none⟩=some v1/\w.cell? ⟨g,8,none⟩=some v2/\w.cell? ⟨g,9,none⟩=some v3/\w.cell? ⟨g,10,none⟩=some v4/\w.cell? ⟨g,11,none⟩=some v5
abbrev t7(w:World)(g:Nat)(v0 v1 v2 v3 v4 v5 v6 v7 v8 v9:Value):Prop:=w.cell? ⟨g,0,none⟩=some v0/\w.cell? ⟨g,1,none⟩=some v1/\w.cell? ⟨g,2,none⟩=some v2/\w.cell? ⟨g,3,none⟩=some v3/\w.cell? ⟨g,4,none⟩=some v4/\w.cell? ⟨g,5,none⟩=some v5/\w.cell? ⟨g,6,none⟩=some v6/\w.cell? ⟨g,7,none⟩=some v7/\w.cell? ⟨g,8,none⟩=some v8/\w.cell? ⟨g,9,none⟩=some v9
end Go
namespace Go.CH
open Go.RowKit
open Go.ChangeMaps (setBlock)
theorem au{p:Prop}(h:p):Hid p:=h
structure Mod(F:Nat->Prop)(w w':World):Prop where
 os:w'.os=w.os
 tape:w'.tape=w.tape
 output:w'.output=w.output
 size:w.heap.size<=w'.heap.size
 block:∀ k,k<w.heap.size->¬ F k->w'.heap[k]?=w.heap[k]?
theorem Mod.refl(F:Nat->Prop)(w:World):Mod F w w:=⟨rfl,rfl,rfl,YG _,fun _ _ _=>rfl⟩
variable{F G:Nat->Prop}{a b w w':World}{p:Addr}{o':Obj}{n B base c m g:Nat}{v z:Value}{K t e:TypeId}{es:Array MapEntry}{k:IntKind}{i:TypeInfo}{A:fj}{xs news:List Value}{Q:Exit->Act->World->Prop}{ops:Array Oper}
theorem Mod.trans{q:Nat->Prop}{c:World}(h:Mod F a b)(k:Mod q b c)(z:∀ i,i<a.heap.size->F i->G i)(p:∀ i,i<a.heap.size->q i->G i):Mod G a c:=
 ⟨k.os.trans h.os,k.tape.trans h.tape,k.output.trans h.output,YQ h.size k.size,
  fun i hi hn=>(k.block i (Nat.lt_of_lt_of_le hi h.size) (fun e=>hn (p i hi e))).trans (h.block i hi (fun e=>hn (z i hi e)))⟩
theorem Mod.mono(h:Mod F a b)(hF:∀ i,i<a.heap.size->F i->G i):Mod G a b:=
 ⟨h.os,h.tape,h.output,h.size,fun i hi hn=>h.block i hi (fun e=>hn (hF i hi e))⟩
theorem Mod.below(h:Mod F a b)(hF:∀ i,i<a.heap.size->¬ F i):Below a.heap.size a b:=
 ⟨h.os,h.tape,h.output,h.size,fun i hi=>h.block i hi (hF i hi)⟩
theorem Mod.of_below(h:Below a.heap.size a b):Mod F a b:=
 ⟨h.os,h.tape,h.output,h.size,fun i hi _=>h.block i hi⟩
theorem Mod.uZ{row:Option Nat}(h:a.grownBy b row)(hr:∀ k,row=some k->k<a.heap.size->F k):Mod F a b:=
 ⟨h.os,h.tape,h.output,h.size,fun i hi hn=>h.block i hi (fun e=>hn (hr i e.symm hi))⟩
theorem Mod.drew(h:Mod F a b):Mod F a b.drew:=⟨h.os,h.tape,h.output,h.size,h.block⟩
theorem Mod.drewN(h:Mod F a b)(n:Nat):Mod F a (b.drewN n):=⟨h.os,h.tape,h.output,h.size,h.block⟩
theorem Mod.alloc(h:Mod F a b)(o:Obj):Mod F a (b.alloc o):=
 ⟨h.os,h.tape,h.output,YQ h.size gw,fun i hi hn=>(sA b o i (Nat.lt_of_lt_of_le hi h.size)).trans (h.block i hi hn)⟩
theorem Mod.setCell(h:Mod F a b)(u:Value)(hp:p.block<a.heap.size->F p.block):Mod F a (b.setCell p u):=
 ⟨h.os,h.tape,h.output,by simpa using h.size,fun i hi hn=>(Below.heap_setCell b p u i (by rintro rfl;exact hn (hp hi))).trans (h.block i hi hn)⟩
theorem Mod.setBlock(h:Mod F a b){k:Nat}(o:Obj)(p:k<a.heap.size->F k):Mod F a (setBlock b k o):=
 ⟨h.os,h.tape,h.output,by simpa[Go.ChangeMaps.setBlock] using h.size,fun i hi hn=>by
  have:k≠i:=by rintro rfl;exact hn (p hi)
  simp only[Go.ChangeMaps.setBlock];rw[tv this]
  exact h.block i hi hn⟩
theorem Mod.cell(h:Mod F w w')(hp:p.block<w.heap.size)(hn:¬ F p.block):w'.cell? p=w.cell? p:=
 pM (w:=w) (h.block p.block hp hn)
theorem uo{b:Nat}{o:Obj}(h:w.heap[b]?=some o):(setBlock w b o').heap[b]?=some o':=(Go.MapKept.heap_set h).1
theorem oI{b k:Nat}(h:b≠k):(setBlock w b o').heap[k]?=w.heap[k]?:=by
 simp only[Go.ChangeMaps.setBlock];exact tv h
theorem Qx{o:Obj}(h:n=w.heap.size):(w.alloc o).heap[n]?=some o:=by subst h;exact heap_alloc_new w o
theorem Qy{o:Obj}(h:n<w.heap.size):(w.alloc o).heap[n]?=w.heap[n]?:=sA w o n h
theorem dO(h:Below B a w):Below B a w.drew:=h.drew
theorem below_drewN(h:Below B a w)(n:Nat):Below B a (w.drewN n):=⟨h.os,h.tape,h.output,h.size,h.block⟩
@[go_sem] theorem heap_drew(w:World):w.drew.heap=w.heap:=rfl
@[go_sem] theorem heap_drewN(w:World)(n:Nat):(w.drewN n).heap=w.heap:=rfl
@[go_sem] theorem Ti{o:Obj}(h:n<w.heap.size):(w.alloc o).heap[n]?=w.heap[n]?:=sA w o n h
@[go_sem] theorem OU{a:Addr}(h:n≠a.block):(w.setCell a v).heap[n]?=w.heap[n]?:=Below.heap_setCell w a v n h
@[go_sem] theorem Tj{b:Nat}{o:Obj}{a:Addr}(h:b≠a.block):(setBlock w b o).cell? a=w.cell? a:=pM (oI h)
@[go_sem] theorem OV{b:Nat}{o:Obj}{a:Addr}(h:b≠a.block):(setBlock w b o).frozen? a=w.frozen? a:=World.frozen?_of_block (oI h)
@[go_sem] theorem Tk{b:Nat}{o:Obj}:(setBlock w b o).heap.size=w.heap.size:=by simp[Go.ChangeMaps.setBlock]
section maps0
variable{α:Type}
def Gb(kv:α->Value)(es:Array MapEntry)(clock:Nat)(l:List (α × Value)):Prop:=
 es.toList.map (fun e=>(e.key,e.val))=l.map (fun p=>(kv p.1,p.2))/\(l.map (·.1)).Nodup/\(es.toList.map (·.born)).Nodup/\∀ e ∈ es.toList,e.born<clock
def qp(kv:α->Value)(w:World)(b:Nat)(l:List (α × Value)):Prop:=
 ∃ es clock,w.heap[b]?=some (.map es clock)/\Gb kv es clock l
variable{kv:α→Value}{w w':World}{b:Nat}{l:List (α × Value)}
theorem qp.of_block(h:qp kv w b l)(hb:w'.heap[b]?=w.heap[b]?):qp kv w' b l:=by
 obtain⟨es,clock,h1,h2⟩:=h;exact⟨es,clock,hb.trans h1,h2⟩
theorem qp.lt(h:qp kv w b l):b<w.heap.size:=by obtain⟨es,clock,h1,_⟩:=h;exact lt_of_block h1
theorem Gb.nil:Gb kv #[] 0 []:=⟨rfl,qT,qT,by simp⟩
theorem qp.new(w:World):qp kv (w.alloc (.map #[] 0)) w.heap.size []:=⟨#[],0,heap_alloc_new w _,Gb.nil⟩
theorem qp.mod(h:qp kv w b l)(m:Mod F w w')(hb:¬ F b):qp kv w' b l:=h.of_block (m.block b h.lt hb)
theorem WE{es:List MapEntry}{l:List (α × Value)}(h:es.map (fun e=>(e.key,e.val))=l.map (fun p=>(kv p.1,p.2))){k:α}{u:Value}(hn:l[n]?=some (k,u)):∃ e,es[n]?=some e/\e.key=kv k/\e.val=u:=by
 have q:(es.map (fun e=>(e.key,e.val)))[n]?=some (kv k,u):=by rw[h];simp[hn]
 rw[Y6] at q;cases z:es[n]? with
 | none=>simp[z] at q
 | some e=>simp[z] at q;exact⟨e,rfl,q.1,q.2⟩
end maps0
section maps
variable{α:Type}[DecidableEq α]{P:Program}
structure nJ(P:Program)(K:TypeId)(kv:α->Value):Prop where
 eq:∀ a b w,(Op.equal K (kv a) (kv b)).run P w=.ok (decide (a=b)) w
 check:∀ e a w,(Instr.checkKey e 10000 K (kv a)).run P w=.ok () w
 same:∀ a,Instr.sameBits 10000 (kv a) (kv a)=true
 now:∃ kd,P.underlying K=some kd/\∀ a b,Instr.sameNow kd (kv a) (kv b)=none\/Instr.sameNow kd (kv a) (kv b)=some (decide (a=b))
def uN(k:α):List (α × Value)->Nat->Option (Nat × Value)
 | [],_=>none
 | (a,v)::l,i=>if k=a then some (i,v) else uN k l (i+1)
theorem qO{K:TypeId}{kv:α->Value}(H:nJ P K kv)(k:α)(w:World):∀ (es:List MapEntry) (l:List (α × Value)) (i:Nat),
  es.map (fun e=>(e.key,e.val))=l.map (fun p=>(kv p.1,p.2))->(Instr.findAsking K (kv k) es i).run P w=.ok (uN k l i) w
 | [],[],i,_=>by simp[Instr.findAsking,uN]
 | [],_::_,_,h=>by simp at h
 | _::_,[],_,h=>by simp at h
 | e::es,(a,v)::l,i,h=>by
  simp only[Zb,List.cons.injEq,Prod.mk.injEq] at h;obtain⟨⟨z,I⟩,F⟩:=h;have ih:=qO H k w es l (i+1) F;simp only[Instr.findAsking,Zk,z,H.eq,Y9,uN];by_cases q:k=a
  ·subst q;simp[I]
  ·simp[q,ih]
theorem Aj{kv:α->Value}{kd:TypeDesc}(hn:∀ a b,Instr.sameNow kd (kv a) (kv b)=none\/Instr.sameNow kd (kv a) (kv b)=some (decide (a=b)))(k:α):∀ (es:List MapEntry) (l:List (α × Value)) (i:Nat) (r:Option (Nat × Value)),
  es.map (fun e=>(e.key,e.val))=l.map (fun p=>(kv p.1,p.2))->Instr.findNow kd (kv k) es i=some r->r=uN k l i
 | [],[],i,r,_,h=>by simp[Instr.findNow] at h;simp[uN,h]
 | [],_::_,_,_,h,_=>by simp at h
 | _::_,[],_,_,h,_=>by simp at h
 | e::es,(a,v)::l,i,r,h,hr=>by
  simp only[Zb,List.cons.injEq,Prod.mk.injEq] at h;obtain⟨⟨F,I⟩,z⟩:=h;simp only[Instr.findNow,F] at hr;rcases hn k a with h1|h1
  ·simp[h1] at hr
  ·rw[h1] at hr;by_cases q:k=a
   ·subst q;simp at hr;simp[uN,<-hr,I]
   ·simp[q] at hr;simp only[uN,if_neg q];exact Aj hn k es l (i+1) r z hr
theorem run_findKey{kv:α->Value}(H:nJ P K kv)(k:α)(w:World)(es:List MapEntry)(l:List (α × Value))(h:es.map (fun e=>(e.key,e.val))=l.map (fun p=>(kv p.1,p.2))):
  (Instr.findKey K (kv k) es).run P w=.ok (uN k l 0) w:=by
 obtain⟨kd,q,hn⟩:=H.now;simp only[Instr.findKey,Zk,run_underlying q,Y9];cases z:Instr.findNow kd (kv k) es 0 with
 | none=>simp only[qO H k w es l 0 h]
 | some r=>simp only[Zv];rw[Aj hn k es l 0 r h z]
def ny(l:List (α × Value))(k:α):Option Value:=(uN k l 0).map (·.2)
def lG:List (α × Value)->α->Value->List (α × Value)
 | [],k,v=>[(k,v)]
 | (a,u)::l,k,v=>if k=a then(a,v)::l else(a,u)::lG l k v
theorem wW(k:α):∀ (l:List (α × Value)) (i:Nat),uN k l i=(uN k l 0).map (fun p=>(p.1+i,p.2))
 | [],_=>rfl
 | (a,v)::l,i=>by
  by_cases h:k=a
  ·simp[uN,h]
  ·simp only[uN,if_neg h];rw[wW k l (i+1),wW k l (0+1)];cases uN k l 0<;>simp;omega
theorem su(a:α)(v:Value)(l:List (α × Value))(k:α):ny ((a,v)::l) k=if k=a then some v else ny l k:=by
 unfold ny;by_cases h:k=a
 ·simp[uN,h]
 ·simp only[uN,if_neg h];rw[wW];cases uN k l 0<;>rfl
theorem u6{k:α}:∀ {l:List (α × Value)} {i:Nat},uN k l i=none->k ∉ l.map (·.1)/\∀ v,lG l k v=l++[(k,v)]
 | [],_,_=>by simp[lG]
 | (a,u)::l,i,h=>by
  by_cases p:k=a
  ·simp[uN,p] at h
  ·simp only[uN,if_neg p] at h;obtain⟨z,q⟩:=u6 h;refine⟨by simp only[Zb,YV,not_or];exact⟨p,z⟩,fun v=>by simp[lG,p,q]⟩
theorem u7{k:α}:∀ {l:List (α × Value)} {i j:Nat} {u:Value},uN k l i=some (j,u)->∃ n,j=i+n/\l[n]?=some (k,u)/\∀ v,lG l k v=l.set n (k,v)
 | [],_,_,_,h=>by simp[uN] at h
 | (a,x)::l,i,j,u,h=>by
  by_cases p:k=a
  ·subst p;simp only[uN,if_true,Option.some.injEq,Prod.mk.injEq] at h;exact⟨0,by omega,by simp[h.2],fun v=>by simp[lG]⟩
  ·simp only[uN,if_neg p] at h;obtain⟨n,F,z,q⟩:=u7 h;exact⟨n+1,by omega,by simpa using z,fun v=>by simp[lG,p,q]⟩
theorem NR(k:α)(v:Value)(l:List (α × Value)):(lG l k v).map (·.1)=if k ∈ l.map (·.1) then l.map (·.1) else l.map (·.1)++[k]:=by
 cases h:uN k l 0 with
 | none=>obtain⟨z,q⟩:=u6 h;rw[q,if_neg z];simp
 | some p=>
  obtain⟨j,u⟩:=p;obtain⟨n,z,q,F⟩:=u7 h;have hm:k ∈ l.map (·.1):=List.mem_map.2 ⟨(k,u),Za q,rfl⟩;rw[F,if_pos hm,oT];have:(l.map (·.1))[n]?=some k:=by simp[q]
  obtain⟨J,I⟩:=List.getElem?_eq_some_iff.1 this
  conv=>rhs;rw[<-List.set_getElem_self J]
  rw[I]
variable{kv:α→Value}{w w':World}{b:Nat}{l:List (α × Value)}
theorem uq{E:TypeId}{z:Value}(H:nJ P K kv)(J:P.underlying t=some (.map K E))(M:∀ w,(zeroValue E).run P w=.ok z w){q:Nat}(h:Gb kv es q l)(k:α)(w:World)(I:w.heap[b]?=some (.map es q)):
  (Instr.lookup t (.map (some b)) (kv k) false).run P w=.ok ((ny l k).getD z) w:=by
 obtain⟨F,_⟩:=h;simp only[Instr.lookup,Zk,run_underlying J,Y9,pH I,Zv,H.check,run_findKey H k w _ l F,ny];cases uN k l 0 with
 | none=>simp[M]
 | some p=>simp
theorem nS{E:TypeId}{z:Value}(H:nJ P K kv)(J:P.underlying t=some (.map K E))(M:∀ w,(zeroValue E).run P w=.ok z w){q:Nat}(h:Gb kv es q l)(k:α)(w:World)(I:w.heap[b]?=some (.map es q)):
  (Instr.lookup t (.map (some b)) (kv k) true).run P w=.ok (.tuple #[(ny l k).getD z,.bool (ny l k).isSome]) w:=by
 obtain⟨F,_⟩:=h;simp only[Instr.lookup,Zk,run_underlying J,Y9,pH I,Zv,H.check,run_findKey H k w _ l F,ny];cases uN k l 0 with
 | none=>simp[M]
 | some p=>simp
theorem Ak{β γ:Type}(f:β->γ)(g:β->β)(x:γ):∀ (l:List β) (n:Nat),(∀ e,l[n]?=some e->f (g e)=x)->(l.modify n g).map f=(l.map f).set n x
 | [],_,_=>by simp
 | e::l,0,h=>by simp[h e rfl]
 | e::l,n+1,h=>by simp[Ak f g x l n (fun e' he=>h e' (by simpa using he))]
theorem qx{β γ:Type}(f:β->γ)(g:β->β):∀ (l:List β) (n:Nat),(∀ e,f (g e)=f e)->(l.modify n g).map f=l.map f
 | [],_,_=>by simp
 | e::l,0,h=>by simp[h e]
 | e::l,n+1,h=>by simp[qx f g l n h]
theorem mem_modify{β:Type}(p:β->Prop)(g:β->β):∀ (l:List β) (n:Nat),(∀ e ∈ l,p e)->(∀ e,p e->p (g e))->∀ e ∈ l.modify n g,p e
 | [],_,_,_,e,h=>by simp at h
 | x::l,0,h,hg,e,q=>by
  simp at q;rcases q with rfl|q
  ·exact hg _ (h _ gw)
  ·exact h _ (by simp[q])
 | x::l,n+1,h,hg,e,q=>by
  simp at q;rcases q with rfl|q
  ·exact h _ gw
  ·exact mem_modify p g l n (fun e q=>h e (by simp[q])) hg e q
theorem BN{E:TypeId}(H:nJ P K kv)(ht:P.underlying t=some (.map K E)){q:Nat}(h:Gb kv es q l)(b:Nat)(k:α)(v:Value):
  ∃ J z,Gb kv J z (lG l k v)/\∀ w:World,w.heap[b]?=some (.map es q)->(Instr.mapUpdate t (.map (some b)) (kv k) v).run P w=.ok () (setBlock w b (.map J z)):=by
 obtain⟨V,h3,h4,h5⟩:=h;cases hf:uN k l 0 with
 | none=>
  obtain⟨g1,I⟩:=u6 hf;refine⟨es.push ⟨kv k,v,q⟩,q+1,⟨?_,?_,?_,?_⟩,fun w M=>?_⟩
  ·rw[I];simp[V]
  ·rw[I];simp only[YS,Zb,Z7];exact List.nodup_append.2 ⟨h3,by simp,fun a ha b hb=>by simp at hb;subst hb;rintro rfl;exact g1 ha⟩
  ·simp only[Array.toList_push,YS,Zb,Z7];refine List.nodup_append.2 ⟨h4,by simp,fun a ha b hb=>?_⟩;simp at hb;subst hb;obtain⟨e,F,rfl⟩:=List.mem_map.1 ha;have:=h5 e F;omega
  ·intro e F;simp at F;rcases F with F|rfl
   ·have:=h5 e (by simpa using F);omega
   ·simp
  ·simp only[Instr.mapUpdate,Zk,run_underlying ht,Y9,pH M,H.check,run_findKey H k w _ l V,hf,tM _ M];rfl
 | some p=>
  obtain⟨j,u⟩:=p;obtain⟨n,g1,I,g3⟩:=u7 hf;obtain rfl:j=n:=by omega
  obtain⟨e,F,ab,ac⟩:=WE V I;have aa:es[j]?=some e:=by simpa using F
  refine⟨es.modify j (fun e=>{ e with key:=kv k,val:=v }),q,⟨?_,?_,?_,?_⟩,fun w M=>?_⟩
  ·rw[g3,rN,Ak (fun e:MapEntry=>(e.key,e.val)) (fun e=>{ e with key:=kv k,val:=v }) (kv k,v) _ _ (fun _ _=>rfl),V,oT]
  ·have:=NR k v l;rw[this];split
   ·exact h3
   ·rename_i hm;exact absurd (List.mem_map.2 ⟨(k,u),Za I,rfl⟩) hm
  ·rw[rN,qx (fun e:MapEntry=>e.born) (fun e=>{ e with key:=kv k,val:=v }) _ _ (fun _=>rfl)];exact h4
  ·rw[rN];exact mem_modify (fun e:MapEntry=>e.born<q) (fun e=>{ e with key:=kv k,val:=v }) _ _ h5 (fun _ h=>h)
  ·simp only[Instr.mapUpdate,Zk,run_underlying ht,Y9,pH M,H.check,run_findKey H k w _ l V,hf,aa,km,qu,ab,Instr.keyThatStays,H.same,if_true,Zv,tM _ M];rfl
end maps
section
variable{P:Program}
theorem VG{E:TypeId}(hE:P.underlying E=some (.int k))(a b:Int)(n:Nat)(w:World):
  (Op.equalIn (n+1) E (.int k a) (.int k b)).run P w=.ok (a==b) w:=by
 simp[Op.equalIn,run_underlying hE]
theorem Cz{E:TypeId}{d:TypeDesc}(hE:P.underlying E=some d)(hd:(match d with|.struct _|.array _ _=>true|_=>false)=false)(cs:Array Value)(j:Nat)(v:Value)(hv:cs[j]?=some v)(w:World):
  (part E cs j).run P w=.ok v w:=by
 cases d<;>simp_all[part,isAgg,run_underlying hE]
theorem WG{E:TypeId}(J:P.underlying K=some (.array 2 E))(p:P.underlying E=some (.int k))(hi:P.info? E=some i)(q:i.size=1)(a b c d:Int)(n:Nat)(w:World):
  (Op.equalIn (n+2) K (.agg #[.int k a,.int k b]) (.agg #[.int k c,.int k d])).run P w=.ok (a==c&&b==d) w:=by
 have h:=fun cs j v F w=>Cz (P:=P) p rfl cs j v F w;unfold Op.equalIn;simp only[Zk,run_underlying J,Y9,sizeOf,typeInfo,run_program,hi,Zv,q,tt,Std.Legacy.Range.size,lB,Nat.add_one_sub_one,Nat.div_one,List.range'];simp only[qv,List.forIn_nil,Zk,h #[.int k a,.int k b] 0 _ rfl,h #[.int k c,.int k d] 0 _ rfl,h #[.int k a,.int k b] 1 _ rfl,h #[.int k c,.int k d] 1 _ rfl,Y9,VG p,li,rm,Zx];by_cases z:a=c<;>by_cases I:b=d<;>simp[z,I,h #[.int k a,.int k b] 1 _ rfl,h #[.int k c,.int k d] 1 _ rfl,h #[.int k c,.int k b] 1 _ rfl,VG p]
theorem Gc{E:TypeId}(hE:P.underlying E=some (.int k))(e:Bool)(a:Int)(n:Nat)(w:World):(Instr.checkKey e (n+1) E (.int k a)).run P w=.ok () w:=by
 simp[Instr.checkKey,run_underlying hE]
theorem NS{E:TypeId}(z:P.underlying K=some (.array 2 E))(p:P.underlying E=some (.int k))(hi:P.info? E=some i)(q:i.size=1)(e:Bool)(a b:Int)(n:Nat)(w:World):
  (Instr.checkKey e (n+2) K (.agg #[.int k a,.int k b])).run P w=.ok () w:=by
 have h:=fun cs j v F w=>Cz (P:=P) p rfl cs j v F w;unfold Instr.checkKey;simp only[Zk,run_underlying z,Y9,sizeOf,typeInfo,run_program,hi,Zv,q,tt,Std.Legacy.Range.size,lB,Nat.add_one_sub_one,Nat.div_one,List.range'];simp only[qv,List.forIn_nil,Zk,h #[.int k a,.int k b] 0 _ rfl,h #[.int k a,.int k b] 1 _ rfl,Y9,Gc p,li,rm,Zx,Zv];simp[hi,q,h #[.int k a,.int k b] 1 _ rfl,Gc p]
def fP(k:IntKind)(p:Int × Int):Value:=.agg #[.int k p.1,.int k p.2]
theorem Jv{E:TypeId}(h:P.underlying K=some (.array 2 E))(p:P.underlying E=some (.int k))(hi:(P.info? E).map (·.size)=some 1):nJ P K (fP k):=by
 obtain⟨i,hi,q⟩:=Option.map_eq_some_iff.1 hi;refine⟨fun a b w=>?_,fun e a w=>NS h p hi q e a.1 a.2 9998 w,fun a=>?_,_,h,fun a b=>.inl rfl⟩
 ·rw[Op.equal,Op.maxDepth,fP,fP,WG h p hi q a.1 a.2 b.1 b.2 9998 w];obtain⟨J,z⟩:=a;obtain⟨b1,b2⟩:=b;by_cases I:J=b1<;>by_cases F:z=b2<;>simp[I,F]
 ·simp[fP,Instr.sameBits]
end
section slices
variable{P:Program}
def d9(P:Program)(t e:TypeId)(z:Value)(size bytes:Nat):Prop:=
 P.underlying t=some (.slice e)/\(P.info? e).map (fun i=>(i.zero,i.size,i.bytes))=some (some z,size,bytes)/\z.cells.size=size/\0<size
def Src(w:World)(A:fj)(n size:Nat)(xs:List Value):Prop:=
 xs.length=n*size/\(∀ u ∈ xs,u.oneCell'=true)/\(0<n->∃ ad,A=some ad/\∀ j u,xs[j]?=some u->w.cell? (ad.add j)=some u)
theorem Src.cells{size:Nat}(h:Src w A n size xs)(z:A=some p):∀ j u,xs[j]?=some u->w.cell? (p.add j)=some u:=by
 subst z;intro j u q;rcases nn n with h0|h0
 ·subst h0;have:xs=[]:=Y0 (by simpa using h.1);subst this;simp at q
 ·obtain⟨F,e,I⟩:=h.2.2 h0;cases e;exact I j u q
theorem Src.none_{size:Nat}:Src w A 0 size []:=⟨by simp,by simp,fun h=>absurd h ff⟩
theorem Addr.add_block(a:Addr)(n:Nat):(a.add n).block=a.block:=by unfold Addr.add;split<;>rfl
theorem Addr.wX(g n:Nat):(⟨g,0,none⟩:Addr).add n=⟨g,n,none⟩:=by
 unfold Addr.add;split<;>simp_all
theorem Src.keep{size:Nat}(h:Src w A n size xs)(q:∀ p:Addr,A=some p->w'.heap[p.block]?=w.heap[p.block]?):Src w' A n size xs:=
 ⟨h.1,h.2.1,fun hn=>by
  obtain⟨p,e,z⟩:=h.2.2 hn
  exact⟨p,e,fun j u F=>by rw[<-z j u F];exact pM (by rw[Addr.add_block];exact q p e)⟩⟩
theorem Src.WH{size:Nat}(h:w.ownsRow base e size (.slice A n c) n xs)(q:∀ u ∈ xs,u.oneCell'=true):Src w A n size xs:=by
 refine⟨h.1,q,fun hn=>?_⟩;obtain⟨g,cap,F,_,z⟩:=h.form hn;have p:A=some ⟨g,0,none⟩:=by injection F
 subst p;exact⟨_,rfl,h.cells (g:=g) rfl⟩
theorem Un{size bytes:Nat}(S:d9 P t e z size bytes)(ty:TypeId)(w:World)(base:Nat)(p:w.ownsRow base e size v n xs)(I:Src w A m size news)(ab:n+m<=1000000)(ae:bytes<=1000)(q:base<=w.heap.size):
  ∃ F w',(Builtin.append_ #[t,t] ty #[v,.slice A m c]).run P w=.ok F w'/\w'.ownsRow base e size F (n+m) (xs++news)/\w.grownBy w' v.ownBlock /\
   (F.ownBlock=v.ownBlock\/F.ownBlock=some w.heap.size):=by
 obtain⟨ht,hi,hz,V⟩:=S;obtain⟨i,hi,J,ac,aa⟩:=info_parts hi;have hb:(n+m)*bytes<=140737488355328:=YQ (oA ab ae) ff;cases A with
 | some ad=>
  obtain⟨F,w',h1,h2,h3,_,h5⟩:=run_append_own_at (P:=P) w base t ty e i z size bytes ht hi J ac aa hz V v n xs p ad m c news I.1 (I.cells rfl) I.2.1 (by simp only[maxLen];omega) hb q;exact⟨F,w',h1,h2,h3,h5⟩
 | none=>
  have hm:m=0:=by
   rcases nn m with h0|h0
   ·exact h0
   ·obtain⟨ad,h,_⟩:=I.2.2 h0;cases h
  subst hm;have hn:news=[]:=Y0 (by simpa using I.1);subst hn;refine⟨v,w,?_,by simpa using p,⟨rfl,rfl,rfl,YG _,fun _ _ _=>rfl⟩,.inl rfl⟩;rcases p.2 with⟨rfl,rfl⟩|⟨g,cap,cur,rfl,_,_,M,_⟩
  ·simp[Builtin.append_,run_underlying ht,sizeOf,typeInfo,hi,Builtin.lenOf,Builtin.firstCells]
  ·simp[Builtin.append_,run_underlying ht,sizeOf,typeInfo,hi,Builtin.lenOf,Builtin.firstCells,M,storeCells]
theorem Qz{o:Oper}{a:Act}{K:Act->World->Prop}(s x:Operand)(M:o.op=.call { callee:=.builtin .append,args:=#[s,x],argTypes:=#[t,t] }){size bytes:Nat}(S:d9 P t e z size bytes)(w:World)(base:Nat)(hsv:a.eval s=v)(hown:w.ownsRow base e size v n xs)(hx:a.eval x=.slice A m c)(hs:Src w A m size news)(h63:n+m<=1000000)(hby:bytes<=1000)(hbase:base<=w.heap.size)(h:∀ p w',w'.ownsRow base e size p (n+m) (xs++news)->w.grownBy w' v.ownBlock->(p.ownBlock=v.ownBlock\/p.ownBlock=some w.heap.size)->K (a.put o.dst p) w'):o.wp P a w K Q:=by
 obtain⟨p,w',q,I,F,J⟩:=Un S o.type w base hown (c:=c) hs h63 hby hbase;unfold Oper.wp execOp;simp only[M,resolve,invoke,builtin,Zk,Zv,Y9,lO,Zb,Z7,hsv,hx,q];exact h p w' I F J
theorem iY{rest:List Oper}{o:Oper}{a:Act}(q:o.guard=none)(s x:Operand)(V:o.op=.call { callee:=.builtin .append,args:=#[s,x],argTypes:=#[t,t] }){size bytes:Nat}(S:d9 P t e z size bytes)(w:World)(base:Nat)(hsv:a.eval s=v)(hown:w.ownsRow base e size v n xs)(hx:a.eval x=.slice A m c)(hs:Src w A m size news)(h63:n+m<=1000000)(hby:bytes<=1000)(hbase:base<=w.heap.size)(h:∀ p w',w'.ownsRow base e size p (n+m) (xs++news)->w.grownBy w' v.ownBlock->(p.ownBlock=v.ownBlock\/p.ownBlock=some w.heap.size)->wpList P ops Q rest (a.put o.dst p) w'):wpList P ops Q (o::rest) a w:=
 wpList_plain q fun _ M=>Qz s x V S w base hsv hown hx hs h63 hby hbase fun p w' F I J=>M _ _ (h p w' F I J)
theorem wY{size:Nat}(h:w.ownsRow base e size v n xs)(p:∀ g,v.ownBlock=some g->w'.heap[g]?=w.heap[g]?):w'.ownsRow base e size v n xs:=by
 refine⟨h.1,?_⟩;rcases h.2 with h2|⟨g,cap,cur,rfl,h3,h4,h5⟩
 ·exact .inl h2
 ·exact .inr ⟨g,cap,cur,rfl,h3,(p g rfl).trans h4,h5⟩
theorem Al{size:Nat}(h:w.ownsRow base e size v n xs)(hg:v.ownBlock=some g):g<w.heap.size:=(h.lt g hg).2
theorem Src.one(h:w.heap[g]?=some (.cells #[v] t (0,0)))(q:v.oneCell'=true):Src w (some ⟨g,0,none⟩) 1 1 [v]:=
 ⟨rfl,by simpa using q,fun _=>⟨_,rfl,fun j u p=>by
  match j,p with
  | 0,p=>simp at p;subst p;rw[Addr.wX];simp[World.cell?,h]
  | j+1,p=>simp at p⟩⟩
def wZ(A:fj)(c k size:Nat):fj:=if c=k then A else A.map (·.add (k*size))
theorem Ao{size bytes:Nat}(S:d9 P t e z size bytes)(A:fj)(n c k:Nat)(kd:IntKind)(l:Int)(F:l=k)(h:k<=n)(w:World):
  (Instr.slice t (.slice A n c) (some (.int kd l)) none none).run P w=.ok (.slice (wZ A c k size) (n-k) (c-k)) w:=by
 obtain⟨M,hi,hz,I⟩:=S;obtain⟨i,hi,q,p,J⟩:=info_parts hi;subst F;have V:(0:Int)<=k/\(k:Int)<=n:=by omega
 simp[Instr.slice,run_underlying M,Instr.sliceBounds,Instr.sliceBound,asIntOf,h,sizeOf,typeInfo,hi,p,wZ]
theorem Src.cut{size k:Nat}(h:Src w A n size xs)(M:k<=n)(J:n<=c):Src w (wZ A c k size) (n-k) size (xs.drop (k*size)):=by
 refine⟨by rw[Y8,h.1,Nat.sub_mul],fun u z=>h.2.1 u (List.mem_of_mem_drop z),fun hn=>?_⟩;obtain⟨q,rfl,p⟩:=h.2.2 ff;rw[wZ,if_neg ff];refine⟨q.add (k*size),rfl,fun j u z=>?_⟩;have e:(q.add (k*size)).add j=q.add (k*size+j):=by
  unfold Addr.add;by_cases F:k*size=0<;>by_cases I:j=0<;>simp[F,I,kq]
 rw[e];exact p _ u (by rw[<-z,pT])
end slices
open Go.ChangeShapes Go.WideShapes Go.Deep
section
variable{H:Type}{enc:TypeId × Value→H}{P:Program}{w:World}{base:Nat}{held:Bool}
theorem x9{α:Type}(R:α->List Value)(size:Nat)(q:0<size):∀ (xs:List α),(∀ x ∈ xs,(R x).length=size)->∀ j u,(xs.flatMap R)[j]?=some u->∃ x,xs[j / size]?=some x/\(R x)[j % size]?=some u
 | [],_,j,u,h=>by simp at h
 | x::xs,hR,j,u,h=>by
  have I:=hR x gw;rw[Zm] at h;by_cases p:j<size
  ·rw[mA ff] at h;exact⟨x,by rw[Nat.div_eq_of_lt p];rfl,by rw[Nat.mod_eq_of_lt p];exact h⟩
  ·rw[pk ff,I] at h;obtain⟨y,J,F⟩:=x9 R size q xs (fun z M=>hR z (by simp[M])) (j-size) u h;refine⟨y,?_,?_⟩
   ·rw[show j=(j-size)+size by omega,Nat.add_div_right _ q];simpa using J
   ·rw[show j=(j-size)+size by omega,Nat.add_mod_right];exact F
theorem yg{α:Type}(R:α->List Value)(size:Nat):∀ (xs:List α),(∀ x ∈ xs,(R x).length=size)->(xs.flatMap R).length=xs.length*size
 | [],_=>by simp
 | x::xs,hR=>by
  rw[Zm,Yz,hR x gw,yg R size xs (fun z hz=>hR z (by simp[hz])),YR,jz];omega
theorem Gg{d:DataW H}{ps:List MemPlace}{α:Type}[Inhabited α](R:α->List Value)(q:α->Prop){size:Nat}(ht:P.underlying t=some (.slice e))(hc:P.cellsOf e=size)(hs:0<size)(aa:∀ m cs y,DataW.trod enc P w base (fun _=>true) held m e cs=some y->∃ x,cs=R x/\q x)(one:∀ x,q x->∀ u ∈ R x,u.oneCell'=true)(h:DataW.Trod enc P w base (fun _=>true) held t (.slice A n c) d ps):
  ∃ xs:List α,xs.length=n/\Src w A n size (xs.flatMap R)/\(∀ x ∈ xs,q x/\(R x).length=size)/\n<=c/\c<=maxLen:=by
 obtain⟨ad,hf⟩:=h;rcases open_slice ht hf with⟨h0,_⟩|⟨a,len,cap,m,k,D,Pl,hv,_,hl,hm,ab,_,hx⟩
 ·simp[Value.cells] at h0;obtain⟨rfl,rfl,rfl⟩:=h0;exact⟨[],rfl,Src.none_,by simp,by omega,by omega⟩
 ·simp[Value.cells] at hv;obtain⟨rfl,rfl,rfl⟩:=hv;simp only[if_true] at ab;subst ab
  obtain⟨F,hF⟩:=choose_lt (n:=m) (p:=fun i (x:α)=>q x/\w.cells? base (a.add (i*P.cellsOf e)) (P.cellsOf e)=some (R x)) (fun i hi=>by
   obtain⟨cs',M,J⟩:=hx i hi;obtain⟨x,rfl,hg⟩:=aa _ _ _ J
   exact⟨x,hg,M⟩)
  have V:∀ i,i<m->(R (F i)).length=size:=fun i hi=>by
   obtain⟨_,J,_⟩:=World.cells?_some (hF i hi).2;rw[J,hc]
  have z:∀ x ∈ (List.range n).map F,q x/\(R x).length=size:=by
   intro x I;simp only[rl,Zp] at I;obtain⟨i,hi,rfl⟩:=I;exact⟨(hF i ff).1,V i ff⟩
  refine⟨(List.range n).map F,by simp,⟨?_,?_,fun _=>⟨a,rfl,?_⟩⟩,z,hl,hm⟩
  ·rw[yg R size _ (fun x I=>(z x I).2)];simp
  ·intro u hu;rw[sB] at hu;obtain⟨x,M,J⟩:=hu;exact one x (z x M).1 u J
  ·intro j u hu;obtain⟨x,M,J⟩:=x9 R size hs _ (fun x I=>(z x I).2) j u hu;rw[Y6,py] at M;obtain⟨i,hi,rfl⟩:=M;have ac:j / size<n/\i=j / size:=by
    obtain⟨M,J⟩:=List.getElem?_eq_some_iff.1 hi;simp at M J;exact⟨M,J.symm⟩
   obtain⟨ae,rfl⟩:=ac;obtain⟨_,_,h4⟩:=World.cells?_some (hF (j / size) ff).2;have h5:=h4 (j % size) (by rw[hc];exact Nat.mod_lt _ hs);rw[add_add,hc,Nat.div_add_mod' j size] at h5;rw[h5];exact J
theorem yh{fs:Array Field}{m:Nat}{cs:List Value}{y:DataW H × List MemPlace}(he:P.underlying e=some (.struct fs))(q:oneCellFields P fs=true)(hC:P.cellsOf e=fs.size)(h:DataW.trod enc P w base (fun _=>true) held m e cs=some y):
  cs.length=fs.size/\∃ n,∀ (j:Nat) (f:Field),fs[j]?=some f->∃ (v:Value) (z:DataW H × List MemPlace),cs[j]?=some v/\DataW.trod enc P w base (fun _=>true) held n f.type [v]=some z:=by
 obtain⟨V,n',_,_,hl,aa,hf⟩:=DataW.trod_struct he h;have J:cs.length=fs.size:=by rw[<-hC];exact hl
 refine⟨J,n',fun j f I=>?_⟩;obtain⟨ho,hk⟩:=hone_of q j f I;have ab:j<fs.size:=(Array.getElem?_eq_some_iff.1 I).1;have M:=hf j f I;rw[ho,hk] at M;have p:(cs.drop j).take 1=[cs[j]'ff]:=by
  rw[Y7 ff];rfl
 rw[p] at M;have F:V[j]?=some (V[j]'ff):=YH ff;exact⟨_,_,YH ff,M.trans F⟩
end
def ia(p:Prop):Prop:=p
theorem held{p:Prop}(h:ia p):p:=h
theorem ia.mk{p:Prop}(h:p):ia p:=h
variable{w0 W W':World}{b:Nat}
theorem Src.open_{size:Nat}(h:Src w A n size xs)(hn:0<n)(V:0<size):
  ∃ b o,A=some ⟨b,o,none⟩/\∀ j u,xs[j]?=some u->w.cell? ⟨b,o+j,none⟩=some u:=by
 obtain⟨M,rfl,F⟩:=h.2.2 hn;have J:0<xs.length:=by rw[h.1];exact Nat.mul_pos hn V
 have q:=F 0 xs[0] (YH J);obtain⟨b,o,z⟩:=M;have p:z=none:=by
  cases z with
  | none=>rfl
  | some x=>
   exfalso;simp only[Addr.add,if_true,World.cell?] at q;split at q<;>simp at q
 subst p;refine⟨b,o,rfl,fun j u hu=>?_⟩;have:=F j u hu;by_cases I:j=0
 ·subst I;simpa[Addr.add] using this
 ·simpa[Addr.add,I] using this
def bq:=World->(Nat->Prop)->Prop
class bq.Ok(O:bq):Prop where
 lt:∀ {w F},O w F->∀ i,F i->i<w.heap.size
 keep:∀ {w w' F},O w F->(∀ i,F i->w'.heap[i]?=w.heap[i]?)->O w' F
def bS(w:World)(F:Nat->Prop)(R:bq)(w':World):Prop:=∃ F',R w' F'/\Mod F w w'/\∀ i,F' i->F i\/(w.heap.size<=i/\i<w'.heap.size)
def aj(A B:bq):bq:=fun w F=>∃ F1 F2,A w F1/\B w F2/\(∀ i,F1 i->¬ F2 i)/\∀ i,F i↔F1 i\/F2 i
def aS:bq:=fun _ F=>∀ i,¬ F i
structure oQ(N:Nat)(w0:World)(O:bq)(W:World):Prop where
 own:∃ F,O W F/\∀ i,F i->N<=i
 bN:Below N w0 W
 big:N<=w0.heap.size
theorem aO:aS.Ok:=⟨fun h i hi=>(h i hi).elim,fun h _=>h⟩
instance : aS.Ok:=aO
theorem ay{A B:bq}(ha:A.Ok)(hb:B.Ok):(aj A B).Ok:=
 ⟨fun⟨F1,F2,h1,h2,_,h4⟩ i hi=>((h4 i).1 hi).elim (ha.lt h1 i) (hb.lt h2 i),
  fun⟨F1,F2,h1,h2,h3,h4⟩ hk=>⟨F1,F2,ha.keep h1 (fun i hi=>hk i ((h4 i).2 (.inl hi))),hb.keep h2 (fun i hi=>hk i ((h4 i).2 (.inr hi))),h3,h4⟩⟩
instance {A B:bq} [ha:A.Ok] [hb:B.Ok]:(aj A B).Ok:=ay ha hb
theorem aQ{A:bq}[h:A.Ok]:A.Ok:=h
section
variable{N:Nat}{w0 W W':World}{A B C D O R:bq}
theorem oQ.start(w:World):oQ w.heap.size w aS w:=⟨⟨fun _=>False,fun _ h=>h,fun _ h=>h.elim⟩,YC _ _,YG _⟩
theorem oQ.size(h:oQ N w0 O W):N<=W.heap.size:=YQ h.big h.bN.size
theorem oQ.below(h:oQ N w0 O W)(ho:O.Ok)(hb:Below W.heap.size W W'):oQ N w0 O W':=by
 obtain⟨F,h1,h2⟩:=h.own;exact⟨⟨F,ho.keep h1 (fun i hi=>hb.block i (ho.lt h1 i hi)),h2⟩,h.bN.trans (hb.mono h.size),h.big⟩
theorem oQ.take(h:oQ N w0 (aj A B) W)(M:B.Ok):∃ F,A W F/\(∀ i,F i->N<=i)/\∀ (R:bq) (W':World),bS W F R W'->oQ N w0 (aj R B) W':=by
 have hs:=h.size;obtain⟨F,⟨F1,F2,h1,J,h3,z⟩,I⟩:=h.own;refine⟨F1,h1,fun i hi=>I i ((z i).2 (.inl hi)),fun R W' hp=>?_⟩;obtain⟨F',g1,p,V⟩:=hp;refine⟨⟨fun i=>F' i\/F2 i,⟨F',F2,g1,M.keep J (fun i hi=>p.block i (M.lt J i hi) (fun hf=>h3 i hf hi)),fun i hi q=>?_,fun i=>jq⟩,fun i hi=>?_⟩,?_,h.big⟩
 ·rcases V i hi with g|g
  ·exact h3 i g q
  ·have:=M.lt J i q;omega
 ·rcases hi with hi|hi
  ·rcases V i hi with g|g
   ·exact I i ((z i).2 (.inl g))
   ·omega
  ·exact I i ((z i).2 (.inr hi))
 ·exact h.bN.trans ⟨p.os,p.tape,p.output,p.size,fun k hk=>p.block k ff (fun e=>by have:=I k ((z k).2 (.inl e));omega)⟩
theorem oQ.fresh(h:oQ N w0 O W)(ho:O.Ok)(q:bS W fh R W'):oQ N w0 (aj R O) W':=by
 have hs:=h.size;obtain⟨F,M,h2⟩:=h.own;have J:oQ N w0 (aj aS O) W:=⟨⟨F,⟨fun _=>False,F,fun _ h=>h,M,fun _ h=>h.elim,fun i=>by simp⟩,h2⟩,h.bN,h.big⟩;obtain⟨F0,e1,e2,V⟩:=J.take ho;refine V R W' ?_;obtain⟨F',I,z,p⟩:=q;exact⟨F',I,z.mono (fun _ _ h=>h.elim),fun i hi=>(p i hi).elim (fun h=>h.elim) .inr⟩
theorem oQ.imp(h:oQ N w0 A W)(hi:∀ w F,A w F->B w F):oQ N w0 B W:=by
 obtain⟨F,h1,h2⟩:=h.own;exact⟨⟨F,hi _ _ h1,h2⟩,h.bN,h.big⟩
theorem iC(h:aj A B w F):aj B A w F:=by
 obtain⟨F1,F2,h1,h2,h3,h4⟩:=h;exact⟨F2,F1,h2,h1,fun i h g=>h3 i g h,fun i=>(h4 i).trans Or.comm⟩
theorem je(h:aj A (aj B C) w F):aj B (aj A C) w F:=by
 obtain⟨I,F2,J,⟨F3,q,M,V,h5,p⟩,z,h8⟩:=h;refine⟨F3,fun i=>I i\/q i,M,⟨I,q,J,V,fun i hi h4=>z i hi ((p i).2 (.inr h4)),fun i=>jq⟩,fun i hi h=>?_,fun i=>?_⟩
 ·rcases h with h|h
  ·exact z i h ((p i).2 (.inl hi))
  ·exact h5 i hi h
 ·rw[h8,p];constructor<;>rintro (h|h|h)<;>simp[h]
theorem bK{A' B':bq}(h:aj A B w F)(ha:∀ F,A w F->A' w F)(hb:∀ F,B w F->B' w F):aj A' B' w F:=by
 obtain⟨F1,F2,h1,h2,h3,h4⟩:=h;exact⟨F1,F2,ha _ h1,hb _ h2,h3,h4⟩
theorem jD(h:aj A aS w F):A w F:=by
 obtain⟨F1,F2,h1,h2,h3,h4⟩:=h;have:F1=F:=by funext i;exact propext ⟨fun h=>(h4 i).2 (.inl h),fun h=>((h4 i).1 h).elim id (fun h=>(h2 i h).elim)⟩
 exact this ▸ h1
theorem oQ.swap(h:oQ N w0 (aj A B) W):oQ N w0 (aj B A) W:=h.imp fun _ _=>iC
theorem oQ.oM(h:oQ N w0 (aj A (aj B C)) W):oQ N w0 (aj B (aj A C)) W:=h.imp fun _ _=>je
theorem oQ.WM(h:oQ N w0 (aj A (aj B (aj C D))) W):oQ N w0 (aj C (aj A (aj B D))) W:=
 (h.imp fun _ _ h=>bK h (fun _ h=>h) (fun _ h=>je h)).oM
theorem oQ.drop(h:oQ N w0 (aj A B) W):oQ N w0 B W:=by
 obtain⟨F,⟨F1,F2,h1,h2,h3,h4⟩,h5⟩:=h.own;exact⟨⟨F2,h2,fun i hi=>h5 i ((h4 i).2 (.inr hi))⟩,h.bN,h.big⟩
theorem oQ.fst(h:oQ N w0 (aj A B) W):∃ F,A W F/\∀ i,F i->N<=i:=by
 obtain⟨F,⟨F1,F2,h1,h2,h3,h4⟩,h5⟩:=h.own;exact⟨F1,h1,fun i hi=>h5 i ((h4 i).2 (.inl hi))⟩
theorem oQ.one(h:oQ N w0 A W):oQ N w0 (aj A aS) W:=by
 obtain⟨F,h1,h2⟩:=h.own;exact⟨⟨F,⟨F,fun _=>False,h1,fun _ h=>h,fun _ _ h=>h,fun i=>by simp⟩,h2⟩,h.bN,h.big⟩
theorem oQ.cell(h:oQ N w0 O W){p:Addr}{u:Value}(hc:w0.cell? p=some u)(hp:p.block<N):W.cell? p=some u:=by rw[h.bN.cell hp];exact hc
theorem oQ.src(h:oQ N w0 O W){A:fj}{size:Nat}(hs:Src w0 A n size xs)(hN:N=w0.heap.size):Src W A n size xs:=by
 subst hN;refine⟨hs.1,hs.2.1,fun hn=>?_⟩;obtain⟨ad,e,hc⟩:=hs.2.2 hn;exact⟨ad,e,fun j u hu=>h.cell (hc j u hu) (YW _ _ (hc j u hu))⟩
end
theorem oQ.last{N:Nat}{A B C:bq}(h:oQ N w0 (aj A (aj B C)) W):oQ N w0 (aj C (aj A B)) W:=
 (h.imp fun _ _ h=>bK h (fun _ h=>h) (fun _ h=>iC h)).oM
def av(g:Nat)(cs:Array Value)(t:TypeId):bq:=fun w F=>w.heap[g]?=some (.cells cs t (0,0))/\∀ i,F i↔i=g
theorem aC{cs:Array Value}:(av g cs t).Ok:=
 ⟨fun h i hi=>by rw[(h.2 i).1 hi];exact lt_of_block h.1,fun h hk=>⟨(hk g ((h.2 g).2 rfl)).trans h.1,h.2⟩⟩
instance {g:Nat} {cs:Array Value} {t:TypeId}:(av g cs t).Ok:=aC
theorem fG(w:World)(cs:Array Value)(t:TypeId):bS w fh (av w.heap.size cs t) (w.alloc (.cells cs t)):=
 ⟨fun i=>i=w.heap.size,⟨Qx rfl,fun i=>jq⟩,Mod.of_below ((YC _ _).alloc (YG _) _),fun i hi=>.inr (by subst hi;simp)⟩
def aZ(e:TypeId)(size:Nat)(v:Value)(n:Nat)(xs:List Value):bq:=fun w F=>w.ownsRow 0 e size v n xs/\∀ i,F i↔v.ownBlock=some i
theorem cB{size:Nat}:(aZ e size v n xs).Ok:=
 ⟨fun h i hi=>Al h.1 ((h.2 i).1 hi),fun h hk=>⟨wY h.1 (fun g hg=>hk g ((h.2 g).2 hg)),h.2⟩⟩
instance {e:TypeId} {size:Nat} {v:Value} {n:Nat} {xs:List Value}:(aZ e size v n xs).Ok:=cB
theorem fZ(w:World)(e:TypeId)(size:Nat):aZ e size (.slice none 0 0) 0 [] w fh:=⟨World.ownsRow_nil _ _ _ _,fun i=>by simp[Value.ownBlock]⟩
theorem Rx{b':Nat}{size:Nat}(h:w.ownsRow b e size v n xs)(hb:b'<=b):w.ownsRow b' e size v n xs:=
 ⟨h.1,h.2.imp id (fun⟨g,cap,cur,h1,h2,h3⟩=>⟨g,cap,cur,h1,YQ hb h2,h3⟩)⟩
theorem iy{size:Nat}{q:Value}{n':Nat}{z:List Value}(h:aZ e size v n xs W F)(I:W'.ownsRow 0 e size q n' z)(J:W.grownBy W' v.ownBlock)(p:q.ownBlock=v.ownBlock\/q.ownBlock=some W.heap.size):
  bS W F (aZ e size q n' z) W':=by
 refine⟨fun i=>q.ownBlock=some i,⟨I,fun i=>jq⟩,Mod.uZ J (fun k M _=>(h.2 k).2 M),fun i hi=>?_⟩;rcases p with p|p
 ·exact .inl ((h.2 i).2 (p ▸ hi))
 ·rw[p] at hi;injection hi with hi;subst hi
  exact .inr ⟨YG _,Al I p⟩
theorem sJ{size:Nat}(h:W'.ownsRow W.heap.size e size v n xs)(hb:Below W.heap.size W W'):bS W fh (aZ e size v n xs) W':=
 ⟨fun i=>v.ownBlock=some i,⟨Rx h (YE _),fun i=>jq⟩,Mod.of_below hb,fun i hi=>.inr (h.lt i hi)⟩
theorem iG{size:Nat}(h:aZ e size (.slice A n c) n xs W F)(h1:∀ u ∈ xs,u.oneCell'=true):Src W A n size xs:=Src.WH h.1 h1
theorem fV{size:Nat}(h:W.ownsRow b e size v n xs):∃ A c,v=.slice A n c:=by
 rcases h.2 with⟨rfl,rfl⟩|⟨g,cap,cur,rfl,_⟩
 ·exact⟨none,0,rfl⟩
 ·exact⟨_,_,rfl⟩
instance:aS.Ok:=aO
instance {A B:bq} [ha:A.Ok] [hb:B.Ok]:(aj A B).Ok:=ay ha hb
instance {g:Nat} {cs:Array Value} {t:TypeId}:(av g cs t).Ok:=aC
instance {e:TypeId} {size:Nat} {v:Value} {n:Nat} {xs:List Value}:(aZ e size v n xs).Ok:=cB
structure aI(F0:Nat->Prop)(w0:World)(O:bq)(W:World):Prop where
 own:∃ F,O W F/\∀ i,F i->F0 i\/w0.heap.size<=i
 mod:Mod F0 w0 W
section
variable{F0:Nat→Prop}{w0 W W':World}{A B C D O R:bq}
theorem aI.start{F0:Nat->Prop}(h:O w F0):aI F0 w O w:=⟨⟨F0,h,fun i hi=>.inl hi⟩,Mod.refl _ _⟩
theorem aI.begin(w:World):aI fh w aS w:=⟨⟨fun _=>False,fun _ h=>h,fun _ h=>h.elim⟩,Mod.refl _ _⟩
theorem aI.size(h:aI F0 w0 O W):w0.heap.size<=W.heap.size:=h.mod.size
theorem aI.bN(h:aI fh w0 O W):Below w0.heap.size w0 W:=h.mod.below (fun _ _ h=>h)
theorem aI.post(h:aI F0 w0 O W)(ho:O.Ok):bS w0 F0 O W:=by
 obtain⟨F,h1,h2⟩:=h.own;exact⟨F,h1,h.mod,fun i hi=>(h2 i hi).imp id (fun g=>⟨g,ho.lt h1 i hi⟩)⟩
theorem aI.imp(h:aI F0 w0 A W)(hi:∀ w F,A w F->B w F):aI F0 w0 B W:=by
 obtain⟨F,h1,h2⟩:=h.own;exact⟨⟨F,hi _ _ h1,h2⟩,h.mod⟩
theorem aI.below(h:aI F0 w0 O W)(ho:O.Ok)(hb:Below W.heap.size W W'):aI F0 w0 O W':=by
 obtain⟨F,h1,h2⟩:=h.own;exact⟨⟨F,ho.keep h1 (fun i hi=>hb.block i (ho.lt h1 i hi)),h2⟩,h.mod.trans (Mod.of_below (F:=fun _=>False) hb) (fun _ _ h=>h) (fun _ _ h=>h.elim)⟩
theorem aI.drew(h:aI F0 w0 O W)(ho:O.Ok):aI F0 w0 O W.drew:=h.below ho (dO (YC _ _))
theorem aI.drewN(h:aI F0 w0 O W)(ho:O.Ok)(n:Nat):aI F0 w0 O (W.drewN n):=h.below ho (below_drewN (YC _ _) n)
theorem aI.take(h:aI F0 w0 (aj A B) W)(ha:A.Ok)(M:B.Ok):∃ F,A W F/\(∀ i,F i->F0 i\/w0.heap.size<=i)/\∀ (R:bq) (W':World),bS W F R W'->aI F0 w0 (aj R B) W':=by
 have hs:=h.size;obtain⟨F,⟨F1,F2,h1,J,h3,q⟩,z⟩:=h.own;refine⟨F1,h1,fun i hi=>z i ((q i).2 (.inl hi)),fun R W' hp=>?_⟩;obtain⟨F',g1,g2,V⟩:=hp;refine⟨⟨fun i=>F' i\/F2 i,⟨F',F2,g1,M.keep J (fun i hi=>g2.block i (M.lt J i hi) (fun I=>h3 i I hi)),fun i hi p=>?_,fun i=>jq⟩,fun i hi=>?_⟩,?_⟩
 ·rcases V i hi with g|g
  ·exact h3 i g p
  ·have:=M.lt J i p;omega
 ·rcases hi with hi|hi
  ·rcases V i hi with g|g
   ·exact z i ((q i).2 (.inl g))
   ·exact .inr ff
  ·exact z i ((q i).2 (.inr hi))
 ·exact h.mod.trans g2 (fun _ _ h=>h) (fun i hi I=>(z i ((q i).2 (.inl I))).elim id (fun g=>by omega))
theorem aI.one(h:aI F0 w0 A W):aI F0 w0 (aj A aS) W:=by
 obtain⟨F,h1,h2⟩:=h.own;exact⟨⟨F,⟨F,fun _=>False,h1,fun _ h=>h,fun _ _ h=>h,fun i=>by simp⟩,h2⟩,h.mod⟩
theorem aI.all(h:aI F0 w0 A W)(ha:A.Ok):∃ F,A W F/\∀ (R:bq) (W':World),bS W F R W'->aI F0 w0 R W':=by
 obtain⟨F,h1,-,h2⟩:=h.one.take ha aO;exact⟨F,h1,fun R W' hp=>(h2 R W' hp).imp fun _ _ h=>jD h⟩
theorem aI.fresh(h:aI F0 w0 O W)(V:O.Ok)(I:bS W fh R W'):aI F0 w0 (aj R O) W':=by
 have z:aI F0 w0 (aj aS O) W:=h.one.imp fun _ _ h=>iC h;obtain⟨F,e1,-,e2⟩:=z.take aO V;refine e2 R W' ?_;obtain⟨p,q,M,J⟩:=I;exact⟨p,q,M.mono (fun _ _ h=>h.elim),fun i hi=>(J i hi).elim (fun h=>h.elim) .inr⟩
theorem aI.swap(h:aI F0 w0 (aj A B) W):aI F0 w0 (aj B A) W:=h.imp fun _ _=>iC
theorem aI.oM(h:aI F0 w0 (aj A (aj B C)) W):aI F0 w0 (aj B (aj A C)) W:=h.imp fun _ _=>je
theorem aI.last(h:aI F0 w0 (aj A (aj B C)) W):aI F0 w0 (aj C (aj A B)) W:=
 (h.imp fun _ _ h=>bK h (fun _ h=>h) (fun _ h=>iC h)).oM
theorem aI.WM(h:aI F0 w0 (aj A (aj B (aj C D))) W):aI F0 w0 (aj C (aj A (aj B D))) W:=
 (h.imp fun _ _ h=>bK h (fun _ h=>h) (fun _ h=>je h)).oM
theorem aI.drop(h:aI F0 w0 (aj A B) W):aI F0 w0 B W:=by
 obtain⟨F,⟨F1,F2,h1,h2,h3,h4⟩,h5⟩:=h.own;exact⟨⟨F2,h2,fun i hi=>h5 i ((h4 i).2 (.inr hi))⟩,h.mod⟩
theorem aI.fst(h:aI F0 w0 (aj A B) W):∃ F,A W F:=by
 obtain⟨F,⟨F1,F2,h1,h2,h3,h4⟩,h5⟩:=h.own;exact⟨F1,h1⟩
theorem aI.get(h:aI F0 w0 A W):∃ F,A W F:=by
 obtain⟨F,h1,_⟩:=h.own;exact⟨F,h1⟩
theorem aI.cell(h:aI F0 w0 O W){p:Addr}{u:Value}(hc:w0.cell? p=some u)(hp:¬ F0 p.block):W.cell? p=some u:=by rw[h.mod.cell (YW _ _ hc) hp];exact hc
theorem aI.src(h:aI F0 w0 O W){A:fj}{size:Nat}(hs:Src w0 A n size xs)(hn:∀ ad:Addr,A=some ad->¬ F0 ad.block):Src W A n size xs:=by
 refine⟨hs.1,hs.2.1,fun h0=>?_⟩;obtain⟨ad,e,hc⟩:=hs.2.2 h0;exact⟨ad,e,fun j u hu=>h.cell (hc j u hu) (by rw[Addr.add_block];exact hn ad e)⟩
theorem aI.XM(h:aI fh w0 O W){A:fj}{size:Nat}(hs:Src w0 A n size xs):Src W A n size xs:=h.src hs (fun _ _ h=>h)
theorem AO(h:aj (aj A B) C w F):aj A (aj B C) w F:=by
 obtain⟨F1,J,⟨F3,I,M,V,h3,q⟩,h5,z,h7⟩:=h;refine⟨F3,fun i=>I i\/J i,M,⟨I,J,V,h5,fun i h g=>z i ((q i).2 (.inr h)) g,fun i=>jq⟩,fun i hi p=>?_,fun i=>?_⟩
 ·rcases p with p|p
  ·exact h3 i hi p
  ·exact z i ((q i).2 (.inl hi)) p
 ·rw[h7,q,or_assoc]
theorem aI.assoc(h:aI F0 w0 (aj (aj A B) C) W):aI F0 w0 (aj A (aj B C)) W:=h.imp fun _ _=>AO
end
theorem GH(w:World)(e:TypeId)(size:Nat):bS w fh (aZ e size (.slice (some ⟨w.heap.size,0,none⟩) 0 0) 0 []) (w.alloc (.cells #[] e)):=
 sJ (World.ownsRow_made w #[] 0 (YG _) (by simp[maxLen]) gw) ((YC _ _).alloc (YG _) _)
variable{i:Nat}
theorem Src.take{size k:Nat}(h:Src w A n size xs)(z:k<=n):Src w A k size (xs.take (k*size)):=by
 refine⟨?_,fun u p=>h.2.1 u (ZC p),fun hn=>?_⟩
 ·rw[YU,h.1];exact Nat.min_eq_left (pN _ z)
 ·obtain⟨q,e,F⟩:=h.2.2 ff;exact⟨q,e,fun j u p=>F j u (by rw[pZ] at p;split at p;exact p;cases p)⟩
theorem vJ{P:Program}{z:Value}{size bytes:Nat}(S:d9 P t e z size bytes)(A:fj)(n c k:Nat)(kd:IntKind)(l:Int)(F:l=k)(h:k<=c)(w:World):
  (Instr.slice t (.slice A n c) none (some (.int kd l)) none).run P w=.ok (.slice A k c) w:=by
 obtain⟨M,hi,hz,I⟩:=S;obtain⟨i,hi,q,p,J⟩:=info_parts hi;subst F;have V:(0:Int)<=k/\(k:Int)<=c:=by omega
 cases A<;>simp[Instr.slice,run_underlying M,Instr.sliceBounds,Instr.sliceBound,asIntOf,h,sizeOf,typeInfo,hi,p,Addr.add]
theorem zh{base:Nat}{size:Nat}(h:w.ownsRow base e size (.slice A n c) n xs):n<=c/\(A=none->c=0):=by
 rcases h.2 with⟨p,z⟩|⟨g,cap,cur,p,_,_,q,_⟩
 ·injection p with e1 e2 e3;omega
 ·injection p with e1 e2 e3;subst e3;exact⟨q,fun e=>by rw[e] at e1;cases e1⟩
theorem GI{cur:Array Value}(v:Value)(h:w.heap[b]?=some (.cells cur t)):(w.setCell ⟨b,i,none⟩ v).heap[b]?=some (.cells (cur.setIfInBounds i v) t):=by
 rw[setCell_eq_setRow w b i cur t (0,0) v h];exact setRow_heap w b cur _ t (0,0) h
theorem qX{cs:Array Value}(h:av g cs t w F)(i:Nat)(v:Value):bS w F (av g (cs.setIfInBounds i v) t) (w.setCell ⟨g,i,none⟩ v):=
 ⟨F,⟨GI v h.1,h.2⟩,(Mod.refl _ _).setCell v (fun _=>(h.2 g).2 rfl),fun i hi=>.inl hi⟩
theorem aB{cs:Array Value}(h:av g cs t w F)(hv:cs[i]?=some v):w.cell? ⟨g,i,none⟩=some v:=by
 simp[World.cell?,h.1,hv]
theorem aP{cs:Array Value}(h:av g cs t w F)(i:Nat):w.frozen? ⟨g,i,none⟩=false:=by
 simp[World.frozen?,h.1]
def aR:List bq->bq
 | []=>aS
 | A::l=>aj A (aR l)
theorem rE:∀ {l:List bq},(∀ A ∈ l,A.Ok)->(aR l).Ok
 | [],_=>aO
 | A::l,h=>ay (h A gw) (rE (fun B hB=>h B (by simp[hB])))
variable{k:Nat}
theorem OG{A:bq}(h:A w F):aj A aS w F:=⟨F,fun _=>False,h,fun _ h=>h,fun _ _ h=>h,fun i=>by simp⟩
theorem Hr{A B C:bq}(h:aj A (aj B C) w F):aj (aj A B) C w F:=by
 obtain⟨J,F2,h1,⟨I,V,h2,h3,h4,q⟩,z,M⟩:=h;refine⟨fun i=>J i\/I i,V,⟨J,I,h1,h2,fun i hi p=>z i hi ((q i).2 (.inl p)),fun i=>jq⟩,h3,fun i hi p=>?_,fun i=>?_⟩
 ·rcases hi with hi|hi
  ·exact z i hi ((q i).2 (.inr p))
  ·exact h4 i hi p
 ·rw[M,q,or_assoc]
theorem Eo:∀ {l:List bq} {k:Nat} (p:k<l.length) {w:World} {F:Nat->Prop},aR l w F->aj l[k] (aR (l.eraseIdx k)) w F
 | A::l,0,_,_,_,h=>h
 | A::l,k+1,p,w,F,h=>by
  have z:aj A (aR l) w F:=h;have q:aj A (aj (l[k]'(by simpa using p)) (aR (l.eraseIdx k))) w F:=bK z (fun _ h=>h) (fun F h=>Eo (by simpa using p) h);exact je q
theorem Ry:∀ {l:List bq} {k:Nat} (hk:k<l.length) {B:bq} {w:World} {F:Nat->Prop},aj B (aR (l.eraseIdx k)) w F->aR (l.set k B) w F
 | A::l,0,_,_,_,_,h=>h
 | A::l,k+1,hk,B,w,F,h=>by
  have h1:aj B (aj A (aR (l.eraseIdx k))) w F:=h;exact bK (je h1) (fun _ h=>h) (fun F h=>Ry (by simpa using hk) h)
theorem Bf:∀ {l:List bq} {B:bq} {w:World} {F:Nat->Prop},aj B (aR l) w F->aR (l++[B]) w F
 | [],B,w,F,h=>h
 | A::l,B,w,F,h=>by
  have h1:aj B (aj A (aR l)) w F:=h;exact bK (je h1) (fun _ h=>h) (fun F h=>Bf h)
section keys
variable{κ:Type}
def lg(l:List κ)(f:κ->bq):bq:=aR (l.map f)
theorem zi{l:List κ}{f:κ->bq}(h:∀ k,(f k).Ok):(lg l f).Ok:=rE (fun A hA=>by obtain⟨k,_,rfl⟩:=List.mem_map.1 hA;exact h k)
instance {l:List κ} {f:κ→bq} [h:∀ k,(f k).Ok]:(lg l f).Ok:=zi h
theorem Ht[DecidableEq κ]:∀ {l:List κ} {f:κ->bq} {k:κ} (z:k ∈ l) {w:World} {F:Nat->Prop},lg l f w F->aj (f k) (lg (l.erase k) f) w F
 | a::l,f,k,z,w,F,h=>by
  have I:aj (f a) (lg l f) w F:=h;by_cases p:a=k
  ·subst p;simpa using I
  ·have q:k ∈ l:=by simpa[kl p] using z
   rw[List.erase_cons_tail (by simpa using p)];exact je (bK I (fun _ h=>h) (fun F h=>Ht q h))
theorem Bg{l:List κ}{f g:κ->bq}(h:∀ k ∈ l,f k=g k):lg l f=lg l g:=by
 unfold lg;rw[Zu h]
theorem Hu[DecidableEq κ]:∀ {l:List κ} {f:κ->bq} {k:κ} (z:k ∈ l) {w:World} {F:Nat->Prop},aj (f k) (lg (l.erase k) f) w F->lg l f w F
 | a::l,f,k,z,w,F,h=>by
  by_cases p:a=k
  ·subst p;rw[List.erase_cons_head] at h;exact h
  ·have q:k ∈ l:=by simpa[kl p] using z
   rw[List.erase_cons_tail (by simpa using p)] at h;have I:aj (f k) (aj (f a) (lg (l.erase k) f)) w F:=h;exact bK (je I) (fun _ h=>h) (fun F h=>Hu q h)
end keys
theorem xI{α β:Type}(f:α->β):∀ (l:List α) (k:Nat),(l.map f).eraseIdx k=(l.eraseIdx k).map f
 | [],_=>rfl
 | _::_,0=>rfl
 | a::l,k+1=>by simp[xI f l k]
section arow
variable{ζ:Type}(cl:ζ→List Value)(ow:ζ→bq)
def J5(e:TypeId)(size:Nat)(v:Value)(zs:List ζ):bq:=aj (aZ e size v zs.length (zs.flatMap cl)) (aR (zs.map ow))
variable{cl ow}
theorem Ml{size:Nat}{zs:List ζ}(h:∀ z,(ow z).Ok):(J5 cl ow e size v zs).Ok:=
 ay cB (rE (fun A hA=>by obtain⟨z,_,rfl⟩:=List.mem_map.1 hA;exact h z))
instance {e:TypeId} {size:Nat} {v:Value} {zs:List ζ} [h:∀ z,(ow z).Ok]:(J5 cl ow e size v zs).Ok:=Ml h
theorem Hw{size:Nat}{zs:List ζ}(q:k<zs.length)(h:J5 cl ow e size v zs w F):
  aj (ow zs[k]) (aj (aZ e size v zs.length (zs.flatMap cl)) (aR ((zs.eraseIdx k).map ow))) w F:=by
 have z:=bK h (fun _ h=>h) (fun F h=>Eo (k:=k) (by simpa using q) h);have p:=je z;rw[ZA,xI] at p;exact p
theorem Vb{size:Nat}{zs:List ζ}(p:k<zs.length){z:ζ}(h:aj (ow z) (aj (aZ e size v zs.length ((zs.set k z).flatMap cl)) (aR ((zs.eraseIdx k).map ow))) w F):J5 cl ow e size v (zs.set k z) w F:=by
 unfold J5;rw[l3,oT];refine bK (je h) (fun _ h=>h) (fun F h=>Ry (by simpa using p) ?_);rw[xI];exact h
end arow
theorem Rz{α:Type}{R:α->List Value}{size:Nat}(hR:∀ x,(R x).length=size)(l:List α):(l.flatMap R).length=l.length*size:=by
 induction l with
 | nil=>simp
 | cons x l ih=>rw[Zm,Yz,hR,ih,YR,jz];omega
theorem vU{size:Nat}(h:aZ e size (.slice (some ⟨g,0,none⟩) n c) n xs w F)(hi:i<n*size)(v:Value):
  bS w F (aZ e size (.slice (some ⟨g,0,none⟩) n c) n (xs.set i v)) (w.setCell ⟨g,i,none⟩ v):=by
 obtain⟨q,z⟩:=h;have M:F g:=(z g).2 rfl;refine⟨F,⟨⟨by rw[l3];exact q.1,?_⟩,z⟩,(Mod.refl _ _).setCell v (fun _=>M),fun i hi=>.inl hi⟩;rcases q.2 with⟨p,e2⟩|⟨g',cap,cur,hv,h3,V,h5,h6,J,I⟩
 ·subst e2;omega
 ·injection hv with p e2 e3
  injection p with p;injection p with p
  subst p e3;refine .inr ⟨g,c,cur.setIfInBounds i v,rfl,h3,GI v V,h5,h6,by simpa using J,?_⟩;rw[Array.toList_setIfInBounds,List.take_set,I]
theorem mX{size:Nat}(h:aZ e size (.slice (some ⟨g,0,none⟩) n c) n xs w F)(hv:xs[i]?=some v):w.cell? ⟨g,i,none⟩=some v:=by
 have:=h.1.cells rfl i v hv;rwa [Addr.wX] at this
theorem oW{size:Nat}(h:aZ e size (.slice (some ⟨g,0,none⟩) n c) n xs w F)(i:Nat)(hn:0<n):w.frozen? ⟨g,i,none⟩=false:=by
 rcases h.1.2 with⟨p,e2⟩|⟨J,cap,cur,z,I,q,_⟩
 ·omega
 ·injection z with p e2 e3
  injection p with p;injection p with p
  subst p;simp[World.frozen?,q]
theorem RD{size:Nat}(h:aZ e size (.slice A n c) n xs w F)(hn:0<n):∃ g,A=some ⟨g,0,none⟩:=by
 rcases h.1.2 with⟨e1,e2⟩|⟨g',cap,cur,hv,_⟩
 ·omega
 ·injection hv with e1;exact⟨g',e1⟩
theorem RF{α:Type}(R:α->List Value)(size:Nat)(p:∀ x,(R x).length=size){l:List α}(h:k<l.length){j:Nat}(z:j<size){x:α}(q:(R l[k]).set j v=R x):(l.flatMap R).set (k*size+j) v=(l.set k x).flatMap R:=by
 induction l generalizing k with
 | nil=>simp at h
 | cons y l ih=>
  rw[Zm];cases k with
  | zero=>
   simp only[li,Zx,YA,Zm];rw[List.set_append_left _ _ (by rw[p];exact z)];simp only[YK] at q;rw[q]
  | succ k=>
   simp only[YB,Zm];rw[List.set_append_right _ _ (by rw[p,jz];omega),p,show(k+1)*size+j-size=k*size+j by rw[jz];omega,ih (by simpa using h) (by simpa using q)]
section
variable{α:Type}{kv:α→Value}
def iE(kv:α->Value)(b:Nat)(l:List (α × Value)):bq:=fun w F=>qp kv w b l/\∀ i,F i↔i=b
theorem map_ok{l:List (α × Value)}:(iE kv b l).Ok:=
 ⟨fun h i hi=>by rw[(h.2 i).1 hi];exact h.1.lt,fun h hk=>⟨h.1.of_block (hk b ((h.2 b).2 rfl)),h.2⟩⟩
instance {b:Nat} {l:List (α × Value)}:(iE kv b l).Ok:=map_ok
theorem lX(w:World):bS w fh (iE kv w.heap.size []) (w.alloc (.map #[] 0)):=
 ⟨fun i=>i=w.heap.size,⟨qp.new w,fun i=>jq⟩,Mod.of_below ((YC _ _).alloc (YG _) _),fun i hi=>.inr (by subst hi;simp)⟩
end
theorem pz(A B:bq):aj A B=aj B A:=by
 funext w F;exact propext ⟨iC,iC⟩
theorem kP(A B C:bq):aj (aj A B) C=aj A (aj B C):=by
 funext w F;exact propext ⟨AO,Hr⟩
instance star_com:Std.Commutative aj:=⟨pz⟩
instance star_ass:Std.Associative aj:=⟨kP⟩
theorem zD(A:bq):aj aS A=A:=by
 funext w F;exact propext ⟨fun h=>jD (iC h),fun h=>iC (OG h)⟩
theorem kS(A:bq):aj A aS=A:=by rw[pz,zD]
variable{F0:Nat->Prop}{A B:bq}
theorem aI.perm(h:aI F0 w0 A W)(e:A=B):aI F0 w0 B W:=e ▸ h
theorem aI.sub(h:aI F0 w0 (aj A B) W)(ha:A.Ok)(hb:B.Ok):∃ F,aI F W A W/\∀ (R:bq) (W':World),R.Ok->aI F W R W'->aI F0 w0 (aj R B) W':=by
 obtain⟨F,h1,-,h2⟩:=h.take ha hb;exact⟨F,aI.start h1,fun R W' hr hp=>h2 R W' (hp.post hr)⟩
def cO:Op->Bool
 | .call { callee:=.builtin .len,.. }|.call { callee:=.builtin .cap,.. }|.call { callee:=.builtin .min,.. }|.call { callee:=.builtin .max,.. }=>false
 | .move _|.assign _|.pick ..|.load ..|.nilCheck _|.binOp ..|.unOp ..|.makeInterface ..|.makeFunc ..|.slice ..|.fieldAddr ..|.field ..|.indexAddr ..|.index ..|.lookup ..|.extract ..|.build ..|.typeAssert ..|.entry _=>false
 | _=>true
section
variable{P:Program}{ops:Array Oper}{S:World→Prop}{Q:Exit→Act→World→Prop}
def gX:Exit->Act->World->Prop:=fun _ _ _=>False
def tu(P:Program)(ops:Array Oper)(S:World->Prop)(Q:Exit->Act->World->Prop):List Nat->Act->World->Prop
 | [],a,w=>Q .normal a w
 | i::r,a,w=>match ops[i]? with
  | none=>tu P ops S Q r a w
  | some o=>(∃ v,YieldsIf P ops S o v a/\tu P ops S Q r (a.put o.dst v) w) \/
   (cO o.op=true/\Region.wanted o (yielded ops a.tmps)=true/\o.wp P a w (fun h w'=>S w'/\tu P ops S Q r h w') gX)
variable{u:Value}{a b:Act}{oi oj:Oper}{ds:List Deferred}{K:Act->World->Prop}{j:Nat}
theorem LB{o:Oper}(z:S w)(I:YieldsIf P ops S o u a)(F:YieldsIf P ops S o v a):u=v:=by
 rcases I with⟨q,M⟩|⟨q,J⟩<;>rcases F with⟨p,V⟩|⟨p,e2⟩
 ·have h:=(M w z).symm.trans (V w z);injection h with h _
  injection h
 ·rw[q] at p;cases p
 ·rw[q] at p;cases p
 ·rw[J,e2]
theorem Jr{f:FuncId}{args:Array Value}{R:Ending->World->Prop}(h:Calls P f args w R):∃ e w',R e w':=by
 obtain⟨e,w',_,hR,_⟩:=h [];exact⟨e,w',hR⟩
theorem kQ(hs:∀ cs b,oj.op≠.select cs b)(h:∀ d,oi.dst=some d->d ∉ oj.looksAt ops)(hy:YieldsIf P ops S oj u (a.put oi.dst v)):YieldsIf P ops S oj u a:=
 hy.of_same (execOp_put oj hs a oi.dst v h).symm (wanted_put oj a oi.dst v h).symm
theorem uW(hs:∀ cs b,oj.op≠.select cs b)(h:∀ d,oi.dst=some d->d ∉ oj.looksAt ops)(hy:YieldsIf P ops S oj u a):YieldsIf P ops S oj u (a.put oi.dst v):=
 hy.of_same (execOp_put oj hs a oi.dst v h) (wanted_put oj a oi.dst v h)
theorem NM{o:Oper}(h:YieldsIf P ops S o u { a with defers:=ds }):YieldsIf P ops S o u a:=h.of_same rfl rfl
theorem Js{o:Oper}(h:YieldsIf P ops S o u a):YieldsIf P ops S o u { a with defers:=ds }:=h.of_same rfl rfl
theorem uj{p q:Oper}(M:∀ cs b,p.op≠.select cs b)(V:∀ cs b,q.op≠.select cs b)(J:p.apart ops q=true)(z:YieldsIf P ops S p v a)(h:q.wp P (a.put p.dst v) w K gX):q.wp P a w (fun a' w'=>YieldsIf P ops S p v a'/\K (a'.put p.dst v) w') gX:=by
 obtain⟨h1,I,h3⟩:=ov J;have keep:∀ (a:Act),YieldsIf P ops S p v a->∀ u,YieldsIf P ops S p v (a.put q.dst u):=fun a z u=>uW M h3 z;unfold Oper.wp at *
 rw[execOp_put q V a p.dst v h1] at h;generalize (execOp a.eval q).run P w=r at *
 cases r with
 | ok n w'=>
  cases n<;>simp only[Oper.upon] at h ⊢
  case value u=>exact⟨keep a z u,by rw[<-ZV a v u I];exact h⟩
  case skip=>exact⟨keep a z _,by rw[<-ZV a v undef I];exact h⟩
  case defer d=>
   refine⟨keep _ (Js z) _,?_⟩;rw[<-ZV _ v undef I,<-Act.put_defers];exact h
  case enter f args=>
   refine mn h fun e aa F=>?_;cases e with
   | returned u=>exact⟨keep a z u,by rw[<-ZV a v u I];exact F⟩
   | panicked c=>exact F
   | outgrown=>exact F
  case row row args=>exact Rows.mono h fun u aa F=>⟨keep a z u,by rw[<-ZV a v u I];exact F⟩
 | halt x w'=>cases x<;>simp only[Oper.upon] at h ⊢ <;> exact h
theorem um{M J:Oper}(ac:∀ cs b,M.op≠.select cs b)(p:∀ cs b,J.op≠.select cs b)(ab:M.apart ops J=true)(hS:S w)(h:M.wp P a w (fun a' w'=>S w'/\∃ u,YieldsIf P ops S J u a'/\K (a'.put J.dst u) w') gX):
  ∃ u,YieldsIf P ops S J u a/\M.wp P (a.put J.dst u) w (fun a' w'=>S w'/\K a' w') gX:=by
 obtain⟨V,h2,h3⟩:=ov ab;unfold Oper.wp at *
 have ae:∀ u,execOp (a.put J.dst u).eval M=execOp a.eval M:=fun u=>execOp_put M ac a J.dst u h3;simp only[ae];generalize (execOp a.eval M).run P w=r at *
 cases r with
 | ok n w'=>
  cases n<;>simp only[Oper.upon] at h ⊢
  case value v=>
   obtain⟨s,u,I,F⟩:=h;exact⟨u,kQ p V I,s,by rw[<-ZV a v u h2];exact F⟩
  case skip=>
   obtain⟨s,u,I,F⟩:=h;exact⟨u,kQ p V I,s,by rw[<-ZV a undef u h2];exact F⟩
  case defer d=>
   obtain⟨s,u,I,F⟩:=h;refine⟨u,NM (kQ p V I),s,?_⟩;rw[Act.put_defers,<-ZV _ undef u h2];exact F
  case enter f args=>
   obtain⟨e,w0,z⟩:=Jr h;cases e with
   | panicked c=>exact z.elim
   | outgrown=>obtain⟨_,_,z⟩:=z;exact z.elim
   | returned v0=>
    obtain⟨_,u,I,_⟩:=z;have q:=kQ p V I;refine⟨u,q,mn h fun e ad z=>?_⟩;cases e with
    | panicked c=>exact z
    | outgrown=>exact z
    | returned v=>
     obtain⟨s,u',aa,F⟩:=z;obtain rfl:=LB hS q (kQ p V aa);exact⟨s,by rw[<-ZV a v u h2];exact F⟩
  case row row args=>
   have hr:=h default [];obtain⟨v0,w0,⟨_,u,I,_⟩,_⟩:=hr;have q:=kQ p V I;refine⟨u,q,Rows.mono h fun v ad z=>?_⟩;obtain⟨s,u',aa,F⟩:=z;obtain rfl:=LB hS q (kQ p V aa);exact⟨s,by rw[<-ZV a v u h2];exact F⟩
 | halt x w'=>cases x<;>simp only[Oper.upon] at h<;>exact h.elim
def mK(ops:Array Oper)(i j:Nat):Bool:=
 match ops[i]?,ops[j]? with
 | some oi,some oj=>!(cO oi.op&&cO oj.op)&&oi.apart ops oj
 | _,_=>false
theorem NN(M:Region.noSelect ops=true){r:List Nat}(p:mK ops i j=true)(hS:S w)(h:tu P ops S Q (i::j::r) a w):tu P ops S Q (j::i::r) a w:=by
 unfold mK at p;cases hi:ops[i]? with
 | none=>simp[hi] at p
 | some oi=>
 cases hj:ops[j]? with
 | none=>simp[hj] at p
 | some oj=>
 simp only[hi,hj,YF,Z4,mL] at p;obtain⟨aa,z⟩:=p;have F:=fun cs b=>ZP M i oi cs b hi;have I:=fun cs b=>ZP M j oj cs b hj;obtain⟨h1,h2,h3⟩:=ov z;simp only[tu,hi,hj] at h ⊢;rcases h with⟨v,hy,⟨u,ab,J⟩|⟨V,hw,J⟩⟩|⟨V,hw,J⟩
 ·refine .inl ⟨u,kQ I h1 ab,.inl ⟨v,uW F h3 hy,?_⟩⟩;rw[<-ZV a v u h2];exact J
 ·refine .inr ⟨V,by rw[<-hw];exact(wanted_put oj a oi.dst v h1).symm,?_⟩;refine Zg (fun a' w' q=>?_) (uj F I z hy J);exact⟨q.2.1,.inl ⟨v,q.1,q.2.2⟩⟩
 ·have ac:cO oj.op=false:=by
   rcases aa with e|e
   ·rw[V] at e;cases e
   ·exact e
  have ad:oi.wp P a w (fun a' w'=>S w'/\∃ u,YieldsIf P ops S oj u a'/\tu P ops S Q r (a'.put oj.dst u) w') gX:=by
   refine Zg (fun a' w' q=>⟨q.1,?_⟩) J;rcases q.2 with q|⟨e,_⟩
   ·exact q
   ·rw[ac] at e;cases e
  obtain⟨u,hy,q⟩:=um (K:=tu P ops S Q r) F I z hS ad;refine .inl ⟨u,hy,.inr ⟨V,?_,q⟩⟩;rw[wanted_put oi a oj.dst u h3];exact hw
theorem Ah(p:Region.noSelect ops=true){j:Nat}{r:List Nat}:∀ (l:List Nat) {a:Act} {w:World},(∀ i ∈ l,mK ops i j=true)->S w->tu P ops S Q (l++j::r) a w->tu P ops S Q (j::(l++r)) a w
 | [],_,_,_,_,h=>h
 | i::l,a,w,hok,hS,h=>by
  refine NN p (hok i gw) hS ?_;have ih:=fun {a:Act} {w:World} (hS:S w)=>Ah p (r:=r) l (a:=a) (w:=w) (fun i hi=>hok i (by simp[hi])) hS;rw[Zq] at h;unfold tu at h ⊢;cases F:ops[i]? with
  | none=>simp only[F] at h ⊢;exact ih hS h
  | some o=>
   simp only[F] at h ⊢;rcases h with⟨v,z,q⟩|⟨z,q,I⟩
   ·exact .inl ⟨v,z,ih hS q⟩
   ·exact .inr ⟨z,q,Zg (fun a w h=>⟨h.1,ih h.1 h.2⟩) I⟩
def mM(ops:Array Oper)(listed:Array Bool):List Nat:=(List.range ops.size).filter fun i=>!listed.getD i true
def Closed(ops:Array Oper)(listed:Array Bool):Prop:=∀ j o,ops[j]?=some o->listed.getD j false=true->∀ e ∈ o.after,Region.binds .any e=true->listed.getD e.on false=true
def Jt(ops:Array Oper)(B:Array Nat):Bool:=
 (List.range ops.size).all fun j=>(List.range j).all fun i=>!(B.getD j 0).testBit i ||
  match ops[j]? with
  | some o=>o.after.any fun e=>Region.binds .any e&&e.on<j&&(e.on==i||(decide (i<e.on)&&(B.getD e.on 0).testBit i))
  | none=>false
def qo(ops:Array Oper):Bool:=
 Region.noSelect ops&&Jt ops (Region.before ops) &&
 (List.range ops.size).all fun j=>(match ops[j]? with|some o=>o.after.all fun e=>!Region.binds .any e||e.on<j|none=>false) &&
  (List.range j).all fun i=>((Region.before ops).getD j 0).testBit i||mK ops i j
theorem jO{B:Array Nat}(hB:Jt ops B=true){p:Array Bool}(hc:Closed ops p):∀ (n j:Nat) (o:Oper),j<n->ops[j]?=some o->(∀ e ∈ o.after,Region.binds .any e=true->p.getD e.on false=true) ->
  ∀ i,i<j->(B.getD j 0).testBit i=true->p.getD i false=true
 | 0,_,_,h,_,_,_,_,_=>by omega
 | n+1,j,o,hj,ho,ha,i,hi,hbit=>by
  have F:j<ops.size:=(Array.getElem?_eq_some_iff.1 ho).1;have h1:=hB;simp only[Jt,YX,Zp] at h1;have h2:=h1 j F i hi;simp only[ho,hbit,oB,ki] at h2;obtain⟨e,he,hb⟩:=Array.any_eq_true'.1 h2;simp only[YF,decide_eq_true_eq,ZQ,beq_iff_eq] at hb;obtain⟨⟨M,aa⟩,q⟩:=hb;have hl:=ha e he M;rcases q with rfl|⟨hie,q⟩
  ·exact hl
  ·have J:e.on<ops.size:=by omega
   have z:ops[e.on]?=some ops[e.on]:=ZW J;exact jO hB hc n e.on _ ff z (fun e' I V=>hc e.on _ z hl e' I V) i hie q
theorem range_split(h:j<n):List.range n=List.range j++j::List.range' (j+1) (n-j-1):=by
 have e:n=j+(1+(n-j-1)):=by omega
 conv=>lhs;rw[e,ZE,<-List.range'_append_1,<-List.range'_append_1]
 simp[ZE]
theorem getD_lt{listed:Array Bool}(h:i<listed.size)(d d':Bool):listed.getD i d=listed.getD i d':=by simp[h]
theorem l9{h:Array Bool}(J:h.size=ops.size)(F:j<ops.size)(I:h.getD j true=false):
  ∃ q z,mM ops h=q++j::z/\mM ops (h.setIfInBounds j true)=q++z/\(∀ i ∈ q,i<j/\h.getD i true=false):=by
 refine⟨(List.range j).filter fun i=>!h.getD i true,(List.range' (j+1) (ops.size-j-1)).filter fun i=>!h.getD i true,?_,?_,?_⟩
 ·unfold mM;rw[range_split F,List.filter_append,List.filter_cons_of_pos (by simp[I])]
 ·unfold mM;have p:(h.setIfInBounds j true).getD j true=true:=by simp
  rw[range_split F,List.filter_append,List.filter_cons_of_neg (by rw[p];simp)];congr 1
  ·refine List.filter_congr fun i hi=>?_;have:j≠i:=by have:=List.mem_range.1 hi;omega
   rw[getD_set_ne true this]
  ·refine List.filter_congr fun i hi=>?_;have:j≠i:=by have:=List.mem_range'_1.1 hi;omega
   rw[getD_set_ne true this]
 ·intro i hi;rw[kO,Zp] at hi;exact⟨hi.1,by simpa using hi.2⟩
theorem xY(hB:qo ops=true):∀ (n:Nat) (p:Array Bool) (a:Act) (w:World),(mM ops p).length=n->p.size=ops.size->Closed ops p->S w->tu P ops S Q (mM ops p) a w->wpAny P .any ops Q n p a w:=by
 have ai:=hB;simp only[qo,YF,YX,Zp] at ai;obtain⟨⟨ao,ab⟩,aa⟩:=ai;intro n
 induction n with
 | zero=>
  intro p a w hn hs hc hS h;have V:mM ops p=[]:=Y0 hn;rw[V] at h;refine⟨?_,h⟩;cases hr:Region.ready .any ops p with
  | nil=>rfl
  | cons j r=>
   have hj:j ∈ Region.ready .any ops p:=by rw[hr];simp
   obtain⟨h0,o,F,_⟩:=mem_ready.1 hj;have:j ∈ mM ops p:=by
    unfold mM;rw[kO,Zp];exact⟨(Array.getElem?_eq_some_iff.1 F).1,by simp[h0]⟩
   rw[V] at this;cases this
 | succ n ih=>
  intro p a w hn hs hc hS h;refine⟨fun hr=>?_,fun j hj=>?_⟩
  ·-- the first that is not p is ready
   cases hu:mM ops p with
   | nil=>rw[hu] at hn;simp at hn
   | cons k r=>
    exfalso;have J:k ∈ mM ops p:=by rw[hu];simp
    unfold mM at J;rw[kO,Zp] at J;obtain⟨al,ad⟩:=J;have ad:p.getD k true=false:=by simpa using ad
    have F:ops[k]?=some ops[k]:=ZW al;have hd:=(aa k al).1;simp only[F] at hd;have:k ∈ Region.ready .any ops p:=by
     rw[mem_ready];refine⟨ad,_,F,fun e I hb=>?_⟩;have h1:=Array.all_eq_true_iff_forall_mem.1 hd e I;simp only[hb,oB,ki,decide_eq_true_eq] at h1;cases hl:p.getD e.on false with
     | true=>rfl
     | false=>
      exfalso;obtain⟨l1,l2,q,_,ac⟩:=l9 (ops:=ops) (j:=e.on) hs ff (by rw[getD_lt ff true false];exact hl);rw[hu] at q;cases l1 with
      | nil=>simp at q;omega
      | cons x l1=>
       simp at q;have:=(ac x gw).1;omega
    rw[hr] at this;cases this
  ·obtain⟨h0,o,F,z⟩:=mem_ready.1 hj;have ae:j<ops.size:=(Array.getElem?_eq_some_iff.1 F).1;obtain⟨l1,l2,q,an,ac⟩:=l9 (ops:=ops) hs ae h0;have hfront:tu P ops S Q (j::(l1++l2)) a w:=by
    refine Ah ao l1 (fun i hi=>?_) hS (q ▸ h);obtain⟨am,ap⟩:=ac i hi;have:=(aa j ae).2 i am;rw[ZQ] at this;rcases this with hb|hb
    ·have hl:=jO ab hc (j+1) j o ff F z i am hb;rw[getD_lt ff false true,ap] at hl;cases hl
    ·exact hb
   have M:(mM ops (p.setIfInBounds j true)).length=n:=by
    rw[an];rw[q] at hn;simp at hn ⊢;omega
   have ag:(p.setIfInBounds j true).size=ops.size:=by simpa using hs
   have af:Closed ops (p.setIfInBounds j true):=by
    intro m om hm hl e I hb;by_cases ak:m=j
    ·subst ak;rw[F] at hm;cases hm;exact getD_set_true (z e I hb)
    ·rw[getD_set_ne false (kl ak)] at hl;exact getD_set_true (hc m om hm hl e I hb)
   rw[<-an] at hfront;unfold tu at hfront;simp only[F] at hfront;rcases hfront with⟨v,hy,J⟩|⟨_,hw,J⟩
   ·exact hy.wpOp F hS (ih _ _ _ M ag af hS J)
   ·unfold wpOp;simp only[F,hw,if_true];refine .inl ?_;have h2:=Zg (K':=wpAny P .any ops Q n (p.setIfInBounds j true)) (fun a' w' J=>ih _ a' w' M ag af J.1 J.2) J
    -- the empty exit serves every exit
    unfold Oper.wp at h2 ⊢;generalize (execOp a.eval o).run P w=r at *
    cases r with
    | ok nx w'=>
     cases nx<;>simp only[Oper.upon] at h2 ⊢ <;> first
      | exact h2
      | exact mn h2 (fun e aq I=>by
        cases e with
        | returned v=>exact I
        | panicked c=>exact I.elim
        | outgrown=>obtain⟨_,_,I⟩:=I;exact I.elim)
    | halt x w'=>cases x<;>simp only[Oper.upon] at h2 ⊢ <;> first|exact h2|exact h2.elim
def lS(P:Program)(ops:Array Oper)(S:World->Prop)(Q:Exit->Act->World->Prop):List Oper->Act->World->Prop
 | [],a,w=>Q .normal a w
 | o::r,a,w=>(∃ v,YieldsIf P ops S o v a/\lS P ops S Q r (a.put o.dst v) w) \/
   (cO o.op=true/\Region.wanted o (yielded ops a.tmps)=true/\o.wp P a w (fun h w'=>S w'/\lS P ops S Q r h w') gX)
theorem wV:∀ (l:List Oper) (k:Nat) (a:Act) (w:World),(∀ j,l[j]?=ops[k+j]?)->lS P ops S Q l a w->tu P ops S Q (List.range' k l.length) a w
 | [],_,_,_,_,h=>h
 | o::l,k,a,w,hl,h=>by
  have F:ops[k]?=some o:=by simpa using (hl 0).symm
  have ih:=fun a w=>wV l (k+1) a w (fun j=>by have:=hl (j+1);simpa[kq,k9 1 j] using this);simp only[YR,ot];unfold tu;simp only[F];rcases h with⟨v,q,p⟩|⟨q,p,I⟩
  ·exact .inl ⟨v,q,ih _ _ p⟩
  ·exact .inr ⟨q,p,Zg (fun J w' z=>⟨z.1,ih _ _ z.2⟩) I⟩
theorem aK{q:Nat}{l:List Oper}(S:World->Prop)(hm:P.follows .mixedOrders=true)(F:qo l.toArray=true)(z:S w.drew)(h:lS P l.toArray S Q l a w.drew):(Code.region q l.toArray true).wp P Q a w:=by
 refine wp_region_any hm ?_;have p:mM l.toArray (Array.replicate l.toArray.size false)=List.range l.toArray.size:=by
  unfold mM;refine List.filter_eq_self.2 fun i hi=>?_;have:=List.mem_range.1 hi;simp at this;simp[this]
 refine xY (S:=S) F _ _ _ _ (by rw[p];simp) gw ?_ z ?_
 ·intro j o J I;have:j<l.length:=by have:=(Array.getElem?_eq_some_iff.1 J).1;simpa using this
  simp[this] at I
 ·rw[p];have:=wV (P:=P) (ops:=l.toArray) (S:=S) (Q:=Q) l 0 a w.drew gw h;simpa[ZE] using this
section
variable{o:Oper}{r:List Oper}{a:Act}{w:World}
theorem lex_nil(h:Q .normal a w):lS P ops S Q [] a w:=h
theorem Qs(hw:Region.wanted o (yielded ops a.tmps)=false)(h:lS P ops S Q r (a.put o.dst undef) w):lS P ops S Q (o::r) a w:=.inl ⟨undef,.inr ⟨hw,rfl⟩,h⟩
theorem Qu(hw:Region.wanted o (yielded ops a.tmps)=true)(hv:∀ w',S w'->(execOp a.eval o).run P w'=.ok (.value v) w')(h:lS P ops S Q r (a.put o.dst v) w):lS P ops S Q (o::r) a w:=.inl ⟨v,.inl ⟨hw,hv⟩,h⟩
theorem bY(hc:cO o.op=true)(hw:Region.wanted o (yielded ops a.tmps)=true)(h:∀ K:Act->World->Prop,Hid (∀ a' w',S w'->lS P ops S Q r a' w'->K a' w')->o.wp P a w K gX):lS P ops S Q (o::r) a w:=
 .inr ⟨hc,hw,h _ fun _ _ h1 h2=>⟨h1,h2⟩⟩
theorem aW(h:lS P ops S Q r b w)(hw:Region.wanted o (yielded ops a.tmps)=false:=by rfl)(hb:a.put o.dst undef=b:=by(first|(simp only[Act.put,Yy,YA,YB];done)|(simp only[Act.put,Yy,YA,YB];rfl)|rfl)):lS P ops S Q (o::r) a w:=Qs hw (hb ▸ h)
theorem aX(h:lS P ops S Q r b w)(q:Region.wanted o (yielded ops a.tmps)=true:=by rfl)(hv:∀ w',S w'->(execOp a.eval o).run P w'=.ok (.value v) w':=by(intro w' p;go_simp;(try with_reducible rfl);done))(hb:a.put o.dst v=b:=by(first|(simp only[Act.put,Yy,YA,YB];done)|(simp only[Act.put,Yy,YA,YB];rfl)|rfl)):lS P ops S Q (o::r) a w:=Qu q hv (hb ▸ h)
end
end
section
variable{P:Program}{ops:Array Oper}{Ts:List Nat}{St:Nat→World→Prop}{Q:Exit→Act→World→Prop}
def jb(ops:Array Oper)(Ts:List Nat)(i:Nat):Nat:=(Ts.filter fun T=>decide (T<i) || !((Region.before ops).getD T 0).testBit i).length
def EF(Ts:List Nat)(i:Nat):Nat:=(Ts.filter fun T=>decide (T<=i)).length
def qC(P:Program)(ops:Array Oper)(Ts:List Nat)(St:Nat->World->Prop)(Q:Exit->Act->World->Prop):List Nat->Act->World->Prop
 | [],a,w=>Q .normal a w
 | i::r,a,w=>match ops[i]? with
  | none=>qC P ops Ts St Q r a w
  | some o=>(cO o.op=false/\∃ v,YieldsIf P ops (St (jb ops Ts i)) o v a/\qC P ops Ts St Q r (a.put o.dst v) w) \/
   (cO o.op=true/\Region.wanted o (yielded ops a.tmps)=true/\o.wp P a w (fun h w'=>St (EF Ts i) w'/\qC P ops Ts St Q r h w') gX)
def bW(ops:Array Oper)(i:Nat):Bool:=match ops[i]? with|some o=>cO o.op|none=>false
def Jq(ops:Array Oper)(Ts:List Nat):Bool:=
 (List.range ops.size).all fun j=>(List.range j).all fun i=>
  (!bW ops i||(if bW ops j then decide (EF Ts i<=EF Ts j) else decide (EF Ts i<=jb ops Ts j))) &&
  (bW ops i || !bW ops j||((Region.before ops).getD j 0).testBit i||decide (EF Ts j<=jb ops Ts i))
variable{a:Act}
theorem LA{St:Nat->World->Prop}(hst:∀ c w,St c w->St (c+1) w){a:Nat}(h:a<=b)(hw:St a w):St b w:=by
 induction h with
 | refl=>exact hw
 | step _ ih=>exact hst _ _ ih
theorem NH(aa:Region.noSelect ops=true){j:Nat}{r:List Nat}(z:mK ops i j=true)(hS:bW ops j=false->St (jb ops Ts j) w)(hw:∀ w,bW ops i=true->bW ops j=false->St (EF Ts i) w->St (jb ops Ts j) w)(h:qC P ops Ts St Q (i::j::r) a w):qC P ops Ts St Q (j::i::r) a w:=by
 unfold mK at z;cases hi:ops[i]? with
 | none=>simp[hi] at z
 | some oi=>
 cases hj:ops[j]? with
 | none=>simp[hj] at z
 | some oj=>
 have ei:bW ops i=cO oi.op:=by simp[bW,hi]
 have ej:bW ops j=cO oj.op:=by simp[bW,hj]
 simp only[hi,hj,YF,Z4,mL] at z;obtain⟨ab,I⟩:=z;have J:=fun cs b=>ZP aa i oi cs b hi;have M:=fun cs b=>ZP aa j oj cs b hj;obtain⟨h1,h2,h3⟩:=ov I;simp only[qC,hi,hj] at h ⊢;rcases h with⟨q,v,hy,⟨p,u,ac,hr⟩|⟨p,V,hr⟩⟩|⟨q,V,hr⟩
 ·exact .inl ⟨p,u,kQ M h1 ac,.inl ⟨q,v,uW J h3 hy,by rw[<-ZV a v u h2];exact hr⟩⟩
 ·refine .inr ⟨p,by rw[<-V];exact(wanted_put oj a oi.dst v h1).symm,?_⟩;refine Zg (fun a' w' F=>?_) (uj (S:=St (jb ops Ts i)) J M I hy hr);exact⟨F.2.1,.inl ⟨q,v,F.1,F.2.2⟩⟩
 ·have p:cO oj.op=false:=by
   rcases ab with e|e
   ·rw[q] at e;cases e
   ·exact e
  have ad:=hS (by rw[ej];exact p);have ag:oi.wp P a w (fun a' w'=>St (jb ops Ts j) w'/\∃ u,YieldsIf P ops (St (jb ops Ts j)) oj u a'/\(St (EF Ts i) w'/\qC P ops Ts St Q r (a'.put oj.dst u) w')) gX:=by
   refine Zg (fun a' w' F=>⟨hw w' (by rw[ei];exact q) (by rw[ej];exact p) F.1,?_⟩) hr;rcases F.2 with⟨_,u,ae,af⟩|⟨e,_⟩
   ·exact⟨u,ae,F.1,af⟩
   ·rw[p] at e;cases e
  obtain⟨u,hy,F⟩:=um (K:=fun a' w'=>St (EF Ts i) w'/\qC P ops Ts St Q r a' w') J M I ad ag;refine .inl ⟨p,u,hy,.inr ⟨q,?_,Zg (fun a' w' F=>F.2) F⟩⟩;rw[wanted_put oi a oj.dst u h3];exact V
theorem Ag(p:Region.noSelect ops=true){j:Nat}{r:List Nat}:∀ (l:List Nat) {a:Act} {w:World},(∀ i ∈ l,mK ops i j=true)->(bW ops j=false->St (jb ops Ts j) w) ->
  (∀ i ∈ l,∀ w,bW ops i=true->bW ops j=false->St (EF Ts i) w->St (jb ops Ts j) w)->qC P ops Ts St Q (l++j::r) a w->qC P ops Ts St Q (j::(l++r)) a w
 | [],_,_,_,_,_,h=>h
 | i::l,a,w,hok,hS,hst,h=>by
  refine NH p (hok i gw) hS (hst i gw) ?_;have ih:=fun {a:Act} {w:World} (hS:bW ops j=false->St (jb ops Ts j) w)=>Ag p (r:=r) l (a:=a) (w:=w) (fun i hi=>hok i (by simp[hi])) hS (fun i hi=>hst i (by simp[hi]));rw[Zq] at h;unfold qC at h ⊢;cases F:ops[i]? with
  | none=>simp only[F] at h ⊢;exact ih hS h
  | some o=>
   have M:bW ops i=cO o.op:=by simp[bW,F]
   simp only[F] at h ⊢;rcases h with⟨I,v,q,z⟩|⟨q,z,J⟩
   ·exact .inl ⟨I,v,q,ih hS z⟩
   ·exact .inr ⟨q,z,Zg (fun a w h=>⟨h.1,ih (fun V=>hst i gw _ (by rw[M];exact q) V h.1) h.2⟩) J⟩
def WB(ops:Array Oper)(Ts:List Nat)(St:Nat->World->Prop)(listed:Array Bool)(w:World):Prop:=
 ∃ c,St c w/\∀ i,i<ops.size->listed.getD i true=false->if bW ops i then c<=EF Ts i else c<=jb ops Ts i
theorem qN(ax:∀ c w,St c w->St (c+1) w)(hB:qo ops=true)(hL:Jq ops Ts=true):∀ (n:Nat) (p:Array Bool) (a:Act) (w:World),(mM ops p).length=n->p.size=ops.size->Closed ops p->WB ops Ts St p w->qC P ops Ts St Q (mM ops p) a w->wpAny P .any ops Q n p a w:=by
 have a1:=hB;simp only[qo,YF,YX,Zp] at a1;obtain⟨⟨a6,ab⟩,ac⟩:=a1;intro n
 induction n with
 | zero=>
  intro p a w hn hs hc hS h;have al:mM ops p=[]:=Y0 hn;rw[al] at h;refine⟨?_,h⟩;cases hr:Region.ready .any ops p with
  | nil=>rfl
  | cons j r=>
   have hj:j ∈ Region.ready .any ops p:=by rw[hr];simp
   obtain⟨h0,o,M,_⟩:=mem_ready.1 hj;have:j ∈ mM ops p:=by
    unfold mM;rw[kO,Zp];exact⟨(Array.getElem?_eq_some_iff.1 M).1,by simp[h0]⟩
   rw[al] at this;cases this
 | succ n ih=>
  intro p a w hn hs hc hS h;refine⟨fun hr=>?_,fun j hj=>?_⟩
  ·-- the first that is not p is ready
   cases hu:mM ops p with
   | nil=>rw[hu] at hn;simp at hn
   | cons k r=>
    exfalso;have F:k ∈ mM ops p:=by rw[hu];simp
    unfold mM at F;rw[kO,Zp] at F;obtain⟨ar,am⟩:=F;have am:p.getD k true=false:=by simpa using am
    have M:ops[k]?=some ops[k]:=ZW ar;have hd:=(ac k ar).1;simp only[M] at hd;have:k ∈ Region.ready .any ops p:=by
     rw[mem_ready];refine⟨am,_,M,fun e he hb=>?_⟩;have h1:=Array.all_eq_true_iff_forall_mem.1 hd e he;simp only[hb,oB,ki,decide_eq_true_eq] at h1;cases hl:p.getD e.on false with
     | true=>rfl
     | false=>
      exfalso;obtain⟨l1,l2,aa,_,ag⟩:=l9 (ops:=ops) (j:=e.on) hs ff (by rw[getD_lt ff true false];exact hl);rw[hu] at aa;cases l1 with
      | nil=>simp at aa;omega
      | cons x l1=>
       simp at aa;have:=(ag x gw).1;omega
    rw[hr] at this;cases this
  ·obtain⟨h0,o,M,J⟩:=mem_ready.1 hj;have V:j<ops.size:=(Array.getElem?_eq_some_iff.1 M).1;obtain⟨l1,l2,aa,az,ag⟩:=l9 (ops:=ops) hs V h0;obtain⟨c,a0,aq⟩:=hS;have ej:bW ops j=cO o.op:=by simp[bW,M]
   have aE:∀ i k,i<k->k<ops.size->bW ops i=true->bW ops k=false->EF Ts i<=jb ops Ts k:=fun i k ae F e1 e2=>by
    have:=hL;simp only[Jq,YX,Zp] at this;have:=this k F i ae;simp[e1,e2] at this;exact this
   have a5:∀ i k,i<k->k<ops.size->bW ops i=true->bW ops k=true->EF Ts i<=EF Ts k:=fun i k ae F e1 e2=>by
    have:=hL;simp only[Jq,YX,Zp] at this;have:=this k F i ae;simp[e1,e2] at this;exact this
   have a7:∀ i k,i<k->k<ops.size->bW ops i=false->bW ops k=true->((Region.before ops).getD k 0).testBit i=false->EF Ts k<=jb ops Ts i:=fun i k ae F e1 e2 e3=>by
    have:=hL;simp only[Jq,YX,Zp] at this;have:=this k F i ae;have e4:=e3;simp at e4;simp[e1,e2,e4] at this;exact this
   have aw:bW ops j=false->St (jb ops Ts j) w:=fun e=>by
    have:=aq j V h0;rw[e] at this;exact LA ax (by simpa using this) a0
   have hfront:qC P ops Ts St Q (j::(l1++l2)) a w:=by
    refine Ag a6 l1 (fun i hi=>?_) aw (fun i hi w z ad hw=>?_) (aa ▸ h)
    ·obtain⟨q,I⟩:=ag i hi;have:=(ac j V).2 i q;rw[ZQ] at this;rcases this with hb|hb
     ·have hl:=jO ab hc (j+1) j o ff M J i q hb;rw[getD_lt ff false true,I] at hl;cases hl
     ·exact hb
    ·obtain⟨q,_⟩:=ag i hi;exact LA ax (aE i j q V z ad) hw
   have ai:(mM ops (p.setIfInBounds j true)).length=n:=by
    rw[az];rw[aa] at hn;simp at hn ⊢;omega
   have aA:(p.setIfInBounds j true).size=ops.size:=by simpa using hs
   have ap:Closed ops (p.setIfInBounds j true):=by
    intro m om hm hl e he hb;by_cases a3:m=j
    ·subst a3;rw[M] at hm;cases hm;exact getD_set_true (J e he hb)
    ·rw[getD_set_ne false (kl a3)] at hl;exact getD_set_true (hc m om hm hl e he hb)
   have ak:∀ i,(p.setIfInBounds j true).getD i true=false->i≠j/\p.getD i true=false:=fun i hi=>by
    by_cases e:j=i
    ·subst e;simp at hi
    ·rw[getD_set_ne true e] at hi;exact⟨fun e'=>e e'.symm,hi⟩
   have ao:cO o.op=true->∀ w',St (EF Ts j) w'->WB ops Ts St (p.setIfInBounds j true) w':=fun af w' a4=>by
    refine⟨_,a4,fun i hi I=>?_⟩;obtain⟨a9,I⟩:=ak i I;have a2:i<j->((Region.before ops).getD j 0).testBit i=false:=fun q=>by
     cases hb:((Region.before ops).getD j 0).testBit i with
     | false=>rfl
     | true=>
      have hl:=jO ab hc (j+1) j o ff M J i q hb;rw[getD_lt ff false true,I] at hl;cases hl
    have ad:bW ops j=true:=by rw[ej];exact af
    rcases j9 i j with q|q
    ·cases z:bW ops i with
     | true=>
      have:=(ac j V).2 i q;rw[a2 q,ki] at this;exfalso;unfold mK at this;have aD:ops[i]?=some ops[i]:=ZW hi;simp only[bW,aD] at z;simp[aD,M,z,af] at this
     | false=>simpa using a7 i j q V z ad (a2 q)
    ·cases z:bW ops i with
     | true=>simpa using a5 j i ff hi ad z
     | false=>simpa using aE j i ff hi ad z
   have an:WB ops Ts St (p.setIfInBounds j true) w:=⟨c,a0,fun i hi I=>aq i hi (ak i I).2⟩;rw[<-az] at hfront;unfold qC at hfront;simp only[M] at hfront;rcases hfront with⟨a8,v,hy,F⟩|⟨af,hw,F⟩
   ·exact hy.wpOp M (aw (by rw[ej];exact a8)) (ih _ _ _ ai aA ap an F)
   ·unfold wpOp;simp only[M,hw,if_true];refine .inl ?_;have h2:=Zg (K':=wpAny P .any ops Q n (p.setIfInBounds j true)) (fun a' w' F=>ih _ a' w' ai aA ap (ao af w' F.1) F.2) F
    -- the empty exit serves every exit
    unfold Oper.wp at h2 ⊢;generalize (execOp a.eval o).run P w=r at *
    cases r with
    | ok nx w'=>
     cases nx<;>simp only[Oper.upon] at h2 ⊢ <;> first
      | exact h2
      | exact mn h2 (fun e ba he=>by
        cases e with
        | returned v=>exact he
        | panicked c=>exact he.elim
        | outgrown=>obtain⟨_,_,he⟩:=he;exact he.elim)
    | halt x w'=>cases x<;>simp only[Oper.upon] at h2 ⊢ <;> first|exact h2|exact h2.elim
def NI(S0 S1 S2 S3:World->Prop):Nat->World->Prop
 | 0=>S0
 | 1=>S1
 | 2=>S2
 | _=>S3
variable{S0 S1 S2 S3:World→Prop}
theorem NJ(h0:∀ w,S0 w->S1 w)(h1:∀ w,S1 w->S2 w)(h2:∀ w,S2 w->S3 w):∀ c w,NI S0 S1 S2 S3 c w->NI S0 S1 S2 S3 (c+1) w
 | 0,w,h=>h0 w h
 | 1,w,h=>h1 w h
 | 2,w,h=>h2 w h
 | _+3,w,h=>h
def WC(ops:Array Oper)(Ts:List Nat)(i:Nat):Nat:=if bW ops i then EF Ts i else jb ops Ts i
def NK(ops:Array Oper)(Ts:List Nat):List Nat:=(List.range ops.size).map (WC ops Ts)
def iX(P:Program)(ops:Array Oper)(S0 S1 S2 S3:World->Prop)(Q:Exit->Act->World->Prop):List Nat->List Oper->Act->World->Prop
 | _,[],a,w=>Q .normal a w
 | [],_::_,_,_=>False
 | n::lv,o::r,a,w=>(cO o.op=false/\∃ v,YieldsIf P ops (NI S0 S1 S2 S3 n) o v a/\iX P ops S0 S1 S2 S3 Q lv r (a.put o.dst v) w) \/
   (cO o.op=true/\Region.wanted o (yielded ops a.tmps)=true/\o.wp P a w (fun h w'=>NI S0 S1 S2 S3 n w'/\iX P ops S0 S1 S2 S3 Q lv r h w') gX)
theorem Cx:∀ (l:List Oper) (lv:List Nat) (k:Nat) (a:Act) (w:World),(∀ j,l[j]?=ops[k+j]?)->(∀ j,j<l.length->lv[j]?=some (WC ops Ts (k+j)))->iX P ops S0 S1 S2 S3 Q lv l a w->qC P ops Ts (NI S0 S1 S2 S3) Q (List.range' k l.length) a w
 | [],lv,_,_,_,_,_,h=>by cases lv<;>exact h
 | o::l,[],k,a,w,hl,hv,h=>h.elim
 | o::l,n::lv,k,a,w,hl,hv,h=>by
  have p:ops[k]?=some o:=by simpa using (hl 0).symm
  have hn:n=WC ops Ts k:=by have:=hv 0 gw;simpa using this
  have I:bW ops k=cO o.op:=by simp[bW,p]
  have ih:=fun a w=>Cx l lv (k+1) a w (fun j=>by have:=hl (j+1);simpa[kq,k9 1 j] using this)
   (fun j M=>by have:=hv (j+1) (by simpa using M);simpa[kq,k9 1 j] using this)
  simp only[YR,ot];unfold qC;simp only[p];unfold WC at hn;rcases h with⟨p,v,q,z⟩|⟨q,z,J⟩
  ·rw[I,p] at hn;have hn:n=jb ops Ts k:=by simpa using hn
   subst hn;exact .inl ⟨p,v,q,ih _ _ z⟩
  ·rw[I,q] at hn;have hn:n=EF Ts k:=by simpa using hn
   subst hn;exact .inr ⟨q,z,Zg (fun V w' F=>⟨F.1,ih _ _ F.2⟩) J⟩
theorem gW{z:Nat}{l:List Oper}(Ts lv:List Nat)(S0 S1 S2 S3:World->Prop)(h0:∀ w,S0 w->S1 w)(V:∀ w,S1 w->S2 w)(h2:∀ w,S2 w->S3 w)(hm:P.follows .mixedOrders=true)(F:qo l.toArray=true)(M:Jq l.toArray Ts=true)(p:NK l.toArray Ts=lv)(hS:S0 w.drew)(h:iX P l.toArray S0 S1 S2 S3 Q lv l a w.drew):(Code.region z l.toArray true).wp P Q a w:=by
 refine wp_region_any hm ?_;have q:mM l.toArray (Array.replicate l.toArray.size false)=List.range l.toArray.size:=by
  unfold mM;refine List.filter_eq_self.2 fun i hi=>?_;have:=List.mem_range.1 hi;simp at this;simp[this]
 refine qN (Ts:=Ts) (St:=NI S0 S1 S2 S3) (NJ h0 V h2) F M _ _ _ _ (by rw[q];simp) gw ?_ ⟨0,hS,fun i _ _=>by split<;>omega⟩ ?_
 ·intro j o ho I;have:j<l.length:=by have:=(Array.getElem?_eq_some_iff.1 ho).1;simpa using this
  simp[this] at I
 ·rw[q]
  have:=Cx (P:=P) (ops:=l.toArray) (Ts:=Ts) (S0:=S0) (S1:=S1) (S2:=S2) (S3:=S3) (Q:=Q) l lv 0 a w.drew gw (fun j J=>by
   rw[<-p];unfold NK;rw[Y6,mT (by simpa using J)];simp) h
  simpa[ZE] using this
section
variable{o:Oper}{r:List Oper}{n:Nat}{lv:List Nat}{a:Act}{w:World}
theorem pW(h:Q .normal a w):iX P ops S0 S1 S2 S3 Q lv [] a w:=by cases lv<;>exact h
theorem fu(hc:cO o.op=false)(hw:Region.wanted o (yielded ops a.tmps)=false)(h:iX P ops S0 S1 S2 S3 Q lv r (a.put o.dst undef) w):iX P ops S0 S1 S2 S3 Q (n::lv) (o::r) a w:=.inl ⟨hc,undef,.inr ⟨hw,rfl⟩,h⟩
theorem dR(hc:cO o.op=false)(hw:Region.wanted o (yielded ops a.tmps)=true)(hv:∀ w',S0 w'->(execOp a.eval o).run P w'=.ok (.value v) w')(h:iX P ops S0 S1 S2 S3 Q lv r (a.put o.dst v) w):iX P ops S0 S1 S2 S3 Q (0::lv) (o::r) a w:=
 .inl ⟨hc,v,.inl ⟨hw,hv⟩,h⟩
theorem dS(hc:cO o.op=false)(hw:Region.wanted o (yielded ops a.tmps)=true)(hv:∀ w',S1 w'->(execOp a.eval o).run P w'=.ok (.value v) w')(h:iX P ops S0 S1 S2 S3 Q lv r (a.put o.dst v) w):iX P ops S0 S1 S2 S3 Q (1::lv) (o::r) a w:=
 .inl ⟨hc,v,.inl ⟨hw,hv⟩,h⟩
theorem dU(hc:cO o.op=false)(hw:Region.wanted o (yielded ops a.tmps)=true)(hv:∀ w',S2 w'->(execOp a.eval o).run P w'=.ok (.value v) w')(h:iX P ops S0 S1 S2 S3 Q lv r (a.put o.dst v) w):iX P ops S0 S1 S2 S3 Q (2::lv) (o::r) a w:=
 .inl ⟨hc,v,.inl ⟨hw,hv⟩,h⟩
theorem dV(hc:cO o.op=false)(hw:Region.wanted o (yielded ops a.tmps)=true)(hv:∀ w',S3 w'->(execOp a.eval o).run P w'=.ok (.value v) w')(h:iX P ops S0 S1 S2 S3 Q lv r (a.put o.dst v) w):iX P ops S0 S1 S2 S3 Q (3::lv) (o::r) a w:=
 .inl ⟨hc,v,.inl ⟨hw,hv⟩,h⟩
theorem jI(hc:cO o.op=true)(hw:Region.wanted o (yielded ops a.tmps)=true)(h:∀ K:Act->World->Prop,Hid (∀ a' w',S1 w'->iX P ops S0 S1 S2 S3 Q lv r a' w'->K a' w')->o.wp P a w K gX):iX P ops S0 S1 S2 S3 Q (1::lv) (o::r) a w:=
 .inr ⟨hc,hw,h _ fun _ _ h1 h2=>⟨h1,h2⟩⟩
theorem jJ(hc:cO o.op=true)(hw:Region.wanted o (yielded ops a.tmps)=true)(h:∀ K:Act->World->Prop,Hid (∀ a' w',S2 w'->iX P ops S0 S1 S2 S3 Q lv r a' w'->K a' w')->o.wp P a w K gX):iX P ops S0 S1 S2 S3 Q (2::lv) (o::r) a w:=
 .inr ⟨hc,hw,h _ fun _ _ h1 h2=>⟨h1,h2⟩⟩
theorem mJ(hc:cO o.op=true)(hw:Region.wanted o (yielded ops a.tmps)=true)(h:∀ K:Act->World->Prop,Hid (∀ a' w',S3 w'->iX P ops S0 S1 S2 S3 Q lv r a' w'->K a' w')->o.wp P a w K gX):iX P ops S0 S1 S2 S3 Q (3::lv) (o::r) a w:=
 .inr ⟨hc,hw,h _ fun _ _ h1 h2=>⟨h1,h2⟩⟩
theorem dW(hc:cO o.op=false)(hw:Region.wanted o (yielded ops a.tmps)=true)(hv:∀ w',S3 w'->(execOp a.eval o).run P w'=.ok (.value v) w')(h:iX P ops S0 S1 S2 S3 Q lv r (a.put o.dst v) w):iX P ops S0 S1 S2 S3 Q (4::lv) (o::r) a w:=
 .inl ⟨hc,v,.inl ⟨hw,hv⟩,h⟩
end
end
section
variable{P:Program}{ops:Array Oper}{S:World→Prop}{Q:Exit→Act→World→Prop}
def tC(P:Program)(ops:Array Oper)(S:World->Prop)(Q:Exit->Act->World->Prop):List Nat->Act->World->Prop
 | [],a,w=>Q .normal a w
 | i::r,a,w=>match ops[i]? with
  | none=>tC P ops S Q r a w
  | some o=>(∃ v,YieldsIf P ops S o v a/\tC P ops S Q r (a.put o.dst v) w) \/
   (cO o.op=true/\Region.wanted o (yielded ops a.tmps)=true/\o.wp P a w (fun h w'=>(i+1<ops.size->S w')/\tC P ops S Q r h w') gX)
variable{a b:Act}
theorem NP(M:Region.noSelect ops=true){j:Nat}{r:List Nat}(ac:i+1<ops.size)(q:mK ops i j=true)(hS:S w)(h:tC P ops S Q (i::j::r) a w):tC P ops S Q (j::i::r) a w:=by
 unfold mK at q;cases hi:ops[i]? with
 | none=>simp[hi] at q
 | some oi=>
 cases hj:ops[j]? with
 | none=>simp[hj] at q
 | some oj=>
 simp only[hi,hj,YF,Z4,mL] at q;obtain⟨aa,z⟩:=q;have F:=fun cs b=>ZP M i oi cs b hi;have I:=fun cs b=>ZP M j oj cs b hj;obtain⟨h1,h2,h3⟩:=ov z;simp only[tC,hi,hj] at h ⊢;rcases h with⟨v,hy,⟨u,ab,J⟩|⟨hc,hw,J⟩⟩|⟨hc,hw,J⟩
 ·refine .inl ⟨u,kQ I h1 ab,.inl ⟨v,uW F h3 hy,?_⟩⟩;rw[<-ZV a v u h2];exact J
 ·refine .inr ⟨hc,by rw[<-hw];exact(wanted_put oj a oi.dst v h1).symm,?_⟩;refine Zg (fun V w' p=>?_) (uj F I z hy J);exact⟨p.2.1,.inl ⟨v,p.1,p.2.2⟩⟩
 ·have ad:cO oj.op=false:=by
   rcases aa with e|e
   ·rw[hc] at e;cases e
   ·exact e
  have ae:oi.wp P a w (fun V w'=>S w'/\∃ u,YieldsIf P ops S oj u V/\tC P ops S Q r (V.put oj.dst u) w') gX:=by
   refine Zg (fun V w' p=>⟨p.1 ac,?_⟩) J;rcases p.2 with p|⟨e,_⟩
   ·exact p
   ·rw[ad] at e;cases e
  obtain⟨u,hy,p⟩:=um (K:=tC P ops S Q r) F I z hS ae;refine .inl ⟨u,hy,.inr ⟨hc,?_,Zg (fun V w' p=>⟨fun _=>p.1,p.2⟩) p⟩⟩;rw[wanted_put oi a oj.dst u h3];exact hw
theorem Ai(p:Region.noSelect ops=true){j:Nat}{r:List Nat}:∀ (l:List Nat) {a:Act} {w:World},(∀ i ∈ l,i+1<ops.size/\mK ops i j=true)->S w->tC P ops S Q (l++j::r) a w->tC P ops S Q (j::(l++r)) a w
 | [],_,_,_,_,h=>h
 | i::l,a,w,hok,hS,h=>by
  refine NP p (hok i gw).1 (hok i gw).2 hS ?_;have ih:=fun {a:Act} {w:World} (hS:S w)=>Ai p (r:=r) l (a:=a) (w:=w) (fun i hi=>hok i (by simp[hi])) hS;rw[Zq] at h;unfold tC at h ⊢;cases F:ops[i]? with
  | none=>simp only[F] at h ⊢;exact ih hS h
  | some o=>
   simp only[F] at h ⊢;rcases h with⟨v,z,q⟩|⟨z,q,I⟩
   ·exact .inl ⟨v,z,ih hS q⟩
   ·exact .inr ⟨z,q,Zg (fun a w h=>⟨h.1,ih (h.1 (hok i gw).1) h.2⟩) I⟩
def Ju(ops:Array Oper):Bool:=(List.range (ops.size-1)).all fun i=>((Region.before ops).getD (ops.size-1) 0).testBit i
theorem Ga(hB:qo ops=true)(M:Ju ops=true):∀ (n:Nat) (p:Array Bool) (a:Act) (w:World),(mM ops p).length=n->p.size=ops.size->Closed ops p->(mM ops p≠[]->S w)->tC P ops S Q (mM ops p) a w->wpAny P .any ops Q n p a w:=by
 have ao:=hB;simp only[qo,YF,YX,Zp] at ao;obtain⟨⟨az,I⟩,ae⟩:=ao;intro n
 induction n with
 | zero=>
  intro p a w hn hs hc hS h;have ad:mM ops p=[]:=Y0 hn;rw[ad] at h;refine⟨?_,h⟩;cases hr:Region.ready .any ops p with
  | nil=>rfl
  | cons j r=>
   have hj:j ∈ Region.ready .any ops p:=by rw[hr];simp
   obtain⟨h0,o,F,_⟩:=mem_ready.1 hj;have:j ∈ mM ops p:=by
    unfold mM;rw[kO,Zp];exact⟨(Array.getElem?_eq_some_iff.1 F).1,by simp[h0]⟩
   rw[ad] at this;cases this
 | succ n ih=>
  intro p a w hn hs hc hS h;refine⟨fun hr=>?_,fun j hj=>?_⟩
  ·-- the first that is not p is ready
   cases hu:mM ops p with
   | nil=>rw[hu] at hn;simp at hn
   | cons k r=>
    exfalso;have hk:k ∈ mM ops p:=by rw[hu];simp
    unfold mM at hk;rw[kO,Zp] at hk;obtain⟨aq,ak⟩:=hk;have ak:p.getD k true=false:=by simpa using ak
    have F:ops[k]?=some ops[k]:=ZW aq;have hd:=(ae k aq).1;simp only[F] at hd;have:k ∈ Region.ready .any ops p:=by
     rw[mem_ready];refine⟨ak,_,F,fun e V hb=>?_⟩;have h1:=Array.all_eq_true_iff_forall_mem.1 hd e V;simp only[hb,oB,ki,decide_eq_true_eq] at h1;cases hl:p.getD e.on false with
     | true=>rfl
     | false=>
      exfalso;obtain⟨l1,l2,z,_,ag⟩:=l9 (ops:=ops) (j:=e.on) hs ff (by rw[getD_lt ff true false];exact hl);rw[hu] at z;cases l1 with
      | nil=>simp at z;omega
      | cons x l1=>
       simp at z;have:=(ag x gw).1;omega
    rw[hr] at this;cases this
  ·obtain⟨h0,o,F,q⟩:=mem_ready.1 hj;have al:j<ops.size:=(Array.getElem?_eq_some_iff.1 F).1;obtain⟨l1,l2,z,ab,ag⟩:=l9 (ops:=ops) hs al h0;have hS:=hS (by rw[z];simp);have hfront:tC P ops S Q (j::(l1++l2)) a w:=by
    refine Ai az l1 (fun i hi=>?_) hS (z ▸ h);obtain⟨aa,J⟩:=ag i hi;refine⟨by omega,?_⟩;have:=(ae j al).2 i aa;rw[ZQ] at this;rcases this with hb|hb
    ·have hl:=jO I hc (j+1) j o ff F q i aa hb;rw[getD_lt ff false true,J] at hl;cases hl
    ·exact hb
   have ac:(mM ops (p.setIfInBounds j true)).length=n:=by
    rw[ab];rw[z] at hn;simp at hn ⊢;omega
   have an:(p.setIfInBounds j true).size=ops.size:=by simpa using hs
   have am:Closed ops (p.setIfInBounds j true):=by
    intro m om hm hl e V hb;by_cases ap:m=j
    ·subst ap;rw[F] at hm;cases hm;exact getD_set_true (q e V hb)
    ·rw[getD_set_ne false (kl ap)] at hl;exact getD_set_true (hc m om hm hl e V hb)
   have ar:mM ops (p.setIfInBounds j true)≠[]->j+1<ops.size:=fun af=>by
    rcases j9 (j+1) ops.size with h1|h1
    ·exact h1
    ·exfalso;apply af;rw[ab];have e1:∀ i,i ∈ l1++l2->False:=fun i hi=>by
      have J:i ∈ mM ops (p.setIfInBounds j true):=by rw[ab];exact hi
      unfold mM at J;rw[kO,Zp] at J;obtain⟨aA,ai⟩:=J;have aa:i<j:=by
       rcases j9 i j with h2|h2
       ·exact h2
       ·obtain rfl:i=j:=by omega
        simp at ai
      have hb:((Region.before ops).getD j 0).testBit i=true:=by
       simp only[Ju,YX,Zp] at M;have:=M i ff
       rwa [show ops.size-1=j by omega] at this
      have hl:=jO I hc (j+1) j o ff F q i aa hb;have ax:p.getD i true=true:=by rw[getD_lt ff true false];exact hl
      rw[getD_set_ne true (by omega:j≠i),ax] at ai;simp at ai
     cases aw:l1++l2 with
     | nil=>rfl
     | cons x y=>exact(e1 x (by rw[aw];simp)).elim
   rw[<-ab] at hfront;unfold tC at hfront;simp only[F] at hfront;rcases hfront with⟨v,hy,hk⟩|⟨_,hw,hk⟩
   ·exact hy.wpOp F hS (ih _ _ _ ac an am (fun _=>hS) hk)
   ·unfold wpOp;simp only[F,hw,if_true];refine .inl ?_;have h2:=Zg (K':=wpAny P .any ops Q n (p.setIfInBounds j true)) (fun a' w' hk=>ih _ a' w' ac an am (fun af=>hk.1 (ar af)) hk.2) hk
    -- the empty exit serves every exit
    unfold Oper.wp at h2 ⊢;generalize (execOp a.eval o).run P w=r at *
    cases r with
    | ok nx w'=>
     cases nx<;>simp only[Oper.upon] at h2 ⊢ <;> first
      | exact h2
      | exact mn h2 (fun e aD V=>by
        cases e with
        | returned v=>exact V
        | panicked c=>exact V.elim
        | outgrown=>obtain⟨_,_,V⟩:=V;exact V.elim)
    | halt x w'=>cases x<;>simp only[Oper.upon] at h2 ⊢ <;> first|exact h2|exact h2.elim
def mO(P:Program)(ops:Array Oper)(S:World->Prop)(Q:Exit->Act->World->Prop):List Oper->Act->World->Prop
 | [],a,w=>Q .normal a w
 | o::r,a,w=>(∃ v,YieldsIf P ops S o v a/\mO P ops S Q r (a.put o.dst v) w) \/
   (cO o.op=true/\Region.wanted o (yielded ops a.tmps)=true/\o.wp P a w (fun h w'=>(r≠[]->S w')/\mO P ops S Q r h w') gX)
theorem Cy:∀ (l:List Oper) (k:Nat) (a:Act) (w:World),(∀ j,l[j]?=ops[k+j]?)->k+l.length=ops.size->mO P ops S Q l a w->tC P ops S Q (List.range' k l.length) a w
 | [],_,_,_,_,_,h=>h
 | o::l,k,a,w,hl,hs,h=>by
  have F:ops[k]?=some o:=by simpa using (hl 0).symm
  have ih:=fun a w=>Cy l (k+1) a w (fun j=>by have:=hl (j+1);simpa[kq,k9 1 j] using this) (by simp at hs;omega);simp only[YR,ot];unfold tC;simp only[F];rcases h with⟨v,q,p⟩|⟨q,p,I⟩
  ·exact .inl ⟨v,q,ih _ _ p⟩
  ·exact .inr ⟨q,p,Zg (fun M w' z=>⟨fun J=>z.1 (fun e=>by subst e;simp at hs;omega),ih _ _ z.2⟩) I⟩
theorem gu{z:Nat}{l:List Oper}(S:World->Prop)(hm:P.follows .mixedOrders=true)(I:qo l.toArray=true)(p:Ju l.toArray=true)(F:S w.drew)(h:mO P l.toArray S Q l a w.drew):(Code.region z l.toArray true).wp P Q a w:=by
 refine wp_region_any hm ?_;have q:mM l.toArray (Array.replicate l.toArray.size false)=List.range l.toArray.size:=by
  unfold mM;refine List.filter_eq_self.2 fun i hi=>?_;have:=List.mem_range.1 hi;simp at this;simp[this]
 refine Ga (S:=S) I p _ _ _ _ (by rw[q];simp) gw ?_ (fun _=>F) ?_
 ·intro j o M J;have:j<l.length:=by have:=(Array.getElem?_eq_some_iff.1 M).1;simpa using this
  simp[this] at J
 ·rw[q];have:=Cy (P:=P) (ops:=l.toArray) (S:=S) (Q:=Q) l 0 a w.drew gw gw h;simpa[ZE] using this
section
variable{o:Oper}{r:List Oper}{a:Act}{w:World}
theorem Qv(hw:Region.wanted o (yielded ops a.tmps)=false)(h:mO P ops S Q r (a.put o.dst undef) w):mO P ops S Q (o::r) a w:=.inl ⟨undef,.inr ⟨hw,rfl⟩,h⟩
theorem Qw(hw:Region.wanted o (yielded ops a.tmps)=true)(hv:∀ w',S w'->(execOp a.eval o).run P w'=.ok (.value v) w')(h:mO P ops S Q r (a.put o.dst v) w):mO P ops S Q (o::r) a w:=.inl ⟨v,.inl ⟨hw,hv⟩,h⟩
theorem NQ(hc:cO o.op=true)(hw:Region.wanted o (yielded ops a.tmps)=true)(h:∀ K:Act->World->Prop,Hid (∀ a' w',S w'->mO P ops S Q r a' w'->K a' w')->o.wp P a w K gX):mO P ops S Q (o::r) a w:=
 .inr ⟨hc,hw,h _ fun _ _ h1 h2=>⟨fun _=>h1,h2⟩⟩
theorem kY(hc:cO o.op=true)(hw:Region.wanted o (yielded ops a.tmps)=true)(h:∀ K:Act->World->Prop,Hid (∀ a' w',Q .normal a' w'->K a' w')->o.wp P a w K gX):mO P ops S Q [o] a w:=
 .inr ⟨hc,hw,h _ fun _ _ h2=>⟨fun h=>(h rfl).elim,h2⟩⟩
theorem uX(h:mO P ops S Q r b w)(hw:Region.wanted o (yielded ops a.tmps)=false:=by rfl)(hb:a.put o.dst undef=b:=by(first|(simp only[Act.put,Yy,YA,YB];done)|(simp only[Act.put,Yy,YA,YB];rfl)|rfl)):mO P ops S Q (o::r) a w:=Qv hw (hb ▸ h)
theorem uY(h:mO P ops S Q r b w)(q:Region.wanted o (yielded ops a.tmps)=true:=by rfl)(hv:∀ w',S w'->(execOp a.eval o).run P w'=.ok (.value v) w':=by(intro w' p;go_simp;(try with_reducible rfl);done))(hb:a.put o.dst v=b:=by(first|(simp only[Act.put,Yy,YA,YB];done)|(simp only[Act.put,Yy,YA,YB];rfl)|rfl)):mO P ops S Q (o::r) a w:=Qw q hv (hb ▸ h)
end
end
section
variable{P:Program}{ops:Array Oper}{Q:Exit→Act→World→Prop}
variable{K:Act->World->Prop}{a:Act}
theorem wpOp_mono{K':Act->World->Prop}(p:∀ a w,K a w->K' a w)(h:wpOp P ops Q i K a w):wpOp P ops Q i K' a w:=by
 unfold wpOp at *
 cases z:ops[i]? with
 | none=>simp only[z] at h ⊢;exact p _ _ h
 | some o=>
  simp only[z] at h ⊢;split at h
  ·rename_i q;rw[if_pos q];exact h.imp (Zg p) id
  ·rename_i q;rw[if_neg q];exact p _ _ h
theorem bA{o:Oper}(ho:ops[i]?=some o)(hg:o.guard=none)(h:o.wp P a w K Q):wpOp P ops Q i K a w:=by
 unfold wpOp;simp only[ho];rw[if_pos (by simp[Region.wanted,hg])];exact .inl h
end
section
variable{P:Program}{ops:Array Oper}{Q:Exit→Act→World→Prop}{S:World→Prop}
def gd:Act->List Nat->List Value->Act
 | a,d::ds,v::vs=>gd (a.put (some d) v) ds vs
 | a,_,_=>a
theorem Bh(d:Nat)(v:Value):∀ (ds:List Nat) (vs:List Value) (a:Act),d ∉ ds->(gd a ds vs).put (some d) v=gd (a.put (some d) v) ds vs
 | [],_,_,_=>by simp[gd]
 | _::_,[],_,_=>rfl
 | e::ds,u::vs,a,h=>by
  simp only[YV,not_or] at h;simp only[gd];rw[Bh d v ds vs _ h.2,ZV a v u (fun x p=>by injection p with p;subst p;exact fun g=>by injection g with g;exact h.1 g.symm)]
theorem sK(a:Act)(d:Nat)(v:Value):∀ (ds:List Nat) (vs:List Value),ds.length=vs.length->gd a (ds++[d]) (vs++[v])=(gd a ds vs).put (some d) v:=by
 intro ds
 induction ds generalizing a with
 | nil=>intro vs h;cases vs with|nil=>rfl|cons _ _=>simp at h
 | cons e ds ih=>
  intro vs h;cases vs with
  | nil=>simp at h
  | cons u vs=>simp only[Zq,gd];exact ih _ _ (by simpa using h)
theorem jQ(a:Act)(ds es:List Nat)(vs:List Value)(h:ds.length=vs.length):gd a (ds++es) vs=gd a ds vs:=by
 induction ds generalizing a vs with
 | nil=>cases vs with|nil=>cases es<;>rfl|cons _ _=>simp at h
 | cons e ds ih=>
  cases vs with
  | nil=>simp at h
  | cons u vs=>simp only[Zq,gd];exact ih _ _ (by simpa using h)
theorem dD(k:Nat):∀ (ds:List Nat) (vs:List Value) (a:Act),k ∉ ds->(gd a ds vs).eval (.tmp k)=a.eval (.tmp k)
 | [],_,_,_=>by simp[gd]
 | _::_,[],_,_=>rfl
 | e::ds,u::vs,a,h=>by
  simp only[YV,not_or] at h;simp only[gd];rw[dD k ds vs _ h.2,Act.eval_put (fun x p=>by injection p with p;subst p;exact fun g=>by injection g with g;exact h.1 g)]
def dK(ops:Array Oper)(X:List Nat):List Nat:=X.map fun i=>((ops[i]?.bind (·.dst))).getD 0
def BQ(l0:Array Bool)(X Y:List Nat)(s t:Nat):Array Bool:=(X.take s++Y.take t).foldl (fun l i=>l.setIfInBounds i true) l0
def Mq(ops:Array Oper)(h:Array Bool)(X Y:List Nat):Bool:=
 ((List.range (X.length+1)).all fun s=>(List.range (Y.length+1)).all fun t=>
  ((s==X.length&&t==Y.length)||(!(Region.ready .any ops (BQ h X Y s t)).isEmpty)) &&
  (((s==X.length&&t==Y.length))||(Region.ready .any ops (BQ h X Y s t)).all (fun i=>(X[s]?==some i)||(Y[t]?==some i))) &&
  (match X[s]? with|some i=>(BQ h X Y s t).setIfInBounds i true==BQ h X Y (s+1) t|none=>true) &&
  (match Y[t]? with|some i=>(BQ h X Y s t).setIfInBounds i true==BQ h X Y s (t+1)|none=>true)) &&
 (X++Y).all (fun i=>match ops[i]? with|some o=>o.guard.isNone&&o.dst.isSome|none=>false) &&
 decide ((dK ops X++dK ops Y).Nodup)
theorem sM{α β:Type}(f:α->β)(X:List α){k:Nat}(h:k<X.length):X.map f=(X.take k).map f++(f X[k]::(X.drop (k+1)).map f):=by
 have e:=congrArg (List.map f) (ZK k X);rw[YS,Y7 h,Zb] at e;exact e.symm
theorem J6{l0:Array Bool}{F:Act}{R:bq}(X Y:List Nat)(M J:List Value->bq)(q:Nat)(ad:Mq ops l0 X Y=true)(oX:∀ vs,(M vs).Ok)(oY:∀ vs,(J vs).Ok)(oR:R.Ok)(hS:∀ (O:bq) W,aI F0 w0 O W->S W)(hX:∀ i o vs us,X[vs.length]?=some i->ops[i]?=some o->us.length<=Y.length->∀ (Z:bq) W,Z.Ok->aI F0 w0 (aj (M vs) Z) W ->
   o.wp P (gd (gd F (dK ops X) vs) (dK ops Y) us) W (fun a' w'=>∃ v,a'=(gd (gd F (dK ops X) vs) (dK ops Y) us).put o.dst v/\aI F0 w0 (aj (M (vs++[v])) Z) w') Q)(hY:∀ i o vs us,Y[us.length]?=some i->ops[i]?=some o->vs.length<=X.length->∀ (Z:bq) W,Z.Ok->aI F0 w0 (aj (J us) Z) W ->
   o.wp P (gd (gd F (dK ops X) vs) (dK ops Y) us) W (fun a' w'=>∃ v,a'=(gd (gd F (dK ops X) vs) (dK ops Y) us).put o.dst v/\aI F0 w0 (aj (J (us++[v])) Z) w') Q)(ag:∀ vs us W,vs.length=X.length->us.length=Y.length->aI F0 w0 (aj (M vs) (aj (J us) R)) W->wpAnyH P .any ops Q S q (BQ l0 X Y X.length Y.length) (gd (gd F (dK ops X) vs) (dK ops Y) us) W)(h0:aI F0 w0 (aj (M []) (aj (J []) R)) W):wpAnyH P .any ops Q S (q+(X.length+Y.length)) l0 F W:=by
 simp only[Mq,YF,decide_eq_true_eq] at ad;obtain⟨⟨an,ak⟩,ao⟩:=ad;have key:∀ (N:Nat) (vs us:List Value) (W:World),vs.length<=X.length->us.length<=Y.length->N=(X.length-vs.length)+(Y.length-us.length)->aI F0 w0 (aj (M vs) (aj (J us) R)) W ->
   wpAnyH P .any ops Q S (q+N) (BQ l0 X Y vs.length us.length) (gd (gd F (dK ops X) vs) (dK ops Y) us) W:=by
  intro N
  induction N with
  | zero=>
   intro vs us W hv hu hN hR;have h1:vs.length=X.length:=by omega
   have h2:us.length=Y.length:=by omega
   rw[h1,h2];exact ag vs us W h1 h2 hR
  | succ N ih=>
   intro vs us W hv hu hN hR;have hc:=an;rw[YX] at hc;have ai:=hc vs.length (List.mem_range.2 ff);rw[YX] at ai;have ac:=ai us.length (List.mem_range.2 ff);simp only[YF] at ac;obtain⟨⟨⟨c1,c2⟩,c3⟩,c4⟩:=ac;have ap:(vs.length==X.length&&us.length==Y.length)=false:=by
    cases hb:(vs.length==X.length&&us.length==Y.length) with
    | false=>rfl
    | true=>simp only[YF,beq_iff_eq] at hb;omega
   rw[ap,ki] at c1 c2;have ae:∀ (Z:List Nat) i,i ∈ Z->(∀ j ∈ Z,j ∈ X++Y)->∃ o d,ops[i]?=some o/\o.guard=none/\o.dst=some d/\((ops[i]?.bind (·.dst))).getD 0=d:=by
    intro Z i hi hZ;rw[YX] at ak;have:=ak i (hZ i hi);cases I:ops[i]? with
    | none=>rw[I] at this;cases this
    | some o=>
     rw[I] at this;simp only[YF,tz,tB] at this;obtain⟨g1,d,g2⟩:=this;exact⟨o,d,rfl,g1,g2,by simp[g2]⟩
   refine⟨fun h=>by rw[h] at c1;simp at c1,fun i hi=>?_⟩;rw[YX] at c2;have p:=c2 i hi;simp only[ZQ,beq_iff_eq] at p;have af:=List.nodup_append.1 ao;rcases p with p|p
   ·-- the next of X
    have aa:vs.length<X.length:=(List.getElem?_eq_some_iff.1 p).1;obtain⟨o,d,I,hg,hd,z⟩:=ae X i (Za p) (fun j hj=>lL _ hj);refine bA I hg (Zg ?_ (hX i o vs us p I hu (aj (J us) R) W (ay (oY us) oR) hR));rintro a' w' ⟨v,rfl,hR'⟩;refine⟨hS _ _ hR',?_⟩;rw[p] at c3;simp only[beq_iff_eq] at c3;have h3:=ih (vs++[v]) us w' ky hu ky hR';rw[Yz,Y1,<-c3] at h3;have e1:gd F (dK ops X) (vs++[v])=(gd F (dK ops X) vs).put (some d) v:=by
     have V:dK ops X=dK ops (X.take vs.length)++(d::dK ops (X.drop (vs.length+1))):=by
      have ab:X[vs.length]=i:=(List.getElem?_eq_some_iff.1 p).2;have e9:=sM (fun i=>((ops[i]?.bind (·.dst))).getD 0) X aa;simp only[ab,z] at e9;exact e9
     have hl:(dK ops (X.take vs.length)).length=vs.length:=by unfold dK;simp;omega
     rw[V];rw[show dK ops (X.take vs.length)++(d::dK ops (X.drop (vs.length+1)))=(dK ops (X.take vs.length)++[d])++dK ops (X.drop (vs.length+1)) by simp];rw[jQ _ _ _ (vs++[v]) (by simp[hl]),sK _ _ _ _ _ hl,Y3,jQ _ _ _ vs hl]
    have al:d ∉ dK ops Y:=by
     intro hm;refine af.2.2 d ?_ d hm rfl;unfold dK;exact List.mem_map.2 ⟨i,Za p,z⟩
    rw[hd,Bh d v _ us _ al,<-e1];exact h3
   ·have aa:us.length<Y.length:=(List.getElem?_eq_some_iff.1 p).1;obtain⟨o,d,I,hg,hd,z⟩:=ae Y i (Za p) (fun j hj=>mC _ hj);have am:aI F0 w0 (aj (J us) (aj (M vs) R)) W:=hR.oM;refine bA I hg (Zg ?_ (hY i o vs us p I hv (aj (M vs) R) W (ay (oX vs) oR) am));rintro a' w' ⟨v,rfl,hR'⟩;refine⟨hS _ _ hR',?_⟩;rw[p] at c4;simp only[beq_iff_eq] at c4;have h3:=ih vs (us++[v]) w' hv ky ky hR'.oM;rw[Yz,Y1,<-c4] at h3;have e1:∀ b:Act,gd b (dK ops Y) (us++[v])=(gd b (dK ops Y) us).put (some d) v:=by
     intro b;have V:dK ops Y=dK ops (Y.take us.length)++(d::dK ops (Y.drop (us.length+1))):=by
      have ab:Y[us.length]=i:=(List.getElem?_eq_some_iff.1 p).2;have e9:=sM (fun i=>((ops[i]?.bind (·.dst))).getD 0) Y aa;simp only[ab,z] at e9;exact e9
     have hl:(dK ops (Y.take us.length)).length=us.length:=by unfold dK;simp;omega
     rw[V];rw[show dK ops (Y.take us.length)++(d::dK ops (Y.drop (us.length+1)))=(dK ops (Y.take us.length)++[d])++dK ops (Y.drop (us.length+1)) by simp];rw[jQ _ _ _ (us++[v]) (by simp[hl]),sK _ _ _ _ _ hl,Y3,jQ _ _ _ us hl]
    rw[hd,<-e1];exact h3
 have h1:=key (X.length+Y.length) [] [] W (YE _) (YE _) gw h0;have e:∀ (b:Act) (ds:List Nat),gd b ds []=b:=fun b ds=>by cases ds<;>rfl
 rw[e,e] at h1;exact h1
end
end Go.CH
