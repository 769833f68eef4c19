/- A part of the proof: lemmas. -/
import Derived.Deep.RegionHeld3
import Derived.WalkSpells
import Derived.WalkLawsBesides
import Derived.Deep.AppendLies
import Derived.ProofKit
import Derived.DataShut
import Derived.Deep.Fields
set_option maxHeartbeats 16000000
set_option maxRecDepth 100000
set_option linter.all false
set_option linter.defProp false
namespace Go
open Go.RowKit
def gd:=@List.length_append
def gR:=@List.getElem?_eq_getElem
def gh:=@List.length_map
def ja:=@List.setIfInBounds_toArray
def fw:=@Nat.zero_le
def fe:=@Below.refl
def gv:=@List.getElem_mem
def fy:=@Nat.le_refl
def gA:=@Bool.and_eq_true
def kq:=@List.take_succ_eq_append_getElem
def kj:=@List.getD_eq_getElem?_getD
def i6:=@List.set_cons_zero
def i7:=@List.set_cons_succ
def im:=@World.size_alloc
def k8:=@List.getElem_cons_zero
def lh:=@List.getElem_cons_succ
def j7:=@List.length_cons
def j8:=@List.all_eq_true
def kO:=@Bool.false_eq_true
def lw:=@List.getElem_toArray
def kx:=@Result.andThen_ok
def kt:=@List.length_take
def ky:=@List.take_length
def km:=@List.map_append
def k6:=@List.length_drop
def mj:=@List.getElem?_toArray
def kp:=@IntWalk.i64_in
def oE:=@List.getElem?_cons_succ
def oS:=@List.getElem?_cons_zero
def lz:=@List.getElem?_map
def j9:=@Sem.run_bind
def kh:=@Nat.le_trans
def l3:=@List.append_assoc
def py:=@World.block_lt_of_cell?
def mz:=@List.mem_cons_self
def lA:=@List.length_nil
def nt:=@List.map_congr_left
def pM:=@List.isEmpty_eq_false_iff
def kz:=@Sem.run_pure
def lk:=@List.map_cons
def mN:=@List.flatMap_cons
def li:=@Nat.succ_mul
def l4:=@List.nil_append
def sC:=@List.eq_nil_of_length_eq_zero
def mA:=@List.getElem_map
def lx:=@Bool.true_and
def pC:=@List.length_singleton
def rK:=@List.drop_eq_getElem_cons
def pN:=@List.getElem?_eq_none
def mS:=@List.append_nil
def ma:=@Bool.not_true
def sE:=@Array.getElem?_eq_getElem
def pP:=@List.mem_cons_of_mem
def pS:=@List.mem_of_getElem?
def nz:=@Oper.semAt_some
def nB:=@Nat.not_lt_zero
def mn:=@Nat.lt_irrefl
def mr:=@DataW.trod_lt
def mT:=@Bool.not_false
def nh:=@DataW.trod_int
def pd:=@List.cons_append
def ly:=@Int.le_refl
def qu:=@Array.replicate_succ
def qS:=@Array.replicate_zero
def s7:=@List.mem_of_find?_eq_some
def qT:=@List.append_toArray
def pT:=@List.size_toArray
def mB:=@Nat.zero_add
def sR:=@List.filterMap_append
def nn:=@Nat.sub_self
def tb:=@Array.getElem?_eq_none
def re:=@List.push_toArray
def rk:=@Bool.eq_false_iff
def pD:=@Exit.noGoto_ret
def nF:=@Act.put_comm
def oc:=@Nat.mul_comm
def tE:=@List.take_of_length_le
def rL:=@IntWalk.wrap64_in
def tG:=@MapKept.run_getObj_map
def pA:=@List.mem_cons
def mx:=@Below.trod
def tM:=@List.take_append_drop
def tP:=@Array.getElem?_toList
def pk:=@Nat.add_zero
def rq:=@List.length_set
def pZ:=@Bool.false_and
def rN:=@List.isEmpty_iff
def qk:=@List.mem_range
def xe:=@List.getElem?_append_left
def vi:=@List.flatMap_singleton
def ry:=@List.drop_left
def rS:=@Int.natCast_add
def xm:=@List.filterMap_cons_some
def tW:=@List.flatMap_append
def tc:=@Bool.not_eq_true'
def pH:=@List.map_nil
def qq:=@List.map_map
def yv:=@List.getElem_append_right
def ua:=@List.length_range
def ub:=@Nat.one_shiftLeft
def yz:=@List.length_filterMap_le
def tf:=@Bool.or_eq_true
def tg:=@Bool.eq_iff_iff
def ui:=@List.drop_length
def xn:=@List.mem_of_mem_take
def xp:=@Nat.mul_le_mul_right
def uu:=@Nat.le_of_not_lt
def xt:=@Nat.div_lt_of_lt_mul
def tt:=@Option.map_map
def sb:=@Nat.sub_zero
def sk:=@Nat.zero_mul
def BW:=@List.getElem?_append_right
def vl:=@List.ext_getElem?
def sl:=@Oper.wp_mono
def tv:=@Nat.mul_le_mul
def uv:=@Option.map_some
def yW:=@List.mem_append_right
def vm:=@List.not_mem_nil
def xv:=@List.length_zipIdx
def B0:=@List.filterMap_cons_none
def B3:=@Array.setIfInBounds_comm
def zd:=@List.mem_of_mem_drop
def uA:=@List.drop_drop
def zg:=@Region.noSelect_spec
def vn:=@List.foldl_cons
def vp:=@List.range_succ
def zj:=@List.flatten_append
def zp:=@List.getElem_of_mem
def tA:=@Nat.lt_or_ge
def B4:=@Option.map_eq_some_iff
def uB:=@Bool.false_or
def sn:=@Nat.mod_lt
def B7:=@Bool.and_eq_false_iff
def B8:=@Array.mem_of_getElem?
def E4:=@Classical.byContradiction
def xy:=@List.mem_filter
def zt:=@Int.toNat_natCast
def B9:=@List.mem_append_left
def zz:=@List.getElem_take
def Cd:=@List.getElem?_mapIdx
def vq:=@Nat.add_assoc
def Cf:=@ByteArray.toList_eq
def px:=@Ne.symm
def Cl:=@List.getElem?_range
def zE:=@List.map_toArray
def xF:=@List.drop_zero
def vr:=@Nat.add_comm
def Cp:=@List.find?_eq_none
def vt:=@List.map_set
def E6:=@List.drop_eq_nil_of_le
def Cs:=@List.getElem?_take
def z6:=@List.find?_some
def z7:=@List.mem_append
def Ax:=@Nat.div_add_mod
def CC:=@DataW.trod_string
def Hh:=@List.isPrefixOf_iff_prefix
def E7:=@List.length_eraseIdx
def Fc:=@List.range_eq_range'
def Ff:=@World.cell?_of_block
def My:=@Std.Legacy.Range.forIn_eq_forIn_range'
def CI:=@Bool.not_eq_true
def qt:=@Iff.rfl
def CL:=@Option.bind_some
def CM:=@List.mem_nil_iff
def CN:=@Option.getD_some
def Hj:=@List.mem_or_eq_of_mem_set
def Fi:=@Array.length_toList
def Fl:=@Nat.eq_zero_or_pos
def Fo:=@List.map_replicate
def AE:=@Int.zero_add
def AF:=@Int.add_zero
def AG:=@Int.le_trans
def Hk:=@List.drop_of_length_le
def Fs:=@List.flatten_cons
def Ft:=@List.filter_congr
def FA:=@DataW.trod_struct
def Mz:=@Array.getElem?_setIfInBounds_ne
def Hm:=@List.eraseIdx_sublist
def Hn:=@UInt8.le_iff_toNat_le
def MA:=@List.Nodup.length_le_of_subset
def MD:=@List.find?_eq_some_iff_getElem
def FF:=@List.mem_flatMap
def FO:=@Nat.div_eq_of_lt
def Ge:=@Nat.mod_eq_of_lt
def Gk:=@Region.free_spec
def C0:=@List.all_cons
def AH:=@List.map_id
def AI:=@Nat.mul_one
def Gr:=@List.find?_cons
def GB:=@List.forIn_cons
def GC:=@Oper.apart_spec
def GF:=@Nat.min_eq_left
def Hp:=@Int.toNat_of_nonneg
def Hs:=@Array.toList_modify
def C1:=@Nat.le_of_lt
def MM:=@List.sublist_flatten_of_mem
def GG:=@List.nodup_nil
def Hv:=@Nat.lt_of_lt_of_le
def MY:=@List.perm_ext_iff_of_nodup
def It:=@List.getElem_range
def M1:=@List.pairwise_iff_getElem
def M3:=@Option.isNone_iff_eq_none
def Iv:=@List.nodup_append
def IA:=@List.foldl_append
def ID:=@Array.size_append
def IM:=@List.mem_range'_1
def GM:=@Bool.or_false
def Nm:=@List.find?_range_eq_some
def Nx:=@List.Pairwise.imp_of_mem
def NB:=@List.mem_of_mem_eraseIdx
def NF:=@Option.isSome_iff_exists
def NL:=@List.getElem_append_left
def IP:=@Int.min_le_right
def NO:=@List.length_eq_zero_iff
def IT:=@Nat.lt_succ_self
def N2:=@List.filter_cons_of_neg
def N3:=@List.filter_cons_of_pos
def I0:=@Array.toList_map
def I1:=@List.range'_succ
def I3:=@Below.heap_alloc
def Jn:=@List.ext_getElem
def Jx:=@List.getElem_set
def G0:=@List.mem_map
def C2:=@Calls.mono
def N4:=@MapKept.run_setObj_map
def JP:=@List.mem_zipIdx
def JS:=@List.nodup_cons
def J0:=@Nat.mul_add_div
def J1:=@Nat.mul_add_mod
def Kb:=@Oper.semAt_none
def Kf:=@List.map_const'
def Kp:=@Int.natCast_pow
def N5:=@List.set_getElem_self
def N6:=@Array.getElem?_append
def OS:=@Array.getElem?_modify
def Ks:=@Act.put_defers
def G1:=@Int.add_mul
def Kx:=@Int.le_of_eq
def Ln:=@Int.le_total
def Lq:=@Nat.le_of_eq
abbrev fN (a1:Option Addr) (a2:Nat) (a3:Nat) (a4:Option Addr) (a5:Nat) (a6:Nat) (a7:Option Addr) (a8:Nat) (a9:Nat) (a10:Int) (a11:Int) (a12:Int):Array Value:=#[.slice a1 a2 a3,.slice a4 a5 a6,.slice a7 a8 a9,.int .i64 a10,.int .i64 a11,.int .i64 a12]
abbrev jb (a1:Int) (a2:Int) (a3:Int) (a4:Int) (a5:Int) (a6:Int) (a7:Int) (a8:Option Addr) (a9:Nat) (a10:Nat) (a11:Option Addr) (a12:Nat) (a13:Nat) (a14:ByteArray):Array Value:=#[.int .i64 a1,.int .i64 a2,.int .i64 a3,.int .i64 a4,.int .i64 a5,.int .i64 a6,.int .i64 a7,.slice a8 a9 a10,.slice a11 a12 a13,.string a14]
abbrev ie (a1:Int) (a2:Option Addr) (a3:Nat) (a4:Nat) (a5:Option Addr) (a6:Nat) (a7:Nat) (a8:Option Addr) (a9:Nat) (a10:Nat) (a11:Option Addr) (a12:Nat) (a13:Nat):Array Value:=#[.int .i64 a1,.slice a2 a3 a4,.slice a5 a6 a7,.slice a8 a9 a10,.slice a11 a12 a13]
abbrev fx (a1:Int) (a2:Int) (a3:ByteArray) (a4:Bool):Array Value:=#[.int .i64 a1,.int .i64 a2,.string a3,.bool a4]
abbrev sx (a1:Int) (a2:Option Addr) (a3:Nat) (a4:Nat) (a5:Option Addr) (a6:Nat) (a7:Nat):Array Value:=#[.int .i64 a1,.slice a2 a3 a4,.slice a5 a6 a7]
abbrev sy (a1:Option Addr) (a2:Nat) (a3:Nat) (a4:Option Addr) (a5:Nat) (a6:Nat) (a7:Option Addr) (a8:Nat) (a9:Nat) (a10:Int) (a11:Int) (a12:Int) (a13:Int) (a14:Option Addr) (a15:Nat) (a16:Nat) (a17:Int) (a18:Option Addr) (a19:Nat) (a20:Nat):Array Value:=#[.slice a1 a2 a3,.slice a4 a5 a6,.slice a7 a8 a9,.int .i64 a10,.int .i64 a11,.int .i64 a12,.int .i64 a13,.slice a14 a15 a16,.int .i64 a17,.slice a18 a19 a20]
abbrev oT (a1:Int) (a2:Int) (a3:Int) (a4:Int) (a5:Int) (a6:Int) (a7:Int) (a8:Option Addr) (a9:Nat) (a10:Nat) (a11:Option Addr) (a12:Nat) (a13:Nat) (a14:ByteArray) (a15:ByteArray) (a16:ByteArray):Array Value:=#[.int .i64 a1,.int .i64 a2,.int .i64 a3,.int .i64 a4,.int .i64 a5,.int .i64 a6,.int .i64 a7,.slice a8 a9 a10,.slice a11 a12 a13,.string a14,.string a15,.string a16]
abbrev gO (a1:Int) (a2:Option Addr) (a3:Nat) (a4:Nat) (a5:Option Addr) (a6:Nat) (a7:Nat) (a8:Option Addr) (a9:Nat) (a10:Nat):Array Value:=#[.int .i64 a1,.slice a2 a3 a4,.slice a5 a6 a7,.slice a8 a9 a10]
abbrev fh (a1:Int) (a2:Option Addr) (a3:Nat) (a4:Nat):Array Value:=#[.int .i64 a1,.slice a2 a3 a4]
abbrev js (a1:Int) (a2:Int) (a3:Int) (a4:Option Addr) (a5:Nat) (a6:Nat):Array Value:=#[.int .i64 a1,.int .i64 a2,.int .i64 a3,.slice a4 a5 a6]
abbrev fj (a1:Option Addr) (a2:Nat) (a3:Nat) (a4:Option Addr) (a5:Nat) (a6:Nat):Array Value:=#[.slice a1 a2 a3,.slice a4 a5 a6]
abbrev kl (a1:Int) (a2:Int) (a3:Option Addr) (a4:Nat) (a5:Nat) (a6:ByteArray):Array Value:=#[.int .i64 a1,.int .i64 a2,.slice a3 a4 a5,.string a6]
abbrev np (a1:Int) (a2:Int) (a3:Int) (a4:ByteArray) (a5:ByteArray) (a6:Int):Array Value:=#[.int .i64 a1,.int .i64 a2,.int .i64 a3,.string a4,.string a5,.int .i64 a6]
abbrev ki (a1:Int) (a2:Option Addr) (a3:Nat) (a4:Nat) (a5:Option Addr) (a6:Nat) (a7:Nat) (a8:ByteArray):Array Value:=#[.int .i64 a1,.slice a2 a3 a4,.slice a5 a6 a7,.string a8]
abbrev lL (a1:Int) (a2:Int) (a3:Int) (a4:Int) (a5:Option Addr) (a6:Nat) (a7:Nat):Array Value:=#[.int .i64 a1,.int .i64 a2,.int .i64 a3,.int .i64 a4,.slice a5 a6 a7]
abbrev jj (a1:Int) (a2:Bool) (a3:Option Addr) (a4:Nat) (a5:Nat):Array Value:=#[.int .i64 a1,.bool a2,.slice a3 a4 a5]
abbrev ln (a1:Option Addr) (a2:Nat) (a3:Nat) (a4:Option Addr) (a5:Nat) (a6:Nat) (a7:Option Addr) (a8:Nat) (a9:Nat) (a10:Option Addr) (a11:Nat) (a12:Nat):Array Value:=#[.slice a1 a2 a3,.slice a4 a5 a6,.slice a7 a8 a9,.slice a10 a11 a12]
abbrev mC (a1:Int) (a2:ByteArray) (a3:ByteArray) (a4:Int):Array Value:=#[.int .i64 a1,.string a2,.string a3,.int .i64 a4]
abbrev fL (a1:Int):Array Value:=#[.int .i64 a1]
abbrev uC (a1:Option Addr) (a2:Nat) (a3:Nat) (a4:Int) (a5:Int) (a6:Option Addr) (a7:Nat) (a8:Nat) (a9:Option Addr) (a10:Nat) (a11:Nat) (a12:Int) (a13:Int) (a14:ByteArray) (a15:Bool):Array Value:=#[.slice a1 a2 a3,.int .i64 a4,.int .i64 a5,.slice a6 a7 a8,.slice a9 a10 a11,.int .i64 a12,.int .i64 a13,.string a14,.bool a15]
abbrev lO (a1:ByteArray) (a2:Int) (a3:Int):Array Value:=#[.string a1,.int .i64 a2,.int .i64 a3]
abbrev sA (a1:Int) (a2:Int) (a3:ByteArray) (a4:Bool) (a5:Int):Array Value:=#[.int .i64 a1,.int .i64 a2,.string a3,.bool a4,.int .i64 a5]
abbrev rB (a1:Int) (a2:ByteArray) (a3:ByteArray):Array Value:=#[.int .i64 a1,.string a2,.string a3]
abbrev xN (a1:Int) (a2:Int) (a3:Int) (a4:Int):Array Value:=#[.int .i64 a1,.int .i64 a2,.int .i64 a3,.int .i64 a4]
abbrev o5 (a1:Int) (a2:Bool):Array Value:=#[.int .i64 a1,.bool a2]
abbrev va (a1:Int) (a2:ByteArray) (a3:Int):Array Value:=#[.int .i64 a1,.string a2,.int .i64 a3]
abbrev pB (a1:Option Addr) (a2:Nat) (a3:Nat) (a4:Int):Array Value:=#[.slice a1 a2 a3,.int .i64 a4]
abbrev vu (a1:Option Addr) (a2:Option Addr) (a3:Option Addr):Array Value:=#[.pointer a1,.pointer a2,.pointer a3]
abbrev gj (a1:Bool):Array Value:=#[.bool a1]
abbrev tB (a1:Int) (a2:Int):Array Value:=#[.int .i64 a1,.int .i64 a2]
abbrev ij (a1:Option Addr) (a2:Nat) (a3:Nat):Array Value:=#[.slice a1 a2 a3]
abbrev sS (a1:Option Addr) (a2:Option Addr):Array Value:=#[.pointer a1,.pointer a2]
abbrev ot (a1:ByteArray):Array Value:=#[.string a1]
theorem fX {α:Type}{a b:α}(h:a=b:=by kernel_rfl):some a=some b:=congrArg some h
theorem eQ {p:Prop}(h:p:=by kernel_rfl):p:=h
theorem eL {p:Prop}(h:p:=by omega):p:=h
theorem fY {p:Prop}(h:p:=by rfl):p:=h
theorem eS {p:Prop}(h:p:=by decide):p:=h
theorem iz {p:Prop}(h:p:=by simp):p:=h
theorem sT {p:Prop}(h:p:=by simp;omega):p:=h
theorem aiI {p:Prop}[Decidable p](h:decide p=true:=by kernel_rfl):p:=of_decide_eq_true h
abbrev eV:=Option Addr
abbrev aiK (w W:World):Prop:=Below w.heap.size w W
abbrev eR:Nat->Prop:=fun _=>False
theorem RowKit.Hid.o {p:Prop}(h:Hid p):p:=h.out
abbrev my (w:World)(g:Nat)(v0 v1:Value):Prop:=w.cell? ⟨g,0,none⟩=some v0/\w.cell? ⟨g,1,none⟩=some v1
abbrev nq (w:World)(g:Nat)(v0 v1 v2 v3:Value):Prop:=w.cell? ⟨g,0,none⟩=some v0/\w.cell? ⟨g,1,none⟩=some v1/\w.cell? ⟨g,2,none⟩=some v2/\w.cell? ⟨g,3,none⟩=some v3
abbrev o6 (w:World)(g:Nat)(v0 v1 v2 v3 v4:Value):Prop:=w.cell? ⟨g,0,none⟩=some v0/\w.cell? ⟨g,1,none⟩=some v1/\w.cell? ⟨g,2,none⟩=some v2/\w.cell? ⟨g,3,none⟩=some v3/\w.cell? ⟨g,4,none⟩=some v4
abbrev C3 (w:World)(g:Nat)(v0 v1 v2 v3 v4 v5 v6 v7 v8 v9:Value):Prop:=w.cell? ⟨g,0,none⟩=some v0/\w.cell? ⟨g,1,none⟩=some v1/\w.cell? ⟨g,2,none⟩=some v2/\w.cell? ⟨g,3,none⟩=some v3/\w.cell? ⟨g,4,none⟩=some v4/\w.cell? ⟨g,5,none⟩=some v5/\w.cell? ⟨g,6,none⟩=some v6/\w.cell? ⟨g,7,none⟩=some v7/\w.cell? ⟨g,8,none⟩=some v8/\w.cell? ⟨g,9,none⟩=some v9
abbrev lR (w:World)(g:Nat)(v0 v1 v2 v3 v4 v5:Value):Prop:=w.cell? ⟨g,0,none⟩=some v0/\w.cell? ⟨g,1,none⟩=some v1/\w.cell? ⟨g,2,none⟩=some v2/\w.cell? ⟨g,3,none⟩=some v3/\w.cell? ⟨g,4,none⟩=some v4/\w.cell? ⟨g,5,none⟩=some v5
abbrev C4 (w:World)(g:Nat)(v0 v1 v2:Value):Prop:=w.cell? ⟨g,0,none⟩=some v0/\w.cell? ⟨g,1,none⟩=some v1/\w.cell? ⟨g,2,none⟩=some v2
abbrev UB (w:World)(g:Nat)(v0 v1 v2 v3 v4:Value):Prop:=w.cell? ⟨g,5,none⟩=some v0/\w.cell? ⟨g,6,none⟩=some v1/\w.cell? ⟨g,7,none⟩=some v2/\w.cell? ⟨g,8,none⟩=some v3/\w.cell? ⟨g,9,none⟩=some v4
abbrev UI (w:World)(g:Nat)(v0 v1 v2 v3 v4 v5:Value):Prop:=w.cell? ⟨g,6,none⟩=some v0/\w.cell? ⟨g,7,none⟩=some v1/\w.cell? ⟨g,8,none⟩=some v2/\w.cell? ⟨g,9,none⟩=some v3/\w.cell? ⟨g,10,none⟩=some v4/\w.cell? ⟨g,11,none⟩=some v5
abbrev C5 (w:World)(g:Nat)(v0 v1 v2 v3:Value):Prop:=w.cell? ⟨g,6,none⟩=some v0/\w.cell? ⟨g,7,none⟩=some v1/\w.cell? ⟨g,8,none⟩=some v2/\w.cell? ⟨g,9,none⟩=some v3
abbrev UP (w:World)(g:Nat)(v0 v1 v2 v3:Value):Prop:=w.cell? ⟨g,1,none⟩=some v0/\w.cell? ⟨g,2,none⟩=some v1/\w.cell? ⟨g,3,none⟩=some v2/\w.cell? ⟨g,4,none⟩=some v3
end Go
namespace Go.CH
open Go.RowKit
open Go.ChangeMaps (setBlock)
theorem au {p:Prop} (h:p):Hid p:=h
structure Mod (F:Nat->Prop) (w w':World):Prop where
 os:w'.os=w.os
 tape:w'.tape=w.tape
 output:w'.output=w.output
 size:w.heap.size<=w'.heap.size
 block:∀ k,k<w.heap.size->¬ F k->w'.heap[k]?=w.heap[k]?
theorem Mod.refl (F:Nat->Prop) (w:World):Mod F w w:=⟨rfl,rfl,rfl,fy _,fun _ _ _=>rfl⟩
variable {F G:Nat->Prop}{a b w w':World}{p:Addr}{o':Obj}{n B I base c g:Nat}{v z:Value}{K t e:TypeId}{es:Array MapEntry}{k:IntKind}{i:TypeInfo}{A:eV}{xs news:List Value}{Q:Exit->Act->World->Prop}
theorem Mod.trans {J:Nat->Prop} {c:World} (h:Mod F a b) (k:Mod J b c) (M:∀ i,i<a.heap.size->F i->G i) (I:∀ i,i<a.heap.size->J i->G i):Mod G a c:=
 ⟨k.os.trans h.os,k.tape.trans h.tape,k.output.trans h.output,kh h.size k.size,
  fun i hi hn=>(k.block i (Hv hi h.size) (fun e=>hn (I i hi e))).trans (h.block i hi (fun e=>hn (M i hi e)))⟩
theorem Mod.mono   (h:Mod F a b) (hF:∀ i,i<a.heap.size->F i->G i):Mod G a b:=
 ⟨h.os,h.tape,h.output,h.size,fun i hi hn=>h.block i hi (fun e=>hn (hF i hi e))⟩
theorem Mod.below   (h:Mod F a b) (hF:∀ i,i<a.heap.size->¬ F i):Below a.heap.size a b:=
 ⟨h.os,h.tape,h.output,h.size,fun i hi=>h.block i hi (hF i hi)⟩
theorem Mod.of_below   (h:Below a.heap.size a b):Mod F a b:=
 ⟨h.os,h.tape,h.output,h.size,fun i hi _=>h.block i hi⟩
theorem Mod.xV   {row:Option Nat} (h:a.grownBy b row) (hr:∀ k,row=some k->k<a.heap.size->F k):Mod F a b:=
 ⟨h.os,h.tape,h.output,h.size,fun i hi hn=>h.block i hi (fun e=>hn (hr i e.symm hi))⟩
theorem Mod.drew   (h:Mod F a b):Mod F a b.drew:=⟨h.os,h.tape,h.output,h.size,h.block⟩
theorem Mod.drewN   (h:Mod F a b) (n:Nat):Mod F a (b.drewN n):=⟨h.os,h.tape,h.output,h.size,h.block⟩
theorem Mod.alloc   (h:Mod F a b) (o:Obj):Mod F a (b.alloc o):=
 ⟨h.os,h.tape,h.output,kh h.size iz,fun i hi hn=>(I3 b o i (Hv hi h.size)).trans (h.block i hi hn)⟩
theorem Mod.setCell   (h:Mod F a b)  (u:Value) (hp:p.block<a.heap.size->F p.block):Mod F a (b.setCell p u):=
 ⟨h.os,h.tape,h.output,by simpa using h.size,fun i hi hn=>(Below.heap_setCell b p u i (by rintro rfl;exact hn (hp hi))).trans (h.block i hi hn)⟩
theorem Mod.setBlock   (h:Mod F a b) {k:Nat} (o:Obj) (I:k<a.heap.size->F k):Mod F a (setBlock b k o):=
 ⟨h.os,h.tape,h.output,by simpa[Go.ChangeMaps.setBlock] using h.size,fun i hi hn=>by
  have:k≠i:=by rintro rfl;exact hn (I hi)
  simp only[Go.ChangeMaps.setBlock];rw[Mz this]
  exact h.block i hi hn⟩
theorem Mod.cell   (h:Mod F w w')  (hp:p.block<w.heap.size) (hn:¬ F p.block):w'.cell? p=w.cell? p:=
 Ff (w:=w) (h.block p.block hp hn)
theorem kD  {b:Nat} {o:Obj} (h:w.heap[b]?=some o):(setBlock w b o').heap[b]?=some o':=(Go.MapKept.heap_set h).1
theorem mg  {b k:Nat}  (h:b≠k):(setBlock w b o').heap[k]?=w.heap[k]?:=by
 simp only[Go.ChangeMaps.setBlock];exact Mz h
theorem Kz  {o:Obj}  (h:n=w.heap.size):(w.alloc o).heap[n]?=some o:=by subst h;exact heap_alloc_new w o
theorem VG  {o:Obj}  (h:n<w.heap.size):(w.alloc o).heap[n]?=w.heap[n]?:=I3 w o n h
theorem dF   (h:Below B a w):Below B a w.drew:=h.drew
theorem below_drewN   (h:Below B a w) (n:Nat):Below B a (w.drewN n):=⟨h.os,h.tape,h.output,h.size,h.block⟩
@[go_sem] theorem heap_drew (w:World):w.drew.heap=w.heap:=rfl
@[go_sem] theorem heap_drewN (w:World) (n:Nat):(w.drewN n).heap=w.heap:=rfl
@[go_sem] theorem Yt  {o:Obj}  (h:n<w.heap.size):(w.alloc o).heap[n]?=w.heap[n]?:=I3 w o n h
@[go_sem] theorem TN  {a:Addr}   (h:n≠a.block):(w.setCell a v).heap[n]?=w.heap[n]?:=Below.heap_setCell w a v n h
@[go_sem] theorem Yu  {b:Nat} {o:Obj} {a:Addr} (h:b≠a.block):(setBlock w b o).cell? a=w.cell? a:=Ff (mg h)
@[go_sem] theorem TP  {b:Nat} {o:Obj} {a:Addr} (h:b≠a.block):(setBlock w b o).frozen? a=w.frozen? a:=World.frozen?_of_block (mg h)
@[go_sem] theorem vQ  {b:Nat} {o:Obj}:(setBlock w b o).heap.size=w.heap.size:=by simp[Go.ChangeMaps.setBlock]
section maps0
variable {α:Type}
def EC (kv:α->Value) (es:Array MapEntry) (clock:Nat) (l:List (α × Value)):Prop:=
 es.toList.map (fun e=>(e.key,e.val))=l.map (fun p=>(kv p.1,p.2))/\(l.map (·.1)).Nodup/\(es.toList.map (·.born)).Nodup/\∀ e ∈ es.toList,e.born<clock
def rX (kv:α->Value) (w:World) (b:Nat) (l:List (α × Value)):Prop:=
 ∃ es clock,w.heap[b]?=some (.map es clock)/\EC kv es clock l
variable {kv:α→Value} {w w':World} {b:Nat} {l:List (α × Value)}
theorem rX.of_block (h:rX kv w b l) (hb:w'.heap[b]?=w.heap[b]?):rX kv w' b l:=by
 obtain⟨es,clock,h1,h2⟩:=h;exact⟨es,clock,hb.trans h1,h2⟩
theorem rX.lt (h:rX kv w b l):b<w.heap.size:=by obtain⟨es,clock,h1,_⟩:=h;exact lt_of_block h1
theorem EC.nil:EC kv #[] 0 []:=⟨rfl,GG,GG,by simp⟩
theorem rX.new (w:World):rX kv (w.alloc (.map #[] 0)) w.heap.size []:=⟨#[],0,heap_alloc_new w _,EC.nil⟩
theorem rX.mod  (h:rX kv w b l) (m:Mod F w w') (hb:¬ F b):rX kv w' b l:=h.of_block (m.block b h.lt hb)
theorem acp {es:List MapEntry} {l:List (α × Value)} (h:es.map (fun e=>(e.key,e.val))=l.map (fun p=>(kv p.1,p.2)))  {k:α} {u:Value} (hn:l[n]?=some (k,u)):∃ e,es[n]?=some e/\e.key=kv k/\e.val=u:=by
 have I:(es.map (fun e=>(e.key,e.val)))[n]?=some (kv k,u):=by rw[h];simp[hn]
 rw[lz] at I;cases J:es[n]? with
 | none=>simp[J] at I
 | some e=>simp[J] at I;exact⟨e,rfl,I.1,I.2⟩
end maps0
section maps
variable {α:Type} [DecidableEq α] {P:Program}
structure oN (P:Program) (K:TypeId) (kv:α->Value):Prop where
 eq:∀ a b w,(Op.equal K (kv a) (kv b)).run P w=.ok (decide (a=b)) w
 check:∀ e a w,(Instr.checkKey e 10000 K (kv a)).run P w=.ok () w
 same:∀ a,Instr.sameBits 10000 (kv a) (kv a)=true
 now:∃ kd,P.underlying K=some kd/\∀ a b,Instr.sameNow kd (kv a) (kv b)=none\/Instr.sameNow kd (kv a) (kv b)=some (decide (a=b))
def wT (k:α):List (α × Value)->Nat->Option (Nat × Value)
 | [],_=>none
 | (a,v)::l,i=>if k=a then some (i,v) else wT k l (i+1)
theorem um {K:TypeId} {kv:α->Value} (H:oN P K kv) (k:α) (w:World):∀ (es:List MapEntry) (l:List (α × Value)) (i:Nat),
  es.map (fun e=>(e.key,e.val))=l.map (fun p=>(kv p.1,p.2))->(Instr.findAsking K (kv k) es i).run P w=.ok (wT k l i) w
 | [],[],i,_=>by simp[Instr.findAsking,wT]
 | [],_::_,_,h=>by simp at h
 | _::_,[],_,h=>by simp at h
 | e::es,(a,v)::l,i,h=>by
  simp only[lk,List.cons.injEq,Prod.mk.injEq] at h;obtain⟨⟨hk,M⟩,J⟩:=h;have ih:=um H k w es l (i+1) J;simp only[Instr.findAsking,j9,hk,H.eq,kx,wT];by_cases I:k=a
  ·subst I;simp[M]
  ·simp[I,ih]
theorem Dc {kv:α->Value} {kd:TypeDesc} (hn:∀ a b,Instr.sameNow kd (kv a) (kv b)=none\/Instr.sameNow kd (kv a) (kv b)=some (decide (a=b))) (k:α):∀ (es:List MapEntry) (l:List (α × Value)) (i:Nat) (r:Option (Nat × Value)),
  es.map (fun e=>(e.key,e.val))=l.map (fun p=>(kv p.1,p.2))->Instr.findNow kd (kv k) es i=some r->r=wT k l i
 | [],[],i,r,_,h=>by simp[Instr.findNow] at h;simp[wT,h]
 | [],_::_,_,_,h,_=>by simp at h
 | _::_,[],_,_,h,_=>by simp at h
 | e::es,(a,v)::l,i,r,h,hr=>by
  simp only[lk,List.cons.injEq,Prod.mk.injEq] at h;obtain⟨⟨hk,M⟩,I⟩:=h;simp only[Instr.findNow,hk] at hr;rcases hn k a with h1|h1
  ·simp[h1] at hr
  ·rw[h1] at hr;by_cases J:k=a
   ·subst J;simp at hr;simp[wT,<-hr,M]
   ·simp[J] at hr;simp only[wT,if_neg J];exact Dc hn k es l (i+1) r I hr
theorem run_findKey  {kv:α->Value} (H:oN P K kv) (k:α) (w:World) (es:List MapEntry) (l:List (α × Value)) (h:es.map (fun e=>(e.key,e.val))=l.map (fun p=>(kv p.1,p.2))) :
  (Instr.findKey K (kv k) es).run P w=.ok (wT k l 0) w:=by
 obtain⟨kd,I,hn⟩:=H.now;simp only[Instr.findKey,j9,run_underlying I,kx];cases J:Instr.findNow kd (kv k) es 0 with
 | none=>simp only[um H k w es l 0 h]
 | some r=>simp only[kz];rw[Dc hn k es l 0 r h J]
def nV (l:List (α × Value)) (k:α):Option Value:=(wT k l 0).map (·.2)
def mh:List (α × Value)->α->Value->List (α × Value)
 | [],k,v=>[(k,v)]
 | (a,u)::l,k,v=>if k=a then(a,v)::l else(a,u)::mh l k v
theorem zU (k:α):∀ (l:List (α × Value)) (i:Nat),wT k l i=(wT k l 0).map (fun p=>(p.1+i,p.2))
 | [],_=>rfl
 | (a,v)::l,i=>by
  by_cases h:k=a
  ·simp[wT,h]
  ·simp only[wT,if_neg h];rw[zU k l (i+1),zU k l (0+1)];cases wT k l 0<;>simp;omega
theorem qL (a:α) (v:Value) (l:List (α × Value)) (k:α):nV ((a,v)::l) k=if k=a then some v else nV l k:=by
 unfold nV;by_cases h:k=a
 ·simp[wT,h]
 ·simp only[wT,if_neg h];rw[zU];cases wT k l 0<;>rfl
theorem xW {k:α}:∀ {l:List (α × Value)} {i:Nat},wT k l i=none->k ∉ l.map (·.1)/\∀ v,mh l k v=l++[(k,v)]
 | [],_,_=>by simp[mh]
 | (a,u)::l,i,h=>by
  by_cases I:k=a
  ·simp[wT,I] at h
  ·simp only[wT,if_neg I] at h;obtain⟨M,J⟩:=xW h;refine⟨by simp only[lk,pA,not_or];exact⟨I,M⟩,fun v=>by simp[mh,I,J]⟩
theorem xX {k:α}:∀ {l:List (α × Value)} {i j:Nat} {u:Value},wT k l i=some (j,u)->∃ n,j=i+n/\l[n]?=some (k,u)/\∀ v,mh l k v=l.set n (k,v)
 | [],_,_,_,h=>by simp[wT] at h
 | (a,x)::l,i,j,u,h=>by
  by_cases I:k=a
  ·subst I;simp only[wT,if_true,Option.some.injEq,Prod.mk.injEq] at h;exact⟨0,by omega,by simp[h.2],fun v=>by simp[mh]⟩
  ·simp only[wT,if_neg I] at h;obtain⟨n,h1,J,M⟩:=xX h;exact⟨n+1,by omega,by simpa using J,fun v=>by simp[mh,I,M]⟩
theorem Sj (k:α) (v:Value) (l:List (α × Value)):(mh l k v).map (·.1)=if k ∈ l.map (·.1) then l.map (·.1) else l.map (·.1)++[k]:=by
 cases h:wT k l 0 with
 | none=>obtain⟨J,I⟩:=xW h;rw[I,if_neg J];simp
 | some p=>
  obtain⟨j,u⟩:=p;obtain⟨n,J,I,h3⟩:=xX h;have hm:k ∈ l.map (·.1):=List.mem_map.2 ⟨(k,u),pS I,rfl⟩;rw[h3,if_pos hm,vt];have:(l.map (·.1))[n]?=some k:=by simp[I]
  obtain⟨M,he⟩:=List.getElem?_eq_some_iff.1 this
  conv=>rhs;rw[<-N5 M]
  rw[he]
variable {kv:α→Value} {w w':World} {b:Nat} {l:List (α × Value)}
theorem Df {E:TypeId} {z:Value} (H:oN P K kv) (M:P.underlying t=some (.map K E)) (hz:∀ w,(zeroValue E).run P w=.ok z w)   (h:EC kv es I l) (k:α) (w:World) (h1:w.heap[b]?=some (.map es I)) :
  (Instr.lookup t (.map (some b)) (kv k) false).run P w=.ok ((nV l k).getD z) w:=by
 obtain⟨J,_⟩:=h;simp only[Instr.lookup,j9,run_underlying M,kx,tG h1,kz,H.check,run_findKey H k w _ l J,nV];cases wT k l 0 with
 | none=>simp[hz]
 | some p=>simp
theorem qm {E:TypeId} {z:Value} (H:oN P K kv) (M:P.underlying t=some (.map K E)) (hz:∀ w,(zeroValue E).run P w=.ok z w)   (h:EC kv es I l) (k:α) (w:World) (h1:w.heap[b]?=some (.map es I)) :
  (Instr.lookup t (.map (some b)) (kv k) true).run P w=.ok (.tuple #[(nV l k).getD z,.bool (nV l k).isSome]) w:=by
 obtain⟨J,_⟩:=h;simp only[Instr.lookup,j9,run_underlying M,kx,tG h1,kz,H.check,run_findKey H k w _ l J,nV];cases wT k l 0 with
 | none=>simp[hz]
 | some p=>simp
theorem Dh {β γ:Type} (f:β->γ) (g:β->β) (x:γ):∀ (l:List β) (n:Nat),(∀ e,l[n]?=some e->f (g e)=x)->(l.modify n g).map f=(l.map f).set n x
 | [],_,_=>by simp
 | e::l,0,h=>by simp[h e rfl]
 | e::l,n+1,h=>by simp[Dh f g x l n (fun e' he=>h e' (by simpa using he))]
theorem rY {β γ:Type} (f:β->γ) (g:β->β):∀ (l:List β) (n:Nat),(∀ e,f (g e)=f e)->(l.modify n g).map f=l.map f
 | [],_,_=>by simp
 | e::l,0,h=>by simp[h e]
 | e::l,n+1,h=>by simp[rY f g l n h]
theorem mem_modify {β:Type} (p:β->Prop) (g:β->β):∀ (l:List β) (n:Nat),(∀ e ∈ l,p e)->(∀ e,p e->p (g e))->∀ e ∈ l.modify n g,p e
 | [],_,_,_,e,h=>by simp at h
 | x::l,0,h,hg,e,I=>by
  simp at I;rcases I with rfl|I
  ·exact hg _ (h _ iz)
  ·exact h _ (by simp[I])
 | x::l,n+1,h,hg,e,I=>by
  simp at I;rcases I with rfl|I
  ·exact h _ iz
  ·exact mem_modify p g l n (fun e I=>h e (by simp[I])) hg e I
theorem vR {E:TypeId} (H:oN P K kv) (ht:P.underlying t=some (.map K E))   (h:EC kv es I l) (b:Nat) (k:α) (v:Value) :
  ∃ aa J,EC kv aa J (mh l k v)/\∀ w:World,w.heap[b]?=some (.map es I)->(Instr.mapUpdate t (.map (some b)) (kv k) v).run P w=.ok () (setBlock w b (.map aa J)):=by
 obtain⟨h2,h3,h4,h5⟩:=h;cases hf:wT k l 0 with
 | none=>
  obtain⟨g1,g2⟩:=xW hf;refine⟨es.push ⟨kv k,v,I⟩,I+1,⟨?_,?_,?_,?_⟩,fun w h1=>?_⟩
  ·rw[g2];simp[h2]
  ·rw[g2];simp only[km,lk,pH];exact List.nodup_append.2 ⟨h3,by simp,fun a ha b hb=>by simp at hb;subst hb;rintro rfl;exact g1 ha⟩
  ·simp only[Array.toList_push,km,lk,pH];refine List.nodup_append.2 ⟨h4,by simp,fun a ha b hb=>?_⟩;simp at hb;subst hb;obtain⟨e,M,rfl⟩:=List.mem_map.1 ha;have:=h5 e M;omega
  ·intro e M;simp at M;rcases M with M|rfl
   ·have:=h5 e (by simpa using M);omega
   ·simp
  ·simp only[Instr.mapUpdate,j9,run_underlying ht,kx,tG h1,H.check,run_findKey H k w _ l h2,hf,N4 _ h1];rfl
 | some p=>
  obtain⟨j,u⟩:=p;obtain⟨n,g1,g2,g3⟩:=xX hf;obtain rfl:j=n:=by omega
  obtain⟨e,M,ac,ad⟩:=acp h2 g2;have ab:es[j]?=some e:=by simpa using M
  refine⟨es.modify j (fun e=>{ e with key:=kv k,val:=v }),I,⟨?_,?_,?_,?_⟩,fun w h1=>?_⟩
  ·rw[g3,Hs,Dh (fun e:MapEntry=>(e.key,e.val)) (fun e=>{ e with key:=kv k,val:=v }) (kv k,v) _ _ (fun _ _=>rfl),h2,vt]
  ·have:=Sj k v l;rw[this];split
   ·exact h3
   ·rename_i hm;exact absurd (List.mem_map.2 ⟨(k,u),pS g2,rfl⟩) hm
  ·rw[Hs,rY (fun e:MapEntry=>e.born) (fun e=>{ e with key:=kv k,val:=v }) _ _ (fun _=>rfl)];exact h4
  ·rw[Hs];exact mem_modify (fun e:MapEntry=>e.born<I) (fun e=>{ e with key:=kv k,val:=v }) _ _ h5 (fun _ h=>h)
  ·simp only[Instr.mapUpdate,j9,run_underlying ht,kx,tG h1,H.check,run_findKey H k w _ l h2,hf,ab,uv,CN,ac,Instr.keyThatStays,H.same,if_true,kz,N4 _ h1];rfl
end maps
section
variable {P:Program}
theorem QR {E:TypeId}  (hE:P.underlying E=some (.int k)) (a b:Int) (n:Nat) (w:World) :
  (Op.equalIn (n+1) E (.int k a) (.int k b)).run P w=.ok (a==b) w:=by
 simp[Op.equalIn,run_underlying hE]
theorem FX {E:TypeId} {d:TypeDesc} (hE:P.underlying E=some d) (hd:(match d with|.struct _|.array _ _=>true|_=>false)=false) (cs:Array Value) (j:Nat) (v:Value) (hv:cs[j]?=some v) (w:World) :
  (part E cs j).run P w=.ok v w:=by
 cases d<;>simp_all[part,isAgg,run_underlying hE]
theorem acr {E:TypeId}   (hK:P.underlying K=some (.array 2 E)) (I:P.underlying E=some (.int k)) (hi:P.info? E=some i) (hs:i.size=1) (a b c d:Int) (n:Nat) (w:World) :
  (Op.equalIn (n+2) K (.agg #[.int k a,.int k b]) (.agg #[.int k c,.int k d])).run P w=.ok (a==c&&b==d) w:=by
 have h:=fun cs j v hv w=>FX (P:=P) I rfl cs j v hv w;unfold Op.equalIn;simp only[j9,run_underlying hK,kx,sizeOf,typeInfo,run_program,hi,kz,hs,My,Std.Legacy.Range.size,sb,Nat.add_one_sub_one,Nat.div_one,List.range'];simp only[GB,List.forIn_nil,j9,h #[.int k a,.int k b] 0 _ rfl,h #[.int k c,.int k d] 0 _ rfl,h #[.int k a,.int k b] 1 _ rfl,h #[.int k c,.int k d] 1 _ rfl,kx,QR I,sk,Nat.one_mul,mB];by_cases J:a=c<;>by_cases M:b=d<;>simp[J,M,h #[.int k a,.int k b] 1 _ rfl,h #[.int k c,.int k d] 1 _ rfl,h #[.int k c,.int k b] 1 _ rfl,QR I]
theorem KR {E:TypeId}  (hE:P.underlying E=some (.int k)) (e:Bool) (a:Int) (n:Nat) (w:World):(Instr.checkKey e (n+1) E (.int k a)).run P w=.ok () w:=by
 simp[Instr.checkKey,run_underlying hE]
theorem Sk {E:TypeId}   (M:P.underlying K=some (.array 2 E)) (h:P.underlying E=some (.int k)) (hi:P.info? E=some i) (J:i.size=1) (e:Bool) (a b:Int) (n:Nat) (w:World) :
  (Instr.checkKey e (n+2) K (.agg #[.int k a,.int k b])).run P w=.ok () w:=by
 have I:=fun cs j v hv w=>FX (P:=P) h rfl cs j v hv w;unfold Instr.checkKey;simp only[j9,run_underlying M,kx,sizeOf,typeInfo,run_program,hi,kz,J,My,Std.Legacy.Range.size,sb,Nat.add_one_sub_one,Nat.div_one,List.range'];simp only[GB,List.forIn_nil,j9,I #[.int k a,.int k b] 0 _ rfl,I #[.int k a,.int k b] 1 _ rfl,kx,KR h,sk,Nat.one_mul,mB,kz];simp[hi,J,I #[.int k a,.int k b] 1 _ rfl,KR h]
def eD (k:IntKind) (p:Int × Int):Value:=.agg #[.int k p.1,.int k p.2]
theorem NG {E:TypeId}  (h:P.underlying K=some (.array 2 E)) (J:P.underlying E=some (.int k)) (hi:(P.info? E).map (·.size)=some 1):oN P K (eD k):=by
 obtain⟨i,hi,I⟩:=Option.map_eq_some_iff.1 hi;refine⟨fun a b w=>?_,fun e a w=>Sk h J hi I e a.1 a.2 9998 w,fun a=>?_,_,h,fun a b=>.inl rfl⟩
 ·rw[Op.equal,Op.maxDepth,eD,eD,acr h J hi I a.1 a.2 b.1 b.2 9998 w];obtain⟨a1,a2⟩:=a;obtain⟨b1,b2⟩:=b;by_cases h1:a1=b1<;>by_cases M:a2=b2<;>simp[h1,M]
 ·simp[eD,Instr.sameBits]
end
section slices
variable {P:Program}
def eB (P:Program) (t e:TypeId) (z:Value) (size bytes:Nat):Prop:=
 P.underlying t=some (.slice e)/\(P.info? e).map (fun i=>(i.zero,i.size,i.bytes))=some (some z,size,bytes)/\z.cells.size=size/\0<size
def Src (w:World) (A:eV) (n size:Nat) (xs:List Value):Prop:=
 xs.length=n*size/\(∀ u ∈ xs,u.oneCell'=true)/\(0<n->∃ ad,A=some ad/\∀ j u,xs[j]?=some u->w.cell? (ad.add j)=some u)
theorem Src.cells   {size:Nat}  (h:Src w A n size xs) {I:Addr} (hA:A=some I):∀ j u,xs[j]?=some u->w.cell? (I.add j)=some u:=by
 subst hA;intro j u J;rcases Fl n with h0|h0
 ·subst h0;have:xs=[]:=sC (by simpa using h.1);subst this;simp at J
 ·obtain⟨aa,e,M⟩:=h.2.2 h0;cases e;exact M j u J
theorem Src.none_   {size:Nat}:Src w A 0 size []:=⟨by simp,by simp,fun h=>absurd h eL⟩
theorem Addr.add_block (a:Addr) (n:Nat):(a.add n).block=a.block:=by unfold Addr.add;split<;>rfl
theorem Addr.zV (g n:Nat):(⟨g,0,none⟩:Addr).add n=⟨g,n,none⟩:=by
 unfold Addr.add;split<;>simp_all
theorem Src.keep   {size:Nat}  (h:Src w A n size xs) (M:∀ I:Addr,A=some I->w'.heap[I.block]?=w.heap[I.block]?):Src w' A n size xs:=
 ⟨h.1,h.2.1,fun hn=>by
  obtain⟨I,e,J⟩:=h.2.2 hn
  exact⟨I,e,fun j u hu=>by rw[<-J j u hu];exact Ff (by rw[Addr.add_block];exact M I e)⟩⟩
theorem Src.acs    {size:Nat}   (h:w.ownsRow base e size (.slice A n c) n xs) (M:∀ u ∈ xs,u.oneCell'=true):Src w A n size xs:=by
 refine⟨h.1,M,fun hn=>?_⟩;obtain⟨g,cap,hv,_,J⟩:=h.form hn;have I:A=some ⟨g,0,none⟩:=by injection hv
 subst I;exact⟨_,rfl,h.cells (g:=g) rfl⟩
theorem ZK   {size bytes:Nat} (S:eB P t e z size bytes) (ty:TypeId) (w:World) (base:Nat)    (I:w.ownsRow base e size v n xs)
   {m:Nat}  (hs:Src w A m size news) (ag:n+m<=1000000) (ac:bytes<=1000) (J:base<=w.heap.size) :
  ∃ M w',(Builtin.append_ #[t,t] ty #[v,.slice A m c]).run P w=.ok M w'/\w'.ownsRow base e size M (n+m) (xs++news)/\w.grownBy w' v.ownBlock /\
   (M.ownBlock=v.ownBlock\/M.ownBlock=some w.heap.size):=by
 obtain⟨ht,hi,hz,ab⟩:=S;obtain⟨i,hi,af,ae,aa⟩:=info_parts hi;have hb:(n+m)*bytes<=140737488355328:=kh (tv ag ac) eL;cases A with
 | some ad=>
  obtain⟨M,w',h1,h2,h3,_,h5⟩:=run_append_own_at (P:=P) w base t ty e i z size bytes ht hi af ae aa hz ab v n xs I ad m c news hs.1 (hs.cells rfl) hs.2.1 (by simp only[maxLen];omega) hb J;exact⟨M,w',h1,h2,h3,h5⟩
 | none=>
  have hm:m=0:=by
   rcases Fl m with h0|h0
   ·exact h0
   ·obtain⟨ad,h,_⟩:=hs.2.2 h0;cases h
  subst hm;have hn:news=[]:=sC (by simpa using hs.1);subst hn;refine⟨v,w,?_,by simpa using I,⟨rfl,rfl,rfl,fy _,fun _ _ _=>rfl⟩,.inl rfl⟩;rcases I.2 with⟨rfl,rfl⟩|⟨g,cap,cur,rfl,_,_,ai,_⟩
  ·simp[Builtin.append_,run_underlying ht,sizeOf,typeInfo,hi,Builtin.lenOf,Builtin.firstCells]
  ·simp[Builtin.append_,run_underlying ht,sizeOf,typeInfo,hi,Builtin.lenOf,Builtin.firstCells,ai,storeCells]
theorem VH {o:Oper} {a:Act} {K:Act->World->Prop}  (s x:Operand) 
  (ho:o.op=.call { callee:=.builtin .append,args:=#[s,x],argTypes:=#[t,t] })
    {size bytes:Nat} (S:eB P t e z size bytes) (w:World) (base:Nat)    (hsv:a.eval s=v) (hown:w.ownsRow base e size v n xs)
   {m:Nat}  (hx:a.eval x=.slice A m c) (hs:Src w A m size news) (h63:n+m<=1000000) (hby:bytes<=1000) (hbase:base<=w.heap.size)
  (h:∀ I w',w'.ownsRow base e size I (n+m) (xs++news)->w.grownBy w' v.ownBlock->(I.ownBlock=v.ownBlock\/I.ownBlock=some w.heap.size)->K (a.put o.dst I) w'):o.wp P a w K Q:=by
 obtain⟨I,w',J,M,h3,h4⟩:=ZK S o.type w base hown (c:=c) hs h63 hby hbase;unfold Oper.wp execOp;simp only[ho,resolve,invoke,builtin,j9,kz,kx,zE,lk,pH,hsv,hx,J];exact h I w' M h3 h4
theorem jD {ops:Array Oper} {rest:List Oper} {o:Oper} {a:Act}  (J:o.guard=none) (s x:Operand) 
  (ho:o.op=.call { callee:=.builtin .append,args:=#[s,x],argTypes:=#[t,t] })
    {size bytes:Nat} (S:eB P t e z size bytes) (w:World) (base:Nat)    (hsv:a.eval s=v) (hown:w.ownsRow base e size v n xs)
   {m:Nat}  (hx:a.eval x=.slice A m c) (hs:Src w A m size news) (h63:n+m<=1000000) (hby:bytes<=1000) (hbase:base<=w.heap.size)
  (h:∀ I w',w'.ownsRow base e size I (n+m) (xs++news)->w.grownBy w' v.ownBlock->(I.ownBlock=v.ownBlock\/I.ownBlock=some w.heap.size)->wpList P ops Q rest (a.put o.dst I) w'):wpList P ops Q (o::rest) a w:=
 wpList_plain J fun _ hK=>VH s x ho S w base hsv hown hx hs h63 hby hbase fun I w' M h3 h4=>hK _ _ (h I w' M h3 h4)
theorem zW    {size:Nat}    (h:w.ownsRow base e size v n xs) (I:∀ g,v.ownBlock=some g->w'.heap[g]?=w.heap[g]?):w'.ownsRow base e size v n xs:=by
 refine⟨h.1,?_⟩;rcases h.2 with h2|⟨g,cap,cur,rfl,h3,h4,h5⟩
 ·exact .inl h2
 ·exact .inr ⟨g,cap,cur,rfl,h3,(I g rfl).trans h4,h5⟩
theorem Di    {size:Nat}    (h:w.ownsRow base e size v n xs)  (hg:v.ownBlock=some g):g<w.heap.size:=(h.lt g hg).2
theorem Src.one     (h:w.heap[g]?=some (.cells #[v] t (0,0))) (J:v.oneCell'=true):Src w (some ⟨g,0,none⟩) 1 1 [v]:=
 ⟨rfl,by simpa using J,fun _=>⟨_,rfl,fun j u I=>by
  match j,I with
  | 0,I=>simp at I;subst I;rw[Addr.zV];simp[World.cell?,h]
  | j+1,I=>simp at I⟩⟩
def nW (A:eV) (c k size:Nat):eV:=if c=k then A else A.map (·.add (k*size))
theorem jE   {size bytes:Nat} (S:eB P t e z size bytes) (A:eV) (n c k:Nat) (kd:IntKind) (l:Int) (M:l=k) (h:k<=n) (w:World) :
  (Instr.slice t (.slice A n c) (some (.int kd l)) none none).run P w=.ok (.slice (nW A c k size) (n-k) (c-k)) w:=by
 obtain⟨ht,hi,hz,aa⟩:=S;obtain⟨i,hi,ab,I,J⟩:=info_parts hi;subst M;have h0:(0:Int)<=k/\(k:Int)<=n:=by omega
 simp[Instr.slice,run_underlying ht,Instr.sliceBounds,Instr.sliceBound,asIntOf,h,sizeOf,typeInfo,hi,I,nW]
theorem Src.cut   {size k:Nat}  (h:Src w A n size xs) (hk:k<=n) (hc:n<=c):Src w (nW A c k size) (n-k) size (xs.drop (k*size)):=by
 refine⟨by rw[k6,h.1,Nat.sub_mul],fun u J=>h.2.1 u (zd J),fun hn=>?_⟩;obtain⟨M,rfl,I⟩:=h.2.2 eL;rw[nW,if_neg eL];refine⟨M.add (k*size),rfl,fun j u J=>?_⟩;have e:(M.add (k*size)).add j=M.add (k*size+j):=by
  unfold Addr.add;by_cases h1:k*size=0<;>by_cases h2:j=0<;>simp[h1,h2,vq]
 rw[e];exact I _ u (by rw[<-J,List.getElem?_drop])
end slices
def lB (p:Prop):Prop:=p
theorem held {p:Prop} (h:lB p):p:=h
theorem lB.mk {p:Prop} (h:p):lB p:=h
variable {w0 W W':World}{b:Nat}
theorem Src.open_   {size:Nat}  (h:Src w A n size xs) (hn:0<n) (hs:0<size) :
  ∃ b o,A=some ⟨b,o,none⟩/\∀ j u,xs[j]?=some u->w.cell? ⟨b,o+j,none⟩=some u:=by
 obtain⟨ad,rfl,M⟩:=h.2.2 hn;have hl:0<xs.length:=by rw[h.1];exact Nat.mul_pos hn hs
 have J:=M 0 xs[0] (gR hl);obtain⟨b,o,sp⟩:=ad;have I:sp=none:=by
  cases sp with
  | none=>rfl
  | some x=>
   exfalso;simp only[Addr.add,if_true,World.cell?] at J;split at J<;>simp at J
 subst I;refine⟨b,o,rfl,fun j u hu=>?_⟩;have:=M j u hu;by_cases hj:j=0
 ·subst hj;simpa[Addr.add] using this
 ·simpa[Addr.add,hj] using this
def aT:=World->(Nat->Prop)->Prop
class aT.Ok (O:aT):Prop where
 lt:∀ {w F},O w F->∀ i,F i->i<w.heap.size
 keep:∀ {w w' F},O w F->(∀ i,F i->w'.heap[i]?=w.heap[i]?)->O w' F
def bT (w:World) (F:Nat->Prop) (R:aT) (w':World):Prop:=∃ F',R w' F'/\Mod F w w'/\∀ i,F' i->F i\/(w.heap.size<=i/\i<w'.heap.size)
def aj (A B:aT):aT:=fun w F=>∃ F1 F2,A w F1/\B w F2/\(∀ i,F1 i->¬ F2 i)/\∀ i,F i↔F1 i\/F2 i
def bG:aT:=fun _ F=>∀ i,¬ F i
structure qQ (N:Nat) (w0:World) (O:aT) (W:World):Prop where
 own:∃ F,O W F/\∀ i,F i->N<=i
 cZ:Below N w0 W
 big:N<=w0.heap.size
theorem aN:bG.Ok:=⟨fun h i hi=>(h i hi).elim,fun h _=>h⟩
instance  : bG.Ok:=aN
theorem aB {A B:aT} (ha:A.Ok) (hb:B.Ok):(aj A B).Ok:=
 ⟨fun⟨F1,F2,h1,h2,_,h4⟩ i hi=>((h4 i).1 hi).elim (ha.lt h1 i) (hb.lt h2 i),
  fun⟨F1,F2,h1,h2,h3,h4⟩ hk=>⟨F1,F2,ha.keep h1 (fun i hi=>hk i ((h4 i).2 (.inl hi))),hb.keep h2 (fun i hi=>hk i ((h4 i).2 (.inr hi))),h3,h4⟩⟩
instance {A B:aT} [ha:A.Ok] [hb:B.Ok]:(aj A B).Ok:=aB ha hb
section
variable {N:Nat} {w0 W W':World} {A B C D O R:aT}
theorem qQ.start (w:World):qQ w.heap.size w bG w:=⟨⟨fun _=>False,fun _ h=>h,fun _ h=>h.elim⟩,fe _ _,fy _⟩
theorem qQ.size (h:qQ N w0 O W):N<=W.heap.size:=kh h.big h.cZ.size
theorem qQ.below (h:qQ N w0 O W) (ho:O.Ok) (hb:Below W.heap.size W W'):qQ N w0 O W':=by
 obtain⟨F,h1,h2⟩:=h.own;exact⟨⟨F,ho.keep h1 (fun i hi=>hb.block i (ho.lt h1 i hi)),h2⟩,h.cZ.trans (hb.mono h.size),h.big⟩
theorem qQ.take (h:qQ N w0 (aj A B) W) (hb:B.Ok):∃ F,A W F/\(∀ i,F i->N<=i)/\∀ (R:aT) (W':World),bT W F R W'->qQ N w0 (aj R B) W':=by
 have hs:=h.size;obtain⟨F,⟨F1,F2,h1,h2,h3,M⟩,J⟩:=h.own;refine⟨F1,h1,fun i hi=>J i ((M i).2 (.inl hi)),fun R W' hp=>?_⟩;obtain⟨F',g1,g2,g3⟩:=hp;refine⟨⟨fun i=>F' i\/F2 i,⟨F',F2,g1,hb.keep h2 (fun i hi=>g2.block i (hb.lt h2 i hi) (fun hf=>h3 i hf hi)),fun i hi I=>?_,fun i=>qt⟩,fun i hi=>?_⟩,?_,h.big⟩
 ·rcases g3 i hi with g|g
  ·exact h3 i g I
  ·have:=hb.lt h2 i I;omega
 ·rcases hi with hi|hi
  ·rcases g3 i hi with g|g
   ·exact J i ((M i).2 (.inl g))
   ·omega
  ·exact J i ((M i).2 (.inr hi))
 ·exact h.cZ.trans ⟨g2.os,g2.tape,g2.output,g2.size,fun k hk=>g2.block k eL (fun e=>by have:=J k ((M k).2 (.inl e));omega)⟩
theorem qQ.fresh (h:qQ N w0 O W) (ho:O.Ok) (hp:bT W eR R W'):qQ N w0 (aj R O) W':=by
 have hs:=h.size;obtain⟨F,h1,h2⟩:=h.own;have M:qQ N w0 (aj bG O) W:=⟨⟨F,⟨fun _=>False,F,fun _ h=>h,h1,fun _ h=>h.elim,fun i=>by simp⟩,h2⟩,h.cZ,h.big⟩;obtain⟨F0,e1,e2,J⟩:=M.take ho;refine J R W' ?_;obtain⟨I,g1,g2,g3⟩:=hp;exact⟨I,g1,g2.mono (fun _ _ h=>h.elim),fun i hi=>(g3 i hi).elim (fun h=>h.elim) .inr⟩
theorem qQ.imp (h:qQ N w0 A W) (hi:∀ w F,A w F->B w F):qQ N w0 B W:=by
 obtain⟨F,h1,h2⟩:=h.own;exact⟨⟨F,hi _ _ h1,h2⟩,h.cZ,h.big⟩
theorem iZ   (h:aj A B w F):aj B A w F:=by
 obtain⟨F1,F2,h1,h2,h3,h4⟩:=h;exact⟨F2,F1,h2,h1,fun i h g=>h3 i g h,fun i=>(h4 i).trans Or.comm⟩
theorem jH   (h:aj A (aj B C) w F):aj B (aj A C) w F:=by
 obtain⟨M,F2,h1,⟨F3,J,h2,h3,h5,I⟩,h7,h8⟩:=h;refine⟨F3,fun i=>M i\/J i,h2,⟨M,J,h1,h3,fun i hi h4=>h7 i hi ((I i).2 (.inr h4)),fun i=>qt⟩,fun i hi h=>?_,fun i=>?_⟩
 ·rcases h with h|h
  ·exact h7 i h ((I i).2 (.inl hi))
  ·exact h5 i hi h
 ·rw[h8,I];constructor<;>rintro (h|h|h)<;>simp[h]
theorem bD {A' B':aT}   (h:aj A B w F) (ha:∀ F,A w F->A' w F) (hb:∀ F,B w F->B' w F):aj A' B' w F:=by
 obtain⟨F1,F2,h1,h2,h3,h4⟩:=h;exact⟨F1,F2,ha _ h1,hb _ h2,h3,h4⟩
theorem j5   (h:aj A bG w F):A w F:=by
 obtain⟨F1,F2,h1,h2,h3,h4⟩:=h;have:F1=F:=by funext i;exact propext ⟨fun h=>(h4 i).2 (.inl h),fun h=>((h4 i).1 h).elim id (fun h=>(h2 i h).elim)⟩
 exact this ▸ h1
theorem qQ.swap (h:qQ N w0 (aj A B) W):qQ N w0 (aj B A) W:=h.imp fun _ _=>iZ
theorem qQ.kN (h:qQ N w0 (aj A (aj B C)) W):qQ N w0 (aj B (aj A C)) W:=h.imp fun _ _=>jH
theorem qQ.LO (h:qQ N w0 (aj A (aj B (aj C D))) W):qQ N w0 (aj C (aj A (aj B D))) W:=
 (h.imp fun _ _ h=>bD h (fun _ h=>h) (fun _ h=>jH h)).kN
theorem qQ.drop (h:qQ N w0 (aj A B) W):qQ N w0 B W:=by
 obtain⟨F,⟨F1,F2,h1,h2,h3,h4⟩,h5⟩:=h.own;exact⟨⟨F2,h2,fun i hi=>h5 i ((h4 i).2 (.inr hi))⟩,h.cZ,h.big⟩
theorem qQ.fst (h:qQ N w0 (aj A B) W):∃ F,A W F/\∀ i,F i->N<=i:=by
 obtain⟨F,⟨F1,F2,h1,h2,h3,h4⟩,h5⟩:=h.own;exact⟨F1,h1,fun i hi=>h5 i ((h4 i).2 (.inl hi))⟩
theorem qQ.one (h:qQ N w0 A W):qQ N w0 (aj A bG) W:=by
 obtain⟨F,h1,h2⟩:=h.own;exact⟨⟨F,⟨F,fun _=>False,h1,fun _ h=>h,fun _ _ h=>h,fun i=>by simp⟩,h2⟩,h.cZ,h.big⟩
theorem qQ.cell (h:qQ N w0 O W) {p:Addr} {u:Value} (hc:w0.cell? p=some u) (hp:p.block<N):W.cell? p=some u:=by rw[h.cZ.cell hp];exact hc
theorem qQ.src (h:qQ N w0 O W) {A:eV} {size:Nat}  (hs:Src w0 A n size xs) (hN:N=w0.heap.size):Src W A n size xs:=by
 subst hN;refine⟨hs.1,hs.2.1,fun hn=>?_⟩;obtain⟨ad,e,hc⟩:=hs.2.2 hn;exact⟨ad,e,fun j u hu=>h.cell (hc j u hu) (py _ _ (hc j u hu))⟩
end
theorem qQ.last {N:Nat}  {A B C:aT} (h:qQ N w0 (aj A (aj B C)) W):qQ N w0 (aj C (aj A B)) W:=
 (h.imp fun _ _ h=>bD h (fun _ h=>h) (fun _ h=>iZ h)).kN
def av (g:Nat) (cs:Array Value) (t:TypeId):aT:=fun w F=>w.heap[g]?=some (.cells cs t (0,0))/\∀ i,F i↔i=g
theorem aC  {cs:Array Value} :(av g cs t).Ok:=
 ⟨fun h i hi=>by rw[(h.2 i).1 hi];exact lt_of_block h.1,fun h hk=>⟨(hk g ((h.2 g).2 rfl)).trans h.1,h.2⟩⟩
instance {g:Nat} {cs:Array Value} {t:TypeId}:(av g cs t).Ok:=aC
theorem dP (w:World) (cs:Array Value) (t:TypeId):bT w eR (av w.heap.size cs t) (w.alloc (.cells cs t)):=
 ⟨fun i=>i=w.heap.size,⟨Kz rfl,fun i=>qt⟩,Mod.of_below ((fe _ _).alloc (fy _) _),fun i hi=>.inr (by subst hi;simp)⟩
def aV (e:TypeId) (size:Nat) (v:Value) (n:Nat) (xs:List Value):aT:=fun w F=>w.ownsRow 0 e size v n xs/\∀ i,F i↔v.ownBlock=some i
theorem dK  {size:Nat}   :(aV e size v n xs).Ok:=
 ⟨fun h i hi=>Di h.1 ((h.2 i).1 hi),fun h hk=>⟨zW h.1 (fun g hg=>hk g ((h.2 g).2 hg)),h.2⟩⟩
instance {e:TypeId} {size:Nat} {v:Value} {n:Nat} {xs:List Value}:(aV e size v n xs).Ok:=dK
theorem fT (w:World) (e:TypeId) (size:Nat):aV e size (.slice none 0 0) 0 [] w eR:=⟨World.ownsRow_nil _ _ _ _,fun i=>by simp[Value.ownBlock]⟩
theorem Xa  {b':Nat}  {size:Nat}    (h:w.ownsRow b e size v n xs) (hb:b'<=b):w.ownsRow b' e size v n xs:=
 ⟨h.1,h.2.imp id (fun⟨g,cap,cur,h1,h2,h3⟩=>⟨g,cap,cur,h1,kh hb h2,h3⟩)⟩
theorem je    {size:Nat} {M:Value} {n':Nat} {J:List Value} (h:aV e size v n xs W F) (h1:W'.ownsRow 0 e size M n' J) (hg:W.grownBy W' v.ownBlock) (I:M.ownBlock=v.ownBlock\/M.ownBlock=some W.heap.size) :
  bT W F (aV e size M n' J) W':=by
 refine⟨fun i=>M.ownBlock=some i,⟨h1,fun i=>qt⟩,Mod.xV hg (fun k hk _=>(h.2 k).2 hk),fun i hi=>?_⟩;rcases I with I|I
 ·exact .inl ((h.2 i).2 (I ▸ hi))
 ·rw[I] at hi;injection hi with hi;subst hi
  exact .inr ⟨fy _,Di h1 I⟩
theorem vv   {size:Nat}    (h:W'.ownsRow W.heap.size e size v n xs) (hb:Below W.heap.size W W'):bT W eR (aV e size v n xs) W':=
 ⟨fun i=>v.ownBlock=some i,⟨Xa h (fw _),fun i=>qt⟩,Mod.of_below hb,fun i hi=>.inr (h.lt i hi)⟩
theorem iG    {size:Nat}   (h:aV e size (.slice A n c) n xs W F) (h1:∀ u ∈ xs,u.oneCell'=true):Src W A n size xs:=Src.acs h.1 h1
theorem ig    {size:Nat}   (h:W.ownsRow b e size v n xs):∃ A c,v=.slice A n c:=by
 rcases h.2 with⟨rfl,rfl⟩|⟨g,cap,cur,rfl,_⟩
 ·exact⟨none,0,rfl⟩
 ·exact⟨_,_,rfl⟩
instance:bG.Ok:=aN
instance {A B:aT} [ha:A.Ok] [hb:B.Ok]:(aj A B).Ok:=aB ha hb
instance {g:Nat} {cs:Array Value} {t:TypeId}:(av g cs t).Ok:=aC
instance {e:TypeId} {size:Nat} {v:Value} {n:Nat} {xs:List Value}:(aV e size v n xs).Ok:=dK
theorem aO {A:aT} [h:A.Ok]:A.Ok:=h
instance {A:aT} [h:A.Ok]:A.Ok:=aO
structure aI (F0:Nat->Prop) (w0:World) (O:aT) (W:World):Prop where
 own:∃ F,O W F/\∀ i,F i->F0 i\/w0.heap.size<=i
 mod:Mod F0 w0 W
section
variable {F0:Nat→Prop} {w0 W W':World} {A B C D O R:aT}
theorem aI.start {F0:Nat->Prop}  (h:O w F0):aI F0 w O w:=⟨⟨F0,h,fun i hi=>.inl hi⟩,Mod.refl _ _⟩
theorem aI.begin (w:World):aI eR w bG w:=⟨⟨fun _=>False,fun _ h=>h,fun _ h=>h.elim⟩,Mod.refl _ _⟩
theorem aI.size (h:aI F0 w0 O W):w0.heap.size<=W.heap.size:=h.mod.size
theorem aI.cZ (h:aI eR w0 O W):Below w0.heap.size w0 W:=h.mod.below (fun _ _ h=>h)
theorem aI.post (h:aI F0 w0 O W) (ho:O.Ok):bT w0 F0 O W:=by
 obtain⟨F,h1,h2⟩:=h.own;exact⟨F,h1,h.mod,fun i hi=>(h2 i hi).imp id (fun g=>⟨g,ho.lt h1 i hi⟩)⟩
theorem aI.imp (h:aI F0 w0 A W) (hi:∀ w F,A w F->B w F):aI F0 w0 B W:=by
 obtain⟨F,h1,h2⟩:=h.own;exact⟨⟨F,hi _ _ h1,h2⟩,h.mod⟩
theorem aI.below (h:aI F0 w0 O W) (ho:O.Ok) (hb:Below W.heap.size W W'):aI F0 w0 O W':=by
 obtain⟨F,h1,h2⟩:=h.own;exact⟨⟨F,ho.keep h1 (fun i hi=>hb.block i (ho.lt h1 i hi)),h2⟩,h.mod.trans (Mod.of_below (F:=fun _=>False) hb) (fun _ _ h=>h) (fun _ _ h=>h.elim)⟩
theorem aI.drew (h:aI F0 w0 O W) (ho:O.Ok):aI F0 w0 O W.drew:=h.below ho (dF (fe _ _))
theorem aI.drewN (h:aI F0 w0 O W) (ho:O.Ok) (n:Nat):aI F0 w0 O (W.drewN n):=h.below ho (below_drewN (fe _ _) n)
theorem aI.take (h:aI F0 w0 (aj A B) W) (ha:A.Ok) (hb:B.Ok):∃ F,A W F/\(∀ i,F i->F0 i\/w0.heap.size<=i)/\∀ (R:aT) (W':World),bT W F R W'->aI F0 w0 (aj R B) W':=by
 have hs:=h.size;obtain⟨F,⟨F1,F2,h1,h2,h3,M⟩,J⟩:=h.own;refine⟨F1,h1,fun i hi=>J i ((M i).2 (.inl hi)),fun R W' hp=>?_⟩;obtain⟨F',g1,g2,g3⟩:=hp;refine⟨⟨fun i=>F' i\/F2 i,⟨F',F2,g1,hb.keep h2 (fun i hi=>g2.block i (hb.lt h2 i hi) (fun hf=>h3 i hf hi)),fun i hi I=>?_,fun i=>qt⟩,fun i hi=>?_⟩,?_⟩
 ·rcases g3 i hi with g|g
  ·exact h3 i g I
  ·have:=hb.lt h2 i I;omega
 ·rcases hi with hi|hi
  ·rcases g3 i hi with g|g
   ·exact J i ((M i).2 (.inl g))
   ·exact .inr eL
  ·exact J i ((M i).2 (.inr hi))
 ·exact h.mod.trans g2 (fun _ _ h=>h) (fun i hi hf=>(J i ((M i).2 (.inl hf))).elim id (fun g=>by omega))
theorem aI.one (h:aI F0 w0 A W):aI F0 w0 (aj A bG) W:=by
 obtain⟨F,h1,h2⟩:=h.own;exact⟨⟨F,⟨F,fun _=>False,h1,fun _ h=>h,fun _ _ h=>h,fun i=>by simp⟩,h2⟩,h.mod⟩
theorem aI.all (h:aI F0 w0 A W) (ha:A.Ok):∃ F,A W F/\∀ (R:aT) (W':World),bT W F R W'->aI F0 w0 R W':=by
 obtain⟨F,h1,-,h2⟩:=h.one.take ha aN;exact⟨F,h1,fun R W' hp=>(h2 R W' hp).imp fun _ _ h=>j5 h⟩
theorem aI.fresh (h:aI F0 w0 O W) (ho:O.Ok) (hp:bT W eR R W'):aI F0 w0 (aj R O) W':=by
 have M:aI F0 w0 (aj bG O) W:=h.one.imp fun _ _ h=>iZ h;obtain⟨F,e1,-,e2⟩:=M.take aN ho;refine e2 R W' ?_;obtain⟨I,g1,g2,J⟩:=hp;exact⟨I,g1,g2.mono (fun _ _ h=>h.elim),fun i hi=>(J i hi).elim (fun h=>h.elim) .inr⟩
theorem aI.swap (h:aI F0 w0 (aj A B) W):aI F0 w0 (aj B A) W:=h.imp fun _ _=>iZ
theorem aI.kN (h:aI F0 w0 (aj A (aj B C)) W):aI F0 w0 (aj B (aj A C)) W:=h.imp fun _ _=>jH
theorem aI.last (h:aI F0 w0 (aj A (aj B C)) W):aI F0 w0 (aj C (aj A B)) W:=
 (h.imp fun _ _ h=>bD h (fun _ h=>h) (fun _ h=>iZ h)).kN
theorem aI.LO (h:aI F0 w0 (aj A (aj B (aj C D))) W):aI F0 w0 (aj C (aj A (aj B D))) W:=
 (h.imp fun _ _ h=>bD h (fun _ h=>h) (fun _ h=>jH h)).kN
theorem aI.drop (h:aI F0 w0 (aj A B) W):aI F0 w0 B W:=by
 obtain⟨F,⟨F1,F2,h1,h2,h3,h4⟩,h5⟩:=h.own;exact⟨⟨F2,h2,fun i hi=>h5 i ((h4 i).2 (.inr hi))⟩,h.mod⟩
theorem aI.fst (h:aI F0 w0 (aj A B) W):∃ F,A W F:=by
 obtain⟨F,⟨F1,F2,h1,h2,h3,h4⟩,h5⟩:=h.own;exact⟨F1,h1⟩
theorem aI.get (h:aI F0 w0 A W):∃ F,A W F:=by
 obtain⟨F,h1,_⟩:=h.own;exact⟨F,h1⟩
theorem aI.cell (h:aI F0 w0 O W) {p:Addr} {u:Value} (hc:w0.cell? p=some u) (hp:¬ F0 p.block):W.cell? p=some u:=by rw[h.mod.cell (py _ _ hc) hp];exact hc
theorem aI.src (h:aI F0 w0 O W) {A:eV} {size:Nat}  (hs:Src w0 A n size xs) (hn:∀ ad:Addr,A=some ad->¬ F0 ad.block):Src W A n size xs:=by
 refine⟨hs.1,hs.2.1,fun h0=>?_⟩;obtain⟨ad,e,hc⟩:=hs.2.2 h0;exact⟨ad,e,fun j u hu=>h.cell (hc j u hu) (by rw[Addr.add_block];exact hn ad e)⟩
theorem aI.RE (h:aI eR w0 O W) {A:eV} {size:Nat}  (hs:Src w0 A n size xs):Src W A n size xs:=h.src hs (fun _ _ h=>h)
theorem Dy   (h:aj (aj A B) C w F):aj A (aj B C) w F:=by
 obtain⟨F1,F2,⟨F3,M,h1,h2,h3,J⟩,h5,h6,h7⟩:=h;refine⟨F3,fun i=>M i\/F2 i,h1,⟨M,F2,h2,h5,fun i h g=>h6 i ((J i).2 (.inr h)) g,fun i=>qt⟩,fun i hi I=>?_,fun i=>?_⟩
 ·rcases I with I|I
  ·exact h3 i hi I
  ·exact h6 i ((J i).2 (.inl hi)) I
 ·rw[h7,J,or_assoc]
theorem aI.assoc (h:aI F0 w0 (aj (aj A B) C) W):aI F0 w0 (aj A (aj B C)) W:=h.imp fun _ _=>Dy
end
theorem Dz (w:World) (e:TypeId) (size:Nat):bT w eR (aV e size (.slice (some ⟨w.heap.size,0,none⟩) 0 0) 0 []) (w.alloc (.cells #[] e)):=
 vv (World.ownsRow_made w #[] 0 (fy _) (by simp[maxLen]) iz) ((fe _ _).alloc (fy _) _)
variable {i:Nat}
theorem Src.take   {size k:Nat}  (h:Src w A n size xs) (hk:k<=n):Src w A k size (xs.take (k*size)):=by
 refine⟨?_,fun u I=>h.2.1 u (xn I),fun hn=>?_⟩
 ·rw[kt,h.1];exact GF (xp _ hk)
 ·obtain⟨M,e,J⟩:=h.2.2 eL;exact⟨M,e,fun j u I=>J j u (by rw[Cs] at I;split at I;exact I;cases I)⟩
theorem yu {P:Program}  {z:Value} {size bytes:Nat} (S:eB P t e z size bytes) (A:eV) (n c k:Nat) (kd:IntKind) (l:Int) (M:l=k) (h:k<=c) (w:World) :
  (Instr.slice t (.slice A n c) none (some (.int kd l)) none).run P w=.ok (.slice A k c) w:=by
 obtain⟨ht,hi,hz,aa⟩:=S;obtain⟨i,hi,ab,I,J⟩:=info_parts hi;subst M;have h0:(0:Int)<=k/\(k:Int)<=c:=by omega
 cases A<;>simp[Instr.slice,run_underlying ht,Instr.sliceBounds,Instr.sliceBound,asIntOf,h,sizeOf,typeInfo,hi,I,Addr.add]
theorem u6  {base:Nat}  {size:Nat}   (h:w.ownsRow base e size (.slice A n c) n xs):n<=c/\(A=none->c=0):=by
 rcases h.2 with⟨I,M⟩|⟨g,cap,cur,I,_,_,J,_⟩
 ·injection I with e1 e2 e3;omega
 ·injection I with e1 e2 e3;subst e3;exact⟨J,fun e=>by rw[e] at e1;cases e1⟩
theorem Li   {cur:Array Value}  (v:Value) (h:w.heap[b]?=some (.cells cur t)):(w.setCell ⟨b,i,none⟩ v).heap[b]?=some (.cells (cur.setIfInBounds i v) t):=by
 rw[setCell_eq_setRow w b i cur t (0,0) v h];exact setRow_heap w b cur _ t (0,0) h
theorem uq    {cs:Array Value}  (h:av g cs t w F) (i:Nat) (v:Value):bT w F (av g (cs.setIfInBounds i v) t) (w.setCell ⟨g,i,none⟩ v):=
 ⟨F,⟨Li v h.1,h.2⟩,(Mod.refl _ _).setCell v (fun _=>(h.2 g).2 rfl),fun i hi=>.inl hi⟩
theorem ay    {cs:Array Value}  (h:av g cs t w F)   (hv:cs[i]?=some v):w.cell? ⟨g,i,none⟩=some v:=by
 simp[World.cell?,h.1,hv]
theorem aM    {cs:Array Value}  (h:av g cs t w F) (i:Nat):w.frozen? ⟨g,i,none⟩=false:=by
 simp[World.frozen?,h.1]
def aL:List aT->aT
 | []=>bG
 | A::l=>aj A (aL l)
theorem lG:∀ {l:List aT},(∀ A ∈ l,A.Ok)->(aL l).Ok
 | [],_=>aN
 | A::l,h=>aB (h A iz) (lG (fun B hB=>h B (by simp[hB])))
variable {k j:Nat}
theorem Tm {A:aT}   (h:A w F):aj A bG w F:=⟨F,fun _=>False,h,fun _ h=>h,fun _ _ h=>h,fun i=>by simp⟩
theorem Ma {A B C:aT}   (h:aj A (aj B C) w F):aj (aj A B) C w F:=by
 obtain⟨F1,F2,h1,⟨M,F4,h2,h3,h4,J⟩,h6,h7⟩:=h;refine⟨fun i=>F1 i\/M i,F4,⟨F1,M,h1,h2,fun i hi I=>h6 i hi ((J i).2 (.inl I)),fun i=>qt⟩,h3,fun i hi I=>?_,fun i=>?_⟩
 ·rcases hi with hi|hi
  ·exact h6 i hi ((J i).2 (.inr I))
  ·exact h4 i hi I
 ·rw[h7,J,or_assoc]
theorem QB:∀ {l:List aT} {k:Nat} (I:k<l.length) {w:World} {F:Nat->Prop},aL l w F->aj l[k] (aL (l.eraseIdx k)) w F
 | A::l,0,_,_,_,h=>h
 | A::l,k+1,I,w,F,h=>by
  have M:aj A (aL l) w F:=h;have J:aj A (aj (l[k]'(by simpa using I)) (aL (l.eraseIdx k))) w F:=bD M (fun _ h=>h) (fun F h=>QB (by simpa using I) h);exact jH J
theorem Xd:∀ {l:List aT} {k:Nat} (hk:k<l.length) {B:aT} {w:World} {F:Nat->Prop},aj B (aL (l.eraseIdx k)) w F->aL (l.set k B) w F
 | A::l,0,_,_,_,_,h=>h
 | A::l,k+1,hk,B,w,F,h=>by
  have h1:aj B (aj A (aL (l.eraseIdx k))) w F:=h;exact bD (jH h1) (fun _ h=>h) (fun F h=>Xd (by simpa using hk) h)
theorem yO:∀ {l:List aT} {B:aT} {w:World} {F:Nat->Prop},aj B (aL l) w F->aL (l++[B]) w F
 | [],B,w,F,h=>h
 | A::l,B,w,F,h=>by
  have h1:aj B (aj A (aL l)) w F:=h;exact bD (jH h1) (fun _ h=>h) (fun F h=>yO h)
section keys
variable {κ:Type}
def nG (l:List κ) (f:κ->aT):aT:=aL (l.map f)
theorem BO {l:List κ} {f:κ->aT} (h:∀ k,(f k).Ok):(nG l f).Ok:=lG (fun A hA=>by obtain⟨k,_,rfl⟩:=List.mem_map.1 hA;exact h k)
instance {l:List κ} {f:κ→aT} [h:∀ k,(f k).Ok]:(nG l f).Ok:=BO h
theorem Mc [DecidableEq κ]:∀ {l:List κ} {f:κ->aT} {k:κ} (hk:k ∈ l) {w:World} {F:Nat->Prop},nG l f w F->aj (f k) (nG (l.erase k) f) w F
 | a::l,f,k,hk,w,F,h=>by
  have M:aj (f a) (nG l f) w F:=h;by_cases I:a=k
  ·subst I;simpa using M
  ·have J:k ∈ l:=by simpa[px I] using hk
   rw[List.erase_cons_tail (by simpa using I)];exact jH (bD M (fun _ h=>h) (fun F h=>Mc J h))
theorem DT {l:List κ} {f g:κ->aT} (h:∀ k ∈ l,f k=g k):nG l f=nG l g:=by
 unfold nG;rw[nt h]
theorem Md [DecidableEq κ]:∀ {l:List κ} {f:κ->aT} {k:κ} (M:k ∈ l) {w:World} {F:Nat->Prop},aj (f k) (nG (l.erase k) f) w F->nG l f w F
 | a::l,f,k,M,w,F,h=>by
  by_cases I:a=k
  ·subst I;rw[List.erase_cons_head] at h;exact h
  ·have J:k ∈ l:=by simpa[px I] using M
   rw[List.erase_cons_tail (by simpa using I)] at h;have h1:aj (f k) (aj (f a) (nG (l.erase k) f)) w F:=h;exact bD (jH h1) (fun _ h=>h) (fun F h=>Md J h)
end keys
theorem Ab {α β:Type} (f:α->β):∀ (l:List α) (k:Nat),(l.map f).eraseIdx k=(l.eraseIdx k).map f
 | [],_=>rfl
 | _::_,0=>rfl
 | a::l,k+1=>by simp[Ab f l k]
section arow
variable {ζ:Type} (cl:ζ→List Value) (ow:ζ→aT)
def Oo (e:TypeId) (size:Nat) (v:Value) (zs:List ζ):aT:=aj (aV e size v zs.length (zs.flatMap cl)) (aL (zs.map ow))
variable {cl ow}
theorem QC  {size:Nat}  {zs:List ζ} (h:∀ z,(ow z).Ok):(Oo cl ow e size v zs).Ok:=
 aB dK (lG (fun A hA=>by obtain⟨z,_,rfl⟩:=List.mem_map.1 hA;exact h z))
instance {e:TypeId} {size:Nat} {v:Value} {zs:List ζ} [h:∀ z,(ow z).Ok]:(Oo cl ow e size v zs).Ok:=QC h
theorem Me  {size:Nat}  {zs:List ζ}  (M:k<zs.length)   (h:Oo cl ow e size v zs w F) :
  aj (ow zs[k]) (aj (aV e size v zs.length (zs.flatMap cl)) (aL ((zs.eraseIdx k).map ow))) w F:=by
 have J:=bD h (fun _ h=>h) (fun F h=>QB (k:=k) (by simpa using M) h);have I:=jH J;rw[mA,Ab] at I;exact I
theorem aaH  {size:Nat}  {zs:List ζ}  (I:k<zs.length) {z:ζ}  
  (h:aj (ow z) (aj (aV e size v zs.length ((zs.set k z).flatMap cl)) (aL ((zs.eraseIdx k).map ow))) w F):Oo cl ow e size v (zs.set k z) w F:=by
 unfold Oo;rw[rq,vt];refine bD (jH h) (fun _ h=>h) (fun F h=>Xd (by simpa using I) ?_);rw[Ab];exact h
end arow
theorem kQ {α:Type} {R:α->List Value} {size:Nat} (hR:∀ x,(R x).length=size) (l:List α):(l.flatMap R).length=l.length*size:=by
 induction l with
 | nil=>simp
 | cons x l ih=>rw[mN,gd,hR,ih,j7,li];omega
theorem vB    {size:Nat}  (h:aV e size (.slice (some ⟨g,0,none⟩) n c) n xs w F)  (hi:i<n*size) (v:Value) :
  bT w F (aV e size (.slice (some ⟨g,0,none⟩) n c) n (xs.set i v)) (w.setCell ⟨g,i,none⟩ v):=by
 obtain⟨J,h2⟩:=h;have hg:F g:=(h2 g).2 rfl;refine⟨F,⟨⟨by rw[rq];exact J.1,?_⟩,h2⟩,(Mod.refl _ _).setCell v (fun _=>hg),fun i hi=>.inl hi⟩;rcases J.2 with⟨I,M⟩|⟨g',cap,cur,hv,h3,h4,h5,h6,h7,h8⟩
 ·subst M;omega
 ·injection hv with I M e3
  injection I with I;injection I with I
  subst I e3;refine .inr ⟨g,c,cur.setIfInBounds i v,rfl,h3,Li v h4,h5,h6,by simpa using h7,?_⟩;rw[Array.toList_setIfInBounds,List.take_set,h8]
theorem nH    {size:Nat}  (h:aV e size (.slice (some ⟨g,0,none⟩) n c) n xs w F)   (hv:xs[i]?=some v):w.cell? ⟨g,i,none⟩=some v:=by
 have:=h.1.cells rfl i v hv;rwa [Addr.zV] at this
theorem qV    {size:Nat}  (h:aV e size (.slice (some ⟨g,0,none⟩) n c) n xs w F) (i:Nat) (hn:0<n):w.frozen? ⟨g,i,none⟩=false:=by
 rcases h.1.2 with⟨I,J⟩|⟨g',cap,cur,hv,h3,M,_⟩
 ·omega
 ·injection hv with I J e3
  injection I with I;injection I with I
  subst I;simp[World.frozen?,M]
theorem Xe    {size:Nat}   (h:aV e size (.slice A n c) n xs w F) (hn:0<n):∃ g,A=some ⟨g,0,none⟩:=by
 rcases h.1.2 with⟨e1,e2⟩|⟨g',cap,cur,hv,_⟩
 ·omega
 ·injection hv with e1;exact⟨g',e1⟩
theorem DU {α:Type} (R:α->List Value) (size:Nat) (J:∀ x,(R x).length=size) {l:List α}  (h:k<l.length)  (M:j<size)  {x:α} (I:(R l[k]).set j v=R x):(l.flatMap R).set (k*size+j) v=(l.set k x).flatMap R:=by
 induction l generalizing k with
 | nil=>simp at h
 | cons y l ih=>
  rw[mN];cases k with
  | zero=>
   simp only[sk,mB,i6,mN];rw[List.set_append_left _ _ (by rw[J];exact M)];simp only[k8] at I;rw[I]
  | succ k=>
   simp only[i7,mN];rw[List.set_append_right _ _ (by rw[J,li];omega),J,show(k+1)*size+j-size=k*size+j by rw[li];omega,ih (by simpa using h) (by simpa using I)]
section
variable {α:Type} {kv:α→Value}
def jo (kv:α->Value) (b:Nat) (l:List (α × Value)):aT:=fun w F=>rX kv w b l/\∀ i,F i↔i=b
theorem map_ok  {l:List (α × Value)}:(jo kv b l).Ok:=
 ⟨fun h i hi=>by rw[(h.2 i).1 hi];exact h.1.lt,fun h hk=>⟨h.1.of_block (hk b ((h.2 b).2 rfl)),h.2⟩⟩
instance {b:Nat} {l:List (α × Value)}:(jo kv b l).Ok:=map_ok
theorem rR (w:World):bT w eR (jo kv w.heap.size []) (w.alloc (.map #[] 0)):=
 ⟨fun i=>i=w.heap.size,⟨rX.new w,fun i=>qt⟩,Mod.of_below ((fe _ _).alloc (fy _) _),fun i hi=>.inr (by subst hi;simp)⟩
end
theorem rC (A B:aT):aj A B=aj B A:=by
 funext w F;exact propext ⟨iZ,iZ⟩
theorem vM (A B C:aT):aj (aj A B) C=aj A (aj B C):=by
 funext w F;exact propext ⟨Dy,Ma⟩
instance star_com:Std.Commutative aj:=⟨rC⟩
instance star_ass:Std.Associative aj:=⟨vM⟩
theorem jA (A:aT):aj bG A=A:=by
 funext w F;exact propext ⟨fun h=>j5 (iZ h),fun h=>iZ (Tm h)⟩
theorem fC (A:aT):aj A bG=A:=by rw[rC,jA]
variable {F0:Nat->Prop}{A B:aT}
theorem aI.perm    (h:aI F0 w0 A W) (e:A=B):aI F0 w0 B W:=e ▸ h
theorem aI.sub    (h:aI F0 w0 (aj A B) W) (ha:A.Ok) (hb:B.Ok):∃ F,aI F W A W/\∀ (R:aT) (W':World),R.Ok->aI F W R W'->aI F0 w0 (aj R B) W':=by
 obtain⟨F,h1,-,h2⟩:=h.take ha hb;exact⟨F,aI.start h1,fun R W' hr hp=>h2 R W' (hp.post hr)⟩
def l8:Op->Bool
 | .call { callee:=.builtin .len,.. }|.call { callee:=.builtin .cap,.. }|.call { callee:=.builtin .min,.. }|.call { callee:=.builtin .max,.. }=>false
 | .move _|.assign _|.pick ..|.load ..|.nilCheck _|.binOp ..|.unOp ..|.makeInterface ..|.makeFunc ..|.slice ..|.fieldAddr ..|.field ..|.indexAddr ..|.index ..|.lookup ..|.extract ..|.build ..|.typeAssert ..|.entry _=>false
 | _=>true
section
variable {P:Program} {ops:Array Oper} {S:World→Prop} {R C:Nat→World→Prop} {Q:Exit→Act→World→Prop}
def oM:Exit->Act->World->Prop:=fun _ _ _=>False
def fF (ops:Array Oper) (i:Nat):Bool:=match ops[i]? with|some o=>l8 o.op|none=>false
def qK (P:Program) (ops:Array Oper) (R C:Nat->World->Prop) (Q:Exit->Act->World->Prop):List Nat->Act->World->Prop
 | [],a,w=>Q .normal a w
 | i::r,a,w=>match ops[i]? with
  | none=>qK P ops R C Q r a w
  | some o=>(∃ v,YieldsIf P ops (R i) o v a/\qK P ops R C Q r (a.put o.dst v) w) \/
   (l8 o.op=true/\Region.wanted o (yielded ops a.tmps)=true/\o.wp P a w (fun h w'=>C i w'/\qK P ops R C Q r h w') oM)
variable {u:Value}{a b:Act}{oi oj:Oper}{ds:List Deferred}{K:Act->World->Prop}{id:Nat}{l:List Oper}
theorem PW {o:Oper}    (J:S w) (h1:YieldsIf P ops S o u a) (h2:YieldsIf P ops S o v a):u=v:=by
 rcases h1 with⟨w1,r1⟩|⟨w1,e1⟩<;>rcases h2 with⟨I,M⟩|⟨I,e2⟩
 ·have h:=(r1 w J).symm.trans (M w J);injection h with h _
  injection h
 ·rw[w1] at I;cases I
 ·rw[w1] at I;cases I
 ·rw[e1,e2]
theorem Nz {f:FuncId} {args:Array Value}  {R:Ending->World->Prop} (h:Calls P f args w R):∃ e w',R e w':=by
 obtain⟨e,w',_,hR,_⟩:=h [];exact⟨e,w',hR⟩
theorem pQ    (hs:∀ cs b,oj.op≠.select cs b) (h:∀ d,oi.dst=some d->d ∉ oj.looksAt ops) (hy:YieldsIf P ops S oj u (a.put oi.dst v)):YieldsIf P ops S oj u a:=
 hy.of_same (execOp_put oj hs a oi.dst v h).symm (wanted_put oj a oi.dst v h).symm
theorem Kw    (hs:∀ cs b,oj.op≠.select cs b) (h:∀ d,oi.dst=some d->d ∉ oj.looksAt ops) (hy:YieldsIf P ops S oj u a):YieldsIf P ops S oj u (a.put oi.dst v):=
 hy.of_same (execOp_put oj hs a oi.dst v h) (wanted_put oj a oi.dst v h)
theorem Sg {o:Oper}    (h:YieldsIf P ops S o u { a with defers:=ds }):YieldsIf P ops S o u a:=h.of_same rfl rfl
theorem NA {o:Oper}    (h:YieldsIf P ops S o u a):YieldsIf P ops S o u { a with defers:=ds }:=h.of_same rfl rfl
theorem NC {I M:Oper}     (aa:∀ cs b,I.op≠.select cs b) (ac:∀ cs b,M.op≠.select cs b) (ad:I.apart ops M=true)
  (J:YieldsIf P ops S I v a) (h:M.wp P (a.put I.dst v) w K oM):M.wp P a w (fun a' w'=>YieldsIf P ops S I v a'/\K (a'.put I.dst v) w') oM:=by
 obtain⟨h1,h2,h3⟩:=GC ad;have keep:∀ (a:Act),YieldsIf P ops S I v a->∀ u,YieldsIf P ops S I v (a.put M.dst u):=fun a J u=>Kw aa h3 J;unfold Oper.wp at *
 rw[execOp_put M ac a I.dst v h1] at h;generalize (execOp a.eval M).run P w=r at *
 cases r with
 | ok n w'=>
  cases n<;>simp only[Oper.upon] at h ⊢
  case value u=>exact⟨keep a J u,by rw[<-nF a v u h2];exact h⟩
  case skip=>exact⟨keep a J _,by rw[<-nF a v undef h2];exact h⟩
  case defer d=>
   refine⟨keep _ (NA J) _,?_⟩;rw[<-nF _ v undef h2,<-Ks];exact h
  case enter f args=>
   refine C2 h fun e ab he=>?_;cases e with
   | returned u=>exact⟨keep a J u,by rw[<-nF a v u h2];exact he⟩
   | panicked c=>exact he
   | outgrown=>exact he
  case row row args=>exact Rows.mono h fun u ab he=>⟨keep a J u,by rw[<-nF a v u h2];exact he⟩
 | halt x w'=>cases x<;>simp only[Oper.upon] at h ⊢ <;> exact h
theorem ND     (ac:∀ cs b,oi.op≠.select cs b) (I:∀ cs b,oj.op≠.select cs b) (ae:oi.apart ops oj=true) (hS:S w)
  (h:oi.wp P a w (fun a' w'=>S w'/\∃ u,YieldsIf P ops S oj u a'/\K (a'.put oj.dst u) w') oM) :
  ∃ u,YieldsIf P ops S oj u a/\oi.wp P (a.put oj.dst u) w (fun a' w'=>S w'/\K a' w') oM:=by
 obtain⟨h1,h2,h3⟩:=GC ae;unfold Oper.wp at *
 have ab:∀ u,execOp (a.put oj.dst u).eval oi=execOp a.eval oi:=fun u=>execOp_put oi ac a oj.dst u h3;simp only[ab];generalize (execOp a.eval oi).run P w=r at *
 cases r with
 | ok n w'=>
  cases n<;>simp only[Oper.upon] at h ⊢
  case value v=>
   obtain⟨s,u,hy,hk⟩:=h;exact⟨u,pQ I h1 hy,s,by rw[<-nF a v u h2];exact hk⟩
  case skip=>
   obtain⟨s,u,hy,hk⟩:=h;exact⟨u,pQ I h1 hy,s,by rw[<-nF a undef u h2];exact hk⟩
  case defer d=>
   obtain⟨s,u,hy,hk⟩:=h;refine⟨u,Sg (pQ I h1 hy),s,?_⟩;rw[Ks,<-nF _ undef u h2];exact hk
  case enter f args=>
   obtain⟨e,w0,M⟩:=Nz h;cases e with
   | panicked c=>exact M.elim
   | outgrown=>obtain⟨_,_,M⟩:=M;exact M.elim
   | returned v0=>
    obtain⟨_,u,hy,_⟩:=M;have J:=pQ I h1 hy;refine⟨u,J,C2 h fun e ad M=>?_⟩;cases e with
    | panicked c=>exact M
    | outgrown=>exact M
    | returned v=>
     obtain⟨s,u',aa,hk⟩:=M;obtain rfl:=PW hS J (pQ I h1 aa);exact⟨s,by rw[<-nF a v u h2];exact hk⟩
  case row row args=>
   have hr:=h default [];obtain⟨v0,w0,⟨_,u,hy,_⟩,_⟩:=hr;have J:=pQ I h1 hy;refine⟨u,J,Rows.mono h fun v ad M=>?_⟩;obtain⟨s,u',aa,hk⟩:=M;obtain rfl:=PW hS J (pQ I h1 aa);exact⟨s,by rw[<-nF a v u h2];exact hk⟩
 | halt x w'=>cases x<;>simp only[Oper.upon] at h<;>exact h.elim
def Da (ops:Array Oper) (i j:Nat):Bool:=
 match ops[i]?,ops[j]? with
 | some oi,some oj=>!(l8 oi.op&&l8 oj.op)&&oi.apart ops oj
 | _,_=>false
theorem Si (ad:Region.noSelect ops=true)  {r:List Nat}   (I:Da ops i j=true) (hS:R j w) (hw:∀ w,fF ops i=true->C i w->R j w) (h:qK P ops R C Q (i::j::r) a w):qK P ops R C Q (j::i::r) a w:=by
 unfold Da at I;cases hi:ops[i]? with
 | none=>simp[hi] at I
 | some oi=>
 cases hj:ops[j]? with
 | none=>simp[hj] at I
 | some oj=>
 have ei:fF ops i=l8 oi.op:=by simp[fF,hi]
 simp only[hi,hj,gA,tc,B7] at I;obtain⟨af,ac⟩:=I;have M:=fun cs b=>zg ad i oi cs b hi;have ab:=fun cs b=>zg ad j oj cs b hj;obtain⟨h1,h2,h3⟩:=GC ac;simp only[qK,hi,hj] at h ⊢;rcases h with⟨v,hy,⟨u,ae,hr⟩|⟨hc,aa,hr⟩⟩|⟨hc,aa,hr⟩
 ·refine .inl ⟨u,pQ ab h1 ae,.inl ⟨v,Kw M h3 hy,?_⟩⟩;rw[<-nF a v u h2];exact hr
 ·refine .inr ⟨hc,by rw[<-aa];exact(wanted_put oj a oi.dst v h1).symm,?_⟩;refine sl (fun a' w' J=>?_) (NC M ab ac hy hr);exact⟨J.2.1,.inl ⟨v,J.1,J.2.2⟩⟩
 ·have ak:l8 oj.op=false:=by
   rcases af with e|e
   ·rw[hc] at e;cases e
   ·exact e
  have al:oi.wp P a w (fun a' w'=>R j w'/\∃ u,YieldsIf P ops (R j) oj u a'/\(C i w'/\qK P ops R C Q r (a'.put oj.dst u) w')) oM:=by
   refine sl (fun a' w' J=>⟨hw w' (by rw[ei];exact hc) J.1,?_⟩) hr;rcases J.2 with⟨u,ai,ag⟩|⟨e,_⟩
   ·exact⟨u,ai,J.1,ag⟩
   ·rw[ak] at e;cases e
  obtain⟨u,hy,J⟩:=ND (K:=fun a' w'=>C i w'/\qK P ops R C Q r a' w') M ab ac hS al;refine .inl ⟨u,hy,.inr ⟨hc,?_,sl (fun a' w' J=>J.2) J⟩⟩;rw[wanted_put oi a oj.dst u h3];exact aa
theorem Db (I:Region.noSelect ops=true) {j:Nat} {r:List Nat}:∀ (l:List Nat) {a:Act} {w:World},(∀ i ∈ l,Da ops i j=true/\∀ w,fF ops i=true->C i w->R j w)->R j w->qK P ops R C Q (l++j::r) a w->qK P ops R C Q (j::(l++r)) a w
 | [],_,_,_,_,h=>h
 | i::l,a,w,hok,hS,h=>by
  refine Si I (hok i iz).1 hS (hok i iz).2 ?_;have ih:=fun {a:Act} {w:World} (hS:R j w)=>Db I (r:=r) l (a:=a) (w:=w) (fun i hi=>hok i (by simp[hi])) hS;rw[pd] at h;unfold qK at h ⊢;cases ho:ops[i]? with
  | none=>simp only[ho] at h ⊢;exact ih hS h
  | some o=>
   have ei:fF ops i=l8 o.op:=by simp[fF,ho]
   simp only[ho] at h ⊢;rcases h with⟨v,J,M⟩|⟨J,M,h3⟩
   ·exact .inl ⟨v,J,ih hS M⟩
   ·exact .inr ⟨J,M,sl (fun a w h=>⟨h.1,ih ((hok i iz).2 _ (by rw[ei];exact J) h.1) h.2⟩) h3⟩
def Bp (ops:Array Oper) (listed:Array Bool):List Nat:=(List.range ops.size).filter fun i=>!listed.getD i true
def Closed (ops:Array Oper) (listed:Array Bool):Prop:=∀ j o,ops[j]?=some o->listed.getD j false=true->∀ e ∈ o.after,Region.binds .any e=true->listed.getD e.on false=true
def Im (ops:Array Oper) (B:Array Nat):Bool:=
 (List.range ops.size).all fun j=>(List.range j).all fun i=>!(B.getD j 0).testBit i ||
  match ops[j]? with
  | some o=>o.after.any fun e=>Region.binds .any e&&e.on<j&&(e.on==i||(decide (i<e.on)&&(B.getD e.on 0).testBit i))
  | none=>false
def uj (ops:Array Oper):Bool:=
 Region.noSelect ops&&Im ops (Region.before ops) &&
 (List.range ops.size).all fun j=>(match ops[j]? with|some o=>o.after.all fun e=>!Region.binds .any e||e.on<j|none=>false) &&
  (List.range j).all fun i=>((Region.before ops).getD j 0).testBit i||Da ops i j
theorem ng {B:Array Nat} (hB:Im ops B=true) {I:Array Bool} (hc:Closed ops I):∀ (n j:Nat) (o:Oper),j<n->ops[j]?=some o->(∀ e ∈ o.after,Region.binds .any e=true->I.getD e.on false=true) ->
  ∀ i,i<j->(B.getD j 0).testBit i=true->I.getD i false=true
 | 0,_,_,h,_,_,_,_,_=>by omega
 | n+1,j,o,hj,ho,ha,i,hi,hbit=>by
  have M:j<ops.size:=(Array.getElem?_eq_some_iff.1 ho).1;have h1:=hB;simp only[Im,j8,qk] at h1;have h2:=h1 j M i hi;simp only[ho,hbit,ma,uB] at h2;obtain⟨e,he,hb⟩:=Array.any_eq_true'.1 h2;simp only[gA,decide_eq_true_eq,tf,beq_iff_eq] at hb;obtain⟨⟨fW,gE⟩,me⟩:=hb;have hl:=ha e he fW;rcases me with rfl|⟨hie,me⟩
  ·exact hl
  ·have ab:e.on<ops.size:=by omega
   have J:ops[e.on]?=some ops[e.on]:=sE ab;exact ng hB hc n e.on _ eL J (fun e' aa ac=>hc e.on _ J hl e' aa ac) i hie me
theorem range_split  (h:j<n):List.range n=List.range j++j::List.range' (j+1) (n-j-1):=by
 have e:n=j+(1+(n-j-1)):=by omega
 conv=>lhs;rw[e,Fc,<-List.range'_append_1,<-List.range'_append_1]
 simp[Fc]
theorem getD_lt {listed:Array Bool}  (h:i<listed.size) (d d':Bool):listed.getD i d=listed.getD i d':=by simp[h]
theorem uV {h:Array Bool}  (hs:h.size=ops.size) (hj:j<ops.size) (hu:h.getD j true=false) :
  ∃ J M,Bp ops h=J++j::M/\Bp ops (h.setIfInBounds j true)=J++M/\(∀ i ∈ J,i<j/\h.getD i true=false):=by
 refine⟨(List.range j).filter fun i=>!h.getD i true,(List.range' (j+1) (ops.size-j-1)).filter fun i=>!h.getD i true,?_,?_,?_⟩
 ·unfold Bp;rw[range_split hj,List.filter_append,N3 (by simp[hu])]
 ·unfold Bp;have I:(h.setIfInBounds j true).getD j true=true:=by simp
  rw[range_split hj,List.filter_append,N2 (by rw[I];simp)];congr 1
  ·refine Ft fun i hi=>?_;have:j≠i:=by have:=List.mem_range.1 hi;omega
   rw[getD_set_ne true this]
  ·refine Ft fun i hi=>?_;have:j≠i:=by have:=List.mem_range'_1.1 hi;omega
   rw[getD_set_ne true this]
 ·intro i hi;rw[xy,qk] at hi;exact⟨hi.1,by simpa using hi.2⟩
theorem Ky (hB:uj ops=true) (hL:∀ i j w,i<j->j<ops.size->fF ops i=true->C i w->R j w) (hR:∀ i j w,i<j->j<ops.size->fF ops j=true->fF ops i=false->((Region.before ops).getD j 0).testBit i=false->C j w->R i w):∀ (n:Nat) (I:Array Bool) (a:Act) (w:World),(Bp ops I).length=n->I.size=ops.size->Closed ops I->(∀ i,i<ops.size->I.getD i true=false->R i w)->qK P ops R C Q (Bp ops I) a w->wpAny P .any ops Q n I a w:=by
 have a0:=hB;simp only[uj,gA,j8,qk] at a0;obtain⟨⟨a1,ae⟩,ad⟩:=a0;intro n
 induction n with
 | zero=>
  intro I a w hn hs hc hS h;have ag:Bp ops I=[]:=sC hn;rw[ag] at h;refine⟨?_,h⟩;cases hr:Region.ready .any ops I with
  | nil=>rfl
  | cons j r=>
   have hj:j ∈ Region.ready .any ops I:=by rw[hr];simp
   obtain⟨h0,o,ho,_⟩:=mem_ready.1 hj;have:j ∈ Bp ops I:=by
    unfold Bp;rw[xy,qk];exact⟨(Array.getElem?_eq_some_iff.1 ho).1,by simp[h0]⟩
   rw[ag] at this;cases this
 | succ n ih=>
  intro I a w hn hs hc hS h;refine⟨fun hr=>?_,fun j hj=>?_⟩
  ·-- the first that is not I is ready
   cases hu:Bp ops I with
   | nil=>rw[hu] at hn;simp at hn
   | cons k r=>
    exfalso;have hk:k ∈ Bp ops I:=by rw[hu];simp
    unfold Bp at hk;rw[xy,qk] at hk;obtain⟨az,al⟩:=hk;have al:I.getD k true=false:=by simpa using al
    have ho:ops[k]?=some ops[k]:=sE az;have hd:=(ad k az).1;simp only[ho] at hd;have:k ∈ Region.ready .any ops I:=by
     rw[mem_ready];refine⟨al,_,ho,fun e he hb=>?_⟩;have h1:=Array.all_eq_true_iff_forall_mem.1 hd e he;simp only[hb,ma,uB,decide_eq_true_eq] at h1;cases hl:I.getD e.on false with
     | true=>rfl
     | false=>
      exfalso;obtain⟨l1,l2,ac,_,am⟩:=uV (ops:=ops) (j:=e.on) hs eL (by rw[getD_lt eL true false];exact hl);rw[hu] at ac;cases l1 with
      | nil=>simp at ac;omega
      | cons x l1=>
       simp at ac;have:=(am x iz).1;omega
    rw[hr] at this;cases this
  ·obtain⟨h0,o,ho,aa⟩:=mem_ready.1 hj;have ab:j<ops.size:=(Array.getElem?_eq_some_iff.1 ho).1;obtain⟨l1,l2,ac,aE,am⟩:=uV (ops:=ops) hs ab h0;have aD:=hS j ab h0;have hfront:qK P ops R C Q (j::(l1++l2)) a w:=by
    refine Db a1 l1 (fun i hi=>?_) aD (ac ▸ h);obtain⟨J,M⟩:=am i hi;refine⟨?_,fun w=>hL i j w J ab⟩;have:=(ad j ab).2 i J;rw[tf] at this;rcases this with hb|hb
    ·have hl:=ng ae hc (j+1) j o eL ho aa i J hb;rw[getD_lt eL false true,M] at hl;cases hl
    ·exact hb
   have ak:(Bp ops (I.setIfInBounds j true)).length=n:=by
    rw[aE];rw[ac] at hn;simp at hn ⊢;omega
   have ax:(I.setIfInBounds j true).size=ops.size:=by simpa using hs
   have aw:Closed ops (I.setIfInBounds j true):=by
    intro m om hm hl e he hb;by_cases aq:m=j
    ·subst aq;rw[ho] at hm;cases hm;exact getD_set_true (aa e he hb)
    ·rw[getD_set_ne false (px aq)] at hl;exact getD_set_true (hc m om hm hl e he hb)
   have ai:∀ i,(I.setIfInBounds j true).getD i true=false->i≠j/\I.getD i true=false:=fun i hi=>by
    by_cases e:j=i
    ·subst e;simp at hi
    ·rw[getD_set_ne true e] at hi;exact⟨fun e'=>e e'.symm,hi⟩
   have an:l8 o.op=true->∀ w',C j w'->∀ i,i<ops.size->(I.setIfInBounds j true).getD i true=false->R i w':=fun af w' ap i hi M=>by
    obtain⟨a2,M⟩:=ai i M;have aA:fF ops j=true:=by simp[fF,ho,af]
    rcases tA i j with J|J
    ·have ar:((Region.before ops).getD j 0).testBit i=false:=by
      cases hb:((Region.before ops).getD j 0).testBit i with
      | false=>rfl
      | true=>
       have hl:=ng ae hc (j+1) j o eL ho aa i J hb;rw[getD_lt eL false true,M] at hl;cases hl
     refine hR i j w' J ab aA ?_ ar ap;have:=(ad j ab).2 i J;rw[ar,uB] at this;unfold Da at this;have ao:ops[i]?=some ops[i]:=sE hi;simp only[fF,ao];simp[ao,ho,af] at this;exact this.1
    ·exact hL j i w' eL hi aA ap
   rw[<-aE] at hfront;unfold qK at hfront;simp only[ho] at hfront;rcases hfront with⟨v,hy,hk⟩|⟨af,hw,hk⟩
   ·exact hy.wpOp ho aD (ih _ _ _ ak ax aw (fun i hi M=>hS i hi (ai i M).2) hk)
   ·unfold wpOp;simp only[ho,hw,if_true];refine .inl ?_;have h2:=sl (K':=wpAny P .any ops Q n (I.setIfInBounds j true)) (fun a' w' hk=>ih _ a' w' ak ax aw (an af w' hk.1) hk.2) hk
    -- the empty exit serves every exit
    unfold Oper.wp at h2 ⊢;generalize (execOp a.eval o).run P w=r at *
    cases r with
    | ok nx w'=>
     cases nx<;>simp only[Oper.upon] at h2 ⊢ <;> first
      | exact h2
      | exact C2 h2 (fun e a3 he=>by
        cases e with
        | returned v=>exact he
        | panicked c=>exact he.elim
        | outgrown=>obtain⟨_,_,he⟩:=he;exact he.elim)
    | halt x w'=>cases x<;>simp only[Oper.upon] at h2 ⊢ <;> first|exact h2|exact h2.elim
theorem VB    (M:uj l.toArray=true) (hL:∀ i j w,i<j->j<l.length->fF l.toArray i=true->C i w->R j w) (hR:∀ i j w,i<j->j<l.length->fF l.toArray j=true->fF l.toArray i=false->((Region.before l.toArray).getD j 0).testBit i=false->C j w->R i w) (hS:∀ i,i<l.length->R i w) (h:qK P l.toArray R C Q (List.range' 0 l.length) a w) :
  wpAny P .any l.toArray Q l.toArray.size (Array.replicate l.toArray.size false) a w:=by
 have I:Bp l.toArray (Array.replicate l.toArray.size false)=List.range l.toArray.size:=by
  unfold Bp;refine List.filter_eq_self.2 fun i hi=>?_;have:=List.mem_range.1 hi;simp at this;simp[this]
 refine Ky (R:=R) (C:=C) M (by simpa using hL) (by simpa using hR) _ _ _ _ (by rw[I];simp) iz ?_ (fun i hi _=>hS i (by simpa using hi)) ?_
 ·intro j o ho J;have:j<l.length:=by have:=(Array.getElem?_eq_some_iff.1 ho).1;simpa using this
  simp[this] at J
 ·rw[I];simpa[Fc] using h
def kY (P:Program) (ops:Array Oper) (S:World->Prop) (Y:Prop) (Q:Exit->Act->World->Prop):List Oper->Act->World->Prop
 | [],a,w=>Q .normal a w
 | o::r,a,w=>(∃ v,YieldsIf P ops S o v a/\kY P ops S Y Q r (a.put o.dst v) w) \/
   (l8 o.op=true/\Region.wanted o (yielded ops a.tmps)=true/\o.wp P a w (fun h w'=>((r=[]->Y)->S w')/\kY P ops S Y Q r h w') oM)
variable {Y:Prop}
theorem FW {n:Nat}:∀ (l:List Oper) (k:Nat) (a:Act) (w:World),(∀ j,l[j]?=ops[k+j]?)->k+l.length=n->kY P ops S Y Q l a w->qK P ops (fun _=>S) (fun i w=>(i+1=n->Y)->S w) Q (List.range' k l.length) a w
 | [],_,_,_,_,_,h=>h
 | o::l,k,a,w,hl,hs,h=>by
  have h0:ops[k]?=some o:=by simpa using (hl 0).symm
  have ih:=fun a w=>FW (n:=n) l (k+1) a w (fun j=>by have:=hl (j+1);simpa[vq,vr 1 j] using this) (by simp at hs;omega);simp only[j7,I1];unfold qK;simp only[h0];rcases h with⟨v,I,J⟩|⟨I,J,h3⟩
  ·exact .inl ⟨v,I,ih _ _ J⟩
  ·exact .inr ⟨I,J,sl (fun a' w' M=>⟨fun hy=>M.1 fun e=>hy (by subst e;simpa using hs),ih _ _ M.2⟩) h3⟩
theorem Ip    (J:uj l.toArray=true) (I:Y\/∀ i,i+1<l.length->((Region.before l.toArray).getD (l.length-1) 0).testBit i=true) (hS:S w)
  (h:kY P l.toArray S Y Q l a w):wpAny P .any l.toArray Q l.toArray.size (Array.replicate l.toArray.size false) a w:=
 VB J (fun i j w hi M _ h=>h fun e=>by omega) (fun i j w hi M _ _ hb h=>h fun e=>I.elim id fun I=>by
  have:=I i eL;rw[show l.length-1=j by omega,hb] at this;cases this) (fun _ _=>hS) (FW (n:=l.length) l 0 a w iz iz h)
theorem aR     (S:World->Prop) (hm:P.follows .mixedOrders=true) (hB:uj l.toArray=true) (hS:S w.drew)
  (h:kY P l.toArray S True Q l a w.drew):(Code.region id l.toArray true).wp P Q a w:=wp_region_any hm (Ip hB (.inl trivial) hS h)
def VD (ops:Array Oper):Bool:=(List.range (ops.size-1)).all fun i=>((Region.before ops).getD (ops.size-1) 0).testBit i
theorem dZ     (S:World->Prop) (hm:P.follows .mixedOrders=true) (J:uj l.toArray=true) (I:VD l.toArray=true) (M:S w.drew)
  (h:kY P l.toArray S False Q l a w.drew):(Code.region id l.toArray true).wp P Q a w:=
 wp_region_any hm (Ip J (.inr fun i hi=>by simp only[VD,j8,qk] at I;simpa using I i sT) M h)
section
variable {o:Oper} {r:List Oper} {a:Act} {w:World}
theorem lex_nil (h:Q .normal a w):kY P ops S Y Q [] a w:=h
theorem VE (hw:Region.wanted o (yielded ops a.tmps)=false) (h:kY P ops S Y Q r (a.put o.dst undef) w):kY P ops S Y Q (o::r) a w:=.inl ⟨undef,.inr ⟨hw,rfl⟩,h⟩
theorem VF  (hw:Region.wanted o (yielded ops a.tmps)=true) (hv:∀ w',S w'->(execOp a.eval o).run P w'=.ok (.value v) w') (h:kY P ops S Y Q r (a.put o.dst v) w):kY P ops S Y Q (o::r) a w:=.inl ⟨v,.inl ⟨hw,hv⟩,h⟩
theorem dD (hc:l8 o.op=true) (hw:Region.wanted o (yielded ops a.tmps)=true) (h:∀ K:Act->World->Prop,Hid (∀ a' w',S w'->kY P ops S Y Q r a' w'->K a' w')->o.wp P a w K oM):kY P ops S Y Q (o::r) a w:=
 .inr ⟨hc,hw,h _ fun _ _ h1 h2=>⟨fun _=>h1,h2⟩⟩
theorem jf (hc:l8 o.op=true) (hw:Region.wanted o (yielded ops a.tmps)=true) (h:∀ K:Act->World->Prop,Hid (∀ a' w',Q .normal a' w'->K a' w')->o.wp P a w K oM):kY P ops S False Q [o] a w:=
 .inr ⟨hc,hw,h _ fun _ _ h2=>⟨fun h=>(h rfl).elim,h2⟩⟩
theorem bM  (h:kY P ops S Y Q r b w) (hw:Region.wanted o (yielded ops a.tmps)=false:=by rfl) (hb:a.put o.dst undef=b:=by(first|(simp only[Act.put,ja,i6,i7];done)|(simp only[Act.put,ja,i6,i7];rfl)|rfl)):kY P ops S Y Q (o::r) a w:=VE hw (hb ▸ h)
theorem bN   (h:kY P ops S Y Q r b w) (I:Region.wanted o (yielded ops a.tmps)=true:=by rfl) (hv:∀ w',S w'->(execOp a.eval o).run P w'=.ok (.value v) w':=by(intro w' J;go_simp;(try with_reducible rfl);done)) (hb:a.put o.dst v=b:=by(first|(simp only[Act.put,ja,i6,i7];done)|(simp only[Act.put,ja,i6,i7];rfl)|rfl)):kY P ops S Y Q (o::r) a w:=VF I hv (hb ▸ h)
end
end
section
variable {P:Program} {ops:Array Oper} {Ts:List Nat} {St:Nat→World→Prop} {Q:Exit→Act→World→Prop}
def LF (ops:Array Oper) (Ts:List Nat) (i:Nat):Nat:=(Ts.filter fun T=>decide (T<i) || !((Region.before ops).getD T 0).testBit i).length
def yi (Ts:List Nat) (i:Nat):Nat:=(Ts.filter fun T=>decide (T<=i)).length
def VA (ops:Array Oper) (Ts:List Nat):Bool:=
 (List.range ops.size).all fun j=>(List.range j).all fun i=>
  (!fF ops i||(if fF ops j then decide (yi Ts i<=yi Ts j) else decide (yi Ts i<=LF ops Ts j))) &&
  (fF ops i || !fF ops j||((Region.before ops).getD j 0).testBit i||decide (yi Ts j<=LF ops Ts i))
variable {a:Act}
theorem Il {St:Nat->World->Prop} (hst:∀ c w,St c w->St (c+1) w) {a:Nat} (h:a<=b)  (hw:St a w):St b w:=by
 induction h with
 | refl=>exact hw
 | step _ ih=>exact hst _ _ ih
def vA (ops:Array Oper) (Ts:List Nat) (i:Nat):Nat:=if fF ops i then yi Ts i else LF ops Ts i
def ZI (ops:Array Oper) (Ts:List Nat):List Nat:=(List.range ops.size).map (vA ops Ts)
theorem ZJ {l:List Oper}   (I:∀ c w,St c w->St (c+1) w) (hB:uj l.toArray=true) (hL:VA l.toArray Ts=true) (hS:St 0 w) (h:qK P l.toArray (fun i=>St (vA l.toArray Ts i)) (fun i=>St (yi Ts i)) Q (List.range' 0 l.length) a w) :
  wpAny P .any l.toArray Q l.toArray.size (Array.replicate l.toArray.size false) a w:=by
 simp only[VA,j8,qk] at hL;refine VB hB (fun i j w hi M J hw=>?_) (fun i j w hi M aa J hb hw=>?_) (fun i _=>Il I (fw _) hS) h
 ·have:=hL j (by simpa using M) i hi;refine Il I ?_ hw;unfold vA;cases e:fF l.toArray j<;>simp_all
 ·have:=hL j (by simpa using M) i hi;refine Il I ?_ hw;unfold vA;simp at hb
  simp_all
end
open Go.ChangeShapes Go.WideShapes Go.Deep
section
variable {H:Type} {enc:TypeId × Value→H} {P:Program} {w:World} {base:Nat} {held:Bool}
theorem AJ {α:Type} (R:α->List Value) (size:Nat) (I:0<size):∀ (xs:List α),(∀ x ∈ xs,(R x).length=size)->∀ j u,(xs.flatMap R)[j]?=some u->∃ x,xs[j / size]?=some x/\(R x)[j % size]?=some u
 | [],_,j,u,h=>by simp at h
 | x::xs,hR,j,u,h=>by
  have hx:=hR x iz;rw[mN] at h;by_cases J:j<size
  ·rw[xe eL] at h;exact⟨x,by rw[FO J];rfl,by rw[Ge J];exact h⟩
  ·rw[BW eL,hx] at h;obtain⟨y,h1,M⟩:=AJ R size I xs (fun z hz=>hR z (by simp[hz])) (j-size) u h;refine⟨y,?_,?_⟩
   ·rw[show j=(j-size)+size by omega,Nat.add_div_right _ I];simpa using h1
   ·rw[show j=(j-size)+size by omega,Nat.add_mod_right];exact M
theorem AL {α:Type} (R:α->List Value) (size:Nat):∀ (xs:List α),(∀ x ∈ xs,(R x).length=size)->(xs.flatMap R).length=xs.length*size
 | [],_=>by simp
 | x::xs,hR=>by
  rw[mN,gd,hR x iz,AL R size xs (fun z hz=>hR z (by simp[hz])),j7,li];omega
variable {A:eV}
theorem oO    {d:DataW H} {ps:List MemPlace} {α:Type} [Inhabited α] (R:α->List Value) (I:α->Prop) {size:Nat} (ht:P.underlying t=some (.slice e)) (hc:P.cellsOf e=size) (hs:0<size)
  (ac:∀ m cs y,DataW.trod enc P w base (fun _=>true) held m e cs=some y->∃ x,cs=R x/\I x) (one:∀ x,I x->∀ u ∈ R x,u.oneCell'=true)
  (h:DataW.Trod enc P w base (fun _=>true) held t (.slice A n c) d ps) :
  ∃ xs:List α,xs.length=n/\Src w A n size (xs.flatMap R)/\(∀ x ∈ xs,I x/\(R x).length=size)/\n<=c/\c<=maxLen:=by
 obtain⟨ae,hf⟩:=h;rcases open_slice ht hf with⟨h0,_⟩|⟨a,len,cap,m,k,D,Pl,hv,_,hl,hm,aa,_,hx⟩
 ·simp[Value.cells] at h0;obtain⟨rfl,rfl,rfl⟩:=h0;exact⟨[],rfl,Src.none_,by simp,by omega,by omega⟩
 ·simp[Value.cells] at hv;obtain⟨rfl,rfl,rfl⟩:=hv;simp only[if_true] at aa;subst aa
  obtain⟨F,hF⟩:=choose_lt (n:=m) (p:=fun i (x:α)=>I x/\w.cells? base (a.add (i*P.cellsOf e)) (P.cellsOf e)=some (R x)) (fun i hi=>by
   obtain⟨cs',h1,h2⟩:=hx i hi;obtain⟨x,rfl,hg⟩:=ac _ _ _ h2
   exact⟨x,hg,h1⟩)
  have ab:∀ i,i<m->(R (F i)).length=size:=fun i hi=>by
   obtain⟨_,h2,_⟩:=World.cells?_some (hF i hi).2;rw[h2,hc]
  have J:∀ x ∈ (List.range n).map F,I x/\(R x).length=size:=by
   intro x M;simp only[G0,qk] at M;obtain⟨i,hi,rfl⟩:=M;exact⟨(hF i eL).1,ab i eL⟩
  refine⟨(List.range n).map F,by simp,⟨?_,?_,fun _=>⟨a,rfl,?_⟩⟩,J,hl,hm⟩
  ·rw[AL R size _ (fun x M=>(J x M).2)];simp
  ·intro u hu;rw[FF] at hu;obtain⟨x,h1,h2⟩:=hu;exact one x (J x h1).1 u h2
  ·intro j u hu;obtain⟨x,h1,h2⟩:=AJ R size hs _ (fun x M=>(J x M).2) j u hu;rw[lz,B4] at h1;obtain⟨i,hi,rfl⟩:=h1;have ad:j / size<n/\i=j / size:=by
    obtain⟨h1,h2⟩:=List.getElem?_eq_some_iff.1 hi;simp at h1 h2;exact⟨h1,h2.symm⟩
   obtain⟨af,rfl⟩:=ad;obtain⟨_,_,h4⟩:=World.cells?_some (hF (j / size) eL).2;have h5:=h4 (j % size) (by rw[hc];exact sn _ hs);rw[add_add,hc,Nat.div_add_mod' j size] at h5;rw[h5];exact h2
theorem nk  {fs:Array Field} {m:Nat} {cs:List Value} {y:DataW H × List MemPlace} (he:P.underlying e=some (.struct fs)) (J:oneCellFields P fs=true) (hC:P.cellsOf e=fs.size)
  (h:DataW.trod enc P w base (fun _=>true) held m e cs=some y) :
  cs.length=fs.size/\∃ n,∀ (j:Nat) (f:Field),fs[j]?=some f->∃ (v:Value) (z:DataW H × List MemPlace),cs[j]?=some v/\DataW.trod enc P w base (fun _=>true) held n f.type [v]=some z:=by
 obtain⟨ys,n',_,_,hl,ad,hf⟩:=FA he h;have ab:cs.length=fs.size:=by rw[<-hC];exact hl
 refine⟨ab,n',fun j f hj=>?_⟩;obtain⟨ho,hk⟩:=hone_of J j f hj;have ac:j<fs.size:=(Array.getElem?_eq_some_iff.1 hj).1;have M:=hf j f hj;rw[ho,hk] at M;have I:(cs.drop j).take 1=[cs[j]'eL]:=by
  rw[rK eL];rfl
 rw[I] at M;have aa:ys[j]?=some (ys[j]'eL):=gR eL;exact⟨_,_,gR eL,M.trans aa⟩
end
theorem P7 {k:IntKind} {n:Int} (h:(Lit.int k n).wf=true):k.min<=n/\n<=k.max:=(Lit.wf_int_iff k n).1 h
section
variable {P:Program} {ops:Array Oper} {Q:Exit→Act→World→Prop}
variable {K:Act->World->Prop}{a:Act}
theorem wpOp_mono  {K':Act->World->Prop}   (J:∀ a w,K a w->K' a w) (h:wpOp P ops Q i K a w):wpOp P ops Q i K' a w:=by
 unfold wpOp at *
 cases M:ops[i]? with
 | none=>simp only[M] at h ⊢;exact J _ _ h
 | some o=>
  simp only[M] at h ⊢;split at h
  ·rename_i I;rw[if_pos I];exact h.imp (sl J) id
  ·rename_i I;rw[if_neg I];exact J _ _ h
theorem gH  {o:Oper}    (ho:ops[i]?=some o) (hg:o.guard=none) (h:o.wp P a w K Q):wpOp P ops Q i K a w:=by
 unfold wpOp;simp only[ho];rw[if_pos (by simp[Region.wanted,hg])];exact .inl h
end
section
variable {P:Program} {ops:Array Oper} {Q:Exit→Act→World→Prop} {S:World→Prop}
def fS:Act->List Nat->List Value->Act
 | a,d::ds,v::vs=>fS (a.put (some d) v) ds vs
 | a,_,_=>a
theorem DV (d:Nat) (v:Value):∀ (ds:List Nat) (vs:List Value) (a:Act),d ∉ ds->(fS a ds vs).put (some d) v=fS (a.put (some d) v) ds vs
 | [],_,_,_=>by simp[fS]
 | _::_,[],_,_=>rfl
 | e::ds,u::vs,a,h=>by
  simp only[pA,not_or] at h;simp only[fS];rw[DV d v ds vs _ h.2,nF a v u (fun x I=>by injection I with I;subst I;exact fun g=>by injection g with g;exact h.1 g.symm)]
theorem vC (a:Act) (d:Nat) (v:Value):∀ (ds:List Nat) (vs:List Value),ds.length=vs.length->fS a (ds++[d]) (vs++[v])=(fS a ds vs).put (some d) v:=by
 intro ds
 induction ds generalizing a with
 | nil=>intro vs h;cases vs with|nil=>rfl|cons _ _=>simp at h
 | cons e ds ih=>
  intro vs h;cases vs with
  | nil=>simp at h
  | cons u vs=>simp only[pd,fS];exact ih _ _ (by simpa using h)
theorem kL (a:Act) (ds es:List Nat) (vs:List Value) (h:ds.length=vs.length):fS a (ds++es) vs=fS a ds vs:=by
 induction ds generalizing a vs with
 | nil=>cases vs with|nil=>cases es<;>rfl|cons _ _=>simp at h
 | cons e ds ih=>
  cases vs with
  | nil=>simp at h
  | cons u vs=>simp only[pd,fS];exact ih _ _ (by simpa using h)
theorem bH (k:Nat):∀ (ds:List Nat) (vs:List Value) (a:Act),k ∉ ds->(fS a ds vs).eval (.tmp k)=a.eval (.tmp k)
 | [],_,_,_=>by simp[fS]
 | _::_,[],_,_=>rfl
 | e::ds,u::vs,a,h=>by
  simp only[pA,not_or] at h;simp only[fS];rw[bH k ds vs _ h.2,Act.eval_put (fun x I=>by injection I with I;subst I;exact fun g=>by injection g with g;exact h.1 g)]
def dQ (ops:Array Oper) (X:List Nat):List Nat:=X.map fun i=>((ops[i]?.bind (·.dst))).getD 0
def EL (l0:Array Bool) (X Y:List Nat) (s t:Nat):Array Bool:=(X.take s++Y.take t).foldl (fun l i=>l.setIfInBounds i true) l0
def QD (ops:Array Oper) (h:Array Bool) (X Y:List Nat):Bool:=
 ((List.range (X.length+1)).all fun s=>(List.range (Y.length+1)).all fun t=>
  ((s==X.length&&t==Y.length)||(!(Region.ready .any ops (EL h X Y s t)).isEmpty)) &&
  (((s==X.length&&t==Y.length))||(Region.ready .any ops (EL h X Y s t)).all (fun i=>(X[s]?==some i)||(Y[t]?==some i))) &&
  (match X[s]? with|some i=>(EL h X Y s t).setIfInBounds i true==EL h X Y (s+1) t|none=>true) &&
  (match Y[t]? with|some i=>(EL h X Y s t).setIfInBounds i true==EL h X Y s (t+1)|none=>true)) &&
 (X++Y).all (fun i=>match ops[i]? with|some o=>o.guard.isNone&&o.dst.isSome|none=>false) &&
 decide ((dQ ops X++dQ ops Y).Nodup)
theorem vD {α β:Type} (f:α->β) (X:List α) {k:Nat} (h:k<X.length):X.map f=(X.take k).map f++(f X[k]::(X.drop (k+1)).map f):=by
 have e:=congrArg (List.map f) (tM k X);rw[km,rK h,lk] at e;exact e.symm
theorem Oq   {l0:Array Bool} {M:Act} {R:aT} (X Y:List Nat) (PX PY:List Value->aT) (J:Nat) (al:QD ops l0 X Y=true)
  (oX:∀ vs,(PX vs).Ok) (oY:∀ vs,(PY vs).Ok) (oR:R.Ok) (hS:∀ (O:aT) W,aI F0 w0 O W->S W)
  (hX:∀ i o vs us,X[vs.length]?=some i->ops[i]?=some o->us.length<=Y.length->∀ (Z:aT) W,Z.Ok->aI F0 w0 (aj (PX vs) Z) W ->
   o.wp P (fS (fS M (dQ ops X) vs) (dQ ops Y) us) W (fun a' w'=>∃ v,a'=(fS (fS M (dQ ops X) vs) (dQ ops Y) us).put o.dst v/\aI F0 w0 (aj (PX (vs++[v])) Z) w') Q)
  (hY:∀ i o vs us,Y[us.length]?=some i->ops[i]?=some o->vs.length<=X.length->∀ (Z:aT) W,Z.Ok->aI F0 w0 (aj (PY us) Z) W ->
   o.wp P (fS (fS M (dQ ops X) vs) (dQ ops Y) us) W (fun a' w'=>∃ v,a'=(fS (fS M (dQ ops X) vs) (dQ ops Y) us).put o.dst v/\aI F0 w0 (aj (PY (us++[v])) Z) w') Q)
  (ag:∀ vs us W,vs.length=X.length->us.length=Y.length->aI F0 w0 (aj (PX vs) (aj (PY us) R)) W->wpAnyH P .any ops Q S J (EL l0 X Y X.length Y.length) (fS (fS M (dQ ops X) vs) (dQ ops Y) us) W)
   (h0:aI F0 w0 (aj (PX []) (aj (PY []) R)) W):wpAnyH P .any ops Q S (J+(X.length+Y.length)) l0 M W:=by
 simp only[QD,gA,decide_eq_true_eq] at al;obtain⟨⟨ao,ak⟩,ap⟩:=al;have key:∀ (N:Nat) (vs us:List Value) (W:World),vs.length<=X.length->us.length<=Y.length->N=(X.length-vs.length)+(Y.length-us.length)->aI F0 w0 (aj (PX vs) (aj (PY us) R)) W ->
   wpAnyH P .any ops Q S (J+N) (EL l0 X Y vs.length us.length) (fS (fS M (dQ ops X) vs) (dQ ops Y) us) W:=by
  intro N
  induction N with
  | zero=>
   intro vs us W hv hu hN hR;have h1:vs.length=X.length:=by omega
   have h2:us.length=Y.length:=by omega
   rw[h1,h2];exact ag vs us W h1 h2 hR
  | succ N ih=>
   intro vs us W hv hu hN hR;have hc:=ao;rw[j8] at hc;have ai:=hc vs.length (List.mem_range.2 eL);rw[j8] at ai;have am:=ai us.length (List.mem_range.2 eL);simp only[gA] at am;obtain⟨⟨⟨c1,c2⟩,c3⟩,c4⟩:=am;have an:(vs.length==X.length&&us.length==Y.length)=false:=by
    cases hb:(vs.length==X.length&&us.length==Y.length) with
    | false=>rfl
    | true=>simp only[gA,beq_iff_eq] at hb;omega
   rw[an,uB] at c1 c2;have ae:∀ (Z:List Nat) i,i ∈ Z->(∀ j ∈ Z,j ∈ X++Y)->∃ o d,ops[i]?=some o/\o.guard=none/\o.dst=some d/\((ops[i]?.bind (·.dst))).getD 0=d:=by
    intro Z i hi hZ;rw[j8] at ak;have:=ak i (hZ i hi);cases ho:ops[i]? with
    | none=>rw[ho] at this;cases this
    | some o=>
     rw[ho] at this;simp only[gA,M3,NF] at this;obtain⟨g1,d,g2⟩:=this;exact⟨o,d,rfl,g1,g2,by simp[g2]⟩
   refine⟨fun h=>by rw[h] at c1;simp at c1,fun i hi=>?_⟩;rw[j8] at c2;have I:=c2 i hi;simp only[tf,beq_iff_eq] at I;have af:=List.nodup_append.1 ap;rcases I with I|I
   ·-- the next of X
    have ad:vs.length<X.length:=(List.getElem?_eq_some_iff.1 I).1;obtain⟨o,d,ho,hg,hd,aa⟩:=ae X i (pS I) (fun j hj=>B9 _ hj);refine gH ho hg (sl ?_ (hX i o vs us I ho hu (aj (PY us) R) W (aB (oY us) oR) hR));rintro a' w' ⟨v,rfl,hR'⟩;refine⟨hS _ _ hR',?_⟩;rw[I] at c3;simp only[beq_iff_eq] at c3;have h3:=ih (vs++[v]) us w' sT hu sT hR';rw[gd,pC,<-c3] at h3;have e1:fS M (dQ ops X) (vs++[v])=(fS M (dQ ops X) vs).put (some d) v:=by
     have ac:dQ ops X=dQ ops (X.take vs.length)++(d::dQ ops (X.drop (vs.length+1))):=by
      have ab:X[vs.length]=i:=(List.getElem?_eq_some_iff.1 I).2;have e9:=vD (fun i=>((ops[i]?.bind (·.dst))).getD 0) X ad;simp only[ab,aa] at e9;exact e9
     have hl:(dQ ops (X.take vs.length)).length=vs.length:=by unfold dQ;simp;omega
     rw[ac];rw[show dQ ops (X.take vs.length)++(d::dQ ops (X.drop (vs.length+1)))=(dQ ops (X.take vs.length)++[d])++dQ ops (X.drop (vs.length+1)) by simp];rw[kL _ _ _ (vs++[v]) (by simp[hl]),vC _ _ _ _ _ hl,l3,kL _ _ _ vs hl]
    have ar:d ∉ dQ ops Y:=by
     intro hm;refine af.2.2 d ?_ d hm rfl;unfold dQ;exact List.mem_map.2 ⟨i,pS I,aa⟩
    rw[hd,DV d v _ us _ ar,<-e1];exact h3
   ·have ad:us.length<Y.length:=(List.getElem?_eq_some_iff.1 I).1;obtain⟨o,d,ho,hg,hd,aa⟩:=ae Y i (pS I) (fun j hj=>yW _ hj);have aq:aI F0 w0 (aj (PY us) (aj (PX vs) R)) W:=hR.kN;refine gH ho hg (sl ?_ (hY i o vs us I ho hv (aj (PX vs) R) W (aB (oX vs) oR) aq));rintro a' w' ⟨v,rfl,hR'⟩;refine⟨hS _ _ hR',?_⟩;rw[I] at c4;simp only[beq_iff_eq] at c4;have h3:=ih vs (us++[v]) w' hv sT sT hR'.kN;rw[gd,pC,<-c4] at h3;have e1:∀ b:Act,fS b (dQ ops Y) (us++[v])=(fS b (dQ ops Y) us).put (some d) v:=by
     intro b;have ac:dQ ops Y=dQ ops (Y.take us.length)++(d::dQ ops (Y.drop (us.length+1))):=by
      have ab:Y[us.length]=i:=(List.getElem?_eq_some_iff.1 I).2;have e9:=vD (fun i=>((ops[i]?.bind (·.dst))).getD 0) Y ad;simp only[ab,aa] at e9;exact e9
     have hl:(dQ ops (Y.take us.length)).length=us.length:=by unfold dQ;simp;omega
     rw[ac];rw[show dQ ops (Y.take us.length)++(d::dQ ops (Y.drop (us.length+1)))=(dQ ops (Y.take us.length)++[d])++dQ ops (Y.drop (us.length+1)) by simp];rw[kL _ _ _ (us++[v]) (by simp[hl]),vC _ _ _ _ _ hl,l3,kL _ _ _ us hl]
    rw[hd,<-e1];exact h3
 have h1:=key (X.length+Y.length) [] [] W (fw _) (fw _) iz h0;have e:∀ (b:Act) (ds:List Nat),fS b ds []=b:=fun b ds=>by cases ds<;>rfl
 rw[e,e] at h1;exact h1
end
end Go.CH
