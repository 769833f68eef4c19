/- A part of the proof: lemmas. -/
import Derived.Deep.RegionHeld3
import Derived.WalkSpells
import Derived.WalkLawsBesides
import Derived.Deep.AppendLies
import Derived.ProofKit
import Derived.DataShut
import Derived.Deep.Fields
set_option maxHeartbeats 16000000
set_option maxRecDepth 100000
set_option linter.all false
set_option linter.defProp false
namespace Go
open Go.RowKit
def gj:=@List.length_append
def ic:=@List.getElem?_eq_getElem
def fe:=@Below.refl
def fY:=@List.length_map
def ja:=@List.setIfInBounds_toArray
def fy:=@Nat.zero_le
def fL:=@Nat.le_refl
def gw:=@List.getElem_mem
def gA:=@Bool.and_eq_true
def kq:=@List.take_succ_eq_append_getElem
def ki:=@List.getD_eq_getElem?_getD
def iz:=@List.set_cons_zero
def i6:=@List.set_cons_succ
def ik:=@World.size_alloc
def kO:=@List.getElem_cons_zero
def k6:=@List.getElem_cons_succ
def jz:=@List.length_cons
def j7:=@List.all_eq_true
def lw:=@List.getElem_toArray
def k7:=@Bool.false_eq_true
def ky:=@Result.andThen_ok
def kt:=@List.length_take
def kz:=@List.take_length
def kp:=@List.map_append
def k8:=@List.length_drop
def kj:=@IntWalk.i64_in
def mr:=@List.getElem?_toArray
def j8:=@Nat.le_trans
def oS:=@List.getElem?_cons_succ
def oT:=@List.getElem?_cons_zero
def lB:=@List.getElem?_map
def j9:=@Sem.run_bind
def ma:=@List.append_assoc
def py:=@World.block_lt_of_cell?
def mA:=@List.mem_cons_self
def lL:=@List.length_nil
def nB:=@List.map_congr_left
def pN:=@List.isEmpty_eq_false_iff
def kB:=@Sem.run_pure
def lk:=@List.map_cons
def mx:=@List.getElem_map
def mS:=@List.flatMap_cons
def li:=@Nat.succ_mul
def me:=@List.nil_append
def sE:=@List.eq_nil_of_length_eq_zero
def lx:=@Bool.true_and
def ly:=@DataW.trod_lt
def pD:=@List.length_singleton
def rS:=@List.drop_eq_getElem_cons
def pP:=@List.getElem?_eq_none
def mT:=@List.append_nil
def mj:=@Bool.not_true
def sR:=@Array.getElem?_eq_getElem
def pS:=@List.mem_cons_of_mem
def pT:=@List.mem_of_getElem?
def nF:=@Oper.semAt_some
def oc:=@Nat.not_lt_zero
def my:=@Nat.lt_irrefl
def nh:=@Bool.not_false
def nn:=@DataW.trod_int
def pd:=@List.cons_append
def lz:=@Int.le_refl
def re:=@Array.replicate_succ
def rk:=@Array.replicate_zero
def tg:=@List.mem_of_find?_eq_some
def rq:=@List.append_toArray
def np:=@List.mem_cons
def pZ:=@List.size_toArray
def mB:=@Nat.zero_add
def qk:=@IntWalk.wrap64_in
def mC:=@Nat.mul_comm
def sS:=@List.filterMap_append
def lA:=@Below.trod
def nq:=@Nat.sub_self
def tt:=@Array.getElem?_eq_none
def ry:=@List.push_toArray
def rB:=@Bool.eq_false_iff
def pH:=@Exit.noGoto_ret
def ot:=@Act.put_comm
def tP:=@List.take_of_length_le
def tW:=@MapKept.run_getObj_map
def ua:=@List.take_append_drop
def ub:=@Array.getElem?_toList
def pk:=@Nat.add_zero
def rI:=@List.length_set
def qq:=@Bool.false_and
def sb:=@List.not_mem_nil
def sk:=@List.isEmpty_iff
def qt:=@List.mem_range
def ui:=@Nat.div_lt_of_lt_mul
def xp:=@List.getElem?_append_left
def vq:=@List.flatMap_singleton
def rK:=@List.drop_left
def sl:=@Int.natCast_add
def xt:=@List.filterMap_cons_some
def uu:=@List.flatMap_append
def tv:=@Bool.not_eq_true'
def pL:=@List.map_nil
def qu:=@List.map_map
def yW:=@List.getElem_append_right
def uv:=@List.length_range
def uA:=@Nat.one_shiftLeft
def zd:=@List.length_filterMap_le
def sT:=@Nat.mul_le_mul
def tA:=@Bool.or_eq_true
def tB:=@Bool.eq_iff_iff
def uB:=@List.drop_length
def xv:=@List.mem_of_mem_take
def xy:=@Nat.mul_le_mul_right
def uC:=@Nat.le_of_not_lt
def tE:=@Option.map_map
def sn:=@Nat.sub_zero
def sx:=@Nat.zero_mul
def B9:=@List.getElem?_append_right
def vr:=@List.ext_getElem?
def sy:=@Oper.wp_mono
def va:=@Option.map_some
def zg:=@List.mem_append_right
def zj:=@Array.mem_of_getElem?
def xF:=@List.length_zipIdx
def qS:=@Nat.mod_lt
def Cd:=@List.filterMap_cons_none
def Cf:=@Array.setIfInBounds_comm
def zp:=@List.mem_of_mem_drop
def vb:=@List.drop_drop
def zt:=@Region.noSelect_spec
def vt:=@List.foldl_cons
def vu:=@List.range_succ
def zz:=@List.flatten_append
def zE:=@List.getElem_of_mem
def tG:=@Nat.lt_or_ge
def Cl:=@Option.map_eq_some_iff
def vf:=@Bool.false_or
def Cp:=@Bool.and_eq_false_iff
def Ff:=@Classical.byContradiction
def xN:=@List.mem_filter
def Ax:=@Int.toNat_natCast
def Cs:=@List.mem_append_left
def AE:=@List.getElem_take
def CC:=@List.getElem?_mapIdx
def vx:=@Nat.add_assoc
def CI:=@ByteArray.toList_eq
def px:=@Ne.symm
def CL:=@List.getElem?_range
def AF:=@List.map_toArray
def xT:=@List.drop_zero
def vy:=@Nat.add_comm
def CM:=@List.find?_eq_none
def vz:=@List.map_set
def Fi:=@List.drop_eq_nil_of_le
def CN:=@List.getElem?_take
def AG:=@List.find?_some
def AH:=@List.mem_append
def AI:=@Nat.div_add_mod
def C0:=@DataW.trod_string
def Hv:=@List.isPrefixOf_iff_prefix
def Fl:=@List.length_eraseIdx
def Fo:=@List.range_eq_range'
def Fs:=@World.cell?_of_block
def M3:=@Std.Legacy.Range.forIn_eq_forIn_range'
def C1:=@Bool.not_eq_true
def qT:=@Iff.rfl
def C2:=@Option.bind_some
def C3:=@List.mem_nil_iff
def C4:=@Option.getD_some
def It:=@List.mem_or_eq_of_mem_set
def Ft:=@Array.length_toList
def FA:=@Nat.eq_zero_or_pos
def FF:=@List.map_replicate
def AK:=@Int.zero_add
def AN:=@Int.add_zero
def AW:=@Nat.le_of_lt
def A0:=@Int.le_trans
def Iv:=@List.drop_of_length_le
def FO:=@List.flatten_cons
def Ge:=@List.filter_congr
def Gk:=@DataW.trod_struct
def Nm:=@Array.getElem?_setIfInBounds_ne
def IA:=@List.eraseIdx_sublist
def ID:=@UInt8.le_iff_toNat_le
def Nx:=@List.Nodup.length_le_of_subset
def NB:=@List.find?_eq_some_iff_getElem
def Gr:=@List.mem_flatMap
def GB:=@Nat.div_eq_of_lt
def GC:=@Nat.mod_eq_of_lt
def GF:=@Region.free_spec
def C5:=@List.all_cons
def Be:=@List.map_id
def Bi:=@Nat.mul_one
def GG:=@List.find?_cons
def GM:=@List.forIn_cons
def G0:=@Oper.apart_spec
def G1:=@Nat.min_eq_left
def IM:=@Int.toNat_of_nonneg
def IP:=@Array.toList_modify
def NF:=@List.sublist_flatten_of_mem
def G2:=@List.nodup_nil
def IT:=@Nat.lt_of_lt_of_le
def NL:=@List.perm_ext_iff_of_nodup
def I0:=@List.getElem_range
def NO:=@Int.tmod_eq_emod_of_nonneg
def N2:=@List.pairwise_iff_getElem
def N3:=@Option.isNone_iff_eq_none
def I1:=@List.nodup_append
def I3:=@List.foldl_append
def Jn:=@Array.size_append
def Jx:=@List.mem_range'_1
def G3:=@Bool.or_false
def N4:=@List.find?_range_eq_some
def N5:=@List.Pairwise.imp_of_mem
def N6:=@List.mem_of_mem_eraseIdx
def OS:=@Option.isSome_iff_exists
def O2:=@List.getElem_append_left
def JP:=@Int.min_le_right
def Ps:=@List.length_eq_zero_iff
def JS:=@Nat.lt_succ_self
def Pu:=@List.filter_cons_of_neg
def PH:=@List.filter_cons_of_pos
def J0:=@Array.toList_map
def J1:=@List.range'_succ
def Kb:=@Below.heap_alloc
def Kf:=@List.ext_getElem
def Kp:=@List.getElem_set
def G4:=@List.mem_map
def C6:=@Calls.mono
def PQ:=@MapKept.run_setObj_map
def Ks:=@List.mem_zipIdx
def Kx:=@List.nodup_cons
def Ln:=@Nat.mul_add_div
def Lq:=@Nat.mul_add_mod
def Lt:=@Oper.semAt_none
def Lw:=@List.map_const'
def Ly:=@Int.natCast_pow
def LF:=@Int.natCast_mul
def PT:=@List.set_getElem_self
def P0:=@Array.getElem?_append
def P1:=@Array.getElem?_modify
def Ha:=@Nat.mul_pos
def LI:=@Act.put_defers
def Hb:=@Int.add_mul
def LL:=@Int.le_of_eq
def LN:=@Int.le_total
def LO:=@Nat.le_of_eq
abbrev gO(a1:Int)(a2:Int)(a3:Int)(a4:Int)(a5:Int)(a6:Int)(a7:Int)(a8:Option Addr)(a9:Nat)(a10:Nat)(a11:Option Addr)(a12:Nat)(a13:Nat)(a14:ByteArray):Array Value:=#[.int .i64 a1,.int .i64 a2,.int .i64 a3,.int .i64 a4,.int .i64 a5,.int .i64 a6,.int .i64 a7,.slice a8 a9 a10,.slice a11 a12 a13,.string a14]
abbrev fh(a1:Option Addr)(a2:Nat)(a3:Nat)(a4:Option Addr)(a5:Nat)(a6:Nat)(a7:Option Addr)(a8:Nat)(a9:Nat)(a10:Int)(a11:Int)(a12:Int):Array Value:=#[.slice a1 a2 a3,.slice a4 a5 a6,.slice a7 a8 a9,.int .i64 a10,.int .i64 a11,.int .i64 a12]
abbrev fj(a1:Int)(a2:Option Addr)(a3:Nat)(a4:Nat)(a5:Option Addr)(a6:Nat)(a7:Nat)(a8:Option Addr)(a9:Nat)(a10:Nat)(a11:Option Addr)(a12:Nat)(a13:Nat):Array Value:=#[.int .i64 a1,.slice a2 a3 a4,.slice a5 a6 a7,.slice a8 a9 a10,.slice a11 a12 a13]
abbrev ij(a1:Int)(a2:Option Addr)(a3:Nat)(a4:Nat)(a5:Option Addr)(a6:Nat)(a7:Nat):Array Value:=#[.int .i64 a1,.slice a2 a3 a4,.slice a5 a6 a7]
abbrev fN(a1:Int)(a2:Int)(a3:ByteArray)(a4:Bool):Array Value:=#[.int .i64 a1,.int .i64 a2,.string a3,.bool a4]
abbrev sA(a1:Option Addr)(a2:Nat)(a3:Nat)(a4:Option Addr)(a5:Nat)(a6:Nat)(a7:Option Addr)(a8:Nat)(a9:Nat)(a10:Int)(a11:Int)(a12:Int)(a13:Int)(a14:Option Addr)(a15:Nat)(a16:Nat)(a17:Int)(a18:Option Addr)(a19:Nat)(a20:Nat):Array Value:=#[.slice a1 a2 a3,.slice a4 a5 a6,.slice a7 a8 a9,.int .i64 a10,.int .i64 a11,.int .i64 a12,.int .i64 a13,.slice a14 a15 a16,.int .i64 a17,.slice a18 a19 a20]
abbrev o5(a1:Int)(a2:Int)(a3:Int)(a4:Int)(a5:Int)(a6:Int)(a7:Int)(a8:Option Addr)(a9:Nat)(a10:Nat)(a11:Option Addr)(a12:Nat)(a13:Nat)(a14:ByteArray)(a15:ByteArray)(a16:ByteArray):Array Value:=#[.int .i64 a1,.int .i64 a2,.int .i64 a3,.int .i64 a4,.int .i64 a5,.int .i64 a6,.int .i64 a7,.slice a8 a9 a10,.slice a11 a12 a13,.string a14,.string a15,.string a16]
abbrev ff(a1:Int)(a2:Option Addr)(a3:Nat)(a4:Nat):Array Value:=#[.int .i64 a1,.slice a2 a3 a4]
abbrev gR(a1:Int)(a2:Option Addr)(a3:Nat)(a4:Nat)(a5:Option Addr)(a6:Nat)(a7:Nat)(a8:Option Addr)(a9:Nat)(a10:Nat):Array Value:=#[.int .i64 a1,.slice a2 a3 a4,.slice a5 a6 a7,.slice a8 a9 a10]
abbrev js(a1:Int)(a2:Int)(a3:Int)(a4:Option Addr)(a5:Nat)(a6:Nat):Array Value:=#[.int .i64 a1,.int .i64 a2,.int .i64 a3,.slice a4 a5 a6]
abbrev fx(a1:Option Addr)(a2:Nat)(a3:Nat)(a4:Option Addr)(a5:Nat)(a6:Nat):Array Value:=#[.slice a1 a2 a3,.slice a4 a5 a6]
abbrev km(a1:Int)(a2:Int)(a3:Option Addr)(a4:Nat)(a5:Nat)(a6:ByteArray):Array Value:=#[.int .i64 a1,.int .i64 a2,.slice a3 a4 a5,.string a6]
abbrev nt(a1:Int)(a2:Int)(a3:Int)(a4:ByteArray)(a5:ByteArray)(a6:Int):Array Value:=#[.int .i64 a1,.int .i64 a2,.int .i64 a3,.string a4,.string a5,.int .i64 a6]
abbrev kh(a1:Int)(a2:Option Addr)(a3:Nat)(a4:Nat)(a5:Option Addr)(a6:Nat)(a7:Nat)(a8:ByteArray):Array Value:=#[.int .i64 a1,.slice a2 a3 a4,.slice a5 a6 a7,.string a8]
abbrev lR(a1:Int)(a2:Int)(a3:Int)(a4:Int)(a5:Option Addr)(a6:Nat)(a7:Nat):Array Value:=#[.int .i64 a1,.int .i64 a2,.int .i64 a3,.int .i64 a4,.slice a5 a6 a7]
abbrev jb(a1:Int)(a2:Bool)(a3:Option Addr)(a4:Nat)(a5:Nat):Array Value:=#[.int .i64 a1,.bool a2,.slice a3 a4 a5]
abbrev ln(a1:Option Addr)(a2:Nat)(a3:Nat)(a4:Option Addr)(a5:Nat)(a6:Nat)(a7:Option Addr)(a8:Nat)(a9:Nat)(a10:Option Addr)(a11:Nat)(a12:Nat):Array Value:=#[.slice a1 a2 a3,.slice a4 a5 a6,.slice a7 a8 a9,.slice a10 a11 a12]
abbrev mL(a1:Int)(a2:ByteArray)(a3:ByteArray)(a4:Int):Array Value:=#[.int .i64 a1,.string a2,.string a3,.int .i64 a4]
abbrev fR(a1:Int):Array Value:=#[.int .i64 a1]
abbrev vh(a1:Option Addr)(a2:Nat)(a3:Nat)(a4:Int)(a5:Int)(a6:Option Addr)(a7:Nat)(a8:Nat)(a9:Option Addr)(a10:Nat)(a11:Nat)(a12:Int)(a13:Int)(a14:ByteArray)(a15:Bool):Array Value:=#[.slice a1 a2 a3,.int .i64 a4,.int .i64 a5,.slice a6 a7 a8,.slice a9 a10 a11,.int .i64 a12,.int .i64 a13,.string a14,.bool a15]
abbrev l3(a1:ByteArray)(a2:Int)(a3:Int):Array Value:=#[.string a1,.int .i64 a2,.int .i64 a3]
abbrev sB(a1:Int)(a2:Int)(a3:ByteArray)(a4:Bool)(a5:Int):Array Value:=#[.int .i64 a1,.int .i64 a2,.string a3,.bool a4,.int .i64 a5]
abbrev rL(a1:Int)(a2:ByteArray)(a3:ByteArray):Array Value:=#[.int .i64 a1,.string a2,.string a3]
abbrev ya(a1:Int)(a2:Int)(a3:Int)(a4:Int):Array Value:=#[.int .i64 a1,.int .i64 a2,.int .i64 a3,.int .i64 a4]
abbrev o6(a1:Int)(a2:Bool):Array Value:=#[.int .i64 a1,.bool a2]
abbrev vi(a1:Int)(a2:ByteArray)(a3:Int):Array Value:=#[.int .i64 a1,.string a2,.int .i64 a3]
abbrev pC(a1:Option Addr)(a2:Nat)(a3:Nat)(a4:Int):Array Value:=#[.slice a1 a2 a3,.int .i64 a4]
abbrev vA(a1:Option Addr)(a2:Option Addr)(a3:Option Addr):Array Value:=#[.pointer a1,.pointer a2,.pointer a3]
abbrev gv(a1:Bool):Array Value:=#[.bool a1]
abbrev tM(a1:Int)(a2:Int):Array Value:=#[.int .i64 a1,.int .i64 a2]
abbrev il(a1:Option Addr)(a2:Nat)(a3:Nat):Array Value:=#[.slice a1 a2 a3]
abbrev s7(a1:Option Addr)(a2:Option Addr):Array Value:=#[.pointer a1,.pointer a2]
abbrev oy(a1:ByteArray):Array Value:=#[.string a1]
theorem gd{α:Type}{a b:α}(h:a=b:=by kernel_rfl):some a=some b:=congrArg some h
theorem eQ{p:Prop}(h:p:=by kernel_rfl):p:=h
theorem eL{p:Prop}(h:p:=by omega):p:=h
theorem gh{p:Prop}(h:p:=by rfl):p:=h
theorem eS{p:Prop}(h:p:=by decide):p:=h
theorem i7{p:Prop}(h:p:=by simp):p:=h
theorem tb{p:Prop}(h:p:=by simp;omega):p:=h
theorem ai6{p:Prop}[Decidable p](h:decide p=true:=by kernel_rfl):p:=of_decide_eq_true h
abbrev eV:=Option Addr
abbrev ai8(w W:World):Prop:=Below w.heap.size w W
abbrev eR:Nat->Prop:=fun _=>False
theorem RowKit.Hid.o{p:Prop}(h:Hid p):p:=h.out
abbrev mz(w:World)(g:Nat)(v0 v1:Value):Prop:=w.cell? ⟨g,0,none⟩=some v0/\w.cell? ⟨g,1,none⟩=some v1
abbrev nz(w:World)(g:Nat)(v0 v1 v2 v3:Value):Prop:=w.cell? ⟨g,0,none⟩=some v0/\w.cell? ⟨g,1,none⟩=some v1/\w.cell? ⟨g,2,none⟩=some v2/\w.cell? ⟨g,3,none⟩=some v3
abbrev oA(w:World)(g:Nat)(v0 v1 v2 v3 v4:Value):Prop:=w.cell? ⟨g,0,none⟩=some v0/\w.cell? ⟨g,1,none⟩=some v1/\w.cell? ⟨g,2,none⟩=some v2/\w.cell? ⟨g,3,none⟩=some v3/\w.cell? ⟨g,4,none⟩=some v4
abbrev C7(w:World)(g:Nat)(v0 v1 v2 v3 v4 v5 v6 v7 v8 v9:Value):Prop:=w.cell? ⟨g,0,none⟩=some v0/\w.cell? ⟨g,1,none⟩=some v1/\w.cell? ⟨g,2,none⟩=some v2/\w.cell? ⟨g,3,none⟩=some v3/\w.cell? ⟨g,4,none⟩=some v4/\w.cell? ⟨g,5,none⟩=some v5/\w.cell? ⟨g,6,none⟩=some v6/\w.cell? ⟨g,7,none⟩=some v7/\w.cell? ⟨g,8,none⟩=some v8/\w.cell? ⟨g,9,none⟩=some v9
abbrev l4(w:World)(g:Nat)(v0 v1 v2 v3 v4 v5:Value):Prop:=w.cell? ⟨g,0,none⟩=some v0/\w.cell? ⟨g,1,none⟩=some v1/\w.cell? ⟨g,2,none⟩=some v2/\w.cell? ⟨g,3,none⟩=some v3/\w.cell? ⟨g,4,none⟩=some v4/\w.cell? ⟨g,5,none⟩=some v5
abbrev Dd(w:World)(g:Nat)(v0 v1 v2:Value):Prop:=w.cell? ⟨g,0,none⟩=some v0/\w.cell? ⟨g,1,none⟩=some v1/\w.cell? ⟨g,2,none⟩=some v2
abbrev VS(w:World)(g:Nat)(v0 v1 v2 v3 v4:Value):Prop:=w.cell? ⟨g,5,none⟩=some v0/\w.cell? ⟨g,6,none⟩=some v1/\w.cell? ⟨g,7,none⟩=some v2/\w.cell? ⟨g,8,none⟩=some v3/\w.cell? ⟨g,9,none⟩=some v4
abbrev VV(w:World)(g:Nat)(v0 v1 v2 v3 v4 v5:Value):Prop:=w.cell? ⟨g,6,none⟩=some v0/\w.cell? ⟨g,7,none⟩=some v1/\w.cell? ⟨g,8,none⟩=some v2/\w.cell? ⟨g,9,none⟩=some v3/\w.cell? ⟨g,10,none⟩=some v4/\w.cell? ⟨g,11,none⟩=some v5
abbrev De(w:World)(g:Nat)(v0 v1 v2 v3:Value):Prop:=w.cell? ⟨g,6,none⟩=some v0/\w.cell? ⟨g,7,none⟩=some v1/\w.cell? ⟨g,8,none⟩=some v2/\w.cell? ⟨g,9,none⟩=some v3
abbrev Wa(w:World)(g:Nat)(v0 v1 v2 v3:Value):Prop:=w.cell? ⟨g,2,none⟩=some v0/\w.cell? ⟨g,3,none⟩=some v1/\w.cell? ⟨g,4,none⟩=some v2/\w.cell? ⟨g,5,none⟩=some v3
abbrev Wc(w:World)(g:Nat)(v0 v1 v2 v3:Value):Prop:=w.cell? ⟨g,1,none⟩=some v0/\w.cell? ⟨g,2,none⟩=some v1/\w.cell? ⟨g,3,none⟩=some v2/\w.cell? ⟨g,4,none⟩=some v3
end Go
namespace Go.CH
open Go.RowKit
open Go.ChangeMaps (setBlock)
theorem au{p:Prop}(h:p):Hid p:=h
structure Mod(F:Nat->Prop)(w w':World):Prop where
 os:w'.os=w.os
 tape:w'.tape=w.tape
 output:w'.output=w.output
 size:w.heap.size<=w'.heap.size
 block:∀ k,k<w.heap.size->¬ F k->w'.heap[k]?=w.heap[k]?
theorem Mod.refl(F:Nat->Prop)(w:World):Mod F w w:=⟨rfl,rfl,rfl,fL _,fun _ _ _=>rfl⟩
variable{F G:Nat->Prop}{a b w w':World}{p:Addr}{o':Obj}{n B I base c g:Nat}{v z:Value}{K t e:TypeId}{es:Array MapEntry}{k:IntKind}{i:TypeInfo}{A:eV}{xs news:List Value}{Q:Exit->Act->World->Prop}
theorem Mod.trans{J:Nat->Prop}{c:World}(h:Mod F a b)(k:Mod J b c)(M:∀ i,i<a.heap.size->F i->G i)(I:∀ i,i<a.heap.size->J i->G i):Mod G a c:=
 ⟨k.os.trans h.os,k.tape.trans h.tape,k.output.trans h.output,j8 h.size k.size,
  fun i hi hn=>(k.block i (IT hi h.size) (fun e=>hn (I i hi e))).trans (h.block i hi (fun e=>hn (M i hi e)))⟩
theorem Mod.mono(h:Mod F a b)(hF:∀ i,i<a.heap.size->F i->G i):Mod G a b:=
 ⟨h.os,h.tape,h.output,h.size,fun i hi hn=>h.block i hi (fun e=>hn (hF i hi e))⟩
theorem Mod.below(h:Mod F a b)(hF:∀ i,i<a.heap.size->¬ F i):Below a.heap.size a b:=
 ⟨h.os,h.tape,h.output,h.size,fun i hi=>h.block i hi (hF i hi)⟩
theorem Mod.of_below(h:Below a.heap.size a b):Mod F a b:=
 ⟨h.os,h.tape,h.output,h.size,fun i hi _=>h.block i hi⟩
theorem Mod.yu{row:Option Nat}(h:a.grownBy b row)(hr:∀ k,row=some k->k<a.heap.size->F k):Mod F a b:=
 ⟨h.os,h.tape,h.output,h.size,fun i hi hn=>h.block i hi (fun e=>hn (hr i e.symm hi))⟩
theorem Mod.drew(h:Mod F a b):Mod F a b.drew:=⟨h.os,h.tape,h.output,h.size,h.block⟩
theorem Mod.drewN(h:Mod F a b)(n:Nat):Mod F a (b.drewN n):=⟨h.os,h.tape,h.output,h.size,h.block⟩
theorem Mod.alloc(h:Mod F a b)(o:Obj):Mod F a (b.alloc o):=
 ⟨h.os,h.tape,h.output,j8 h.size i7,fun i hi hn=>(Kb b o i (IT hi h.size)).trans (h.block i hi hn)⟩
theorem Mod.setCell(h:Mod F a b)(u:Value)(hp:p.block<a.heap.size->F p.block):Mod F a (b.setCell p u):=
 ⟨h.os,h.tape,h.output,by simpa using h.size,fun i hi hn=>(Below.heap_setCell b p u i (by rintro rfl;exact hn (hp hi))).trans (h.block i hi hn)⟩
theorem Mod.setBlock(h:Mod F a b){k:Nat}(o:Obj)(I:k<a.heap.size->F k):Mod F a (setBlock b k o):=
 ⟨h.os,h.tape,h.output,by simpa[Go.ChangeMaps.setBlock] using h.size,fun i hi hn=>by
  have:k≠i:=by rintro rfl;exact hn (I hi)
  simp only[Go.ChangeMaps.setBlock];rw[Nm this]
  exact h.block i hi hn⟩
theorem Mod.cell(h:Mod F w w')(hp:p.block<w.heap.size)(hn:¬ F p.block):w'.cell? p=w.cell? p:=
 Fs (w:=w) (h.block p.block hp hn)
theorem kE{b:Nat}{o:Obj}(h:w.heap[b]?=some o):(setBlock w b o').heap[b]?=some o':=(Go.MapKept.heap_set h).1
theorem mD{b k:Nat}(h:b≠k):(setBlock w b o').heap[k]?=w.heap[k]?:=by
 simp only[Go.ChangeMaps.setBlock];exact Nm h
theorem Ld{o:Obj}(h:n=w.heap.size):(w.alloc o).heap[n]?=some o:=by subst h;exact heap_alloc_new w o
theorem V6{o:Obj}(h:n<w.heap.size):(w.alloc o).heap[n]?=w.heap[n]?:=Kb w o n h
theorem dB(h:Below B a w):Below B a w.drew:=h.drew
theorem below_drewN(h:Below B a w)(n:Nat):Below B a (w.drewN n):=⟨h.os,h.tape,h.output,h.size,h.block⟩
@[go_sem] theorem heap_drew(w:World):w.drew.heap=w.heap:=rfl
@[go_sem] theorem heap_drewN(w:World)(n:Nat):(w.drewN n).heap=w.heap:=rfl
@[go_sem] theorem YR{o:Obj}(h:n<w.heap.size):(w.alloc o).heap[n]?=w.heap[n]?:=Kb w o n h
@[go_sem] theorem Ui{a:Addr}(h:n≠a.block):(w.setCell a v).heap[n]?=w.heap[n]?:=Below.heap_setCell w a v n h
@[go_sem] theorem YS{b:Nat}{o:Obj}{a:Addr}(h:b≠a.block):(setBlock w b o).cell? a=w.cell? a:=Fs (mD h)
@[go_sem] theorem Uj{b:Nat}{o:Obj}{a:Addr}(h:b≠a.block):(setBlock w b o).frozen? a=w.frozen? a:=World.frozen?_of_block (mD h)
@[go_sem] theorem vX{b:Nat}{o:Obj}:(setBlock w b o).heap.size=w.heap.size:=by simp[Go.ChangeMaps.setBlock]
section maps0
variable{α:Type}
def EP(kv:α->Value)(es:Array MapEntry)(clock:Nat)(l:List (α × Value)):Prop:=
 es.toList.map (fun e=>(e.key,e.val))=l.map (fun p=>(kv p.1,p.2))/\(l.map (·.1)).Nodup/\(es.toList.map (·.born)).Nodup/\∀ e ∈ es.toList,e.born<clock
def sK(kv:α->Value)(w:World)(b:Nat)(l:List (α × Value)):Prop:=
 ∃ es clock,w.heap[b]?=some (.map es clock)/\EP kv es clock l
variable{kv:α→Value}{w w':World}{b:Nat}{l:List (α × Value)}
theorem sK.of_block(h:sK kv w b l)(hb:w'.heap[b]?=w.heap[b]?):sK kv w' b l:=by
 obtain⟨es,clock,h1,h2⟩:=h;exact⟨es,clock,hb.trans h1,h2⟩
theorem sK.lt(h:sK kv w b l):b<w.heap.size:=by obtain⟨es,clock,h1,_⟩:=h;exact lt_of_block h1
theorem EP.nil:EP kv #[] 0 []:=⟨rfl,G2,G2,by simp⟩
theorem sK.new(w:World):sK kv (w.alloc (.map #[] 0)) w.heap.size []:=⟨#[],0,heap_alloc_new w _,EP.nil⟩
theorem sK.mod(h:sK kv w b l)(m:Mod F w w')(hb:¬ F b):sK kv w' b l:=h.of_block (m.block b h.lt hb)
theorem acP{es:List MapEntry}{l:List (α × Value)}(h:es.map (fun e=>(e.key,e.val))=l.map (fun p=>(kv p.1,p.2))){k:α}{u:Value}(hn:l[n]?=some (k,u)):∃ e,es[n]?=some e/\e.key=kv k/\e.val=u:=by
 have I:(es.map (fun e=>(e.key,e.val)))[n]?=some (kv k,u):=by rw[h];simp[hn]
 rw[lB] at I;cases J:es[n]? with
 | none=>simp[J] at I
 | some e=>simp[J] at I;exact⟨e,rfl,I.1,I.2⟩
end maps0
section maps
variable{α:Type}[DecidableEq α]{P:Program}
structure o7(P:Program)(K:TypeId)(kv:α->Value):Prop where
 eq:∀ a b w,(Op.equal K (kv a) (kv b)).run P w=.ok (decide (a=b)) w
 check:∀ e a w,(Instr.checkKey e 10000 K (kv a)).run P w=.ok () w
 same:∀ a,Instr.sameBits 10000 (kv a) (kv a)=true
 now:∃ kd,P.underlying K=some kd/\∀ a b,Instr.sameNow kd (kv a) (kv b)=none\/Instr.sameNow kd (kv a) (kv b)=some (decide (a=b))
def xq(k:α):List (α × Value)->Nat->Option (Nat × Value)
 | [],_=>none
 | (a,v)::l,i=>if k=a then some (i,v) else xq k l (i+1)
theorem uF{K:TypeId}{kv:α->Value}(H:o7 P K kv)(k:α)(w:World):∀ (es:List MapEntry) (l:List (α × Value)) (i:Nat),
  es.map (fun e=>(e.key,e.val))=l.map (fun p=>(kv p.1,p.2))->(Instr.findAsking K (kv k) es i).run P w=.ok (xq k l i) w
 | [],[],i,_=>by simp[Instr.findAsking,xq]
 | [],_::_,_,h=>by simp at h
 | _::_,[],_,h=>by simp at h
 | e::es,(a,v)::l,i,h=>by
  simp only[lk,List.cons.injEq,Prod.mk.injEq] at h;obtain⟨⟨hk,J⟩,M⟩:=h;have ih:=uF H k w es l (i+1) M;simp only[Instr.findAsking,j9,hk,H.eq,ky,xq];by_cases I:k=a
  ·subst I;simp[J]
  ·simp[I,ih]
theorem Dr{kv:α->Value}{kd:TypeDesc}(hn:∀ a b,Instr.sameNow kd (kv a) (kv b)=none\/Instr.sameNow kd (kv a) (kv b)=some (decide (a=b)))(k:α):∀ (es:List MapEntry) (l:List (α × Value)) (i:Nat) (r:Option (Nat × Value)),
  es.map (fun e=>(e.key,e.val))=l.map (fun p=>(kv p.1,p.2))->Instr.findNow kd (kv k) es i=some r->r=xq k l i
 | [],[],i,r,_,h=>by simp[Instr.findNow] at h;simp[xq,h]
 | [],_::_,_,_,h,_=>by simp at h
 | _::_,[],_,_,h,_=>by simp at h
 | e::es,(a,v)::l,i,r,h,hr=>by
  simp only[lk,List.cons.injEq,Prod.mk.injEq] at h;obtain⟨⟨hk,M⟩,J⟩:=h;simp only[Instr.findNow,hk] at hr;rcases hn k a with h1|h1
  ·simp[h1] at hr
  ·rw[h1] at hr;by_cases I:k=a
   ·subst I;simp at hr;simp[xq,<-hr,M]
   ·simp[I] at hr;simp only[xq,if_neg I];exact Dr hn k es l (i+1) r J hr
theorem run_findKey{kv:α->Value}(H:o7 P K kv)(k:α)(w:World)(es:List MapEntry)(l:List (α × Value))(h:es.map (fun e=>(e.key,e.val))=l.map (fun p=>(kv p.1,p.2))):
  (Instr.findKey K (kv k) es).run P w=.ok (xq k l 0) w:=by
 obtain⟨kd,I,hn⟩:=H.now;simp only[Instr.findKey,j9,run_underlying I,ky];cases J:Instr.findNow kd (kv k) es 0 with
 | none=>simp only[uF H k w es l 0 h]
 | some r=>simp only[kB];rw[Dr hn k es l 0 r h J]
def oh(l:List (α × Value))(k:α):Option Value:=(xq k l 0).map (·.2)
def mE:List (α × Value)->α->Value->List (α × Value)
 | [],k,v=>[(k,v)]
 | (a,u)::l,k,v=>if k=a then(a,v)::l else(a,u)::mE l k v
theorem Ac(k:α):∀ (l:List (α × Value)) (i:Nat),xq k l i=(xq k l 0).map (fun p=>(p.1+i,p.2))
 | [],_=>rfl
 | (a,v)::l,i=>by
  by_cases h:k=a
  ·simp[xq,h]
  ·simp only[xq,if_neg h];rw[Ac k l (i+1),Ac k l (0+1)];cases xq k l 0<;>simp;omega
theorem qU(a:α)(v:Value)(l:List (α × Value))(k:α):oh ((a,v)::l) k=if k=a then some v else oh l k:=by
 unfold oh;by_cases h:k=a
 ·simp[xq,h]
 ·simp only[xq,if_neg h];rw[Ac];cases xq k l 0<;>rfl
theorem yw{k:α}:∀ {l:List (α × Value)} {i:Nat},xq k l i=none->k ∉ l.map (·.1)/\∀ v,mE l k v=l++[(k,v)]
 | [],_,_=>by simp[mE]
 | (a,u)::l,i,h=>by
  by_cases I:k=a
  ·simp[xq,I] at h
  ·simp only[xq,if_neg I] at h;obtain⟨M,J⟩:=yw h;refine⟨by simp only[lk,np,not_or];exact⟨I,M⟩,fun v=>by simp[mE,I,J]⟩
theorem yC{k:α}:∀ {l:List (α × Value)} {i j:Nat} {u:Value},xq k l i=some (j,u)->∃ n,j=i+n/\l[n]?=some (k,u)/\∀ v,mE l k v=l.set n (k,v)
 | [],_,_,_,h=>by simp[xq] at h
 | (a,x)::l,i,j,u,h=>by
  by_cases I:k=a
  ·subst I;simp only[xq,if_true,Option.some.injEq,Prod.mk.injEq] at h;exact⟨0,by omega,by simp[h.2],fun v=>by simp[mE]⟩
  ·simp only[xq,if_neg I] at h;obtain⟨n,h1,J,M⟩:=yC h;exact⟨n+1,by omega,by simpa using J,fun v=>by simp[mE,I,M]⟩
theorem SK(k:α)(v:Value)(l:List (α × Value)):(mE l k v).map (·.1)=if k ∈ l.map (·.1) then l.map (·.1) else l.map (·.1)++[k]:=by
 cases h:xq k l 0 with
 | none=>obtain⟨J,I⟩:=yw h;rw[I,if_neg J];simp
 | some p=>
  obtain⟨j,u⟩:=p;obtain⟨n,J,I,h3⟩:=yC h;have hm:k ∈ l.map (·.1):=List.mem_map.2 ⟨(k,u),pT I,rfl⟩;rw[h3,if_pos hm,vz];have:(l.map (·.1))[n]?=some k:=by simp[I]
  obtain⟨hl,M⟩:=List.getElem?_eq_some_iff.1 this
  conv=>rhs;rw[<-PT hl]
  rw[M]
variable{kv:α→Value}{w w':World}{b:Nat}{l:List (α × Value)}
theorem Dt{E:TypeId}{z:Value}(H:o7 P K kv)(ht:P.underlying t=some (.map K E))(M:∀ w,(zeroValue E).run P w=.ok z w)(h:EP kv es I l)(k:α)(w:World)(h1:w.heap[b]?=some (.map es I)):
  (Instr.lookup t (.map (some b)) (kv k) false).run P w=.ok ((oh l k).getD z) w:=by
 obtain⟨J,_⟩:=h;simp only[Instr.lookup,j9,run_underlying ht,ky,tW h1,kB,H.check,run_findKey H k w _ l J,oh];cases xq k l 0 with
 | none=>simp[M]
 | some p=>simp
theorem qE{E:TypeId}{z:Value}(H:o7 P K kv)(ht:P.underlying t=some (.map K E))(M:∀ w,(zeroValue E).run P w=.ok z w)(h:EP kv es I l)(k:α)(w:World)(h1:w.heap[b]?=some (.map es I)):
  (Instr.lookup t (.map (some b)) (kv k) true).run P w=.ok (.tuple #[(oh l k).getD z,.bool (oh l k).isSome]) w:=by
 obtain⟨J,_⟩:=h;simp only[Instr.lookup,j9,run_underlying ht,ky,tW h1,kB,H.check,run_findKey H k w _ l J,oh];cases xq k l 0 with
 | none=>simp[M]
 | some p=>simp
theorem Du{β γ:Type}(f:β->γ)(g:β->β)(x:γ):∀ (l:List β) (n:Nat),(∀ e,l[n]?=some e->f (g e)=x)->(l.modify n g).map f=(l.map f).set n x
 | [],_,_=>by simp
 | e::l,0,h=>by simp[h e rfl]
 | e::l,n+1,h=>by simp[Du f g x l n (fun e' he=>h e' (by simpa using he))]
theorem sM{β γ:Type}(f:β->γ)(g:β->β):∀ (l:List β) (n:Nat),(∀ e,f (g e)=f e)->(l.modify n g).map f=l.map f
 | [],_,_=>by simp
 | e::l,0,h=>by simp[h e]
 | e::l,n+1,h=>by simp[sM f g l n h]
theorem mem_modify{β:Type}(p:β->Prop)(g:β->β):∀ (l:List β) (n:Nat),(∀ e ∈ l,p e)->(∀ e,p e->p (g e))->∀ e ∈ l.modify n g,p e
 | [],_,_,_,e,h=>by simp at h
 | x::l,0,h,hg,e,I=>by
  simp at I;rcases I with rfl|I
  ·exact hg _ (h _ i7)
  ·exact h _ (by simp[I])
 | x::l,n+1,h,hg,e,I=>by
  simp at I;rcases I with rfl|I
  ·exact h _ i7
  ·exact mem_modify p g l n (fun e I=>h e (by simp[I])) hg e I
theorem vY{E:TypeId}(H:o7 P K kv)(ht:P.underlying t=some (.map K E))(h:EP kv es I l)(b:Nat)(k:α)(v:Value):
  ∃ aa J,EP kv aa J (mE l k v)/\∀ w:World,w.heap[b]?=some (.map es I)->(Instr.mapUpdate t (.map (some b)) (kv k) v).run P w=.ok () (setBlock w b (.map aa J)):=by
 obtain⟨h2,h3,h4,h5⟩:=h;cases hf:xq k l 0 with
 | none=>
  obtain⟨g1,g2⟩:=yw hf;refine⟨es.push ⟨kv k,v,I⟩,I+1,⟨?_,?_,?_,?_⟩,fun w h1=>?_⟩
  ·rw[g2];simp[h2]
  ·rw[g2];simp only[kp,lk,pL];exact List.nodup_append.2 ⟨h3,by simp,fun a ha b hb=>by simp at hb;subst hb;rintro rfl;exact g1 ha⟩
  ·simp only[Array.toList_push,kp,lk,pL];refine List.nodup_append.2 ⟨h4,by simp,fun a ha b hb=>?_⟩;simp at hb;subst hb;obtain⟨e,M,rfl⟩:=List.mem_map.1 ha;have:=h5 e M;omega
  ·intro e M;simp at M;rcases M with M|rfl
   ·have:=h5 e (by simpa using M);omega
   ·simp
  ·simp only[Instr.mapUpdate,j9,run_underlying ht,ky,tW h1,H.check,run_findKey H k w _ l h2,hf,PQ _ h1];rfl
 | some p=>
  obtain⟨j,u⟩:=p;obtain⟨n,g1,g2,g3⟩:=yC hf;obtain rfl:j=n:=by omega
  obtain⟨e,M,ac,ad⟩:=acP h2 g2;have ab:es[j]?=some e:=by simpa using M
  refine⟨es.modify j (fun e=>{ e with key:=kv k,val:=v }),I,⟨?_,?_,?_,?_⟩,fun w h1=>?_⟩
  ·rw[g3,IP,Du (fun e:MapEntry=>(e.key,e.val)) (fun e=>{ e with key:=kv k,val:=v }) (kv k,v) _ _ (fun _ _=>rfl),h2,vz]
  ·have:=SK k v l;rw[this];split
   ·exact h3
   ·rename_i hm;exact absurd (List.mem_map.2 ⟨(k,u),pT g2,rfl⟩) hm
  ·rw[IP,sM (fun e:MapEntry=>e.born) (fun e=>{ e with key:=kv k,val:=v }) _ _ (fun _=>rfl)];exact h4
  ·rw[IP];exact mem_modify (fun e:MapEntry=>e.born<I) (fun e=>{ e with key:=kv k,val:=v }) _ _ h5 (fun _ h=>h)
  ·simp only[Instr.mapUpdate,j9,run_underlying ht,ky,tW h1,H.check,run_findKey H k w _ l h2,hf,ab,va,C4,ac,Instr.keyThatStays,H.same,if_true,kB,PQ _ h1];rfl
end maps
section
variable{P:Program}
theorem Sx{E:TypeId}(hE:P.underlying E=some (.int k))(a b:Int)(n:Nat)(w:World):
  (Op.equalIn (n+1) E (.int k a) (.int k b)).run P w=.ok (a==b) w:=by
 simp[Op.equalIn,run_underlying hE]
theorem Gn{E:TypeId}{d:TypeDesc}(hE:P.underlying E=some d)(hd:(match d with|.struct _|.array _ _=>true|_=>false)=false)(cs:Array Value)(j:Nat)(v:Value)(hv:cs[j]?=some v)(w:World):
  (part E cs j).run P w=.ok v w:=by
 cases d<;>simp_all[part,isAgg,run_underlying hE]
theorem acQ{E:TypeId}(J:P.underlying K=some (.array 2 E))(I:P.underlying E=some (.int k))(hi:P.info? E=some i)(hs:i.size=1)(a b c d:Int)(n:Nat)(w:World):
  (Op.equalIn (n+2) K (.agg #[.int k a,.int k b]) (.agg #[.int k c,.int k d])).run P w=.ok (a==c&&b==d) w:=by
 have h:=fun cs j v hv w=>Gn (P:=P) I rfl cs j v hv w;unfold Op.equalIn;simp only[j9,run_underlying J,ky,sizeOf,typeInfo,run_program,hi,kB,hs,M3,Std.Legacy.Range.size,sn,Nat.add_one_sub_one,Nat.div_one,List.range'];simp only[GM,List.forIn_nil,j9,h #[.int k a,.int k b] 0 _ rfl,h #[.int k c,.int k d] 0 _ rfl,h #[.int k a,.int k b] 1 _ rfl,h #[.int k c,.int k d] 1 _ rfl,ky,Sx I,sx,Nat.one_mul,mB];by_cases M:a=c<;>by_cases h2:b=d<;>simp[M,h2,h #[.int k a,.int k b] 1 _ rfl,h #[.int k c,.int k d] 1 _ rfl,h #[.int k c,.int k b] 1 _ rfl,Sx I]
theorem Le{E:TypeId}(hE:P.underlying E=some (.int k))(e:Bool)(a:Int)(n:Nat)(w:World):(Instr.checkKey e (n+1) E (.int k a)).run P w=.ok () w:=by
 simp[Instr.checkKey,run_underlying hE]
theorem SN{E:TypeId}(hK:P.underlying K=some (.array 2 E))(I:P.underlying E=some (.int k))(hi:P.info? E=some i)(J:i.size=1)(e:Bool)(a b:Int)(n:Nat)(w:World):
  (Instr.checkKey e (n+2) K (.agg #[.int k a,.int k b])).run P w=.ok () w:=by
 have h:=fun cs j v M w=>Gn (P:=P) I rfl cs j v M w;unfold Instr.checkKey;simp only[j9,run_underlying hK,ky,sizeOf,typeInfo,run_program,hi,kB,J,M3,Std.Legacy.Range.size,sn,Nat.add_one_sub_one,Nat.div_one,List.range'];simp only[GM,List.forIn_nil,j9,h #[.int k a,.int k b] 0 _ rfl,h #[.int k a,.int k b] 1 _ rfl,ky,Le I,sx,Nat.one_mul,mB,kB];simp[hi,J,h #[.int k a,.int k b] 1 _ rfl,Le I]
def eP(k:IntKind)(p:Int × Int):Value:=.agg #[.int k p.1,.int k p.2]
theorem NU{E:TypeId}(h:P.underlying K=some (.array 2 E))(J:P.underlying E=some (.int k))(hi:(P.info? E).map (·.size)=some 1):o7 P K (eP k):=by
 obtain⟨i,hi,I⟩:=Option.map_eq_some_iff.1 hi;refine⟨fun a b w=>?_,fun e a w=>SN h J hi I e a.1 a.2 9998 w,fun a=>?_,_,h,fun a b=>.inl rfl⟩
 ·rw[Op.equal,Op.maxDepth,eP,eP,acQ h J hi I a.1 a.2 b.1 b.2 9998 w];obtain⟨a1,a2⟩:=a;obtain⟨b1,b2⟩:=b;by_cases h1:a1=b1<;>by_cases M:a2=b2<;>simp[h1,M]
 ·simp[eP,Instr.sameBits]
end
section slices
variable{P:Program}
def eO(P:Program)(t e:TypeId)(z:Value)(size bytes:Nat):Prop:=
 P.underlying t=some (.slice e)/\(P.info? e).map (fun i=>(i.zero,i.size,i.bytes))=some (some z,size,bytes)/\z.cells.size=size/\0<size
def Src(w:World)(A:eV)(n size:Nat)(xs:List Value):Prop:=
 xs.length=n*size/\(∀ u ∈ xs,u.oneCell'=true)/\(0<n->∃ ad,A=some ad/\∀ j u,xs[j]?=some u->w.cell? (ad.add j)=some u)
theorem Src.cells{size:Nat}(h:Src w A n size xs){I:Addr}(hA:A=some I):∀ j u,xs[j]?=some u->w.cell? (I.add j)=some u:=by
 subst hA;intro j u J;rcases FA n with h0|h0
 ·subst h0;have:xs=[]:=sE (by simpa using h.1);subst this;simp at J
 ·obtain⟨aa,e,M⟩:=h.2.2 h0;cases e;exact M j u J
theorem Src.none_{size:Nat}:Src w A 0 size []:=⟨by simp,by simp,fun h=>absurd h eL⟩
theorem Addr.add_block(a:Addr)(n:Nat):(a.add n).block=a.block:=by unfold Addr.add;split<;>rfl
theorem Addr.Ad(g n:Nat):(⟨g,0,none⟩:Addr).add n=⟨g,n,none⟩:=by
 unfold Addr.add;split<;>simp_all
theorem Src.keep{size:Nat}(h:Src w A n size xs)(J:∀ I:Addr,A=some I->w'.heap[I.block]?=w.heap[I.block]?):Src w' A n size xs:=
 ⟨h.1,h.2.1,fun hn=>by
  obtain⟨I,e,M⟩:=h.2.2 hn
  exact⟨I,e,fun j u hu=>by rw[<-M j u hu];exact Fs (by rw[Addr.add_block];exact J I e)⟩⟩
theorem Src.acR{size:Nat}(h:w.ownsRow base e size (.slice A n c) n xs)(h1:∀ u ∈ xs,u.oneCell'=true):Src w A n size xs:=by
 refine⟨h.1,h1,fun hn=>?_⟩;obtain⟨g,cap,I,_,J⟩:=h.form hn;have M:A=some ⟨g,0,none⟩:=by injection I
 subst M;exact⟨_,rfl,h.cells (g:=g) rfl⟩
theorem aaf{size bytes:Nat}(S:eO P t e z size bytes)(ty:TypeId)(w:World)(base:Nat)(I:w.ownsRow base e size v n xs){m:Nat}(hs:Src w A m size news)(ac:n+m<=1000000)(af:bytes<=1000)(J:base<=w.heap.size):
  ∃ M w',(Builtin.append_ #[t,t] ty #[v,.slice A m c]).run P w=.ok M w'/\w'.ownsRow base e size M (n+m) (xs++news)/\w.grownBy w' v.ownBlock /\
   (M.ownBlock=v.ownBlock\/M.ownBlock=some w.heap.size):=by
 obtain⟨ht,hi,hz,ai⟩:=S;obtain⟨i,hi,ag,ae,aa⟩:=info_parts hi;have hb:(n+m)*bytes<=140737488355328:=j8 (sT ac af) eL;cases A with
 | some ad=>
  obtain⟨M,w',h1,h2,h3,_,h5⟩:=run_append_own_at (P:=P) w base t ty e i z size bytes ht hi ag ae aa hz ai v n xs I ad m c news hs.1 (hs.cells rfl) hs.2.1 (by simp only[maxLen];omega) hb J;exact⟨M,w',h1,h2,h3,h5⟩
 | none=>
  have hm:m=0:=by
   rcases FA m with h0|h0
   ·exact h0
   ·obtain⟨ad,h,_⟩:=hs.2.2 h0;cases h
  subst hm;have hn:news=[]:=sE (by simpa using hs.1);subst hn;refine⟨v,w,?_,by simpa using I,⟨rfl,rfl,rfl,fL _,fun _ _ _=>rfl⟩,.inl rfl⟩;rcases I.2 with⟨rfl,rfl⟩|⟨g,cap,cur,rfl,_,_,ab,_⟩
  ·simp[Builtin.append_,run_underlying ht,sizeOf,typeInfo,hi,Builtin.lenOf,Builtin.firstCells]
  ·simp[Builtin.append_,run_underlying ht,sizeOf,typeInfo,hi,Builtin.lenOf,Builtin.firstCells,ab,storeCells]
theorem V7{o:Oper}{a:Act}{K:Act->World->Prop}(s x:Operand)(ho:o.op=.call { callee:=.builtin .append,args:=#[s,x],argTypes:=#[t,t] }){size bytes:Nat}(S:eO P t e z size bytes)(w:World)(base:Nat)(hsv:a.eval s=v)(hown:w.ownsRow base e size v n xs){m:Nat}(hx:a.eval x=.slice A m c)(hs:Src w A m size news)(h63:n+m<=1000000)(hby:bytes<=1000)(hbase:base<=w.heap.size)(h:∀ I w',w'.ownsRow base e size I (n+m) (xs++news)->w.grownBy w' v.ownBlock->(I.ownBlock=v.ownBlock\/I.ownBlock=some w.heap.size)->K (a.put o.dst I) w'):o.wp P a w K Q:=by
 obtain⟨I,w',J,M,h3,h4⟩:=aaf S o.type w base hown (c:=c) hs h63 hby hbase;unfold Oper.wp execOp;simp only[ho,resolve,invoke,builtin,j9,kB,ky,AF,lk,pL,hsv,hx,J];exact h I w' M h3 h4
theorem jF{ops:Array Oper}{rest:List Oper}{o:Oper}{a:Act}(J:o.guard=none)(s x:Operand)(ho:o.op=.call { callee:=.builtin .append,args:=#[s,x],argTypes:=#[t,t] }){size bytes:Nat}(S:eO P t e z size bytes)(w:World)(base:Nat)(hsv:a.eval s=v)(hown:w.ownsRow base e size v n xs){m:Nat}(hx:a.eval x=.slice A m c)(hs:Src w A m size news)(h63:n+m<=1000000)(hby:bytes<=1000)(hbase:base<=w.heap.size)(h:∀ I w',w'.ownsRow base e size I (n+m) (xs++news)->w.grownBy w' v.ownBlock->(I.ownBlock=v.ownBlock\/I.ownBlock=some w.heap.size)->wpList P ops Q rest (a.put o.dst I) w'):wpList P ops Q (o::rest) a w:=
 wpList_plain J fun _ hK=>V7 s x ho S w base hsv hown hx hs h63 hby hbase fun I w' M h3 h4=>hK _ _ (h I w' M h3 h4)
theorem Ae{size:Nat}(h:w.ownsRow base e size v n xs)(I:∀ g,v.ownBlock=some g->w'.heap[g]?=w.heap[g]?):w'.ownsRow base e size v n xs:=by
 refine⟨h.1,?_⟩;rcases h.2 with h2|⟨g,cap,cur,rfl,h3,h4,h5⟩
 ·exact .inl h2
 ·exact .inr ⟨g,cap,cur,rfl,h3,(I g rfl).trans h4,h5⟩
theorem Dw{size:Nat}(h:w.ownsRow base e size v n xs)(hg:v.ownBlock=some g):g<w.heap.size:=(h.lt g hg).2
theorem Src.one(h:w.heap[g]?=some (.cells #[v] t (0,0)))(J:v.oneCell'=true):Src w (some ⟨g,0,none⟩) 1 1 [v]:=
 ⟨rfl,by simpa using J,fun _=>⟨_,rfl,fun j u I=>by
  match j,I with
  | 0,I=>simp at I;subst I;rw[Addr.Ad];simp[World.cell?,h]
  | j+1,I=>simp at I⟩⟩
def oo(A:eV)(c k size:Nat):eV:=if c=k then A else A.map (·.add (k*size))
theorem jG{size bytes:Nat}(S:eO P t e z size bytes)(A:eV)(n c k:Nat)(kd:IntKind)(l:Int)(hl:l=k)(h:k<=n)(w:World):
  (Instr.slice t (.slice A n c) (some (.int kd l)) none none).run P w=.ok (.slice (oo A c k size) (n-k) (c-k)) w:=by
 obtain⟨J,hi,hz,ab⟩:=S;obtain⟨i,hi,aa,I,M⟩:=info_parts hi;subst hl;have h0:(0:Int)<=k/\(k:Int)<=n:=by omega
 simp[Instr.slice,run_underlying J,Instr.sliceBounds,Instr.sliceBound,asIntOf,h,sizeOf,typeInfo,hi,I,oo]
theorem Src.cut{size k:Nat}(h:Src w A n size xs)(hk:k<=n)(hc:n<=c):Src w (oo A c k size) (n-k) size (xs.drop (k*size)):=by
 refine⟨by rw[k8,h.1,Nat.sub_mul],fun u M=>h.2.1 u (zp M),fun hn=>?_⟩;obtain⟨J,rfl,I⟩:=h.2.2 eL;rw[oo,if_neg eL];refine⟨J.add (k*size),rfl,fun j u M=>?_⟩;have e:(J.add (k*size)).add j=J.add (k*size+j):=by
  unfold Addr.add;by_cases h1:k*size=0<;>by_cases h2:j=0<;>simp[h1,h2,vx]
 rw[e];exact I _ u (by rw[<-M,List.getElem?_drop])
end slices
def lO(p:Prop):Prop:=p
theorem held{p:Prop}(h:lO p):p:=h
theorem lO.mk{p:Prop}(h:p):lO p:=h
variable{w0 W W':World}{b:Nat}
theorem Src.open_{size:Nat}(h:Src w A n size xs)(hn:0<n)(hs:0<size):
  ∃ b o,A=some ⟨b,o,none⟩/\∀ j u,xs[j]?=some u->w.cell? ⟨b,o+j,none⟩=some u:=by
 obtain⟨ad,rfl,hc⟩:=h.2.2 hn;have hl:0<xs.length:=by rw[h.1];exact Ha hn hs
 have J:=hc 0 xs[0] (ic hl);obtain⟨b,o,sp⟩:=ad;have I:sp=none:=by
  cases sp with
  | none=>rfl
  | some x=>
   exfalso;simp only[Addr.add,if_true,World.cell?] at J;split at J<;>simp at J
 subst I;refine⟨b,o,rfl,fun j u hu=>?_⟩;have:=hc j u hu;by_cases M:j=0
 ·subst M;simpa[Addr.add] using this
 ·simpa[Addr.add,M] using this
def aU:=World->(Nat->Prop)->Prop
class aU.Ok(O:aU):Prop where
 lt:∀ {w F},O w F->∀ i,F i->i<w.heap.size
 keep:∀ {w w' F},O w F->(∀ i,F i->w'.heap[i]?=w.heap[i]?)->O w' F
def bT(w:World)(F:Nat->Prop)(R:aU)(w':World):Prop:=∃ F',R w' F'/\Mod F w w'/\∀ i,F' i->F i\/(w.heap.size<=i/\i<w'.heap.size)
def aj(A B:aU):aU:=fun w F=>∃ F1 F2,A w F1/\B w F2/\(∀ i,F1 i->¬ F2 i)/\∀ i,F i↔F1 i\/F2 i
def bG:aU:=fun _ F=>∀ i,¬ F i
structure qZ(N:Nat)(w0:World)(O:aU)(W:World):Prop where
 own:∃ F,O W F/\∀ i,F i->N<=i
 cK:Below N w0 W
 big:N<=w0.heap.size
theorem aM:bG.Ok:=⟨fun h i hi=>(h i hi).elim,fun h _=>h⟩
instance : bG.Ok:=aM
theorem aB{A B:aU}(ha:A.Ok)(hb:B.Ok):(aj A B).Ok:=
 ⟨fun⟨F1,F2,h1,h2,_,h4⟩ i hi=>((h4 i).1 hi).elim (ha.lt h1 i) (hb.lt h2 i),
  fun⟨F1,F2,h1,h2,h3,h4⟩ hk=>⟨F1,F2,ha.keep h1 (fun i hi=>hk i ((h4 i).2 (.inl hi))),hb.keep h2 (fun i hi=>hk i ((h4 i).2 (.inr hi))),h3,h4⟩⟩
instance {A B:aU} [ha:A.Ok] [hb:B.Ok]:(aj A B).Ok:=aB ha hb
section
variable{N:Nat}{w0 W W':World}{A B C D O R:aU}
theorem qZ.start(w:World):qZ w.heap.size w bG w:=⟨⟨fun _=>False,fun _ h=>h,fun _ h=>h.elim⟩,fe _ _,fL _⟩
theorem qZ.size(h:qZ N w0 O W):N<=W.heap.size:=j8 h.big h.cK.size
theorem qZ.below(h:qZ N w0 O W)(ho:O.Ok)(hb:Below W.heap.size W W'):qZ N w0 O W':=by
 obtain⟨F,h1,h2⟩:=h.own;exact⟨⟨F,ho.keep h1 (fun i hi=>hb.block i (ho.lt h1 i hi)),h2⟩,h.cK.trans (hb.mono h.size),h.big⟩
theorem qZ.take(h:qZ N w0 (aj A B) W)(hb:B.Ok):∃ F,A W F/\(∀ i,F i->N<=i)/\∀ (R:aU) (W':World),bT W F R W'->qZ N w0 (aj R B) W':=by
 have hs:=h.size;obtain⟨F,⟨F1,F2,h1,h2,h3,M⟩,J⟩:=h.own;refine⟨F1,h1,fun i hi=>J i ((M i).2 (.inl hi)),fun R W' hp=>?_⟩;obtain⟨F',g1,g2,g3⟩:=hp;refine⟨⟨fun i=>F' i\/F2 i,⟨F',F2,g1,hb.keep h2 (fun i hi=>g2.block i (hb.lt h2 i hi) (fun hf=>h3 i hf hi)),fun i hi I=>?_,fun i=>qT⟩,fun i hi=>?_⟩,?_,h.big⟩
 ·rcases g3 i hi with g|g
  ·exact h3 i g I
  ·have:=hb.lt h2 i I;omega
 ·rcases hi with hi|hi
  ·rcases g3 i hi with g|g
   ·exact J i ((M i).2 (.inl g))
   ·omega
  ·exact J i ((M i).2 (.inr hi))
 ·exact h.cK.trans ⟨g2.os,g2.tape,g2.output,g2.size,fun k hk=>g2.block k eL (fun e=>by have:=J k ((M k).2 (.inl e));omega)⟩
theorem qZ.fresh(h:qZ N w0 O W)(ho:O.Ok)(I:bT W eR R W'):qZ N w0 (aj R O) W':=by
 have hs:=h.size;obtain⟨F,J,M⟩:=h.own;have h3:qZ N w0 (aj bG O) W:=⟨⟨F,⟨fun _=>False,F,fun _ h=>h,J,fun _ h=>h.elim,fun i=>by simp⟩,M⟩,h.cK,h.big⟩;obtain⟨F0,e1,e2,e3⟩:=h3.take ho;refine e3 R W' ?_;obtain⟨F',g1,g2,g3⟩:=I;exact⟨F',g1,g2.mono (fun _ _ h=>h.elim),fun i hi=>(g3 i hi).elim (fun h=>h.elim) .inr⟩
theorem qZ.imp(h:qZ N w0 A W)(hi:∀ w F,A w F->B w F):qZ N w0 B W:=by
 obtain⟨F,h1,h2⟩:=h.own;exact⟨⟨F,hi _ _ h1,h2⟩,h.cK,h.big⟩
theorem je(h:aj A B w F):aj B A w F:=by
 obtain⟨F1,F2,h1,h2,h3,h4⟩:=h;exact⟨F2,F1,h2,h1,fun i h g=>h3 i g h,fun i=>(h4 i).trans Or.comm⟩
theorem jJ(h:aj A (aj B C) w F):aj B (aj A C) w F:=by
 obtain⟨J,F2,h1,⟨F3,F4,h2,h3,h5,I⟩,M,h8⟩:=h;refine⟨F3,fun i=>J i\/F4 i,h2,⟨J,F4,h1,h3,fun i hi h4=>M i hi ((I i).2 (.inr h4)),fun i=>qT⟩,fun i hi h=>?_,fun i=>?_⟩
 ·rcases h with h|h
  ·exact M i h ((I i).2 (.inl hi))
  ·exact h5 i hi h
 ·rw[h8,I];constructor<;>rintro (h|h|h)<;>simp[h]
theorem bD{A' B':aU}(h:aj A B w F)(ha:∀ F,A w F->A' w F)(hb:∀ F,B w F->B' w F):aj A' B' w F:=by
 obtain⟨F1,F2,h1,h2,h3,h4⟩:=h;exact⟨F1,F2,ha _ h1,hb _ h2,h3,h4⟩
theorem ko(h:aj A bG w F):A w F:=by
 obtain⟨F1,F2,h1,h2,h3,h4⟩:=h;have:F1=F:=by funext i;exact propext ⟨fun h=>(h4 i).2 (.inl h),fun h=>((h4 i).1 h).elim id (fun h=>(h2 i h).elim)⟩
 exact this ▸ h1
theorem qZ.swap(h:qZ N w0 (aj A B) W):qZ N w0 (aj B A) W:=h.imp fun _ _=>je
theorem qZ.kQ(h:qZ N w0 (aj A (aj B C)) W):qZ N w0 (aj B (aj A C)) W:=h.imp fun _ _=>jJ
theorem qZ.L5(h:qZ N w0 (aj A (aj B (aj C D))) W):qZ N w0 (aj C (aj A (aj B D))) W:=
 (h.imp fun _ _ h=>bD h (fun _ h=>h) (fun _ h=>jJ h)).kQ
theorem qZ.drop(h:qZ N w0 (aj A B) W):qZ N w0 B W:=by
 obtain⟨F,⟨F1,F2,h1,h2,h3,h4⟩,h5⟩:=h.own;exact⟨⟨F2,h2,fun i hi=>h5 i ((h4 i).2 (.inr hi))⟩,h.cK,h.big⟩
theorem qZ.fst(h:qZ N w0 (aj A B) W):∃ F,A W F/\∀ i,F i->N<=i:=by
 obtain⟨F,⟨F1,F2,h1,h2,h3,h4⟩,h5⟩:=h.own;exact⟨F1,h1,fun i hi=>h5 i ((h4 i).2 (.inl hi))⟩
theorem qZ.one(h:qZ N w0 A W):qZ N w0 (aj A bG) W:=by
 obtain⟨F,h1,h2⟩:=h.own;exact⟨⟨F,⟨F,fun _=>False,h1,fun _ h=>h,fun _ _ h=>h,fun i=>by simp⟩,h2⟩,h.cK,h.big⟩
theorem qZ.cell(h:qZ N w0 O W){p:Addr}{u:Value}(hc:w0.cell? p=some u)(hp:p.block<N):W.cell? p=some u:=by rw[h.cK.cell hp];exact hc
theorem qZ.src(h:qZ N w0 O W){A:eV}{size:Nat}(hs:Src w0 A n size xs)(hN:N=w0.heap.size):Src W A n size xs:=by
 subst hN;refine⟨hs.1,hs.2.1,fun hn=>?_⟩;obtain⟨ad,e,hc⟩:=hs.2.2 hn;exact⟨ad,e,fun j u hu=>h.cell (hc j u hu) (py _ _ (hc j u hu))⟩
end
theorem qZ.last{N:Nat}{A B C:aU}(h:qZ N w0 (aj A (aj B C)) W):qZ N w0 (aj C (aj A B)) W:=
 (h.imp fun _ _ h=>bD h (fun _ h=>h) (fun _ h=>je h)).kQ
def av(g:Nat)(cs:Array Value)(t:TypeId):aU:=fun w F=>w.heap[g]?=some (.cells cs t (0,0))/\∀ i,F i↔i=g
theorem aF{cs:Array Value}:(av g cs t).Ok:=
 ⟨fun h i hi=>by rw[(h.2 i).1 hi];exact lt_of_block h.1,fun h hk=>⟨(hk g ((h.2 g).2 rfl)).trans h.1,h.2⟩⟩
instance {g:Nat} {cs:Array Value} {t:TypeId}:(av g cs t).Ok:=aF
theorem dU(w:World)(cs:Array Value)(t:TypeId):bT w eR (av w.heap.size cs t) (w.alloc (.cells cs t)):=
 ⟨fun i=>i=w.heap.size,⟨Ld rfl,fun i=>qT⟩,Mod.of_below ((fe _ _).alloc (fL _) _),fun i hi=>.inr (by subst hi;simp)⟩
def aV(e:TypeId)(size:Nat)(v:Value)(n:Nat)(xs:List Value):aU:=fun w F=>w.ownsRow 0 e size v n xs/\∀ i,F i↔v.ownBlock=some i
theorem dQ{size:Nat}:(aV e size v n xs).Ok:=
 ⟨fun h i hi=>Dw h.1 ((h.2 i).1 hi),fun h hk=>⟨Ae h.1 (fun g hg=>hk g ((h.2 g).2 hg)),h.2⟩⟩
instance {e:TypeId} {size:Nat} {v:Value} {n:Nat} {xs:List Value}:(aV e size v n xs).Ok:=dQ
theorem gu(w:World)(e:TypeId)(size:Nat):aV e size (.slice none 0 0) 0 [] w eR:=⟨World.ownsRow_nil _ _ _ _,fun i=>by simp[Value.ownBlock]⟩
theorem Xu{b':Nat}{size:Nat}(h:w.ownsRow b e size v n xs)(hb:b'<=b):w.ownsRow b' e size v n xs:=
 ⟨h.1,h.2.imp id (fun⟨g,cap,cur,h1,h2,h3⟩=>⟨g,cap,cur,h1,j8 hb h2,h3⟩)⟩
theorem jk{size:Nat}{M:Value}{n':Nat}{J:List Value}(h:aV e size v n xs W F)(h1:W'.ownsRow 0 e size M n' J)(hg:W.grownBy W' v.ownBlock)(I:M.ownBlock=v.ownBlock\/M.ownBlock=some W.heap.size):
  bT W F (aV e size M n' J) W':=by
 refine⟨fun i=>M.ownBlock=some i,⟨h1,fun i=>qT⟩,Mod.yu hg (fun k hk _=>(h.2 k).2 hk),fun i hi=>?_⟩;rcases I with I|I
 ·exact .inl ((h.2 i).2 (I ▸ hi))
 ·rw[I] at hi;injection hi with hi;subst hi
  exact .inr ⟨fL _,Dw h1 I⟩
theorem vH{size:Nat}(h:W'.ownsRow W.heap.size e size v n xs)(hb:Below W.heap.size W W'):bT W eR (aV e size v n xs) W':=
 ⟨fun i=>v.ownBlock=some i,⟨Xu h (fy _),fun i=>qT⟩,Mod.of_below hb,fun i hi=>.inr (h.lt i hi)⟩
theorem iK{size:Nat}(h:aV e size (.slice A n c) n xs W F)(h1:∀ u ∈ xs,u.oneCell'=true):Src W A n size xs:=Src.acR h.1 h1
theorem iy{size:Nat}(h:W.ownsRow b e size v n xs):∃ A c,v=.slice A n c:=by
 rcases h.2 with⟨rfl,rfl⟩|⟨g,cap,cur,rfl,_⟩
 ·exact⟨none,0,rfl⟩
 ·exact⟨_,_,rfl⟩
instance:bG.Ok:=aM
instance {A B:aU} [ha:A.Ok] [hb:B.Ok]:(aj A B).Ok:=aB ha hb
instance {g:Nat} {cs:Array Value} {t:TypeId}:(av g cs t).Ok:=aF
instance {e:TypeId} {size:Nat} {v:Value} {n:Nat} {xs:List Value}:(aV e size v n xs).Ok:=dQ
theorem aO{A:aU}[h:A.Ok]:A.Ok:=h
instance {A:aU} [h:A.Ok]:A.Ok:=aO
structure aI(F0:Nat->Prop)(w0:World)(O:aU)(W:World):Prop where
 own:∃ F,O W F/\∀ i,F i->F0 i\/w0.heap.size<=i
 mod:Mod F0 w0 W
section
variable{F0:Nat→Prop}{w0 W W':World}{A B C D O R:aU}
theorem aI.start{F0:Nat->Prop}(h:O w F0):aI F0 w O w:=⟨⟨F0,h,fun i hi=>.inl hi⟩,Mod.refl _ _⟩
theorem aI.begin(w:World):aI eR w bG w:=⟨⟨fun _=>False,fun _ h=>h,fun _ h=>h.elim⟩,Mod.refl _ _⟩
theorem aI.size(h:aI F0 w0 O W):w0.heap.size<=W.heap.size:=h.mod.size
theorem aI.cK(h:aI eR w0 O W):Below w0.heap.size w0 W:=h.mod.below (fun _ _ h=>h)
theorem aI.post(h:aI F0 w0 O W)(ho:O.Ok):bT w0 F0 O W:=by
 obtain⟨F,h1,h2⟩:=h.own;exact⟨F,h1,h.mod,fun i hi=>(h2 i hi).imp id (fun g=>⟨g,ho.lt h1 i hi⟩)⟩
theorem aI.imp(h:aI F0 w0 A W)(hi:∀ w F,A w F->B w F):aI F0 w0 B W:=by
 obtain⟨F,h1,h2⟩:=h.own;exact⟨⟨F,hi _ _ h1,h2⟩,h.mod⟩
theorem aI.below(h:aI F0 w0 O W)(ho:O.Ok)(hb:Below W.heap.size W W'):aI F0 w0 O W':=by
 obtain⟨F,h1,h2⟩:=h.own;exact⟨⟨F,ho.keep h1 (fun i hi=>hb.block i (ho.lt h1 i hi)),h2⟩,h.mod.trans (Mod.of_below (F:=fun _=>False) hb) (fun _ _ h=>h) (fun _ _ h=>h.elim)⟩
theorem aI.drew(h:aI F0 w0 O W)(ho:O.Ok):aI F0 w0 O W.drew:=h.below ho (dB (fe _ _))
theorem aI.drewN(h:aI F0 w0 O W)(ho:O.Ok)(n:Nat):aI F0 w0 O (W.drewN n):=h.below ho (below_drewN (fe _ _) n)
theorem aI.take(h:aI F0 w0 (aj A B) W)(ha:A.Ok)(hb:B.Ok):∃ F,A W F/\(∀ i,F i->F0 i\/w0.heap.size<=i)/\∀ (R:aU) (W':World),bT W F R W'->aI F0 w0 (aj R B) W':=by
 have hs:=h.size;obtain⟨F,⟨F1,F2,h1,h2,h3,M⟩,J⟩:=h.own;refine⟨F1,h1,fun i hi=>J i ((M i).2 (.inl hi)),fun R W' hp=>?_⟩;obtain⟨F',g1,g2,g3⟩:=hp;refine⟨⟨fun i=>F' i\/F2 i,⟨F',F2,g1,hb.keep h2 (fun i hi=>g2.block i (hb.lt h2 i hi) (fun hf=>h3 i hf hi)),fun i hi I=>?_,fun i=>qT⟩,fun i hi=>?_⟩,?_⟩
 ·rcases g3 i hi with g|g
  ·exact h3 i g I
  ·have:=hb.lt h2 i I;omega
 ·rcases hi with hi|hi
  ·rcases g3 i hi with g|g
   ·exact J i ((M i).2 (.inl g))
   ·exact .inr eL
  ·exact J i ((M i).2 (.inr hi))
 ·exact h.mod.trans g2 (fun _ _ h=>h) (fun i hi hf=>(J i ((M i).2 (.inl hf))).elim id (fun g=>by omega))
theorem aI.one(h:aI F0 w0 A W):aI F0 w0 (aj A bG) W:=by
 obtain⟨F,h1,h2⟩:=h.own;exact⟨⟨F,⟨F,fun _=>False,h1,fun _ h=>h,fun _ _ h=>h,fun i=>by simp⟩,h2⟩,h.mod⟩
theorem aI.all(h:aI F0 w0 A W)(ha:A.Ok):∃ F,A W F/\∀ (R:aU) (W':World),bT W F R W'->aI F0 w0 R W':=by
 obtain⟨F,h1,-,h2⟩:=h.one.take ha aM;exact⟨F,h1,fun R W' hp=>(h2 R W' hp).imp fun _ _ h=>ko h⟩
theorem aI.fresh(h:aI F0 w0 O W)(ho:O.Ok)(I:bT W eR R W'):aI F0 w0 (aj R O) W':=by
 have h1:aI F0 w0 (aj bG O) W:=h.one.imp fun _ _ h=>je h;obtain⟨F,e1,-,J⟩:=h1.take aM ho;refine J R W' ?_;obtain⟨F',g1,g2,M⟩:=I;exact⟨F',g1,g2.mono (fun _ _ h=>h.elim),fun i hi=>(M i hi).elim (fun h=>h.elim) .inr⟩
theorem aI.swap(h:aI F0 w0 (aj A B) W):aI F0 w0 (aj B A) W:=h.imp fun _ _=>je
theorem aI.kQ(h:aI F0 w0 (aj A (aj B C)) W):aI F0 w0 (aj B (aj A C)) W:=h.imp fun _ _=>jJ
theorem aI.last(h:aI F0 w0 (aj A (aj B C)) W):aI F0 w0 (aj C (aj A B)) W:=
 (h.imp fun _ _ h=>bD h (fun _ h=>h) (fun _ h=>je h)).kQ
theorem aI.L5(h:aI F0 w0 (aj A (aj B (aj C D))) W):aI F0 w0 (aj C (aj A (aj B D))) W:=
 (h.imp fun _ _ h=>bD h (fun _ h=>h) (fun _ h=>jJ h)).kQ
theorem aI.drop(h:aI F0 w0 (aj A B) W):aI F0 w0 B W:=by
 obtain⟨F,⟨F1,F2,h1,h2,h3,h4⟩,h5⟩:=h.own;exact⟨⟨F2,h2,fun i hi=>h5 i ((h4 i).2 (.inr hi))⟩,h.mod⟩
theorem aI.fst(h:aI F0 w0 (aj A B) W):∃ F,A W F:=by
 obtain⟨F,⟨F1,F2,h1,h2,h3,h4⟩,h5⟩:=h.own;exact⟨F1,h1⟩
theorem aI.get(h:aI F0 w0 A W):∃ F,A W F:=by
 obtain⟨F,h1,_⟩:=h.own;exact⟨F,h1⟩
theorem aI.cell(h:aI F0 w0 O W){p:Addr}{u:Value}(hc:w0.cell? p=some u)(hp:¬ F0 p.block):W.cell? p=some u:=by rw[h.mod.cell (py _ _ hc) hp];exact hc
theorem aI.src(h:aI F0 w0 O W){A:eV}{size:Nat}(hs:Src w0 A n size xs)(hn:∀ ad:Addr,A=some ad->¬ F0 ad.block):Src W A n size xs:=by
 refine⟨hs.1,hs.2.1,fun h0=>?_⟩;obtain⟨ad,e,hc⟩:=hs.2.2 h0;exact⟨ad,e,fun j u hu=>h.cell (hc j u hu) (by rw[Addr.add_block];exact hn ad e)⟩
theorem aI.SO(h:aI eR w0 O W){A:eV}{size:Nat}(hs:Src w0 A n size xs):Src W A n size xs:=h.src hs (fun _ _ h=>h)
theorem DT(h:aj (aj A B) C w F):aj A (aj B C) w F:=by
 obtain⟨F1,M,⟨F3,F4,h1,h2,h3,J⟩,h5,h6,h7⟩:=h;refine⟨F3,fun i=>F4 i\/M i,h1,⟨F4,M,h2,h5,fun i h g=>h6 i ((J i).2 (.inr h)) g,fun i=>qT⟩,fun i hi I=>?_,fun i=>?_⟩
 ·rcases I with I|I
  ·exact h3 i hi I
  ·exact h6 i ((J i).2 (.inl hi)) I
 ·rw[h7,J,or_assoc]
theorem aI.assoc(h:aI F0 w0 (aj (aj A B) C) W):aI F0 w0 (aj A (aj B C)) W:=h.imp fun _ _=>DT
end
theorem DU(w:World)(e:TypeId)(size:Nat):bT w eR (aV e size (.slice (some ⟨w.heap.size,0,none⟩) 0 0) 0 []) (w.alloc (.cells #[] e)):=
 vH (World.ownsRow_made w #[] 0 (fL _) (by simp[maxLen]) i7) ((fe _ _).alloc (fL _) _)
variable{i:Nat}
theorem Src.take{size k:Nat}(h:Src w A n size xs)(J:k<=n):Src w A k size (xs.take (k*size)):=by
 refine⟨?_,fun u I=>h.2.1 u (xv I),fun hn=>?_⟩
 ·rw[kt,h.1];exact G1 (xy _ J)
 ·obtain⟨ad,e,M⟩:=h.2.2 eL;exact⟨ad,e,fun j u I=>M j u (by rw[CN] at I;split at I;exact I;cases I)⟩
theorem yI{P:Program}{z:Value}{size bytes:Nat}(S:eO P t e z size bytes)(A:eV)(n c k:Nat)(kd:IntKind)(l:Int)(hl:l=k)(h:k<=c)(w:World):
  (Instr.slice t (.slice A n c) none (some (.int kd l)) none).run P w=.ok (.slice A k c) w:=by
 obtain⟨J,hi,hz,ab⟩:=S;obtain⟨i,hi,aa,I,M⟩:=info_parts hi;subst hl;have h0:(0:Int)<=k/\(k:Int)<=c:=by omega
 cases A<;>simp[Instr.slice,run_underlying J,Instr.sliceBounds,Instr.sliceBound,asIntOf,h,sizeOf,typeInfo,hi,I,Addr.add]
theorem vD{base:Nat}{size:Nat}(h:w.ownsRow base e size (.slice A n c) n xs):n<=c/\(A=none->c=0):=by
 rcases h.2 with⟨I,M⟩|⟨g,cap,cur,I,_,_,J,_⟩
 ·injection I with e1 e2 e3;omega
 ·injection I with e1 e2 e3;subst e3;exact⟨J,fun e=>by rw[e] at e1;cases e1⟩
theorem LG{cur:Array Value}(v:Value)(h:w.heap[b]?=some (.cells cur t)):(w.setCell ⟨b,i,none⟩ v).heap[b]?=some (.cells (cur.setIfInBounds i v) t):=by
 rw[setCell_eq_setRow w b i cur t (0,0) v h];exact setRow_heap w b cur _ t (0,0) h
theorem uI{cs:Array Value}(h:av g cs t w F)(i:Nat)(v:Value):bT w F (av g (cs.setIfInBounds i v) t) (w.setCell ⟨g,i,none⟩ v):=
 ⟨F,⟨LG v h.1,h.2⟩,(Mod.refl _ _).setCell v (fun _=>(h.2 g).2 rfl),fun i hi=>.inl hi⟩
theorem ay{cs:Array Value}(h:av g cs t w F)(hv:cs[i]?=some v):w.cell? ⟨g,i,none⟩=some v:=by
 simp[World.cell?,h.1,hv]
theorem aN{cs:Array Value}(h:av g cs t w F)(i:Nat):w.frozen? ⟨g,i,none⟩=false:=by
 simp[World.frozen?,h.1]
def aL:List aU->aU
 | []=>bG
 | A::l=>aj A (aL l)
theorem lJ:∀ {l:List aU},(∀ A ∈ l,A.Ok)->(aL l).Ok
 | [],_=>aM
 | A::l,h=>aB (h A i7) (lJ (fun B hB=>h B (by simp[hB])))
variable{k j:Nat}
theorem TM{A:aU}(h:A w F):aj A bG w F:=⟨F,fun _=>False,h,fun _ h=>h,fun _ _ h=>h,fun i=>by simp⟩
theorem Mr{A B C:aU}(h:aj A (aj B C) w F):aj (aj A B) C w F:=by
 obtain⟨F1,F2,h1,⟨F3,F4,h2,h3,h4,J⟩,M,h7⟩:=h;refine⟨fun i=>F1 i\/F3 i,F4,⟨F1,F3,h1,h2,fun i hi I=>M i hi ((J i).2 (.inl I)),fun i=>qT⟩,h3,fun i hi I=>?_,fun i=>?_⟩
 ·rcases hi with hi|hi
  ·exact M i hi ((J i).2 (.inr I))
  ·exact h4 i hi I
 ·rw[h7,J,or_assoc]
theorem QS:∀ {l:List aU} {k:Nat} (I:k<l.length) {w:World} {F:Nat->Prop},aL l w F->aj l[k] (aL (l.eraseIdx k)) w F
 | A::l,0,_,_,_,h=>h
 | A::l,k+1,I,w,F,h=>by
  have M:aj A (aL l) w F:=h;have J:aj A (aj (l[k]'(by simpa using I)) (aL (l.eraseIdx k))) w F:=bD M (fun _ h=>h) (fun F h=>QS (by simpa using I) h);exact jJ J
theorem Xx:∀ {l:List aU} {k:Nat} (hk:k<l.length) {B:aU} {w:World} {F:Nat->Prop},aj B (aL (l.eraseIdx k)) w F->aL (l.set k B) w F
 | A::l,0,_,_,_,_,h=>h
 | A::l,k+1,hk,B,w,F,h=>by
  have h1:aj B (aj A (aL (l.eraseIdx k))) w F:=h;exact bD (jJ h1) (fun _ h=>h) (fun F h=>Xx (by simpa using hk) h)
theorem yX:∀ {l:List aU} {B:aU} {w:World} {F:Nat->Prop},aj B (aL l) w F->aL (l++[B]) w F
 | [],B,w,F,h=>h
 | A::l,B,w,F,h=>by
  have h1:aj B (aj A (aL l)) w F:=h;exact bD (jJ h1) (fun _ h=>h) (fun F h=>yX h)
section keys
variable{κ:Type}
def nK(l:List κ)(f:κ->aU):aU:=aL (l.map f)
theorem Ce{l:List κ}{f:κ->aU}(h:∀ k,(f k).Ok):(nK l f).Ok:=lJ (fun A hA=>by obtain⟨k,_,rfl⟩:=List.mem_map.1 hA;exact h k)
instance {l:List κ} {f:κ→aU} [h:∀ k,(f k).Ok]:(nK l f).Ok:=Ce h
theorem Ms[DecidableEq κ]:∀ {l:List κ} {f:κ->aU} {k:κ} (M:k ∈ l) {w:World} {F:Nat->Prop},nK l f w F->aj (f k) (nK (l.erase k) f) w F
 | a::l,f,k,M,w,F,h=>by
  have h1:aj (f a) (nK l f) w F:=h;by_cases I:a=k
  ·subst I;simpa using h1
  ·have J:k ∈ l:=by simpa[px I] using M
   rw[List.erase_cons_tail (by simpa using I)];exact jJ (bD h1 (fun _ h=>h) (fun F h=>Ms J h))
theorem D7{l:List κ}{f g:κ->aU}(h:∀ k ∈ l,f k=g k):nK l f=nK l g:=by
 unfold nK;rw[nB h]
theorem Mv[DecidableEq κ]:∀ {l:List κ} {f:κ->aU} {k:κ} (M:k ∈ l) {w:World} {F:Nat->Prop},aj (f k) (nK (l.erase k) f) w F->nK l f w F
 | a::l,f,k,M,w,F,h=>by
  by_cases I:a=k
  ·subst I;rw[List.erase_cons_head] at h;exact h
  ·have J:k ∈ l:=by simpa[px I] using M
   rw[List.erase_cons_tail (by simpa using I)] at h;have h1:aj (f k) (aj (f a) (nK (l.erase k) f)) w F:=h;exact bD (jJ h1) (fun _ h=>h) (fun F h=>Mv J h)
end keys
theorem Al{α β:Type}(f:α->β):∀ (l:List α) (k:Nat),(l.map f).eraseIdx k=(l.eraseIdx k).map f
 | [],_=>rfl
 | _::_,0=>rfl
 | a::l,k+1=>by simp[Al f l k]
section arow
variable{ζ:Type}(cl:ζ→List Value)(ow:ζ→aU)
def OE(e:TypeId)(size:Nat)(v:Value)(zs:List ζ):aU:=aj (aV e size v zs.length (zs.flatMap cl)) (aL (zs.map ow))
variable{cl ow}
theorem QT{size:Nat}{zs:List ζ}(h:∀ z,(ow z).Ok):(OE cl ow e size v zs).Ok:=
 aB dQ (lJ (fun A hA=>by obtain⟨z,_,rfl⟩:=List.mem_map.1 hA;exact h z))
instance {e:TypeId} {size:Nat} {v:Value} {zs:List ζ} [h:∀ z,(ow z).Ok]:(OE cl ow e size v zs).Ok:=QT h
theorem Mw{size:Nat}{zs:List ζ}(J:k<zs.length)(h:OE cl ow e size v zs w F):
  aj (ow zs[k]) (aj (aV e size v zs.length (zs.flatMap cl)) (aL ((zs.eraseIdx k).map ow))) w F:=by
 have M:=bD h (fun _ h=>h) (fun F h=>QS (k:=k) (by simpa using J) h);have I:=jJ M;rw[mx,Al] at I;exact I
theorem aa4{size:Nat}{zs:List ζ}(I:k<zs.length){z:ζ}(h:aj (ow z) (aj (aV e size v zs.length ((zs.set k z).flatMap cl)) (aL ((zs.eraseIdx k).map ow))) w F):OE cl ow e size v (zs.set k z) w F:=by
 unfold OE;rw[rI,vz];refine bD (jJ h) (fun _ h=>h) (fun F h=>Xx (by simpa using I) ?_);rw[Al];exact h
end arow
theorem kX{α:Type}{R:α->List Value}{size:Nat}(hR:∀ x,(R x).length=size)(l:List α):(l.flatMap R).length=l.length*size:=by
 induction l with
 | nil=>simp
 | cons x l ih=>rw[mS,gj,hR,ih,jz,li];omega
theorem vI{size:Nat}(h:aV e size (.slice (some ⟨g,0,none⟩) n c) n xs w F)(hi:i<n*size)(v:Value):
  bT w F (aV e size (.slice (some ⟨g,0,none⟩) n c) n (xs.set i v)) (w.setCell ⟨g,i,none⟩ v):=by
 obtain⟨J,M⟩:=h;have hg:F g:=(M g).2 rfl;refine⟨F,⟨⟨by rw[rI];exact J.1,?_⟩,M⟩,(Mod.refl _ _).setCell v (fun _=>hg),fun i hi=>.inl hi⟩;rcases J.2 with⟨I,e2⟩|⟨g',cap,cur,hv,h3,h4,h5,h6,h7,h8⟩
 ·subst e2;omega
 ·injection hv with I e2 e3
  injection I with I;injection I with I
  subst I e3;refine .inr ⟨g,c,cur.setIfInBounds i v,rfl,h3,LG v h4,h5,h6,by simpa using h7,?_⟩;rw[Array.toList_setIfInBounds,List.take_set,h8]
theorem nL{size:Nat}(h:aV e size (.slice (some ⟨g,0,none⟩) n c) n xs w F)(hv:xs[i]?=some v):w.cell? ⟨g,i,none⟩=some v:=by
 have:=h.1.cells rfl i v hv;rwa [Addr.Ad] at this
theorem rC{size:Nat}(h:aV e size (.slice (some ⟨g,0,none⟩) n c) n xs w F)(i:Nat)(hn:0<n):w.frozen? ⟨g,i,none⟩=false:=by
 rcases h.1.2 with⟨I,M⟩|⟨g',cap,cur,J,h3,h4,_⟩
 ·omega
 ·injection J with I M e3
  injection I with I;injection I with I
  subst I;simp[World.frozen?,h4]
theorem Xy{size:Nat}(h:aV e size (.slice A n c) n xs w F)(hn:0<n):∃ g,A=some ⟨g,0,none⟩:=by
 rcases h.1.2 with⟨e1,e2⟩|⟨g',cap,cur,hv,_⟩
 ·omega
 ·injection hv with e1;exact⟨g',e1⟩
theorem D8{α:Type}(R:α->List Value)(size:Nat)(J:∀ x,(R x).length=size){l:List α}(h:k<l.length)(M:j<size){x:α}(I:(R l[k]).set j v=R x):(l.flatMap R).set (k*size+j) v=(l.set k x).flatMap R:=by
 induction l generalizing k with
 | nil=>simp at h
 | cons y l ih=>
  rw[mS];cases k with
  | zero=>
   simp only[sx,mB,iz,mS];rw[List.set_append_left _ _ (by rw[J];exact M)];simp only[kO] at I;rw[I]
  | succ k=>
   simp only[i6,mS];rw[List.set_append_right _ _ (by rw[J,li];omega),J,show(k+1)*size+j-size=k*size+j by rw[li];omega,ih (by simpa using h) (by simpa using I)]
section
variable{α:Type}{kv:α→Value}
def jv(kv:α->Value)(b:Nat)(l:List (α × Value)):aU:=fun w F=>sK kv w b l/\∀ i,F i↔i=b
theorem map_ok{l:List (α × Value)}:(jv kv b l).Ok:=
 ⟨fun h i hi=>by rw[(h.2 i).1 hi];exact h.1.lt,fun h hk=>⟨h.1.of_block (hk b ((h.2 b).2 rfl)),h.2⟩⟩
instance {b:Nat} {l:List (α × Value)}:(jv kv b l).Ok:=map_ok
theorem su(w:World):bT w eR (jv kv w.heap.size []) (w.alloc (.map #[] 0)):=
 ⟨fun i=>i=w.heap.size,⟨sK.new w,fun i=>qT⟩,Mod.of_below ((fe _ _).alloc (fL _) _),fun i hi=>.inr (by subst hi;simp)⟩
end
theorem rO(A B:aU):aj A B=aj B A:=by
 funext w F;exact propext ⟨je,je⟩
theorem vT(A B C:aU):aj (aj A B) C=aj A (aj B C):=by
 funext w F;exact propext ⟨DT,Mr⟩
instance star_com:Std.Commutative aj:=⟨rO⟩
instance star_ass:Std.Associative aj:=⟨vT⟩
theorem jC(A:aU):aj bG A=A:=by
 funext w F;exact propext ⟨fun h=>ko (je h),fun h=>je (TM h)⟩
theorem fG(A:aU):aj A bG=A:=by rw[rO,jC]
variable{F0:Nat->Prop}{A B:aU}
theorem aI.perm(h:aI F0 w0 A W)(e:A=B):aI F0 w0 B W:=e ▸ h
theorem aI.sub(h:aI F0 w0 (aj A B) W)(ha:A.Ok)(hb:B.Ok):∃ F,aI F W A W/\∀ (R:aU) (W':World),R.Ok->aI F W R W'->aI F0 w0 (aj R B) W':=by
 obtain⟨F,h1,-,h2⟩:=h.take ha hb;exact⟨F,aI.start h1,fun R W' hr hp=>h2 R W' (hp.post hr)⟩
def mq:Op->Bool
 | .call { callee:=.builtin .len,.. }|.call { callee:=.builtin .cap,.. }|.call { callee:=.builtin .min,.. }|.call { callee:=.builtin .max,.. }=>false
 | .move _|.assign _|.pick ..|.load ..|.nilCheck _|.binOp ..|.unOp ..|.makeInterface ..|.makeFunc ..|.slice ..|.fieldAddr ..|.field ..|.indexAddr ..|.index ..|.lookup ..|.extract ..|.build ..|.typeAssert ..|.entry _=>false
 | _=>true
section
variable{P:Program}{ops:Array Oper}{S:World→Prop}{R C:Nat→World→Prop}{Q:Exit→Act→World→Prop}
def oZ:Exit->Act->World->Prop:=fun _ _ _=>False
def fJ(ops:Array Oper)(i:Nat):Bool:=match ops[i]? with|some o=>mq o.op|none=>false
def qR(P:Program)(ops:Array Oper)(R C:Nat->World->Prop)(Q:Exit->Act->World->Prop):List Nat->Act->World->Prop
 | [],a,w=>Q .normal a w
 | i::r,a,w=>match ops[i]? with
  | none=>qR P ops R C Q r a w
  | some o=>(∃ v,YieldsIf P ops (R i) o v a/\qR P ops R C Q r (a.put o.dst v) w) \/
   (mq o.op=true/\Region.wanted o (yielded ops a.tmps)=true/\o.wp P a w (fun h w'=>C i w'/\qR P ops R C Q r h w') oZ)
variable{u:Value}{a b:Act}{oi oj:Oper}{ds:List Deferred}{K:Act->World->Prop}{l:List Oper}
theorem Qg{o:Oper}(J:S w)(h1:YieldsIf P ops S o u a)(h2:YieldsIf P ops S o v a):u=v:=by
 rcases h1 with⟨w1,r1⟩|⟨w1,M⟩<;>rcases h2 with⟨I,r2⟩|⟨I,e2⟩
 ·have h:=(r1 w J).symm.trans (r2 w J);injection h with h _
  injection h
 ·rw[w1] at I;cases I
 ·rw[w1] at I;cases I
 ·rw[M,e2]
theorem NQ{f:FuncId}{args:Array Value}{R:Ending->World->Prop}(h:Calls P f args w R):∃ e w',R e w':=by
 obtain⟨e,w',_,hR,_⟩:=h [];exact⟨e,w',hR⟩
theorem qm(hs:∀ cs b,oj.op≠.select cs b)(h:∀ d,oi.dst=some d->d ∉ oj.looksAt ops)(hy:YieldsIf P ops S oj u (a.put oi.dst v)):YieldsIf P ops S oj u a:=
 hy.of_same (execOp_put oj hs a oi.dst v h).symm (wanted_put oj a oi.dst v h).symm
theorem Lb(hs:∀ cs b,oj.op≠.select cs b)(h:∀ d,oi.dst=some d->d ∉ oj.looksAt ops)(hy:YieldsIf P ops S oj u a):YieldsIf P ops S oj u (a.put oi.dst v):=
 hy.of_same (execOp_put oj hs a oi.dst v h) (wanted_put oj a oi.dst v h)
theorem SH{o:Oper}(h:YieldsIf P ops S o u { a with defers:=ds }):YieldsIf P ops S o u a:=h.of_same rfl rfl
theorem NR{o:Oper}(h:YieldsIf P ops S o u a):YieldsIf P ops S o u { a with defers:=ds }:=h.of_same rfl rfl
theorem NS{I J:Oper}(ab:∀ cs b,I.op≠.select cs b)(ac:∀ cs b,J.op≠.select cs b)(ad:I.apart ops J=true)(M:YieldsIf P ops S I v a)(h:J.wp P (a.put I.dst v) w K oZ):J.wp P a w (fun a' w'=>YieldsIf P ops S I v a'/\K (a'.put I.dst v) w') oZ:=by
 obtain⟨h1,h2,h3⟩:=G0 ad;have keep:∀ (a:Act),YieldsIf P ops S I v a->∀ u,YieldsIf P ops S I v (a.put J.dst u):=fun a M u=>Lb ab h3 M;unfold Oper.wp at *
 rw[execOp_put J ac a I.dst v h1] at h;generalize (execOp a.eval J).run P w=r at *
 cases r with
 | ok n w'=>
  cases n<;>simp only[Oper.upon] at h ⊢
  case value u=>exact⟨keep a M u,by rw[<-ot a v u h2];exact h⟩
  case skip=>exact⟨keep a M _,by rw[<-ot a v undef h2];exact h⟩
  case defer d=>
   refine⟨keep _ (NR M) _,?_⟩;rw[<-ot _ v undef h2,<-LI];exact h
  case enter f args=>
   refine C6 h fun e aa he=>?_;cases e with
   | returned u=>exact⟨keep a M u,by rw[<-ot a v u h2];exact he⟩
   | panicked c=>exact he
   | outgrown=>exact he
  case row row args=>exact Rows.mono h fun u aa he=>⟨keep a M u,by rw[<-ot a v u h2];exact he⟩
 | halt x w'=>cases x<;>simp only[Oper.upon] at h ⊢ <;> exact h
theorem NT(ad:∀ cs b,oi.op≠.select cs b)(I:∀ cs b,oj.op≠.select cs b)(ae:oi.apart ops oj=true)(hS:S w)(h:oi.wp P a w (fun a' w'=>S w'/\∃ u,YieldsIf P ops S oj u a'/\K (a'.put oj.dst u) w') oZ):
  ∃ u,YieldsIf P ops S oj u a/\oi.wp P (a.put oj.dst u) w (fun a' w'=>S w'/\K a' w') oZ:=by
 obtain⟨h1,h2,h3⟩:=G0 ae;unfold Oper.wp at *
 have ac:∀ u,execOp (a.put oj.dst u).eval oi=execOp a.eval oi:=fun u=>execOp_put oi ad a oj.dst u h3;simp only[ac];generalize (execOp a.eval oi).run P w=r at *
 cases r with
 | ok n w'=>
  cases n<;>simp only[Oper.upon] at h ⊢
  case value v=>
   obtain⟨s,u,hy,hk⟩:=h;exact⟨u,qm I h1 hy,s,by rw[<-ot a v u h2];exact hk⟩
  case skip=>
   obtain⟨s,u,hy,hk⟩:=h;exact⟨u,qm I h1 hy,s,by rw[<-ot a undef u h2];exact hk⟩
  case defer d=>
   obtain⟨s,u,hy,hk⟩:=h;refine⟨u,SH (qm I h1 hy),s,?_⟩;rw[LI,<-ot _ undef u h2];exact hk
  case enter f args=>
   obtain⟨e,w0,M⟩:=NQ h;cases e with
   | panicked c=>exact M.elim
   | outgrown=>obtain⟨_,_,M⟩:=M;exact M.elim
   | returned v0=>
    obtain⟨_,u,hy,_⟩:=M;have J:=qm I h1 hy;refine⟨u,J,C6 h fun e ab M=>?_⟩;cases e with
    | panicked c=>exact M
    | outgrown=>exact M
    | returned v=>
     obtain⟨s,u',aa,hk⟩:=M;obtain rfl:=Qg hS J (qm I h1 aa);exact⟨s,by rw[<-ot a v u h2];exact hk⟩
  case row row args=>
   have hr:=h default [];obtain⟨v0,w0,⟨_,u,hy,_⟩,_⟩:=hr;have J:=qm I h1 hy;refine⟨u,J,Rows.mono h fun v ab M=>?_⟩;obtain⟨s,u',aa,hk⟩:=M;obtain rfl:=Qg hS J (qm I h1 aa);exact⟨s,by rw[<-ot a v u h2];exact hk⟩
 | halt x w'=>cases x<;>simp only[Oper.upon] at h<;>exact h.elim
def Dp(ops:Array Oper)(i j:Nat):Bool:=
 match ops[i]?,ops[j]? with
 | some oi,some oj=>!(mq oi.op&&mq oj.op)&&oi.apart ops oj
 | _,_=>false
theorem SI(ad:Region.noSelect ops=true){r:List Nat}(J:Dp ops i j=true)(hS:R j w)(hw:∀ w,fJ ops i=true->C i w->R j w)(h:qR P ops R C Q (i::j::r) a w):qR P ops R C Q (j::i::r) a w:=by
 unfold Dp at J;cases hi:ops[i]? with
 | none=>simp[hi] at J
 | some oi=>
 cases hj:ops[j]? with
 | none=>simp[hj] at J
 | some oj=>
 have ei:fJ ops i=mq oi.op:=by simp[fJ,hi]
 simp only[hi,hj,gA,tv,Cp] at J;obtain⟨al,ac⟩:=J;have M:=fun cs b=>zt ad i oi cs b hi;have ab:=fun cs b=>zt ad j oj cs b hj;obtain⟨h1,h2,h3⟩:=G0 ac;simp only[qR,hi,hj] at h ⊢;rcases h with⟨v,hy,⟨u,ae,hr⟩|⟨hc,aa,hr⟩⟩|⟨hc,aa,hr⟩
 ·refine .inl ⟨u,qm ab h1 ae,.inl ⟨v,Lb M h3 hy,?_⟩⟩;rw[<-ot a v u h2];exact hr
 ·refine .inr ⟨hc,by rw[<-aa];exact(wanted_put oj a oi.dst v h1).symm,?_⟩;refine sy (fun a' w' I=>?_) (NS M ab ac hy hr);exact⟨I.2.1,.inl ⟨v,I.1,I.2.2⟩⟩
 ·have ag:mq oj.op=false:=by
   rcases al with e|e
   ·rw[hc] at e;cases e
   ·exact e
  have af:oi.wp P a w (fun a' w'=>R j w'/\∃ u,YieldsIf P ops (R j) oj u a'/\(C i w'/\qR P ops R C Q r (a'.put oj.dst u) w')) oZ:=by
   refine sy (fun a' w' I=>⟨hw w' (by rw[ei];exact hc) I.1,?_⟩) hr;rcases I.2 with⟨u,ak,ai⟩|⟨e,_⟩
   ·exact⟨u,ak,I.1,ai⟩
   ·rw[ag] at e;cases e
  obtain⟨u,hy,I⟩:=NT (K:=fun a' w'=>C i w'/\qR P ops R C Q r a' w') M ab ac hS af;refine .inl ⟨u,hy,.inr ⟨hc,?_,sy (fun a' w' I=>I.2) I⟩⟩;rw[wanted_put oi a oj.dst u h3];exact aa
theorem Dq(I:Region.noSelect ops=true){j:Nat}{r:List Nat}:∀ (l:List Nat) {a:Act} {w:World},(∀ i ∈ l,Dp ops i j=true/\∀ w,fJ ops i=true->C i w->R j w)->R j w->qR P ops R C Q (l++j::r) a w->qR P ops R C Q (j::(l++r)) a w
 | [],_,_,_,_,h=>h
 | i::l,a,w,hok,hS,h=>by
  refine SI I (hok i i7).1 hS (hok i i7).2 ?_;have ih:=fun {a:Act} {w:World} (hS:R j w)=>Dq I (r:=r) l (a:=a) (w:=w) (fun i hi=>hok i (by simp[hi])) hS;rw[pd] at h;unfold qR at h ⊢;cases ho:ops[i]? with
  | none=>simp only[ho] at h ⊢;exact ih hS h
  | some o=>
   have ei:fJ ops i=mq o.op:=by simp[fJ,ho]
   simp only[ho] at h ⊢;rcases h with⟨v,J,M⟩|⟨J,M,h3⟩
   ·exact .inl ⟨v,J,ih hS M⟩
   ·exact .inr ⟨J,M,sy (fun a w h=>⟨h.1,ih ((hok i i7).2 _ (by rw[ei];exact J) h.1) h.2⟩) h3⟩
def BF(ops:Array Oper)(listed:Array Bool):List Nat:=(List.range ops.size).filter fun i=>!listed.getD i true
def Closed(ops:Array Oper)(listed:Array Bool):Prop:=∀ j o,ops[j]?=some o->listed.getD j false=true->∀ e ∈ o.after,Region.binds .any e=true->listed.getD e.on false=true
def II(ops:Array Oper)(B:Array Nat):Bool:=
 (List.range ops.size).all fun j=>(List.range j).all fun i=>!(B.getD j 0).testBit i ||
  match ops[j]? with
  | some o=>o.after.any fun e=>Region.binds .any e&&e.on<j&&(e.on==i||(decide (i<e.on)&&(B.getD e.on 0).testBit i))
  | none=>false
def uE(ops:Array Oper):Bool:=
 Region.noSelect ops&&II ops (Region.before ops) &&
 (List.range ops.size).all fun j=>(match ops[j]? with|some o=>o.after.all fun e=>!Region.binds .any e||e.on<j|none=>false) &&
  (List.range j).all fun i=>((Region.before ops).getD j 0).testBit i||Dp ops i j
theorem nC{B:Array Nat}(hB:II ops B=true){I:Array Bool}(hc:Closed ops I):∀ (n j:Nat) (o:Oper),j<n->ops[j]?=some o->(∀ e ∈ o.after,Region.binds .any e=true->I.getD e.on false=true) ->
  ∀ i,i<j->(B.getD j 0).testBit i=true->I.getD i false=true
 | 0,_,_,h,_,_,_,_,_=>by omega
 | n+1,j,o,hj,ho,ha,i,hi,hbit=>by
  have aa:j<ops.size:=(Array.getElem?_eq_some_iff.1 ho).1;have h1:=hB;simp only[II,j7,qt] at h1;have h2:=h1 j aa i hi;simp only[ho,hbit,mj,vf] at h2;obtain⟨e,he,hb⟩:=Array.any_eq_true'.1 h2;simp only[gA,decide_eq_true_eq,tA,beq_iff_eq] at hb;obtain⟨⟨fX,gE⟩,mn⟩:=hb;have hl:=ha e he fX;rcases mn with rfl|⟨hie,mn⟩
  ·exact hl
  ·have M:e.on<ops.size:=by omega
   have J:ops[e.on]?=some ops[e.on]:=sR M;exact nC hB hc n e.on _ eL J (fun e' ac ab=>hc e.on _ J hl e' ac ab) i hie mn
theorem range_split(h:j<n):List.range n=List.range j++j::List.range' (j+1) (n-j-1):=by
 have e:n=j+(1+(n-j-1)):=by omega
 conv=>lhs;rw[e,Fo,<-List.range'_append_1,<-List.range'_append_1]
 simp[Fo]
theorem getD_lt{listed:Array Bool}(h:i<listed.size)(d d':Bool):listed.getD i d=listed.getD i d':=by simp[h]
theorem vk{h:Array Bool}(hs:h.size=ops.size)(M:j<ops.size)(hu:h.getD j true=false):
  ∃ J l2,BF ops h=J++j::l2/\BF ops (h.setIfInBounds j true)=J++l2/\(∀ i ∈ J,i<j/\h.getD i true=false):=by
 refine⟨(List.range j).filter fun i=>!h.getD i true,(List.range' (j+1) (ops.size-j-1)).filter fun i=>!h.getD i true,?_,?_,?_⟩
 ·unfold BF;rw[range_split M,List.filter_append,PH (by simp[hu])]
 ·unfold BF;have I:(h.setIfInBounds j true).getD j true=true:=by simp
  rw[range_split M,List.filter_append,Pu (by rw[I];simp)];congr 1
  ·refine Ge fun i hi=>?_;have:j≠i:=by have:=List.mem_range.1 hi;omega
   rw[getD_set_ne true this]
  ·refine Ge fun i hi=>?_;have:j≠i:=by have:=List.mem_range'_1.1 hi;omega
   rw[getD_set_ne true this]
 ·intro i hi;rw[xN,qt] at hi;exact⟨hi.1,by simpa using hi.2⟩
theorem Lc(hB:uE ops=true)(hL:∀ i j w,i<j->j<ops.size->fJ ops i=true->C i w->R j w)(hR:∀ i j w,i<j->j<ops.size->fJ ops j=true->fJ ops i=false->((Region.before ops).getD j 0).testBit i=false->C j w->R i w):∀ (n:Nat) (I:Array Bool) (a:Act) (w:World),(BF ops I).length=n->I.size=ops.size->Closed ops I->(∀ i,i<ops.size->I.getD i true=false->R i w)->qR P ops R C Q (BF ops I) a w->wpAny P .any ops Q n I a w:=by
 have ax:=hB;simp only[uE,gA,j7,qt] at ax;obtain⟨⟨a1,ae⟩,ad⟩:=ax;intro n
 induction n with
 | zero=>
  intro I a w hn hs hc hS h;have ag:BF ops I=[]:=sE hn;rw[ag] at h;refine⟨?_,h⟩;cases hr:Region.ready .any ops I with
  | nil=>rfl
  | cons j r=>
   have hj:j ∈ Region.ready .any ops I:=by rw[hr];simp
   obtain⟨h0,o,ho,_⟩:=mem_ready.1 hj;have:j ∈ BF ops I:=by
    unfold BF;rw[xN,qt];exact⟨(Array.getElem?_eq_some_iff.1 ho).1,by simp[h0]⟩
   rw[ag] at this;cases this
 | succ n ih=>
  intro I a w hn hs hc hS h;refine⟨fun hr=>?_,fun j hj=>?_⟩
  ·-- the first that is not I is ready
   cases hu:BF ops I with
   | nil=>rw[hu] at hn;simp at hn
   | cons k r=>
    exfalso;have hk:k ∈ BF ops I:=by rw[hu];simp
    unfold BF at hk;rw[xN,qt] at hk;obtain⟨aw,am⟩:=hk;have am:I.getD k true=false:=by simpa using am
    have ho:ops[k]?=some ops[k]:=sR aw;have hd:=(ad k aw).1;simp only[ho] at hd;have:k ∈ Region.ready .any ops I:=by
     rw[mem_ready];refine⟨am,_,ho,fun e he hb=>?_⟩;have h1:=Array.all_eq_true_iff_forall_mem.1 hd e he;simp only[hb,mj,vf,decide_eq_true_eq] at h1;cases hl:I.getD e.on false with
     | true=>rfl
     | false=>
      exfalso;obtain⟨l1,l2,ab,_,al⟩:=vk (ops:=ops) (j:=e.on) hs eL (by rw[getD_lt eL true false];exact hl);rw[hu] at ab;cases l1 with
      | nil=>simp at ab;omega
      | cons x l1=>
       simp at ab;have:=(al x i7).1;omega
    rw[hr] at this;cases this
  ·obtain⟨h0,o,ho,M⟩:=mem_ready.1 hj;have ac:j<ops.size:=(Array.getElem?_eq_some_iff.1 ho).1;obtain⟨l1,l2,ab,aA,al⟩:=vk (ops:=ops) hs ac h0;have a0:=hS j ac h0;have hfront:qR P ops R C Q (j::(l1++l2)) a w:=by
    refine Dq a1 l1 (fun i hi=>?_) a0 (ab ▸ h);obtain⟨J,aa⟩:=al i hi;refine⟨?_,fun w=>hL i j w J ac⟩;have:=(ad j ac).2 i J;rw[tA] at this;rcases this with hb|hb
    ·have hl:=nC ae hc (j+1) j o eL ho M i J hb;rw[getD_lt eL false true,aa] at hl;cases hl
    ·exact hb
   have ak:(BF ops (I.setIfInBounds j true)).length=n:=by
    rw[aA];rw[ab] at hn;simp at hn ⊢;omega
   have ar:(I.setIfInBounds j true).size=ops.size:=by simpa using hs
   have aD:Closed ops (I.setIfInBounds j true):=by
    intro m om hm hl e he hb;by_cases aE:m=j
    ·subst aE;rw[ho] at hm;cases hm;exact getD_set_true (M e he hb)
    ·rw[getD_set_ne false (px aE)] at hl;exact getD_set_true (hc m om hm hl e he hb)
   have ai:∀ i,(I.setIfInBounds j true).getD i true=false->i≠j/\I.getD i true=false:=fun i hi=>by
    by_cases e:j=i
    ·subst e;simp at hi
    ·rw[getD_set_ne true e] at hi;exact⟨fun e'=>e e'.symm,hi⟩
   have an:mq o.op=true->∀ w',C j w'->∀ i,i<ops.size->(I.setIfInBounds j true).getD i true=false->R i w':=fun af w' aq i hi aa=>by
    obtain⟨a3,aa⟩:=ai i aa;have ap:fJ ops j=true:=by simp[fJ,ho,af]
    rcases tG i j with J|J
    ·have az:((Region.before ops).getD j 0).testBit i=false:=by
      cases hb:((Region.before ops).getD j 0).testBit i with
      | false=>rfl
      | true=>
       have hl:=nC ae hc (j+1) j o eL ho M i J hb;rw[getD_lt eL false true,aa] at hl;cases hl
     refine hR i j w' J ac ap ?_ az aq;have:=(ad j ac).2 i J;rw[az,vf] at this;unfold Dp at this;have ao:ops[i]?=some ops[i]:=sR hi;simp only[fJ,ao];simp[ao,ho,af] at this;exact this.1
    ·exact hL j i w' eL hi ap aq
   rw[<-aA] at hfront;unfold qR at hfront;simp only[ho] at hfront;rcases hfront with⟨v,hy,hk⟩|⟨af,hw,hk⟩
   ·exact hy.wpOp ho a0 (ih _ _ _ ak ar aD (fun i hi aa=>hS i hi (ai i aa).2) hk)
   ·unfold wpOp;simp only[ho,hw,if_true];refine .inl ?_;have h2:=sy (K':=wpAny P .any ops Q n (I.setIfInBounds j true)) (fun a' w' hk=>ih _ a' w' ak ar aD (an af w' hk.1) hk.2) hk
    -- the empty exit serves every exit
    unfold Oper.wp at h2 ⊢;generalize (execOp a.eval o).run P w=r at *
    cases r with
    | ok nx w'=>
     cases nx<;>simp only[Oper.upon] at h2 ⊢ <;> first
      | exact h2
      | exact C6 h2 (fun e a2 he=>by
        cases e with
        | returned v=>exact he
        | panicked c=>exact he.elim
        | outgrown=>obtain⟨_,_,he⟩:=he;exact he.elim)
    | halt x w'=>cases x<;>simp only[Oper.upon] at h2 ⊢ <;> first|exact h2|exact h2.elim
theorem VZ(J:uE l.toArray=true)(hL:∀ i j w,i<j->j<l.length->fJ l.toArray i=true->C i w->R j w)(hR:∀ i j w,i<j->j<l.length->fJ l.toArray j=true->fJ l.toArray i=false->((Region.before l.toArray).getD j 0).testBit i=false->C j w->R i w)(hS:∀ i,i<l.length->R i w)(h:qR P l.toArray R C Q (List.range' 0 l.length) a w):
  wpAny P .any l.toArray Q l.toArray.size (Array.replicate l.toArray.size false) a w:=by
 have I:BF l.toArray (Array.replicate l.toArray.size false)=List.range l.toArray.size:=by
  unfold BF;refine List.filter_eq_self.2 fun i hi=>?_;have:=List.mem_range.1 hi;simp at this;simp[this]
 refine Lc (R:=R) (C:=C) J (by simpa using hL) (by simpa using hR) _ _ _ _ (by rw[I];simp) i7 ?_ (fun i hi _=>hS i (by simpa using hi)) ?_
 ·intro j o M hl;have:j<l.length:=by have:=(Array.getElem?_eq_some_iff.1 M).1;simpa using this
  simp[this] at hl
 ·rw[I];simpa[Fo] using h
def lg(P:Program)(ops:Array Oper)(S:World->Prop)(Y:Prop)(Q:Exit->Act->World->Prop):List Oper->Act->World->Prop
 | [],a,w=>Q .normal a w
 | o::r,a,w=>(∃ v,YieldsIf P ops S o v a/\lg P ops S Y Q r (a.put o.dst v) w) \/
   (mq o.op=true/\Region.wanted o (yielded ops a.tmps)=true/\o.wp P a w (fun h w'=>((r=[]->Y)->S w')/\lg P ops S Y Q r h w') oZ)
variable{Y:Prop}
theorem Gm{n:Nat}:∀ (l:List Oper) (k:Nat) (a:Act) (w:World),(∀ j,l[j]?=ops[k+j]?)->k+l.length=n->lg P ops S Y Q l a w->qR P ops (fun _=>S) (fun i w=>(i+1=n->Y)->S w) Q (List.range' k l.length) a w
 | [],_,_,_,_,_,h=>h
 | o::l,k,a,w,hl,hs,h=>by
  have h0:ops[k]?=some o:=by simpa using (hl 0).symm
  have ih:=fun a w=>Gm (n:=n) l (k+1) a w (fun j=>by have:=hl (j+1);simpa[vx,vy 1 j] using this) (by simp at hs;omega);simp only[jz,J1];unfold qR;simp only[h0];rcases h with⟨v,I,J⟩|⟨I,J,h3⟩
  ·exact .inl ⟨v,I,ih _ _ J⟩
  ·exact .inr ⟨I,J,sy (fun a' w' M=>⟨fun hy=>M.1 fun e=>hy (by subst e;simpa using hs),ih _ _ M.2⟩) h3⟩
theorem IJ(M:uE l.toArray=true)(I:Y\/∀ i,i+1<l.length->((Region.before l.toArray).getD (l.length-1) 0).testBit i=true)(hS:S w)(h:lg P l.toArray S Y Q l a w):wpAny P .any l.toArray Q l.toArray.size (Array.replicate l.toArray.size false) a w:=
 VZ M (fun i j w hi J _ h=>h fun e=>by omega) (fun i j w hi J _ _ hb h=>h fun e=>I.elim id fun I=>by
  have:=I i eL;rw[show l.length-1=j by omega,hb] at this;cases this) (fun _ _=>hS) (Gm (n:=l.length) l 0 a w i7 i7 h)
theorem aP{id:Nat}(S:World->Prop)(hm:P.follows .mixedOrders=true)(hB:uE l.toArray=true)(hS:S w.drew)(h:lg P l.toArray S True Q l a w.drew):(Code.region id l.toArray true).wp P Q a w:=wp_region_any hm (IJ hB (.inl trivial) hS h)
def V3(ops:Array Oper):Bool:=(List.range (ops.size-1)).all fun i=>((Region.before ops).getD (ops.size-1) 0).testBit i
theorem eG{M:Nat}(S:World->Prop)(hm:P.follows .mixedOrders=true)(J:uE l.toArray=true)(I:V3 l.toArray=true)(hS:S w.drew)(h:lg P l.toArray S False Q l a w.drew):(Code.region M l.toArray true).wp P Q a w:=
 wp_region_any hm (IJ J (.inr fun i hi=>by simp only[V3,j7,qt] at I;simpa using I i tb) hS h)
section
variable{o:Oper}{r:List Oper}{a:Act}{w:World}
theorem lex_nil(h:Q .normal a w):lg P ops S Y Q [] a w:=h
theorem V4(hw:Region.wanted o (yielded ops a.tmps)=false)(h:lg P ops S Y Q r (a.put o.dst undef) w):lg P ops S Y Q (o::r) a w:=.inl ⟨undef,.inr ⟨hw,rfl⟩,h⟩
theorem V5(hw:Region.wanted o (yielded ops a.tmps)=true)(hv:∀ w',S w'->(execOp a.eval o).run P w'=.ok (.value v) w')(h:lg P ops S Y Q r (a.put o.dst v) w):lg P ops S Y Q (o::r) a w:=.inl ⟨v,.inl ⟨hw,hv⟩,h⟩
theorem dG(hc:mq o.op=true)(hw:Region.wanted o (yielded ops a.tmps)=true)(h:∀ K:Act->World->Prop,Hid (∀ a' w',S w'->lg P ops S Y Q r a' w'->K a' w')->o.wp P a w K oZ):lg P ops S Y Q (o::r) a w:=
 .inr ⟨hc,hw,h _ fun _ _ h1 h2=>⟨fun _=>h1,h2⟩⟩
theorem jl(hc:mq o.op=true)(hw:Region.wanted o (yielded ops a.tmps)=true)(h:∀ K:Act->World->Prop,Hid (∀ a' w',Q .normal a' w'->K a' w')->o.wp P a w K oZ):lg P ops S False Q [o] a w:=
 .inr ⟨hc,hw,h _ fun _ _ h2=>⟨fun h=>(h rfl).elim,h2⟩⟩
theorem bM(h:lg P ops S Y Q r b w)(hw:Region.wanted o (yielded ops a.tmps)=false:=by rfl)(hb:a.put o.dst undef=b:=by(first|(simp only[Act.put,ja,iz,i6];done)|(simp only[Act.put,ja,iz,i6];rfl)|rfl)):lg P ops S Y Q (o::r) a w:=V4 hw (hb ▸ h)
theorem bN(h:lg P ops S Y Q r b w)(I:Region.wanted o (yielded ops a.tmps)=true:=by rfl)(hv:∀ w',S w'->(execOp a.eval o).run P w'=.ok (.value v) w':=by(intro w' J;go_simp;(try with_reducible rfl);done))(hb:a.put o.dst v=b:=by(first|(simp only[Act.put,ja,iz,i6];done)|(simp only[Act.put,ja,iz,i6];rfl)|rfl)):lg P ops S Y Q (o::r) a w:=V5 I hv (hb ▸ h)
end
end
section
variable{P:Program}{ops:Array Oper}{Ts:List Nat}{St:Nat→World→Prop}{Q:Exit→Act→World→Prop}
def L1(ops:Array Oper)(Ts:List Nat)(i:Nat):Nat:=(Ts.filter fun T=>decide (T<i) || !((Region.before ops).getD T 0).testBit i).length
def ym(Ts:List Nat)(i:Nat):Nat:=(Ts.filter fun T=>decide (T<=i)).length
def VY(ops:Array Oper)(Ts:List Nat):Bool:=
 (List.range ops.size).all fun j=>(List.range j).all fun i=>
  (!fJ ops i||(if fJ ops j then decide (ym Ts i<=ym Ts j) else decide (ym Ts i<=L1 ops Ts j))) &&
  (fJ ops i || !fJ ops j||((Region.before ops).getD j 0).testBit i||decide (ym Ts j<=L1 ops Ts i))
variable{a:Act}
theorem IG{St:Nat->World->Prop}(hst:∀ c w,St c w->St (c+1) w){a:Nat}(h:a<=b)(hw:St a w):St b w:=by
 induction h with
 | refl=>exact hw
 | step _ ih=>exact hst _ _ ih
def wy(ops:Array Oper)(Ts:List Nat)(i:Nat):Nat:=if fJ ops i then ym Ts i else L1 ops Ts i
def Hh(ops:Array Oper)(Ts:List Nat):List Nat:=(List.range ops.size).map (wy ops Ts)
theorem aae{l:List Oper}(I:∀ c w,St c w->St (c+1) w)(hB:uE l.toArray=true)(hL:VY l.toArray Ts=true)(hS:St 0 w)(h:qR P l.toArray (fun i=>St (wy l.toArray Ts i)) (fun i=>St (ym Ts i)) Q (List.range' 0 l.length) a w):
  wpAny P .any l.toArray Q l.toArray.size (Array.replicate l.toArray.size false) a w:=by
 simp only[VY,j7,qt] at hL;refine VZ hB (fun i j w hi J M hw=>?_) (fun i j w hi J aa M hb hw=>?_) (fun i _=>IG I (fy _) hS) h
 ·have:=hL j (by simpa using J) i hi;refine IG I ?_ hw;unfold wy;cases e:fJ l.toArray j<;>simp_all
 ·have:=hL j (by simpa using J) i hi;refine IG I ?_ hw;unfold wy;simp at hb
  simp_all
end
open Go.ChangeShapes Go.WideShapes Go.Deep
section
variable{H:Type}{enc:TypeId × Value→H}{P:Program}{w:World}{base:Nat}{held:Bool}
theorem Ba{α:Type}(R:α->List Value)(size:Nat)(J:0<size):∀ (xs:List α),(∀ x ∈ xs,(R x).length=size)->∀ j u,(xs.flatMap R)[j]?=some u->∃ x,xs[j / size]?=some x/\(R x)[j % size]?=some u
 | [],_,j,u,h=>by simp at h
 | x::xs,hR,j,u,h=>by
  have M:=hR x i7;rw[mS] at h;by_cases I:j<size
  ·rw[xp eL] at h;exact⟨x,by rw[GB I];rfl,by rw[GC I];exact h⟩
  ·rw[B9 eL,M] at h;obtain⟨y,h1,h2⟩:=Ba R size J xs (fun z hz=>hR z (by simp[hz])) (j-size) u h;refine⟨y,?_,?_⟩
   ·rw[show j=(j-size)+size by omega,Nat.add_div_right _ J];simpa using h1
   ·rw[show j=(j-size)+size by omega,Nat.add_mod_right];exact h2
theorem Bb{α:Type}(R:α->List Value)(size:Nat):∀ (xs:List α),(∀ x ∈ xs,(R x).length=size)->(xs.flatMap R).length=xs.length*size
 | [],_=>by simp
 | x::xs,hR=>by
  rw[mS,gj,hR x i7,Bb R size xs (fun z hz=>hR z (by simp[hz])),jz,li];omega
variable{A:eV}
theorem o8{d:DataW H}{ps:List MemPlace}{α:Type}[Inhabited α](R:α->List Value)(I:α->Prop){size:Nat}(ht:P.underlying t=some (.slice e))(hc:P.cellsOf e=size)(hs:0<size)(ab:∀ m cs y,DataW.trod enc P w base (fun _=>true) held m e cs=some y->∃ x,cs=R x/\I x)(one:∀ x,I x->∀ u ∈ R x,u.oneCell'=true)(h:DataW.Trod enc P w base (fun _=>true) held t (.slice A n c) d ps):
  ∃ xs:List α,xs.length=n/\Src w A n size (xs.flatMap R)/\(∀ x ∈ xs,I x/\(R x).length=size)/\n<=c/\c<=maxLen:=by
 obtain⟨ae,hf⟩:=h;rcases open_slice ht hf with⟨h0,_⟩|⟨a,len,cap,m,k,D,Pl,hv,_,hl,hm,aa,_,hx⟩
 ·simp[Value.cells] at h0;obtain⟨rfl,rfl,rfl⟩:=h0;exact⟨[],rfl,Src.none_,by simp,by omega,by omega⟩
 ·simp[Value.cells] at hv;obtain⟨rfl,rfl,rfl⟩:=hv;simp only[if_true] at aa;subst aa
  obtain⟨F,hF⟩:=choose_lt (n:=m) (p:=fun i (x:α)=>I x/\w.cells? base (a.add (i*P.cellsOf e)) (P.cellsOf e)=some (R x)) (fun i hi=>by
   obtain⟨cs',h1,h2⟩:=hx i hi;obtain⟨x,rfl,hg⟩:=ab _ _ _ h2
   exact⟨x,hg,h1⟩)
  have ac:∀ i,i<m->(R (F i)).length=size:=fun i hi=>by
   obtain⟨_,h2,_⟩:=World.cells?_some (hF i hi).2;rw[h2,hc]
  have J:∀ x ∈ (List.range n).map F,I x/\(R x).length=size:=by
   intro x M;simp only[G4,qt] at M;obtain⟨i,hi,rfl⟩:=M;exact⟨(hF i eL).1,ac i eL⟩
  refine⟨(List.range n).map F,by simp,⟨?_,?_,fun _=>⟨a,rfl,?_⟩⟩,J,hl,hm⟩
  ·rw[Bb R size _ (fun x M=>(J x M).2)];simp
  ·intro u hu;rw[Gr] at hu;obtain⟨x,h1,h2⟩:=hu;exact one x (J x h1).1 u h2
  ·intro j u hu;obtain⟨x,h1,h2⟩:=Ba R size hs _ (fun x M=>(J x M).2) j u hu;rw[lB,Cl] at h1;obtain⟨i,hi,rfl⟩:=h1;have ad:j / size<n/\i=j / size:=by
    obtain⟨h1,h2⟩:=List.getElem?_eq_some_iff.1 hi;simp at h1 h2;exact⟨h1,h2.symm⟩
   obtain⟨af,rfl⟩:=ad;obtain⟨_,_,h4⟩:=World.cells?_some (hF (j / size) eL).2;have h5:=h4 (j % size) (by rw[hc];exact qS _ hs);rw[add_add,hc,Nat.div_add_mod' j size] at h5;rw[h5];exact h2
theorem nD{fs:Array Field}{m:Nat}{cs:List Value}{y:DataW H × List MemPlace}(he:P.underlying e=some (.struct fs))(J:oneCellFields P fs=true)(hC:P.cellsOf e=fs.size)(h:DataW.trod enc P w base (fun _=>true) held m e cs=some y):
  cs.length=fs.size/\∃ n,∀ (j:Nat) (f:Field),fs[j]?=some f->∃ (v:Value) (z:DataW H × List MemPlace),cs[j]?=some v/\DataW.trod enc P w base (fun _=>true) held n f.type [v]=some z:=by
 obtain⟨ys,n',_,_,hl,ac,hf⟩:=Gk he h;have ab:cs.length=fs.size:=by rw[<-hC];exact hl
 refine⟨ab,n',fun j f M=>?_⟩;obtain⟨ho,hk⟩:=hone_of J j f M;have ad:j<fs.size:=(Array.getElem?_eq_some_iff.1 M).1;have h1:=hf j f M;rw[ho,hk] at h1;have I:(cs.drop j).take 1=[cs[j]'eL]:=by
  rw[rS eL];rfl
 rw[I] at h1;have aa:ys[j]?=some (ys[j]'eL):=ic eL;exact⟨_,_,ic eL,h1.trans aa⟩
end
theorem Ql{k:IntKind}{n:Int}(h:(Lit.int k n).wf=true):k.min<=n/\n<=k.max:=(Lit.wf_int_iff k n).1 h
section
variable{P:Program}{ops:Array Oper}{Q:Exit→Act→World→Prop}
variable{K:Act->World->Prop}{a:Act}
theorem wpOp_mono{K':Act->World->Prop}(I:∀ a w,K a w->K' a w)(h:wpOp P ops Q i K a w):wpOp P ops Q i K' a w:=by
 unfold wpOp at *
 cases M:ops[i]? with
 | none=>simp only[M] at h ⊢;exact I _ _ h
 | some o=>
  simp only[M] at h ⊢;split at h
  ·rename_i J;rw[if_pos J];exact h.imp (sy I) id
  ·rename_i J;rw[if_neg J];exact I _ _ h
theorem eB{o:Oper}(ho:ops[i]?=some o)(hg:o.guard=none)(h:o.wp P a w K Q):wpOp P ops Q i K a w:=by
 unfold wpOp;simp only[ho];rw[if_pos (by simp[Region.wanted,hg])];exact .inl h
end
section
variable{P:Program}{ops:Array Oper}{Q:Exit→Act→World→Prop}{S:World→Prop}
def fW:Act->List Nat->List Value->Act
 | a,d::ds,v::vs=>fW (a.put (some d) v) ds vs
 | a,_,_=>a
theorem D9(d:Nat)(v:Value):∀ (ds:List Nat) (vs:List Value) (a:Act),d ∉ ds->(fW a ds vs).put (some d) v=fW (a.put (some d) v) ds vs
 | [],_,_,_=>by simp[fW]
 | _::_,[],_,_=>rfl
 | e::ds,u::vs,a,h=>by
  simp only[np,not_or] at h;simp only[fW];rw[D9 d v ds vs _ h.2,ot a v u (fun x I=>by injection I with I;subst I;exact fun g=>by injection g with g;exact h.1 g.symm)]
theorem vJ(a:Act)(d:Nat)(v:Value):∀ (ds:List Nat) (vs:List Value),ds.length=vs.length->fW a (ds++[d]) (vs++[v])=(fW a ds vs).put (some d) v:=by
 intro ds
 induction ds generalizing a with
 | nil=>intro vs h;cases vs with|nil=>rfl|cons _ _=>simp at h
 | cons e ds ih=>
  intro vs h;cases vs with
  | nil=>simp at h
  | cons u vs=>simp only[pd,fW];exact ih _ _ (by simpa using h)
theorem kM(a:Act)(ds es:List Nat)(vs:List Value)(h:ds.length=vs.length):fW a (ds++es) vs=fW a ds vs:=by
 induction ds generalizing a vs with
 | nil=>cases vs with|nil=>cases es<;>rfl|cons _ _=>simp at h
 | cons e ds ih=>
  cases vs with
  | nil=>simp at h
  | cons u vs=>simp only[pd,fW];exact ih _ _ (by simpa using h)
theorem bH(k:Nat):∀ (ds:List Nat) (vs:List Value) (a:Act),k ∉ ds->(fW a ds vs).eval (.tmp k)=a.eval (.tmp k)
 | [],_,_,_=>by simp[fW]
 | _::_,[],_,_=>rfl
 | e::ds,u::vs,a,h=>by
  simp only[np,not_or] at h;simp only[fW];rw[bH k ds vs _ h.2,Act.eval_put (fun x I=>by injection I with I;subst I;exact fun g=>by injection g with g;exact h.1 g)]
def dV(ops:Array Oper)(X:List Nat):List Nat:=X.map fun i=>((ops[i]?.bind (·.dst))).getD 0
def EZ(l0:Array Bool)(X Y:List Nat)(s t:Nat):Array Bool:=(X.take s++Y.take t).foldl (fun l i=>l.setIfInBounds i true) l0
def QU(ops:Array Oper)(h:Array Bool)(X Y:List Nat):Bool:=
 ((List.range (X.length+1)).all fun s=>(List.range (Y.length+1)).all fun t=>
  ((s==X.length&&t==Y.length)||(!(Region.ready .any ops (EZ h X Y s t)).isEmpty)) &&
  (((s==X.length&&t==Y.length))||(Region.ready .any ops (EZ h X Y s t)).all (fun i=>(X[s]?==some i)||(Y[t]?==some i))) &&
  (match X[s]? with|some i=>(EZ h X Y s t).setIfInBounds i true==EZ h X Y (s+1) t|none=>true) &&
  (match Y[t]? with|some i=>(EZ h X Y s t).setIfInBounds i true==EZ h X Y s (t+1)|none=>true)) &&
 (X++Y).all (fun i=>match ops[i]? with|some o=>o.guard.isNone&&o.dst.isSome|none=>false) &&
 decide ((dV ops X++dV ops Y).Nodup)
theorem vK{α β:Type}(f:α->β)(X:List α){k:Nat}(h:k<X.length):X.map f=(X.take k).map f++(f X[k]::(X.drop (k+1)).map f):=by
 have e:=congrArg (List.map f) (ua k X);rw[kp,rS h,lk] at e;exact e.symm
theorem OG{l0:Array Bool}{M:Act}{R:aU}(X Y:List Nat)(PX PY:List Value->aU)(J:Nat)(am:QU ops l0 X Y=true)(oX:∀ vs,(PX vs).Ok)(oY:∀ vs,(PY vs).Ok)(oR:R.Ok)(hS:∀ (O:aU) W,aI F0 w0 O W->S W)(hX:∀ i o vs us,X[vs.length]?=some i->ops[i]?=some o->us.length<=Y.length->∀ (Z:aU) W,Z.Ok->aI F0 w0 (aj (PX vs) Z) W ->
   o.wp P (fW (fW M (dV ops X) vs) (dV ops Y) us) W (fun a' w'=>∃ v,a'=(fW (fW M (dV ops X) vs) (dV ops Y) us).put o.dst v/\aI F0 w0 (aj (PX (vs++[v])) Z) w') Q)(hY:∀ i o vs us,Y[us.length]?=some i->ops[i]?=some o->vs.length<=X.length->∀ (Z:aU) W,Z.Ok->aI F0 w0 (aj (PY us) Z) W ->
   o.wp P (fW (fW M (dV ops X) vs) (dV ops Y) us) W (fun a' w'=>∃ v,a'=(fW (fW M (dV ops X) vs) (dV ops Y) us).put o.dst v/\aI F0 w0 (aj (PY (us++[v])) Z) w') Q)(ak:∀ vs us W,vs.length=X.length->us.length=Y.length->aI F0 w0 (aj (PX vs) (aj (PY us) R)) W->wpAnyH P .any ops Q S J (EZ l0 X Y X.length Y.length) (fW (fW M (dV ops X) vs) (dV ops Y) us) W)(h0:aI F0 w0 (aj (PX []) (aj (PY []) R)) W):wpAnyH P .any ops Q S (J+(X.length+Y.length)) l0 M W:=by
 simp only[QU,gA,decide_eq_true_eq] at am;obtain⟨⟨ao,ae⟩,aq⟩:=am;have key:∀ (N:Nat) (vs us:List Value) (W:World),vs.length<=X.length->us.length<=Y.length->N=(X.length-vs.length)+(Y.length-us.length)->aI F0 w0 (aj (PX vs) (aj (PY us) R)) W ->
   wpAnyH P .any ops Q S (J+N) (EZ l0 X Y vs.length us.length) (fW (fW M (dV ops X) vs) (dV ops Y) us) W:=by
  intro N
  induction N with
  | zero=>
   intro vs us W hv hu hN hR;have h1:vs.length=X.length:=by omega
   have h2:us.length=Y.length:=by omega
   rw[h1,h2];exact ak vs us W h1 h2 hR
  | succ N ih=>
   intro vs us W hv hu hN hR;have hc:=ao;rw[j7] at hc;have af:=hc vs.length (List.mem_range.2 eL);rw[j7] at af;have ai:=af us.length (List.mem_range.2 eL);simp only[gA] at ai;obtain⟨⟨⟨c1,c2⟩,c3⟩,c4⟩:=ai;have an:(vs.length==X.length&&us.length==Y.length)=false:=by
    cases hb:(vs.length==X.length&&us.length==Y.length) with
    | false=>rfl
    | true=>simp only[gA,beq_iff_eq] at hb;omega
   rw[an,vf] at c1 c2;have ag:∀ (Z:List Nat) i,i ∈ Z->(∀ j ∈ Z,j ∈ X++Y)->∃ o d,ops[i]?=some o/\o.guard=none/\o.dst=some d/\((ops[i]?.bind (·.dst))).getD 0=d:=by
    intro Z i hi hZ;rw[j7] at ae;have:=ae i (hZ i hi);cases ho:ops[i]? with
    | none=>rw[ho] at this;cases this
    | some o=>
     rw[ho] at this;simp only[gA,N3,OS] at this;obtain⟨g1,d,g2⟩:=this;exact⟨o,d,rfl,g1,g2,by simp[g2]⟩
   refine⟨fun h=>by rw[h] at c1;simp at c1,fun i hi=>?_⟩;rw[j7] at c2;have I:=c2 i hi;simp only[tA,beq_iff_eq] at I;have al:=List.nodup_append.1 aq;rcases I with I|I
   ·-- the next of X
    have ab:vs.length<X.length:=(List.getElem?_eq_some_iff.1 I).1;obtain⟨o,d,ho,hg,hd,aa⟩:=ag X i (pT I) (fun j hj=>Cs _ hj);refine eB ho hg (sy ?_ (hX i o vs us I ho hu (aj (PY us) R) W (aB (oY us) oR) hR));rintro a' w' ⟨v,rfl,hR'⟩;refine⟨hS _ _ hR',?_⟩;rw[I] at c3;simp only[beq_iff_eq] at c3;have h3:=ih (vs++[v]) us w' tb hu tb hR';rw[gj,pD,<-c3] at h3;have e1:fW M (dV ops X) (vs++[v])=(fW M (dV ops X) vs).put (some d) v:=by
     have ad:dV ops X=dV ops (X.take vs.length)++(d::dV ops (X.drop (vs.length+1))):=by
      have ac:X[vs.length]=i:=(List.getElem?_eq_some_iff.1 I).2;have e9:=vK (fun i=>((ops[i]?.bind (·.dst))).getD 0) X ab;simp only[ac,aa] at e9;exact e9
     have hl:(dV ops (X.take vs.length)).length=vs.length:=by unfold dV;simp;omega
     rw[ad];rw[show dV ops (X.take vs.length)++(d::dV ops (X.drop (vs.length+1)))=(dV ops (X.take vs.length)++[d])++dV ops (X.drop (vs.length+1)) by simp];rw[kM _ _ _ (vs++[v]) (by simp[hl]),vJ _ _ _ _ _ hl,ma,kM _ _ _ vs hl]
    have ap:d ∉ dV ops Y:=by
     intro hm;refine al.2.2 d ?_ d hm rfl;unfold dV;exact List.mem_map.2 ⟨i,pT I,aa⟩
    rw[hd,D9 d v _ us _ ap,<-e1];exact h3
   ·have ab:us.length<Y.length:=(List.getElem?_eq_some_iff.1 I).1;obtain⟨o,d,ho,hg,hd,aa⟩:=ag Y i (pT I) (fun j hj=>zg _ hj);have ar:aI F0 w0 (aj (PY us) (aj (PX vs) R)) W:=hR.kQ;refine eB ho hg (sy ?_ (hY i o vs us I ho hv (aj (PX vs) R) W (aB (oX vs) oR) ar));rintro a' w' ⟨v,rfl,hR'⟩;refine⟨hS _ _ hR',?_⟩;rw[I] at c4;simp only[beq_iff_eq] at c4;have h3:=ih vs (us++[v]) w' hv tb tb hR'.kQ;rw[gj,pD,<-c4] at h3;have e1:∀ b:Act,fW b (dV ops Y) (us++[v])=(fW b (dV ops Y) us).put (some d) v:=by
     intro b;have ad:dV ops Y=dV ops (Y.take us.length)++(d::dV ops (Y.drop (us.length+1))):=by
      have ac:Y[us.length]=i:=(List.getElem?_eq_some_iff.1 I).2;have e9:=vK (fun i=>((ops[i]?.bind (·.dst))).getD 0) Y ab;simp only[ac,aa] at e9;exact e9
     have hl:(dV ops (Y.take us.length)).length=us.length:=by unfold dV;simp;omega
     rw[ad];rw[show dV ops (Y.take us.length)++(d::dV ops (Y.drop (us.length+1)))=(dV ops (Y.take us.length)++[d])++dV ops (Y.drop (us.length+1)) by simp];rw[kM _ _ _ (us++[v]) (by simp[hl]),vJ _ _ _ _ _ hl,ma,kM _ _ _ us hl]
    rw[hd,<-e1];exact h3
 have h1:=key (X.length+Y.length) [] [] W (fy _) (fy _) i7 h0;have e:∀ (b:Act) (ds:List Nat),fW b ds []=b:=fun b ds=>by cases ds<;>rfl
 rw[e,e] at h1;exact h1
end
end Go.CH
