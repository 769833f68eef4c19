/- A part of the proof: lemmas. -/
import Derived.Test.YtbnnlpjpnihheaaGreatDoorME12
import Derived.Lib.AppendZeros
import Derived.WalkLawsBesides
import Derived.Test.YtbnnlpjpnihheaaGreatDoorME6
import Derived.Test.YtbnnlpjpnihheaaGreatDoorME11
import Derived.Test.YtbnnlpjpnihheaaGreatDoorME3
set_option maxHeartbeats 16000000
set_option maxRecDepth 100000
set_option linter.unusedSimpArgs false
set_option linter.unusedVariables false
namespace Go.Proofs.YtbnnlpjpnihheaaGreatDoor.Asn
open Go.RowKit Go.CH Go.CH.aY
open Go.ChangeMaps (setBlock)

theorem yj {w:World} {base g c:Nat} {e:TypeId} {size:Nat} {cur:Array Value} (hb:base≤g) (h:w.heap[g]?=some (.cells cur e (0,0))) (hs:cur.size=c*size) (hc:c≤maxLen):w.ownsRow base e size (.slice (some ⟨g,0,none⟩) 0 c) 0 []:=by
 refine ⟨by simp,.inr ⟨g,c,cur,rfl,hb,h,Nat.zero_le _,?_⟩⟩;simp [hs,hc]
theorem size_zeroCells (z:Value) (n:Nat) (hz:z.cells=#[z]):(Builtin.zeroCells z.cells n).size=n:=by
 simp [Builtin.zeroCells,hz]

def uX (w:World) (e:TypeId) (n:Nat) (xs:List Value) (en:Ending) (w':World):Prop:=∃ A c,en=.returned (.slice A n c)∧Post w (fun _=>False) (aS e 1 (.slice A n c) n xs) w'

structure Kg (w:World) (A:Option Addr) (R:List (List Value)) (V:List (Option Addr × Nat)):Prop where
 len:V.length=R.length
 src:Src w A R.length 1 (V.mapIdx fun i x=>.slice x.1 (R.getD i []).length x.2)
 row:∀ i (hi:i < R.length) x,V[i]?=some x→Src w x.1 R[i].length 1 R[i]
theorem Kg.at {w:World} {A:Option Addr} {R:List (List Value)} {V:List (Option Addr × Nat)} (h:Kg w A R V) (hn:0 < R.length) :
  ∃ b o,A=some ⟨b,o,none⟩∧∀ j (hj:j < R.length),∃ B c,Src w B R[j].length 1 R[j]∧∀ w',Below w.heap.size w w'→w'.cell? ⟨b,o+j,none⟩=some (.slice B R[j].length c):=by
 obtain ⟨b,o,rfl,hc⟩:=Src.open_ h.src hn (by omega);refine ⟨b,o,rfl,fun j hj=>?_⟩;have hv:V[j]?=some (V[j]'(by rw [h.len];exact hj)):=List.getElem?_eq_getElem _;have h1:=h.row j hj _ hv;refine ⟨_,(V[j]'(by rw [h.len];exact hj)).2,h1,fun w' hb=>?_⟩
 have h3:=hc j (.slice (V[j]'(by rw [h.len];exact hj)).1 R[j].length (V[j]'(by rw [h.len];exact hj)).2) (by
  rw [List.getElem?_mapIdx,hv]
  simp [List.getD_eq_getElem?_getD,hj])
 rw [hb.cell (World.block_lt_of_cell? _ _ h3)];exact h3

def fl (R:List (List Value)) (k:Nat):List Value:=(R.take k).flatten
def fla (R:List (List Value)):List Value:=R.flatten
theorem Nf (R:List (List Value)):fl R R.length=fla R:=by unfold fl fla;rw [List.take_length]
theorem jc {R:List (List Value)} {k:Nat} (h:k < R.length):fl R (k+1)=fl R k ++ R[k]:=by
 unfold fl;rw [List.take_succ_eq_append_getElem h,List.flatten_append];simp
theorem Ik {R:List (List Value)} (k:Nat):(fl R k).length≤(fla R).length:=by
 unfold fl fla;have:=congrArg (fun l=>l.flatten.length) (List.take_append_drop k R);simp only [List.flatten_append,List.length_append] at this;omega
theorem Ad.x {w:World} {A:Option Addr} {C:List (List Int)} {V:List (Option Addr × Nat)} (h:Ad w A C V):Kg w A (C.map ints) V where
 len:=by rw [h.len,List.length_map]
 src:=by
  rw [List.length_map];have e:(fun i (x:Option Addr × Nat)=>Value.slice x.1 ((C.map ints).getD i []).length x.2)=fun i x=>Value.slice x.1 (C.getD i []).length x.2:=by
   funext i x;by_cases hi:i < C.length
   ·simp [List.getD_eq_getElem?_getD,hi,yg]
   ·simp [List.getD_eq_getElem?_getD,hi]
  rw [e];exact h.src
 row:=fun i hi x hx=>by
  have hi':i < C.length:=by simpa using hi
  have h2:=(h.row i hi' x hx).1;have e:(C.map ints)[i]=ints C[i]:=by simp
  rw [e,yg];exact h2

theorem Kh (k:Nat) (hk2:k≤1000) (w:World):Calls Tryz.prog 103 #[.slice none 0 0,.int .i64 k] w (uX w 3 0 []):=by
 by_cases hk:0 < k
 case neg =>
  obtain rfl:k=0:=by omega
  go_enter Tryz.func103,Tryz.ntmps103
  go_wp2;go_ret;exact ⟨none,0,rfl,(fun _=>False),fH _ _ _,Mod.refl _ _,fun i hi=>hi.elim⟩
 obtain ⟨ht,hi,hzz,hsz⟩:=kX;obtain ⟨i,hi,hi1,hi2,hi3⟩:=info_parts hi;have hr:=fun ty=>Lib.run_append_nil_zeros (P:=Tryz.prog) w 40 3 ty 3 i (Value.int .i64 0) .i64 .i64 ht Tryz.underlying3 hi hi1 k hk (by omega) (by omega) (by rw [hi3];omega);have hcap:=grownCap_ge w k 0 3;have hcm:=grownCap_le_maxLen w k 0 3 (by unfold maxLen;omega);have HP:Hid (Post w (fun _=>False) (aS 3 1 (.slice (some ⟨w.heap.size,0,none⟩) 0 (grownCap w k 0 3)) 0 []) (w.drew.alloc (.cells (Builtin.zeroCells (Value.int .i64 0).cells k ++ Builtin.zeroCells (Value.int .i64 0).cells (grownCap w k 0 3 - k)) 3))):=by
  refine hide (qg (yj (Nat.le_refl _) (heap_alloc_new _ _) ?_ hcm) ((aV (Below.refl _ _)).alloc (Nat.le_refl _) _));rw [Array.size_append,size_zeroCells _ _ rfl,size_zeroCells _ _ rfl];omega
 generalize grownCap w k 0 3=cap at *
 have hcm':cap≤9223372036854775807:=hcm;clear hi hi1 hi2 hi3 hzz ht hcm
 go_enter Tryz.func103,Tryz.ntmps103
 go_wp2_with (at_builtin;refine Lib.wpList_append_run _ rfl _ _ _ _ rfl _ _ rfl rfl _ _ (hr _) ?_;refine held ?_);refine Held.mk ?_;go_wp2;go_ret;exact ⟨_,_,rfl,HP.out⟩

theorem Ki (k:Nat) (hk2:k≤1000) (w:World):Calls Tryz.prog 102 #[.slice none 0 0,.int .i64 k] w (uX w 40 0 []):=by
 by_cases hk:0 < k
 case neg =>
  obtain rfl:k=0:=by omega
  go_enter Tryz.func102,Tryz.ntmps102
  go_wp2;go_ret;exact ⟨none,0,rfl,(fun _=>False),fH _ _ _,Mod.refl _ _,fun i hi=>hi.elim⟩
 obtain ⟨ht,hi,hzz,hsz⟩:=Gp;obtain ⟨i,hi,hi1,hi2,hi3⟩:=info_parts hi;have hr:=fun ty=>Lib.run_append_nil_zeros (P:=Tryz.prog) w 75 3 ty 40 i (Value.slice none 0 0) .i64 .i64 ht Tryz.underlying3 hi hi1 k hk (by omega) (by omega) (by rw [hi3];omega);have hcap:=grownCap_ge w k 0 40;have hcm:=grownCap_le_maxLen w k 0 40 (by unfold maxLen;omega);have HP:Hid (Post w (fun _=>False) (aS 40 1 (.slice (some ⟨w.heap.size,0,none⟩) 0 (grownCap w k 0 40)) 0 []) (w.drew.alloc (.cells (Builtin.zeroCells (Value.slice none 0 0).cells k ++ Builtin.zeroCells (Value.slice none 0 0).cells (grownCap w k 0 40 - k)) 40))):=by
  refine hide (qg (yj (Nat.le_refl _) (heap_alloc_new _ _) ?_ hcm) ((aV (Below.refl _ _)).alloc (Nat.le_refl _) _));rw [Array.size_append,size_zeroCells _ _ rfl,size_zeroCells _ _ rfl];omega
 generalize grownCap w k 0 40=cap at *
 have hcm':cap≤9223372036854775807:=hcm;clear hi hi1 hi2 hi3 hzz ht hcm
 go_enter Tryz.func102,Tryz.ntmps102
 go_wp2_with (at_builtin;refine Lib.wpList_append_run _ rfl _ _ _ _ rfl _ _ rfl rfl _ _ (hr _) ?_;refine held ?_);refine Held.mk ?_;go_wp2;go_ret;exact ⟨_,_,rfl,HP.out⟩

theorem DF {w:World} {A:Option Addr} {c:Nat} {R:List (List Value)} {V:List (Option Addr × Nat)} (h:Kg w A R V) (h1:R.length≤1000) (h2:(fla R).length≤1000) :
  Calls Tryz.prog 62 #[.slice A R.length c] w (uX w 3 (fla R).length (fla R)):=by
 have HA:=hide h;have HFL:=hide (fun k=>Ik (R:=R) k);obtain ⟨n,hn⟩:∃ n,n=R.length:=⟨_,rfl⟩;have HN:=hide hn;rw [←hn] at h1;rw [←hn];clear h hn
 go_enter Tryz.func62,Tryz.ntmps62
 go_wp2
 go_loop [3,11] (fun s i=>∃ k:Nat,k≤n∧s=.int .i64 (((fl R k).length:Nat):Int)∧i=.int .i64 k) (fun _ i=>n - (intOf i).toNat)
 case atStart=>exact ⟨0,Nat.zero_le _,rfl,rfl⟩
 case round =>
  obtain ⟨k,hk,rfl,rfl⟩:=hrel;by_cases hlt:k < n
  ·have hkr:k < R.length:=by rw [←HN.out];exact hlt
   obtain ⟨b,o,rfl,hc⟩:=HA.out.at (by omega);obtain ⟨B,cp,-,hcell⟩:=hc k hkr;have c0:=hcell _ (Below.refl _ _);have hl1:=HFL.out k;have hl2:=HFL.out (k+1);rw [jc hkr,List.length_append] at hl2;have HT:=hide (show (fl R (k+1)).length=(fl R k).length+R[k].length by rw [jc hkr,List.length_append]);generalize (fl R k).length=s at *
   generalize R[k].length=t at *
   clear hc hcell;go_wp2
   go_round
   case rel=>exact ⟨k+1,by omega,by rw [HT.out];go_num,by go_num⟩
   case measure=>simp [intOf];omega
  ·obtain rfl:k=n:=by omega
   have HT:=hide (show (fl R k)=(fla R) by rw [HN.out,Nf]);rw [HT.out];have KG:=hide (Kh (fla R).length h2 w);go_wp2_with fail;refine KG.out.mono ?_;rintro e w1 ⟨A1,c1,rfl,hP⟩;have HR:=hide (((Run.begin w).fresh aB hP).imp fun _ _ h=>iM h);clear KG hP;go_wp2;go_loopw [6,27] (fun v i wr=>∃ (j:Nat) (B:Option Addr) (d:Nat),j≤k∧v=.slice B (fl R j).length d∧i=.int .i64 j∧Run (fun _=>False) w (aS 3 1 (.slice B (fl R j).length d) (fl R j).length (fl R j)) wr) (fun _ i _=>k - (intOf i).toNat)
   case atStart=>exact ⟨0,_,_,Nat.zero_le _,rfl,rfl,HR.out⟩
   case round =>
    obtain ⟨j,B,d,hj,rfl,rfl,hR⟩:=hrel;have HR2:=hide hR;clear HR;by_cases hjt:j < k
    ·have hjr:j < R.length:=by rw [←HN.out];exact hjt
     obtain ⟨b,o,rfl,hc⟩:=HA.out.at (by omega);obtain ⟨B2,cp,hsrc,hcell⟩:=hc j hjr;have c0:=hcell _ hR.bI;have HS:=hide (aR hsrc hR.bI);have hl1:=HFL.out j;have hl2:=HFL.out (j+1);rw [jc hjr,List.length_append] at hl2;have HT2:=hide (jc hjr);generalize (fl R j)=xs at *
     generalize R[j]=ys at *
     clear hc hcell hsrc hR;go_wp2_with (at_builtin;refine held ?_);obtain ⟨F7,hR7,bk7⟩:=HR2.out.all bA;refine Held.mk (gX rfl (.tmp 31) (.tmp 32) rfl kX _ 0 (v:=.slice B xs.length d) (n:=xs.length) (xs:=xs) rfl hR7.1 (A:=B2) (m:=ys.length) (c:=cp) (news:=ys) rfl HS.out (by omega) (by decide) (Nat.zero_le _) ?_);intro v8 w8 ho8 hg8 hv8;have S8:=bk7 _ _ (iA hR7 ho8 hg8 hv8);obtain ⟨A8,c8,rfl⟩:=gy ho8;rw [←List.length_append,←HT2.out] at S8;have HS8:=hide S8;have e9:xs.length+ys.length=(fl R (j+1)).length:=by rw [HT2.out,List.length_append]
     rw [e9];clear ho8 hg8 hv8 bk7 hR7 HS S8 HR2 e9;go_wp2
     go_roundw
     case rel=>exact ⟨j+1,A8,c8,by omega,rfl,by go_num,HS8.out⟩
     case measure=>simp [intOf];omega
    ·obtain rfl:j=k:=by omega
     rw [HT.out] at HR2;rw [HT.out];clear hR;go_wp2;go_ret;exact ⟨B,d,rfl,HR2.out.post bA |> fun h=>h⟩

theorem DI {w:World} {A:Option Addr} {c:Nat} {R:List (List Value)} {V:List (Option Addr × Nat)} (h:Kg w A R V) (h1:R.length≤1000) (h2:(fla R).length≤1000) :
  Calls Tryz.prog 61 #[.slice A R.length c] w (uX w 40 (fla R).length (fla R)):=by
 have HA:=hide h;have HFL:=hide (fun k=>Ik (R:=R) k);obtain ⟨n,hn⟩:∃ n,n=R.length:=⟨_,rfl⟩;have HN:=hide hn;rw [←hn] at h1;rw [←hn];clear h hn
 go_enter Tryz.func61,Tryz.ntmps61
 go_wp2
 go_loop [3,11] (fun s i=>∃ k:Nat,k≤n∧s=.int .i64 (((fl R k).length:Nat):Int)∧i=.int .i64 k) (fun _ i=>n - (intOf i).toNat)
 case atStart=>exact ⟨0,Nat.zero_le _,rfl,rfl⟩
 case round =>
  obtain ⟨k,hk,rfl,rfl⟩:=hrel;by_cases hlt:k < n
  ·have hkr:k < R.length:=by rw [←HN.out];exact hlt
   obtain ⟨b,o,rfl,hc⟩:=HA.out.at (by omega);obtain ⟨B,cp,-,hcell⟩:=hc k hkr;have c0:=hcell _ (Below.refl _ _);have hl1:=HFL.out k;have hl2:=HFL.out (k+1);rw [jc hkr,List.length_append] at hl2;have HT:=hide (show (fl R (k+1)).length=(fl R k).length+R[k].length by rw [jc hkr,List.length_append]);generalize (fl R k).length=s at *
   generalize R[k].length=t at *
   clear hc hcell;go_wp2
   go_round
   case rel=>exact ⟨k+1,by omega,by rw [HT.out];go_num,by go_num⟩
   case measure=>simp [intOf];omega
  ·obtain rfl:k=n:=by omega
   have HT:=hide (show (fl R k)=(fla R) by rw [HN.out,Nf]);rw [HT.out];have KG:=hide (Ki (fla R).length h2 w);go_wp2_with fail;refine KG.out.mono ?_;rintro e w1 ⟨A1,c1,rfl,hP⟩;have HR:=hide (((Run.begin w).fresh aB hP).imp fun _ _ h=>iM h);clear KG hP;go_wp2;go_loopw [6,27] (fun v i wr=>∃ (j:Nat) (B:Option Addr) (d:Nat),j≤k∧v=.slice B (fl R j).length d∧i=.int .i64 j∧Run (fun _=>False) w (aS 40 1 (.slice B (fl R j).length d) (fl R j).length (fl R j)) wr) (fun _ i _=>k - (intOf i).toNat)
   case atStart=>exact ⟨0,_,_,Nat.zero_le _,rfl,rfl,HR.out⟩
   case round =>
    obtain ⟨j,B,d,hj,rfl,rfl,hR⟩:=hrel;have HR2:=hide hR;clear HR;by_cases hjt:j < k
    ·have hjr:j < R.length:=by rw [←HN.out];exact hjt
     obtain ⟨b,o,rfl,hc⟩:=HA.out.at (by omega);obtain ⟨B2,cp,hsrc,hcell⟩:=hc j hjr;have c0:=hcell _ hR.bI;have HS:=hide (aR hsrc hR.bI);have hl1:=HFL.out j;have hl2:=HFL.out (j+1);rw [jc hjr,List.length_append] at hl2;have HT2:=hide (jc hjr);generalize (fl R j)=xs at *
     generalize R[j]=ys at *
     clear hc hcell hsrc hR;go_wp2_with (at_builtin;refine held ?_);obtain ⟨F7,hR7,bk7⟩:=HR2.out.all bA;refine Held.mk (gX rfl (.tmp 31) (.tmp 32) rfl Gp _ 0 (v:=.slice B xs.length d) (n:=xs.length) (xs:=xs) rfl hR7.1 (A:=B2) (m:=ys.length) (c:=cp) (news:=ys) rfl HS.out (by omega) (by decide) (Nat.zero_le _) ?_);intro v8 w8 ho8 hg8 hv8;have S8:=bk7 _ _ (iA hR7 ho8 hg8 hv8);obtain ⟨A8,c8,rfl⟩:=gy ho8;rw [←List.length_append,←HT2.out] at S8;have HS8:=hide S8;have e9:xs.length+ys.length=(fl R (j+1)).length:=by rw [HT2.out,List.length_append]
     rw [e9];clear ho8 hg8 hv8 bk7 hR7 HS S8 HR2 e9;go_wp2
     go_roundw
     case rel=>exact ⟨j+1,A8,c8,by omega,rfl,by go_num,HS8.out⟩
     case measure=>simp [intOf];omega
    ·obtain rfl:j=k:=by omega
     rw [HT.out] at HR2;rw [HT.out];clear hR;go_wp2;go_ret;exact ⟨B,d,rfl,HR2.out.post bA |> fun h=>h⟩

theorem Kk {w:World} {A:Option Addr} {c:Nat} {l:List Int} (h:Vec w A l) (hl:l.length≤1000) :
  Calls Tryz.prog 60 #[.slice A l.length c] w (uX w 3 l.length (ints l)):=by
 cases A with
 | none =>
  have h0:l.length=0:=by
   rcases Nat.eq_zero_or_pos l.length with e | e
   ·exact e
   ·obtain ⟨b,o,h1,_⟩:=h.at e;cases h1
  obtain rfl:=List.length_eq_zero_iff.1 h0;clear h;have q22:∀ (w:World),(binOp .eql 40 (.slice none 0 c) (.slice none 0 0)).run Tryz.prog w=.ok (.bool true) w:=fun w=>Lib.run_eql_slice_nil w _ _ none _ c 0 0 Tryz.underlying40
  show Calls Tryz.prog 60 #[.slice none 0 c] w (uX w 3 0 [])
  go_enter Tryz.func60,Tryz.ntmps60
  go_wp2;go_ret;exact ⟨none,0,rfl,(fun _=>False),fH _ _ _,Mod.refl _ _,fun i hi=>hi.elim⟩
 | some ad =>
  have hR0:=(Run.begin w).fresh aB (M6 w 3 1);have HR:=hide (hR0.imp (fun _ _ h=>iM h));have HS:=hide (aR h (show Below w.heap.size w (w.alloc (.cells #[] 3)) from (Below.refl _ _).alloc (Nat.le_refl _) _));have q22:∀ (w:World),(binOp .eql 40 (.slice (some ad) l.length c) (.slice none 0 0)).run Tryz.prog w=.ok (.bool false) w:=fun w=>Lib.run_eql_slice_nil w _ _ (some ad) _ c 0 0 Tryz.underlying40;clear h hR0
  go_enter Tryz.func60,Tryz.ntmps60
  go_wp2_with (at_builtin;refine held ?_);obtain ⟨F7,hR7,bk7⟩:=HR.out.all bA;refine Held.mk (gX rfl (.tmp 5) (.tmp 6) rfl kX _ 0 (v:=.slice (some ⟨w.heap.size,0,none⟩) 0 0) (n:=0) (xs:=[]) rfl hR7.1 (A:=some ad) (m:=l.length) (c:=c) (news:=ints l) rfl HS.out (by omega) (by decide) (Nat.zero_le _) ?_);intro v8 w8 ho8 hg8 hv8;have S8:=bk7 _ _ (iA hR7 ho8 hg8 hv8);obtain ⟨A8,c8,rfl⟩:=gy ho8;rw [Nat.zero_add,List.nil_append] at S8;have HS8:=hide S8;rw [Nat.zero_add];clear ho8 hg8 hv8 bk7 hR7 HS S8 HR;go_wp2;go_ret;exact ⟨A8,c8,rfl,HS8.out.post bA⟩
end Go.Proofs.YtbnnlpjpnihheaaGreatDoor.Asn
namespace Go.Proofs.YtbnnlpjpnihheaaGreatDoor.Asn
open Go.RowKit Go.CH Go.CH.aY
open Go.ChangeMaps (setBlock)

theorem bZ {fn:Func} {p u:Tmp} {ty:TypeId} (h:fn.results=#[.cell p ty,.tmp u]) {P:Program} (tmps:Array Value) (w:World) (g:Nat) (t:TypeId) (cs:Array Value) (fr:Nat × Nat) {d:Array Field}
  (hp:tmps.getD p undef=.pointer (some ⟨g,0,none⟩)) (hg:w.heap[g]?=some (.cells cs t fr))
  (hu:P.underlying ty=some (.struct d)) (hi:(P.info? ty).map (·.size)=some cs.size) :
  (results fn tmps).run P w=.ok (.tuple #[.agg cs,tmps.getD u undef]) w:=by
 rw [results_cell_tmp h,hp];simp [asAddr,run_loadVar_row w g t ty cs fr (.struct d) hg hu rfl hi]
def iL:Array Value:=#[.int .i64 0,.slice none 0 0,.slice none 0 0,.slice none 0 0]

def bD (A:Option Addr) (c:Nat) (l:List Int):CH.Own:=aS 3 1 (.slice A l.length c) l.length (ints l)
theorem bL {A:Option Addr} {c:Nat} {l:List Int}:(bD A c l).Ok:=bA
theorem sV {A:Option Addr} {c:Nat} {l:List Int} {x:Int}:aS 3 1 (.slice A (l.length+1) c) (l.length+1) (ints l ++ [.int .i64 x])=bD A c (l ++ [x]):=by
 unfold bD;have e:ints (l ++ [x])=ints l ++ [.int .i64 x]:=by simp [ints]
 rw [e,List.length_append,List.length_singleton]
theorem lI {w:World} {F:Nat→Prop} {A:Option Addr} {c:Nat} {l:List Int} (h:bD A c l w F):Vec w A l:=iT h (M7 l)
theorem sW (w:World):bD none 0 [] w (fun _=>False):=fH w 3 1

def fD (g6 ga:Nat) (k:Int) (A1 A2 A3:Option Addr) (c1 c2 c3:Nat) (ps us vs:List Int):CH.Own :=
 star (bD A1 c1 ps) (star (bD A2 c2 us) (star (bD A3 c3 vs) (star (au ga #[.int .i64 k,.slice A1 ps.length c1,.slice A2 us.length c2,.slice A3 vs.length c3] 85) (au g6 iL 85))))
theorem iR {g6 ga:Nat} {k:Int} {A1 A2 A3:Option Addr} {c1 c2 c3:Nat} {ps us vs:List Int}:(fD g6 ga k A1 A2 A3 c1 c2 c3 ps us vs).Ok:=aj bL (aj bL (aj bL (aj av av)))

structure Rm where
 k:Int
 ps:List Int
 us:List Int
 vs:List Int
def gH (C:List (List Int)) (D E:List Int):Rm:=⟨kr (cF C) (lF D) (lF E) D.length E.length,OA (cF C) (lF D) (lF E) D.length E.length,UE (cF C) (lF D) (lF E) D.length E.length,UF (cF C) (lF D) (lF E) D.length E.length⟩

def SF (w:World) (v:Value) (x:Rm):Prop :=
 ∃ A1 A2 A3 c1 c2 c3,v=.agg #[.int .i64 x.k,.slice A1 x.ps.length c1,.slice A2 x.us.length c2,.slice A3 x.vs.length c3]∧Vec w A1 x.ps∧Vec w A2 x.us∧Vec w A3 x.vs
def lH (w:World) (C:List (List Int)) (D E:List Int) (e:Ending) (w':World):Prop :=
 ∃ v,e=.returned (.tuple #[v,.int .i64 (if vV C D E then 0 else 1)])∧Below w.heap.size w w'∧SF w' v (if vV C D E then gH C D E else ⟨0,[],[],[]⟩)
section
variable {w0 W:World} {X Y:CH.Own}
theorem gI {g:Nat} {cs cs':Array Value} {t:TypeId} (hY:Y.Ok) (h:Run (fun _=>False) w0 (star (au g cs t) Y) W) (i:Nat) (v:Value) (he:cs.setIfInBounds i v=cs'):Run (fun _=>False) w0 (star (au g cs' t) Y) (W.setCell ⟨g,i,none⟩ v):=by
 obtain ⟨F,hC,-,bk⟩:=h.take av hY;rw [←he];exact bk _ _ (oL hC i v)

theorem Il {g6 ga:Nat} {k x:Int} {A1 A2 A3 A8:Option Addr} {c1 c2 c3 c8:Nat} {ps us vs:List Int} (hX:X.Ok)
  (h:Run (fun _=>False) w0 (star (aS 3 1 (.slice A8 (ps.length+1) c8) (ps.length+1) (ints ps ++ [.int .i64 x])) (star (bD A2 c2 us) (star (bD A3 c3 vs) (star (au ga #[.int .i64 k,.slice A1 ps.length c1,.slice A2 us.length c2,.slice A3 vs.length c3] 85) (star (au g6 iL 85) X))))) W) :
  Run (fun _=>False) w0 (star (fD g6 ga k A8 A2 A3 c8 c2 c3 (ps ++ [x]) us vs) X) (W.setCell ⟨ga,1,none⟩ (.slice A8 (ps.length+1) c8)):=by
 rw [sV] at h;have h1:=gI (aj bL (aj bL (aj bL (aj av hX)))) (h.perm (by ac_rfl:_=star (au ga #[.int .i64 k,.slice A1 ps.length c1,.slice A2 us.length c2,.slice A3 vs.length c3] 85) (star (bD A8 c8 (ps ++ [x])) (star (bD A2 c2 us) (star (bD A3 c3 vs) (star (au g6 iL 85) X)))))) 1 (.slice A8 (ps.length+1) c8) (cs':=#[.int .i64 k,.slice A8 (ps ++ [x]).length c8,.slice A2 us.length c2,.slice A3 vs.length c3]) (by rw [List.length_append,List.length_singleton];rfl);unfold fD;exact h1.perm (by ac_rfl)
theorem P9 {g6 ga:Nat} {k x:Int} {A1 A2 A3 A8:Option Addr} {c1 c2 c3 c8:Nat} {ps us vs:List Int} (hX:X.Ok)
  (h:Run (fun _=>False) w0 (star (aS 3 1 (.slice A8 (us.length+1) c8) (us.length+1) (ints us ++ [.int .i64 x])) (star (bD A1 c1 ps) (star (bD A3 c3 vs) (star (au ga #[.int .i64 k,.slice A1 ps.length c1,.slice A2 us.length c2,.slice A3 vs.length c3] 85) (star (au g6 iL 85) X))))) W) :
  Run (fun _=>False) w0 (star (fD g6 ga k A1 A8 A3 c1 c8 c3 ps (us ++ [x]) vs) X) (W.setCell ⟨ga,2,none⟩ (.slice A8 (us.length+1) c8)):=by
 rw [sV] at h;have h1:=gI (aj bL (aj bL (aj bL (aj av hX)))) (h.perm (by ac_rfl:_=star (au ga #[.int .i64 k,.slice A1 ps.length c1,.slice A2 us.length c2,.slice A3 vs.length c3] 85) (star (bD A1 c1 ps) (star (bD A8 c8 (us ++ [x])) (star (bD A3 c3 vs) (star (au g6 iL 85) X)))))) 2 (.slice A8 (us.length+1) c8) (cs':=#[.int .i64 k,.slice A1 ps.length c1,.slice A8 (us ++ [x]).length c8,.slice A3 vs.length c3]) (by rw [List.length_append,List.length_singleton];rfl);unfold fD;exact h1.perm (by ac_rfl)

theorem jK {g6 ga:Nat} {k:Int} {A1 A2 A3:Option Addr} {c1 c2 c3:Nat} {ps us vs:List Int} (h:Run (fun _=>False) w0 (star (fD g6 ga k A1 A2 A3 c1 c2 c3 ps us vs) X) W) :
  W.cell? ⟨ga,0,none⟩=some (.int .i64 k)∧W.cell? ⟨ga,1,none⟩=some (.slice A1 ps.length c1)∧W.cell? ⟨ga,2,none⟩=some (.slice A2 us.length c2)∧W.cell? ⟨ga,3,none⟩=some (.slice A3 vs.length c3)∧∀ i,W.frozen? ⟨ga,i,none⟩=false:=by
 have h1:=h;unfold fD at h1;obtain ⟨F,hC⟩:=(h1.perm (by ac_rfl:_=star (au ga #[.int .i64 k,.slice A1 ps.length c1,.slice A2 us.length c2,.slice A3 vs.length c3] 85) (star (bD A1 c1 ps) (star (bD A2 c2 us) (star (bD A3 c3 vs) (star (au g6 iL 85) X)))))).fst;exact ⟨ay hC rfl,ay hC rfl,ay hC rfl,ay hC rfl,aJ hC⟩
theorem Im {g6 ga:Nat} {k:Int} {A1 A2 A3:Option Addr} {c1 c2 c3:Nat} {ps us vs:List Int} (h:Run (fun _=>False) w0 (star (fD g6 ga k A1 A2 A3 c1 c2 c3 ps us vs) X) W) :
  Run (fun _=>False) w0 (star (bD A1 c1 ps) (star (bD A2 c2 us) (star (bD A3 c3 vs) (star (au ga #[.int .i64 k,.slice A1 ps.length c1,.slice A2 us.length c2,.slice A3 vs.length c3] 85) (star (au g6 iL 85) X))))) W:=by
 unfold fD at h;exact h.perm (by ac_rfl)
theorem Qa {g6 ga:Nat} {k:Int} {A1 A2 A3:Option Addr} {c1 c2 c3:Nat} {ps us vs:List Int} (h:Run (fun _=>False) w0 (star (fD g6 ga k A1 A2 A3 c1 c2 c3 ps us vs) X) W) :
  Run (fun _=>False) w0 (star (bD A2 c2 us) (star (bD A1 c1 ps) (star (bD A3 c3 vs) (star (au ga #[.int .i64 k,.slice A1 ps.length c1,.slice A2 us.length c2,.slice A3 vs.length c3] 85) (star (au g6 iL 85) X))))) W:=by
 unfold fD at h;exact h.perm (by ac_rfl)
theorem Qb {g6 ga:Nat} {k:Int} {A1 A2 A3:Option Addr} {c1 c2 c3:Nat} {ps us vs:List Int} (h:Run (fun _=>False) w0 (star (fD g6 ga k A1 A2 A3 c1 c2 c3 ps us vs) X) W) :
  Run (fun _=>False) w0 (star (bD A3 c3 vs) (star (bD A1 c1 ps) (star (bD A2 c2 us) (star (au ga #[.int .i64 k,.slice A1 ps.length c1,.slice A2 us.length c2,.slice A3 vs.length c3] 85) (star (au g6 iL 85) X))))) W:=by
 unfold fD at h;exact h.perm (by ac_rfl)
theorem Ng {a b c d:CH.Own} (h1:a.Ok) (h2:b.Ok) (h3:c.Ok) (h4:d.Ok) (hX:X.Ok):(star a (star b (star c (star d X)))).Ok:=aj h1 (aj h2 (aj h3 (aj h4 hX)))

theorem lD (W:World) (x:Int):Src (W.alloc (.cells #[.int .i64 x] 3)) (some ⟨W.heap.size,0,none⟩) 1 1 [.int .i64 x]:=Src.one (heap_alloc_new W _) rfl
end
end Go.Proofs.YtbnnlpjpnihheaaGreatDoor.Asn
namespace Go.Proofs.YtbnnlpjpnihheaaGreatDoor.Asn
open Go.RowKit Go.CH Go.CH.aY
open Go.ChangeMaps (setBlock)

def DJ (p:Prop) (O:CH.Own):CH.Own:=fun w F=>p∧O w F
theorem sZ {p:Prop} {O:CH.Own} (h:O.Ok):(DJ p O).Ok:=⟨fun ⟨_,h1⟩=>h.lt h1,fun ⟨h0,h1⟩ hk=>⟨h0,h.keep h1 hk⟩⟩
def Rn {α:Type} (O:α→CH.Own):CH.Own:=fun w F=>∃ x,O x w F
theorem yu {α:Type} {O:α→CH.Own} (h:∀ x,(O x).Ok):(Rn O).Ok:=⟨fun ⟨x,h1⟩=>(h x).lt h1,fun ⟨x,h1⟩ hk=>⟨x,(h x).keep h1 hk⟩⟩
theorem yw {F0:Nat→Prop} {w0 W:World} {α:Type} {O:α→CH.Own} {X:CH.Own} (h:Run F0 w0 (star (Rn O) X) W):∃ x,Run F0 w0 (star (O x) X) W:=by
 obtain ⟨F,⟨F1,F2,⟨x,h1⟩,h2,h3,h4⟩,h5⟩:=h.own;exact ⟨x,⟨F,⟨F1,F2,h1,h2,h3,h4⟩,h5⟩,h.mod⟩
theorem tu {F0:Nat→Prop} {w0 W:World} {p:Prop} {O X:CH.Own} (h:Run F0 w0 (star (DJ p O) X) W):p∧Run F0 w0 (star O X) W:=by
 obtain ⟨F,⟨F1,F2,⟨h0,h1⟩,h2,h3,h4⟩,h5⟩:=h.own;exact ⟨h0,⟨F,⟨F1,F2,h1,h2,h3,h4⟩,h5⟩,h.mod⟩
theorem run_mk {F0:Nat→Prop} {w0 W:World} {α:Type} {p:α→Prop} {O:α→CH.Own} {X:CH.Own} (x:α) (hp:p x) (h:Run F0 w0 (star (O x) X) W):Run F0 w0 (star (Rn fun x=>DJ (p x) (O x)) X) W :=
 h.imp fun w F hh=>bF hh (fun F h1=>⟨x,hp,h1⟩) (fun _ h=>h)
theorem Ag {F0:Nat→Prop} {w0 W:World} {X:CH.Own} (h:Run F0 w0 (star emp X) W):Run F0 w0 X W:=h.drop
section
variable {w0 W:World} {F0:Nat→Prop} {Z:CH.Own} {ops:Array Oper} {a:Act} {Q:Exit→Act→World→Prop}
end

theorem tC {a:Act} {d:Nat} (v:Value) (h:d < a.tmps.size):(a.put (some d) v).eval (.tmp d)=v:=by
 simp [Act.put,Act.eval,h]
section
variable {w W:World} {A B G A1 B1:Option Addr} {c:Nat→Nat→Int} {d e:Nat→Int} {n m i:Nat} {RV:List Value} {x:Value}

theorem BF.dup (h:BF w A B G c d e n m) (hn:n≤6) (hrow:∀ i,i < n→∃ R cp,RV[i]?=some (.slice R m cp)∧∀ j,j < m→∃ b' o',R=some ⟨b',o',none⟩∧∀ w',Below w.heap.size w w'→w'.cell? ⟨b',o'+j,none⟩=some (.int .i64 (c i j)))
  (hl:RV.length=n) (hi:i < n) (hx:RV[i]?=some x) (hb:Below w.heap.size w W) (h1:Src W A1 (n+1) 1 (RV ++ [x])) (h2:Src W B1 (n+1) 1 ((fv n fun j=>.int .i64 (d j)) ++ [.int .i64 (d i)])) :
  BF W A1 B1 G (iH c n i) (iI d n i) e (n+1) m where
 n7:=by omega
 m6:=h.m6
 db:=fun r hr=>by unfold iI;split;exact h.db i hi;exact h.db r (by omega)
 eb:=h.eb
 cb:=fun r hr j hj=>by unfold iH;split;exact h.cb i hi j hj;exact h.cb r (by omega) j hj
 ds:=by
  have e:(fv (n+1) fun r=>Value.int .i64 (iI d n i r))=(fv n fun j=>.int .i64 (d j)) ++ [.int .i64 (d i)]:=by
   unfold fv;rw [List.range_succ,List.map_append];congr 1
   ·exact List.map_congr_left fun r hr=>by
     have:r≠n:=by have:=List.mem_range.1 hr;omega
     simp [iI,this]
   ·simp [iI]
  rw [e];exact h2
 es:=aR h.es hb
 rows:=by
  refine ⟨_,h1,fun r hr=>?_⟩;by_cases e:r=n
  ·obtain ⟨R,cp,g1,g2⟩:=hrow i hi;rw [hx] at g1;refine ⟨R,cp,?_,fun j hj=>?_⟩
   ·rw [e,List.getElem?_append_right (by omega),hl,Nat.sub_self];simpa using g1
   ·obtain ⟨b',o',k1,k2⟩:=g2 j hj;exact ⟨b',o',k1,fun w2 hb2=>by simp only [iH,if_pos e];exact k2 w2 (aC hb hb2)⟩
  ·obtain ⟨R,cp,g1,g2⟩:=hrow r (by omega);refine ⟨R,cp,?_,fun j hj=>?_⟩
   ·rw [List.getElem?_append_left (by omega)];exact g1
   ·obtain ⟨b',o',k1,k2⟩:=g2 j hj;exact ⟨b',o',k1,fun w2 hb2=>by simp only [iH,if_neg e];exact k2 w2 (aC hb hb2)⟩
end

theorem Qc {w0 W:World} {R:CH.Own} (h:Run (fun _=>False) w0 R W):Run (fun _=>False) w0 (star emp (star emp R)) W:=by
 have h1:Run (fun _=>False) w0 (star emp R) W:=h.one.imp fun _ _ h=>gu h;exact h1.one.imp fun _ _ h=>gu h

theorem len1 {vs:List Value} (h:vs.length=1):∃ a,vs=[a]:=by
 match vs,h with
 | [a],_=>exact ⟨a,rfl⟩
theorem len2 {vs:List Value} (h:vs.length=2):∃ a b,vs=[a,b]:=by
 match vs,h with
 | [a,b],_=>exact ⟨a,b,rfl⟩
theorem SG {vs:List Value} (h:vs.length=3):∃ a b c,vs=[a,b,c]:=by
 match vs,h with
 | [a,b,c],_=>exact ⟨a,b,c,rfl⟩

theorem DK (A:Option Addr) (n c:Nat) (w:World):(Instr.buildSlice 75 1 #[(0,.slice A n c)]).run Tryz.prog w=.ok (.slice (some ⟨w.heap.size,0,none⟩) 1 1) (w.alloc (.cells #[.slice A n c] 40)):=by go_simp
theorem vJ (x:Int) (w:World):(Instr.buildSlice 40 1 #[(0,.int .i64 x)]).run Tryz.prog w=.ok (.slice (some ⟨w.heap.size,0,none⟩) 1 1) (w.alloc (.cells #[.int .i64 x] 3)):=by go_simp
section
variable {w0 W:World} {F0:Nat→Prop} {Z:CH.Own} {ops:Array Oper} {a:Act} {Q:Exit→Act→World→Prop}
theorem mD {o:Oper} {v:Value} {w':World} {K:Act→World→Prop} (hrun:(execOp a.eval o).run Tryz.prog W=.ok (.value v) w') (h:K (a.put o.dst v) w'):o.wp Tryz.prog a W K Q:=by
 unfold Oper.wp;rw [hrun];exact h
theorem kW {o:Oper} {ts:TypeId} {x:Operand} {v r:Value} {w w':World} (hop:o.op=.buildSlice ts 1 #[(0,x)]) (hx:a.eval x=v) (hb:(Instr.buildSlice ts 1 #[(0,v)]).run Tryz.prog w=.ok r w'):(execOp a.eval o).run Tryz.prog w=.ok (.value r) w':=by
 unfold execOp;simp only [hop,List.map_toArray,List.map_cons,List.map_nil,hx];simp only [Sem.run_bind,hb,Result.andThen_ok,Sem.run_pure]
theorem Kl {o:Oper} {x:Operand} {v:Value} {K:Act→World→Prop} (ho:o.op=.assign x) (hx:a.eval x=v) (h:K (a.put o.dst v) W):o.wp Tryz.prog a W K Q:=by
 refine mD (v:=v) (w':=W) ?_ h;unfold execOp;simp only [ho,hx,Sem.run_pure]
end

theorem Nh {w0 W:World} {X:CH.Own} {g6 ga:Nat} {k:Int} {A1 A2 A3:Option Addr} {c1 c2 c3:Nat} {ps us vs:List Int} (h:Run (fun _=>False) w0 (star (fD g6 ga k A1 A2 A3 c1 c2 c3 ps us vs) X) W) :
  W.cell? ⟨g6,0,none⟩=some (.int .i64 0)∧W.cell? ⟨g6,1,none⟩=some (.slice none 0 0)∧W.cell? ⟨g6,2,none⟩=some (.slice none 0 0)∧W.cell? ⟨g6,3,none⟩=some (.slice none 0 0)∧∀ i,W.frozen? ⟨g6,i,none⟩=false:=by
 unfold fD at h;obtain ⟨F,hC⟩:=(h.perm (by ac_rfl:_=star (au g6 iL 85) (star (bD A1 c1 ps) (star (bD A2 c2 us) (star (bD A3 c3 vs) (star (au ga #[.int .i64 k,.slice A1 ps.length c1,.slice A2 us.length c2,.slice A3 vs.length c3] 85) X)))))).fst;exact ⟨ay hC rfl,ay hC rfl,ay hC rfl,ay hC rfl,aJ hC⟩

theorem Ni {w0 W:World} {X:CH.Own} {g6 ga:Nat} {k:Int} {A1 A2 A3:Option Addr} {c1 c2 c3:Nat} {ps us vs:List Int} (hX:X.Ok) (h:Run (fun _=>False) w0 (star (fD g6 ga k A1 A2 A3 c1 c2 c3 ps us vs) X) W) :
  Run (fun _=>False) w0 (star (au g6 #[.int .i64 k,.slice A1 ps.length c1,.slice A2 us.length c2,.slice A3 vs.length c3] 85) (star (bD A1 c1 ps) (star (bD A2 c2 us) (star (bD A3 c3 vs) X)))) ((((W.setCell ⟨g6,0,none⟩ (.int .i64 k)).setCell ⟨g6,1,none⟩ (.slice A1 ps.length c1)).setCell ⟨g6,2,none⟩ (.slice A2 us.length c2)).setCell ⟨g6,3,none⟩ (.slice A3 vs.length c3)):=by
 unfold fD at h;have h1:=h.perm (by ac_rfl:_=star (au g6 iL 85) (star (bD A1 c1 ps) (star (bD A2 c2 us) (star (bD A3 c3 vs) (star (au ga #[.int .i64 k,.slice A1 ps.length c1,.slice A2 us.length c2,.slice A3 vs.length c3] 85) X)))));have oY:(star (bD A1 c1 ps) (star (bD A2 c2 us) (star (bD A3 c3 vs) (star (au ga #[.int .i64 k,.slice A1 ps.length c1,.slice A2 us.length c2,.slice A3 vs.length c3] 85) X)))).Ok:=Ng bL bL bL av hX;have h2:=gI oY h1 0 (.int .i64 k) (cs':=#[.int .i64 k,.slice none 0 0,.slice none 0 0,.slice none 0 0]) rfl;have h3:=gI oY h2 1 (.slice A1 ps.length c1) (cs':=#[.int .i64 k,.slice A1 ps.length c1,.slice none 0 0,.slice none 0 0]) rfl;have h4:=gI oY h3 2 (.slice A2 us.length c2) (cs':=#[.int .i64 k,.slice A1 ps.length c1,.slice A2 us.length c2,.slice none 0 0]) rfl;have h5:=gI oY h4 3 (.slice A3 vs.length c3) (cs':=#[.int .i64 k,.slice A1 ps.length c1,.slice A2 us.length c2,.slice A3 vs.length c3]) rfl;have h6:=h5.perm (by ac_rfl:_=star (au ga #[.int .i64 k,.slice A1 ps.length c1,.slice A2 us.length c2,.slice A3 vs.length c3] 85) (star (au g6 #[.int .i64 k,.slice A1 ps.length c1,.slice A2 us.length c2,.slice A3 vs.length c3] 85) (star (bD A1 c1 ps) (star (bD A2 c2 us) (star (bD A3 c3 vs) X)))));exact h6.drop
theorem Nj {w0 W:World} {X:CH.Own} {cs:Array Value} {g6:Nat} {k:Int} {A1 A2 A3:Option Addr} {c1 c2 c3:Nat} {ps us vs:List Int} (h:Run (fun _=>False) w0 (star (au g6 cs 85) (star (bD A1 c1 ps) (star (bD A2 c2 us) (star (bD A3 c3 vs) X)))) W) :
  SF W (.agg #[.int .i64 k,.slice A1 ps.length c1,.slice A2 us.length c2,.slice A3 vs.length c3]) ⟨k,ps,us,vs⟩:=by
 obtain ⟨F1,h1⟩:=h.mh.fst;obtain ⟨F2,h2⟩:=(h.perm (by ac_rfl:_=star (bD A2 c2 us) (star (au g6 cs 85) (star (bD A1 c1 ps) (star (bD A3 c3 vs) X))))).fst;obtain ⟨F3,h3⟩:=(h.perm (by ac_rfl:_=star (bD A3 c3 vs) (star (au g6 cs 85) (star (bD A1 c1 ps) (star (bD A2 c2 us) X))))).fst;exact ⟨A1,A2,A3,c1,c2,c3,rfl,lI h1,lI h2,lI h3⟩

theorem Nk {w0 W:World} {g6:Nat} (h:Run (fun _=>False) w0 (au g6 #[.int .i64 0,.slice none 0 0,.slice none 0 0,.slice none 0 0] 85) W) :
  Run (fun _=>False) w0 (au g6 #[.int .i64 0,.slice none 0 0,.slice none 0 0,.slice none 0 0] 85) ((((W.setCell ⟨g6,0,none⟩ (.int .i64 0)).setCell ⟨g6,1,none⟩ (.slice none 0 0)).setCell ⟨g6,2,none⟩ (.slice none 0 0)).setCell ⟨g6,3,none⟩ (.slice none 0 0)):=by
 have h0:Run (fun _=>False) w0 (star (au g6 #[.int .i64 0,.slice none 0 0,.slice none 0 0,.slice none 0 0] 85) emp) W:=h.one;have h2:=gI aB h0 0 (.int .i64 0) (cs':=#[.int .i64 0,.slice none 0 0,.slice none 0 0,.slice none 0 0]) rfl;have h3:=gI aB h2 1 (.slice none 0 0) (cs':=#[.int .i64 0,.slice none 0 0,.slice none 0 0,.slice none 0 0]) rfl;have h4:=gI aB h3 2 (.slice none 0 0) (cs':=#[.int .i64 0,.slice none 0 0,.slice none 0 0,.slice none 0 0]) rfl;have h5:=gI aB h4 3 (.slice none 0 0) (cs':=#[.int .i64 0,.slice none 0 0,.slice none 0 0,.slice none 0 0]) rfl;exact h5.imp fun _ _ h=>iM h
theorem DL {c:Nat→Nat→Int} {d e:Nat→Int} {n m k:Nat} {x:Int} {ps qs:List Int} {U T:Nat→Bool} (h:OA c d e n m=ps ++ gr c d e n m (k+1) U) (hg:gr c d e n m (k+1) U=x :: gr c d e n m k T):OA c d e n m=(ps ++ [x]) ++ gr c d e n m k T:=by
 rw [h,hg];simp
end Go.Proofs.YtbnnlpjpnihheaaGreatDoor.Asn
namespace Go.Proofs.YtbnnlpjpnihheaaGreatDoor
open Go.RowKit Go.CH Go.CH.Scr Go.CH.dK Go.CH.Mtc
open Asn (kW len2 SG tC)
open Go.ChangeMaps (setBlock)
def dP (p:uh × WW):List Value:=[.int .i64 p.1.k,.slice p.2.V p.1.vs.length p.2.vc,.slice p.2.L p.1.ls.length p.2.lc]
theorem yL (l:List (uh × WW)):∀ u ∈ l.flatMap dP,u.oneCell'=true:=by
 intro u hu;obtain ⟨x,-,hx⟩:=List.mem_flatMap.1 hu;unfold dP at hx;simp only [List.mem_cons,List.not_mem_nil,or_false] at hx;rcases hx with rfl | rfl | rfl <;> rfl

def kD:List (uh × WW)→CH.Own
 | []=>emp
 | p :: l=>star (lV p.1 p.2) (kD l)
theorem tO:∀ {l:List (uh × WW)},(kD l).Ok
 | []=>aB
 | p :: l=>aj wF tO
theorem Al (p:uh × WW):∀ l:List (uh × WW),kD (l ++ [p])=star (kD l) (lV p.1 p.2)
 | []=>by show star (lV p.1 p.2) emp=star emp (lV p.1 p.2);rw [mM]
 | q :: l=>by show star (lV q.1 q.2) (kD (l ++ [p]))=star (star (lV q.1 q.2) (kD l)) (lV p.1 p.2);rw [Al p l];ac_rfl
theorem NJ {w:World}:∀ {l:List (uh × WW)} {F:Nat→Prop},kD l w F→∀ p ∈ l,iB w p.1 p.2
 | [],_,_,_,hp=>by cases hp
 | q :: l,F,h,p,hp=>by
  obtain ⟨F1,F2,h1,h2,-,-⟩:=h;rcases List.mem_cons.1 hp with rfl | hp
  ·exact Og h1
  ·exact NJ h2 p hp
theorem QA:dh Tryz.prog 69 77 (.agg #[.int .i64 0,.slice none 0 0,.slice none 0 0]) 3 56:=⟨Tryz.underlying69,by kernel_rfl,by decide,by decide⟩

structure uZ (w:World) (T:Tab) (n:bq) (l:List (uh × WW)) (A B:Option Addr):Prop where
 eq:l.map (·.1)=n.ws.map (cu T n.k)
 row:wu dP 3 w A l
 dr:jE w B (n.ws.map (aZ T n.k))
 all:∀ p ∈ l,iB w p.1 p.2
theorem uZ.below {w w':World} {T:Tab} {n:bq} {l:List (uh × WW)} {A B:Option Addr} (h:uZ w T n l A B) (hb:Below w.heap.size w w'):uZ w' T n l A B :=
 ⟨h.eq,aR h.row hb,h.dr.below hb,fun p hp=>(h.all p hp).below hb⟩

def lU (w:World) (T:Tab) (n:bq) (e:Ending) (w':World):Prop :=
 if aX T && dx n then
  ∃ l A c B d,e=.returned (.tuple #[.agg #[.slice A n.ws.length c,.slice B n.ws.length d],.bool true])∧Below w.heap.size w w'∧uZ w' T n l A B∧n.ws.length≤c∧n.ws.length≤d
 else e=.returned (.tuple #[.agg #[.slice none 0 0,.slice none 0 0],.bool false])∧Below w.heap.size w w'
theorem NK {tmps:Array Value} {w:World} {g:Nat} {cs:Array Value} (h:tmps.getD 4 undef=.pointer (some ⟨g,0,none⟩)) (hs:cs.size=2) (hc:w.heap[g]?=some (.cells cs 71)) {v:Value} (hv:tmps.getD 5 undef=v):(results Tryz.f29 tmps).run Tryz.prog w=.ok (.tuple #[.agg cs,v]) w:=by
 subst hv;exact bZ rfl tmps w g 71 cs (0,0) h hc Tryz.underlying71 (by rw [hs];kernel_rfl)
theorem bO {F0:Nat→Prop} {w0 w:World} {g:Nat} {t:TypeId} {X:CH.Own} {a b:Value} (h:Run F0 w0 (star (au g #[a,b] t) X) w):w.cell? ⟨g,0,none⟩=some a∧w.cell? ⟨g,1,none⟩=some b∧∀ i,w.frozen? ⟨g,i,none⟩=false:=by
 obtain ⟨F,hF⟩:=h.fst;exact ⟨ay hF rfl,ay hF rfl,aJ hF⟩

def OM (e:TypeId) (sz:Nat) (A:Option Addr) (c n:Nat) (xs cs:List Value) (q:Value):List Value→CH.Own
 | []=>aS e sz (.slice A n c) n xs
 | [v]=>nE fun g:Nat=>xw (v=.slice (some ⟨g,0,none⟩) 1 1) (star (au g cs.toArray e) (aS e sz (.slice A n c) n xs))
 | [_,v]=>nE fun A2:Option Addr=>nE fun c2:Nat=>xw (v=.slice A2 (n+1) c2∧n+1≤c2) (aS e sz (.slice A2 (n+1) c2) (n+1) (xs ++ cs))
 | [_,v,p]=>nE fun A2:Option Addr=>nE fun c2:Nat=>xw ((v=.slice A2 (n+1) c2∧n+1≤c2)∧p=q) (aS e sz (.slice A2 (n+1) c2) (n+1) (xs ++ cs))
 | _=>emp
theorem NM {e:TypeId} {sz:Nat} {A:Option Addr} {c n:Nat} {xs cs:List Value} {q:Value}:∀ vs,(OM e sz A c n xs cs q vs).Ok
 | []=>bA
 | [_]=>cO fun _=>iE (aj av bA)
 | [_,_]=>cO fun _=>cO fun _=>iE bA
 | [_,_,_]=>cO fun _=>cO fun _=>iE bA
 | _ :: _ :: _ :: _ :: _=>aB
theorem Ei (k:Int) (V:Option Addr) (a b:Nat) (L:Option Addr) (d e:Nat) (w:World):(Instr.buildSlice 69 1 #[(0,.agg #[.int .i64 k,.slice V a b,.slice L d e])]).run Tryz.prog w=.ok (.slice (some ⟨w.heap.size,0,none⟩) 1 1) (w.alloc (.cells #[.int .i64 k,.slice V a b,.slice L d e] 77)):=by go_simp
theorem vJ (x:Int) (w:World):(Instr.buildSlice 40 1 #[(0,.int .i64 x)]).run Tryz.prog w=.ok (.slice (some ⟨w.heap.size,0,none⟩) 1 1) (w.alloc (.cells #[.int .i64 x] 3)):=by go_simp
theorem Gv {P:Program} {o:Oper} {a:Act} {W:World} {Post:Act→World→Prop} {Q:Exit→Act→World→Prop} (h:∀ K:Act→World→Prop,Hid (∀ a' w',Post a' w'→K a' w')→o.wp P a W K Q):o.wp P a W Post Q:=h Post (hide fun _ _ h=>h)
theorem mE:∀ (ds:List Nat) (vs:List Value) (a:Act),(puts a ds vs).tmps.size=a.tmps.size
 | [],_,_=>by simp [puts]
 | _ :: _,[],_=>rfl
 | d :: ds,v :: vs,a=>by
  simp only [puts];rw [mE ds vs];simp [Act.put]
theorem QB {a:Act} {o:Oper} {x:Operand} {g:Nat} {w:World} (hop:o.op=.fieldAddr 71 x 0) (hx:a.eval x=.pointer (some ⟨g,0,none⟩)):(execOp a.eval o).run Tryz.prog w=.ok (.value (.pointer (some ⟨g,0,none⟩))) w:=by
 unfold execOp;simp only [hop,hx];go_simp
section
variable {w0 W:World} {F0:Nat→Prop} {Z:CH.Own} {ops:Array Oper} {a:Act} {Q:Exit→Act→World→Prop} {A B:Option Addr} {c d n:Nat} {xs cs:List Value}
theorem IJ {o:Oper} {e:TypeId} {sz:Nat} {q:Value} (hZ:Z.Ok) (h:Run F0 w0 (star (OM e sz A c n xs cs q []) Z) W)
  (hrun:∀ w:World,(execOp a.eval o).run Tryz.prog w=.ok (.value (.slice (some ⟨w.heap.size,0,none⟩) 1 1)) (w.alloc (.cells cs.toArray e))) :
  o.wp Tryz.prog a W (fun a' w'=>∃ v,a'=a.put o.dst v∧Run F0 w0 (star (OM e sz A c n xs cs q ([] ++ [v])) Z) w') Q:=by
 unfold Oper.wp;rw [hrun W];exact ⟨_,rfl,Run.qW W.heap.size (Run.jF rfl ((aG h (aj bA hZ) cs.toArray e).perm (by show _=star (star (au W.heap.size cs.toArray e) (aS e sz (.slice A n c) n xs)) Z;unfold OM;ac_rfl)))⟩
theorem IK {o:Oper} {t e:TypeId} {z:Value} {sz bytes:Nat} {q v:Value} (S:dh Tryz.prog t e z sz bytes) (hby:bytes≤1000) (s x:Operand) (ho:o.op=.call { callee:=.builtin .append,args:=#[s,x],argTypes:=#[t,t] }) (hZ:Z.Ok) (h:Run F0 w0 (star (OM e sz A c n xs cs q [v]) Z) W)
  (hs:a.eval s=.slice A n c) (hx:a.eval x=v) (hn:n≤1000000) (h1:cs.length=sz) (h2:∀ u ∈ cs,u.oneCell'=true) :
  o.wp Tryz.prog a W (fun a' w'=>∃ v',a'=a.put o.dst v'∧Run F0 w0 (star (OM e sz A c n xs cs q ([v] ++ [v'])) Z) w') Q:=by
 obtain ⟨g,h0⟩:=h.ex;obtain ⟨rfl,h3⟩:=h0.pure;have h4:=h3.perm (by ac_rfl:_=star (aS e sz (.slice A n c) n xs) (star (au g cs.toArray e) Z));obtain ⟨F,hF⟩:=h4.drop.fst;refine wE S hby s x ho (A:=A) (c:=c) (n:=n) (g:=g) (xs:=xs) (cs:=cs) hs hx hn (aj av hZ) h4 h1 h2 (fun j y hu=>ay hF (by rw [List.getElem?_toArray];exact hu)) ?_;intro A2 c2 w' hr;obtain ⟨FR,hFR⟩:=hr.fst;exact ⟨_,rfl,Run.qW A2 (Run.qW c2 (Run.jF ⟨rfl,(Bu hFR.1).1⟩ hr.mh.drop))⟩
theorem QC {e e':TypeId} {sz sz':Nat} {q q':Value} {A':Option Addr} {c' n':Nat} {xs' cs':List Value} {v1 v2 v3 u1 u2:Value} {R:CH.Own} (h:Run F0 w0 (star (OM e sz A c n xs cs q [v1,v2,v3]) (star (OM e' sz' A' c' n' xs' cs' q' [u1,u2]) R)) W) :
  ∃ A2 c2 B2 d2,v2=.slice A2 (n+1) c2∧v3=q∧u2=.slice B2 (n'+1) d2∧n+1≤c2∧n'+1≤d2∧Run F0 w0 (star (star (aS e sz (.slice A2 (n+1) c2) (n+1) (xs ++ cs)) (aS e' sz' (.slice B2 (n'+1) d2) (n'+1) (xs' ++ cs'))) R) W:=by
 obtain ⟨A2,h1⟩:=h.ex;obtain ⟨c2,h1⟩:=h1.ex;obtain ⟨⟨⟨rfl,k1⟩,rfl⟩,h2⟩:=h1.pure;obtain ⟨B2,h3⟩:=h2.mh.ex;obtain ⟨d2,h3⟩:=h3.ex;obtain ⟨⟨rfl,k2⟩,h4⟩:=h3.pure;exact ⟨A2,c2,B2,d2,rfl,rfl,rfl,k1,k2,h4.perm (by ac_rfl)⟩
end
theorem jL {w:World} {T:Tab} {a:TA} (hT:jJ w T a) (hz:LZ w) {n:bq} {An:Option Addr} {cn:Nat} (hA:fF w An n.ws) (hl:n.ws.length≤1000000) (hw:∀ x ∈ n.ws,x.length≤1000000) :
  Calls Tryz.prog 29 #[eZ T a,BS n An cn] w (lU w T n):=by
 have h0:=aG (Run.begin w) aB (dA T a) 25;have h1:=aG h0 (aj av aB) #[.int .i64 n.k,.slice An n.ws.length cn] 28;have h2:=aG h1 (aj av (aj av aB)) #[.slice none 0 0,.slice none 0 0] 71;simp only [World.size_alloc] at h2;have H2:=hide h2;have HBW:=hide (fun W X (h:Run (fun _=>False) w X W)=>(show Below w.heap.size w W from h.mod.below (fun _ _ h=>h)));have KV:=hide (fun W (hb:Below w.heap.size w W)=>mU (hT.below hb) (hz.below hb));have KN:=hide (fun W (hb:Below w.heap.size w W)=>pE (n:=n) (c:=cn) (aR hA hb) hl hw (hz.below hb));have KW:=hide (fun W (hb:Below w.heap.size w W) x (hx:x ∈ n.ws)=>yU (hT.below hb) (hz.below hb) n.k x (hw x hx));have KD:=hide (fun W (hb:Below w.heap.size w W) x (hx:x ∈ n.ws)=>BK (hT.below hb) (hz.below hb) n.k x (hw x hx));have HA:=hide hA;clear hT hz hA hl hw h0 h1 h2;unfold eZ BS at *
 unfold dA at *
 generalize T.rs.length=n1 at *
 generalize T.ds.length=n2 at *
 generalize T.es.length=n3 at *
 obtain ⟨m,hm⟩:∃ m,m=n.ws.length:=⟨_,rfl⟩;have HM:=hide hm;obtain ⟨aA,ac,aD,ad,aE,ae⟩:=a;dsimp only at H2 KV KN KW KD ⊢;rw [←hm] at H2 KN ⊢;clear hm;generalize hw2:((w.alloc (.cells #[.slice aA n1 ac,.slice aD n2 ad,.slice aE n3 ae,.int .i64 T.drop,.int .i64 T.ord,.int .i64 T.ini] 25)).alloc (.cells #[.int .i64 n.k,.slice An m cn] 28)).alloc (.cells #[.slice none 0 0,.slice none 0 0] 71)=w2 at H2;generalize hg1:w.heap.size+1=g1 at H2;generalize hg2:g1+1=g2 at H2;have okX:=hide (aj av (aj av (aj av aB)):((star (au g2 #[.slice none 0 0,.slice none 0 0] 71) (star (au g1 #[.int .i64 n.k,.slice An m cn] 28) (star (au w.heap.size #[.slice aA n1 ac,.slice aD n2 ad,.slice aE n3 ae,.int .i64 T.drop,.int .i64 T.ord,.int .i64 T.ini] 25) emp)))).Ok);cases hv1:aX T with
 | false =>
  have HNO:=hide (show ∀ W,Below w.heap.size w W→lU w T n (.returned (.tuple #[.agg #[.slice none 0 0,.slice none 0 0],.bool false])) W from fun W hb=>by unfold lU;rw [hv1];exact ⟨rfl,hb⟩);rw [hv1] at KV;clear KN KW KD HA hv1
  go_enter Tryz.func29,Tryz.ntmps29
  go_upto_region 1 with (fail);clear hw2 hg1 hg2;obtain ⟨t0,t1,t2,t3,t4,t5⟩:=bW H2.out.drop.drop;obtain ⟨s0,s1,s2⟩:=bO H2.out.drop;obtain ⟨r0,r1,rf⟩:=bO H2.out;have KV2:=hide (KV.out w2 (HBW.out _ _ H2.out));clear KV;go_wp2_with fail;refine KV2.out.mono ?_;rintro e9 w3 ⟨rfl,hb⟩;have H3:=hide (H2.out.below okX.out hb);clear KV2 H2 hb t0 t1 t2 t3 t4 t5 s0 s1 s2 r0 r1 rf;obtain ⟨t0,t1,t2,t3,t4,t5⟩:=bW H3.out.drop.drop;obtain ⟨s0,s1,s2⟩:=bO H3.out.drop;obtain ⟨r0,r1,rf⟩:=bO H3.out;dsimp only;go_wp2;have H5:=hide (kQ H3.out (aj av (aj av aB)) (.slice none 0 0) (.slice none 0 0));obtain ⟨f2,hf2⟩:=H5.out.fst;refine bodyPost_ret (NK rfl rfl hf2.1 rfl) rfl ?_;exact HNO.out _ (HBW.out _ _ H5.out)
 | true =>
  cases hv2:dx n with
  | false =>
   have HNO:=hide (show ∀ W,Below w.heap.size w W→lU w T n (.returned (.tuple #[.agg #[.slice none 0 0,.slice none 0 0],.bool false])) W from fun W hb=>by unfold lU;rw [hv1,hv2];exact ⟨rfl,hb⟩);rw [hv1] at KV;rw [hv2] at KN;clear KW KD HA hv1 hv2
   go_enter Tryz.func29,Tryz.ntmps29
   go_upto_region 1 with (fail);clear hw2 hg1 hg2;obtain ⟨t0,t1,t2,t3,t4,t5⟩:=bW H2.out.drop.drop;obtain ⟨s0,s1,s2⟩:=bO H2.out.drop;obtain ⟨r0,r1,rf⟩:=bO H2.out;have KV2:=hide (KV.out w2 (HBW.out _ _ H2.out));clear KV;go_wp2_with fail;refine KV2.out.mono ?_;rintro e9 w3 ⟨rfl,hb⟩;have H3:=hide (H2.out.below okX.out hb);clear KV2 H2 hb t0 t1 t2 t3 t4 t5 s0 s1 s2 r0 r1 rf;obtain ⟨t0,t1,t2,t3,t4,t5⟩:=bW H3.out.drop.drop;obtain ⟨s0,s1,s2⟩:=bO H3.out.drop;obtain ⟨r0,r1,rf⟩:=bO H3.out;dsimp only;have KN2:=hide (KN.out w3 (HBW.out _ _ H3.out));clear KN;go_wp2_with fail;refine KN2.out.mono ?_;rintro e9 w4 ⟨rfl,hb⟩;have H4:=hide (H3.out.below okX.out hb);clear KN2 H3 hb t0 t1 t2 t3 t4 t5 s0 s1 s2 r0 r1 rf;obtain ⟨t0,t1,t2,t3,t4,t5⟩:=bW H4.out.drop.drop;obtain ⟨s0,s1,s2⟩:=bO H4.out.drop;obtain ⟨r0,r1,rf⟩:=bO H4.out;have H3:=H4;clear H4;dsimp only;go_wp2;have H5:=hide (kQ H3.out (aj av (aj av aB)) (.slice none 0 0) (.slice none 0 0));obtain ⟨f2,hf2⟩:=H5.out.fst;refine bodyPost_ret (NK rfl rfl hf2.1 rfl) rfl ?_;exact HNO.out _ (HBW.out _ _ H5.out)
  | true =>
   have HYES:=hide (show ∀ W l A c B d,Below w.heap.size w W→uZ W T n l A B→m≤c→m≤d→lU w T n (.returned (.tuple #[.agg #[.slice A m c,.slice B m d],.bool true])) W from fun W l A c B d hb hr hc hd=>by unfold lU;rw [hv1,hv2];rw [HM.out] at hc hd ⊢;exact ⟨l,A,c,B,d,rfl,hb,hr,hc,hd⟩)
   have HWE:=hide (show ∀ x ∈ n.ws,kZ T n.k x=(cu T n.k x,true)∧mH T n.k x=(aZ T n.k x,0) from fun x hx=>by
    have h1:=(bG.1 hv2).1 x hx;unfold kZ mH;rw [h1,hv1]
    exact ⟨rfl,rfl⟩)
   have HM6:=hide (show m≤6 from by rw [HM.out];exact (bG.1 hv2).2.2);rw [hv1] at KV;rw [hv2] at KN;clear hv1 hv2
   have KWX:=hide (fun W hb x hx=>(KW.out W hb x hx).mono fun e w' (h:yT W T n.k x e w')=>(show ∃ a:WW,e=.returned (.tuple #[nP (cu T n.k x) a,.bool true])∧Post W (fun _=>False) (lV (cu T n.k x) a) w' from by
    unfold yT at h;rw [(HWE.out x hx).1] at h
    exact h))
   have KDX:=hide (fun W hb x hx=>(KD.out W hb x hx).mono fun e w' (h:aP W (.tuple #[.int .i64 (mH T n.k x).1,.int .i64 (mH T n.k x).2]) e w')=>(show aP W (.tuple #[.int .i64 (aZ T n.k x),.int .i64 0]) e w' from by
    rw [(HWE.out x hx).2] at h
    exact h))
   clear KW KD HWE
   go_enter Tryz.func29,Tryz.ntmps29
   go_upto_region 1 with (fail);clear hw2 hg1 hg2;obtain ⟨t0,t1,t2,t3,t4,t5⟩:=bW H2.out.drop.drop;obtain ⟨s0,s1,s2⟩:=bO H2.out.drop;obtain ⟨r0,r1,rf⟩:=bO H2.out;have KV2:=hide (KV.out w2 (HBW.out _ _ H2.out));clear KV;go_wp2_with fail;refine KV2.out.mono ?_;rintro e9 w3 ⟨rfl,hb⟩;have H3:=hide (H2.out.below okX.out hb);clear KV2 H2 hb t0 t1 t2 t3 t4 t5 s0 s1 s2 r0 r1 rf;obtain ⟨t0,t1,t2,t3,t4,t5⟩:=bW H3.out.drop.drop;obtain ⟨s0,s1,s2⟩:=bO H3.out.drop;obtain ⟨r0,r1,rf⟩:=bO H3.out;dsimp only;have KN2:=hide (KN.out w3 (HBW.out _ _ H3.out));clear KN;go_wp2_with fail;refine KN2.out.mono ?_;rintro e9 w4 ⟨rfl,hb⟩;have H4:=hide (H3.out.below okX.out hb);clear KN2 H3 hb t0 t1 t2 t3 t4 t5 s0 s1 s2 r0 r1 rf;obtain ⟨t0,t1,t2,t3,t4,t5⟩:=bW H4.out.drop.drop;obtain ⟨s0,s1,s2⟩:=bO H4.out.drop;obtain ⟨r0,r1,rf⟩:=bO H4.out;have H3:=H4;clear H4;dsimp only;have H5:=hide (aG H3.out okX.out #[.slice none 0 0,.slice none 0 0] 71);go_upto_region 4 with (fail);generalize w4.alloc (.cells #[.slice none 0 0,.slice none 0 0] 71)=w5 at *
   generalize w4.heap.size=g3 at *
   clear H3 t0 t1 t2 t3 t4 t5 s0 s1 s2 r0 r1 rf;obtain ⟨s0,s1,s2⟩:=bO H5.out.drop.drop;have h6:Run (fun _=>False) w (star (au g3 #[.slice none 0 0,.slice none 0 0] 71) (star (aS 77 3 (.slice none 0 0) 0 []) (star (aS 3 1 (.slice none 0 0) 0 []) (star (kD []) (star (au g2 #[.slice none 0 0,.slice none 0 0] 71) (star (au g1 #[.int .i64 n.k,.slice An m cn] 28) (star (au w.heap.size #[.slice aA n1 ac,.slice aD n2 ad,.slice aE n3 ae,.int .i64 T.drop,.int .i64 T.ord,.int .i64 T.ini] 25) emp))))))) w5:=(((H5.out.fresh (aj av okX.out) (⟨fun _=>False,fH _ 77 3,Mod.refl _ _,fun i hi=>.inl hi⟩:Post w5 (fun _=>False) (aS 77 3 (.slice none 0 0) 0 []) w5)).fresh (aj bA (aj av okX.out)) (⟨fun _=>False,fH _ 3 1,Mod.refl _ _,fun i hi=>.inl hi⟩:Post w5 (fun _=>False) (aS 3 1 (.slice none 0 0) 0 []) w5)).fresh (aj bA (aj bA (aj av okX.out))) (⟨fun _=>False,fun _ h=>h,Mod.refl _ _,fun i hi=>.inl hi⟩:Post w5 (fun _=>False) emp w5)).perm (by ac_rfl);have H6:=hide h6;clear h6;go_wp2_with fail;go_loopw [25] (fun kk wr=>∃ (i:Nat) (l:List (uh × WW)) (A:Option Addr) (c:Nat) (B:Option Addr) (d:Nat),kk=.int .i64 i∧i≤m∧l.map (·.1)=(n.ws.take i).map (cu T n.k)∧i≤c∧i≤d∧Run (fun _=>False) w (star (au g3 #[.slice A i c,.slice B i d] 71) (star (aS 77 3 (.slice A i c) i (l.flatMap dP)) (star (aS 3 1 (.slice B i d) i (((n.ws.take i).map (aZ T n.k)).map (Value.int .i64))) (star (kD l) (star (au g2 #[.slice none 0 0,.slice none 0 0] 71) (star (au g1 #[.int .i64 n.k,.slice An m cn] 28) (star (au w.heap.size #[.slice aA n1 ac,.slice aD n2 ad,.slice aE n3 ae,.int .i64 T.drop,.int .i64 T.ord,.int .i64 T.ini] 25) emp))))))) wr) (fun kk _=>m - (intOf kk).toNat)
   case atStart=>exact ⟨0,[],none,0,none,0,rfl,Nat.zero_le _,rfl,Nat.le_refl _,Nat.le_refl _,H6.out⟩
   case round =>
    clear H5 H6 s0 s1 s2;obtain ⟨i,l,A,c,B,d,rfl,hi,hle,hic,hid,hR⟩:=hrel;have HR:=hide hR;have HLE:=hide hle;have HIC:=hide hic;have HID:=hide hid;clear hR hle hic hid;by_cases hlt:i < m
    ·have hkn:i < n.ws.length:=by rw [←HM.out];exact hlt
     obtain ⟨b,o,rfl,hc⟩:=HA.out.at (by have:=HM6.out;omega);have ck:=hc _ (HBW.out _ _ HR.out) i hkn;have hxm:n.ws[i] ∈ n.ws:=List.getElem_mem hkn;have KW2:=hide (KWX.out wr (HBW.out _ _ HR.out) _ hxm);have KD2:=hide (fun W hb=>KDX.out W hb _ hxm);have HTK:=hide (show n.ws.take (i+1)=n.ws.take i ++ [n.ws[i]] from List.take_succ_eq_append_getElem hkn);clear KWX KDX hxm;generalize n.ws[i]=x at *
     clear hc hkn;obtain ⟨u,hu⟩:∃ u,u=cu T n.k x:=⟨_,rfl⟩;rw [←hu] at KW2;have HU:=hide hu;clear hu;unfold nP lu at KW2;obtain ⟨t0,t1,t2,t3,t4,t5⟩:=bW HR.out.drop.drop.drop.drop.drop.drop;obtain ⟨s0,s1,s2⟩:=bO HR.out.drop.drop.drop.drop.drop;have okR:=hide (aj av (aj bA (aj bA (aj tO okX.out))):((star (au g3 #[.slice A i c,.slice B i d] 71) (star (aS 77 3 (.slice A i c) i (l.flatMap dP)) (star (aS 3 1 (.slice B i d) i (((n.ws.take i).map (aZ T n.k)).map (Value.int .i64))) (star (kD l) (star (au g2 #[.slice none 0 0,.slice none 0 0] 71) (star (au g1 #[.int .i64 n.k,.slice (some ⟨b,o,none⟩) m cn] 28) (star (au w.heap.size #[.slice aA n1 ac,.slice aD n2 ad,.slice aE n3 ae,.int .i64 T.drop,.int .i64 T.ord,.int .i64 T.ini] 25) emp)))))))).Ok);go_wp2_with fail;refine KW2.out.mono ?_;rintro e9 w6 ⟨wa,rfl,hp⟩;have H7:=hide (HR.out.fresh okR.out hp);have okS:=hide (aj wF okR.out:(star (lV u wa) (star (au g3 #[.slice A i c,.slice B i d] 71) (star (aS 77 3 (.slice A i c) i (l.flatMap dP)) (star (aS 3 1 (.slice B i d) i (((n.ws.take i).map (aZ T n.k)).map (Value.int .i64))) (star (kD l) (star (au g2 #[.slice none 0 0,.slice none 0 0] 71) (star (au g1 #[.int .i64 n.k,.slice (some ⟨b,o,none⟩) m cn] 28) (star (au w.heap.size #[.slice aA n1 ac,.slice aD n2 ad,.slice aE n3 ae,.int .i64 T.drop,.int .i64 T.ord,.int .i64 T.ini] 25) emp)))))))).Ok);have H8:=hide (aG H7.out okS.out #[.int .i64 u.k,.slice wa.V u.vs.length wa.vc,.slice wa.L u.ls.length wa.lc] 77);clear KW2 HR hp ck t0 t1 t2 t3 t4 t5 s0 s1 s2 H7;dsimp only;go_upto_region 8 with (fail);generalize w6.alloc (.cells #[.int .i64 u.k,.slice wa.V u.vs.length wa.vc,.slice wa.L u.ls.length wa.lc] 77)=w7 at *
     generalize w6.heap.size=g9 at *
     obtain ⟨t0,t1,t2,t3,t4,t5⟩:=bW H8.out.drop.drop.drop.drop.drop.drop.drop.drop;obtain ⟨s0,s1,s2⟩:=bO H8.out.drop.drop.drop.drop.drop.drop.drop;have KD3:=hide (KD2.out w7 (HBW.out _ _ H8.out));clear KD2;have okT:=hide (aj av okS.out:(star (au g9 #[.int .i64 u.k,.slice wa.V u.vs.length wa.vc,.slice wa.L u.ls.length wa.lc] 77) (star (lV u wa) (star (au g3 #[.slice A i c,.slice B i d] 71) (star (aS 77 3 (.slice A i c) i (l.flatMap dP)) (star (aS 3 1 (.slice B i d) i (((n.ws.take i).map (aZ T n.k)).map (Value.int .i64))) (star (kD l) (star (au g2 #[.slice none 0 0,.slice none 0 0] 71) (star (au g1 #[.int .i64 n.k,.slice (some ⟨b,o,none⟩) m cn] 28) (star (au w.heap.size #[.slice aA n1 ac,.slice aD n2 ad,.slice aE n3 ae,.int .i64 T.drop,.int .i64 T.ord,.int .i64 T.ini] 25) emp))))))))).Ok);go_wp2_with fail;refine KD3.out.mono ?_;rintro e9 w8 ⟨rfl,hb⟩;have H9:=hide (H8.out.below okT.out hb);clear KD3 H8 hb t0 t1 t2 t3 t4 t5 s0 s1 s2;dsimp only;go_upto_region 9 with (fail);have H10:=hide (H9.out.drew okT.out);clear H9;have h10:=H10.out.perm (by ac_rfl:_=star (star (aS 77 3 (.slice A i c) i (l.flatMap dP)) (aS 3 1 (.slice B i d) i (((n.ws.take i).map (aZ T n.k)).map (Value.int .i64)))) (star (au g3 #[.slice A i c,.slice B i d] 71) (star (au g9 #[.int .i64 u.k,.slice wa.V u.vs.length wa.vc,.slice wa.L u.ls.length wa.lc] 77) (star (lV u wa) (star (kD l) (star (au g2 #[.slice none 0 0,.slice none 0 0] 71) (star (au g1 #[.int .i64 n.k,.slice (some ⟨b,o,none⟩) m cn] 28) (star (au w.heap.size #[.slice aA n1 ac,.slice aD n2 ad,.slice aE n3 ae,.int .i64 T.drop,.int .i64 T.ord,.int .i64 T.ini] 25) emp))))))));have okB:=hide (aj av (aj av (aj wF (aj tO okX.out))):((star (au g3 #[.slice A i c,.slice B i d] 71) (star (au g9 #[.int .i64 u.k,.slice wa.V u.vs.length wa.vc,.slice wa.L u.ls.length wa.lc] 77) (star (lV u wa) (star (kD l) (star (au g2 #[.slice none 0 0,.slice none 0 0] 71) (star (au g1 #[.int .i64 n.k,.slice (some ⟨b,o,none⟩) m cn] 28) (star (au w.heap.size #[.slice aA n1 ac,.slice aD n2 ad,.slice aE n3 ae,.int .i64 T.drop,.int .i64 T.ord,.int .i64 T.ini] 25) emp)))))))).Ok);clear H10;go_upto_region 9 with (fail);obtain ⟨F,hF,hback⟩:=h10.sub (aj bA bA) okB.out;have HF:=hide hF;have HBK:=hide hback;have HSS:=hide (show ∀ (O:CH.Own) W,Run F w8.drew O W→Run (fun _=>False) w (star (au g3 #[.slice A i c,.slice B i d] 71) (star (au g9 #[.int .i64 u.k,.slice wa.V u.vs.length wa.vc,.slice wa.L u.ls.length wa.lc] 77) (star (lV u wa) (star (kD l) (star (au g2 #[.slice none 0 0,.slice none 0 0] 71) (star (au g1 #[.int .i64 n.k,.slice (some ⟨b,o,none⟩) m cn] 28) (star (au w.heap.size #[.slice aA n1 ac,.slice aD n2 ad,.slice aE n3 ae,.int .i64 T.drop,.int .i64 T.ord,.int .i64 T.ini] 25) emp))))))) W from fun O W h=>(hback emp W aB ⟨⟨fun _=>False,fun _ h=>h,fun _ h=>h.elim⟩,h.mod⟩).drop);have HS0:=hide (HSS.out _ _ hF);clear h10 hF hback;refine Dn 11 (fun w'=>Run (fun _=>False) w (star (au g3 #[.slice A i c,.slice B i d] 71) (star (au g9 #[.int .i64 u.k,.slice wa.V u.vs.length wa.vc,.slice wa.L u.ls.length wa.lc] 77) (star (lV u wa) (star (kD l) (star (au g2 #[.slice none 0 0,.slice none 0 0] 71) (star (au g1 #[.int .i64 n.k,.slice (some ⟨b,o,none⟩) m cn] 28) (star (au w.heap.size #[.slice aA n1 ac,.slice aD n2 ad,.slice aE n3 ae,.int .i64 T.drop,.int .i64 T.ord,.int .i64 T.ini] 25) emp))))))) w') rfl ?_;generalize w8.drew=w9 at *
     refine mW (i:=0) (v:=.pointer (some ⟨g3,0,none⟩)) rfl (by kernel_rfl) (by kernel_rfl) (by kernel_rfl) rfl (fun _ _ _ h=>h) (.inl ⟨rfl,fun w' hS'=>?_⟩) (fun _=>HS0.out) ?_
     ·go_simp
     try simp only [Act.put,List.getElem_toArray,List.getElem_cons_succ,List.getElem_cons_zero,List.setIfInBounds_toArray,List.set_cons_zero,List.set_cons_succ]
     refine oH (i:=1) (v:=.slice A i c) rfl (by kernel_rfl) (by kernel_rfl) (by kernel_rfl) (by kernel_rfl) (fun _ _ _ h=>h) (.inl ⟨rfl,fun w' hS'=>?_⟩) HS0.out ?_
     ·obtain ⟨s0,s1,s2⟩:=bO hS';clear hS';go_simp
     try simp only [Act.put,List.getElem_toArray,List.getElem_cons_succ,List.getElem_cons_zero,List.setIfInBounds_toArray,List.set_cons_zero,List.set_cons_succ]
     refine oH (i:=2) (v:=.agg #[.int .i64 u.k,.slice wa.V u.vs.length wa.vc,.slice wa.L u.ls.length wa.lc]) rfl (by kernel_rfl) (by kernel_rfl) (by kernel_rfl) (by kernel_rfl) (fun _ _ _ h=>h) (.inl ⟨rfl,fun w' hS'=>?_⟩) HS0.out ?_
     ·obtain ⟨q0,q1,q2⟩:=cK hS'.drop;clear hS';go_simp
     try simp only [Act.put,List.getElem_toArray,List.getElem_cons_succ,List.getElem_cons_zero,List.setIfInBounds_toArray,List.set_cons_zero,List.set_cons_succ]
     refine mW (i:=5) (v:=.pointer (some ⟨g3,1,none⟩)) rfl (by kernel_rfl) (by kernel_rfl) (by kernel_rfl) rfl (fun _ _ _ h=>h) (.inl ⟨rfl,fun w' hS'=>?_⟩) (fun _=>HS0.out) ?_
     ·go_simp
     try simp only [Act.put,List.getElem_toArray,List.getElem_cons_succ,List.getElem_cons_zero,List.setIfInBounds_toArray,List.set_cons_zero,List.set_cons_succ]
     refine oH (i:=6) (v:=.slice B i d) rfl (by kernel_rfl) (by kernel_rfl) (by kernel_rfl) (by kernel_rfl) (fun _ _ _ h=>h) (.inl ⟨rfl,fun w' hS'=>?_⟩) HS0.out ?_
     ·obtain ⟨s0,s1,s2⟩:=bO hS';clear hS';go_simp
     try simp only [Act.put,List.getElem_toArray,List.getElem_cons_succ,List.getElem_cons_zero,List.setIfInBounds_toArray,List.set_cons_zero,List.set_cons_succ]
     refine mW (i:=7) (v:=.int .i64 (aZ T n.k x)) rfl (by kernel_rfl) (by kernel_rfl) (by kernel_rfl) rfl (fun _ _ _ h=>h) (.inl ⟨rfl,fun w' hS'=>?_⟩) (fun _=>HS0.out) ?_
     ·go_simp
     try simp only [Act.put,List.getElem_toArray,List.getElem_cons_succ,List.getElem_cons_zero,List.setIfInBounds_toArray,List.set_cons_zero,List.set_cons_succ]
     refine Ee [3,4,10] [8,9] (OM 77 3 A c i (l.flatMap dP) (dP (u,wa)) (.pointer (some ⟨g3,0,none⟩))) (OM 3 1 B d i (((n.ws.take i).map (aZ T n.k)).map (Value.int .i64)) [.int .i64 (aZ T n.k x)] undef) 3 (by kernel_rfl) NM NM aB HSS.out ?_ ?_ ?_ (HF.out.perm (by rw [jQ];rfl))
     ·intro i1 o1 vs us hi1 ho1 hu1 Z W hZ hR;rcases vs with _ | ⟨v,_ | ⟨v2,_ | ⟨v3,vs⟩⟩⟩
      ·obtain rfl:3=i1:=by simpa using hi1
       simp only [List.getElem?_toArray,List.getElem?_cons_succ,List.getElem?_cons_zero,Option.some.injEq] at ho1;subst ho1;refine IJ hZ hR (fun w=>kW rfl ?_ (Ei _ _ _ _ _ _ _ w))
       show (puts (puts _ [48,49,55] []) [53,54] us).eval (.tmp 47)=_
       rw [bQ 47 [53,54] us _ (by decide),bQ 47 [48,49,55] [] _ (by decide)];rfl
      ·obtain rfl:4=i1:=by simpa using hi1
       simp only [List.getElem?_toArray,List.getElem?_cons_succ,List.getElem?_cons_zero,Option.some.injEq] at ho1;subst ho1;refine IK QA (by decide) (.tmp 46) (.tmp 48) rfl hZ hR ?_ ?_ (by have:=HM6.out;omega) rfl (fun y hy=>yL [(u,wa)] y (by simpa [dP] using hy))
       ·show (puts (puts _ [48,49,55] [v]) [53,54] us).eval (.tmp 46)=_
        rw [bQ 46 [53,54] us _ (by decide),bQ 46 [48,49,55] [v] _ (by decide)];rfl
       ·show (puts (puts _ [48,49,55] [v]) [53,54] us).eval (.tmp 48)=v
        rw [bQ 48 [53,54] us _ (by decide)];exact tC v (show 48 < 59 by decide)
      ·obtain rfl:10=i1:=by simpa using hi1
       simp only [List.getElem?_toArray,List.getElem?_cons_succ,List.getElem?_cons_zero,Option.some.injEq] at ho1;subst ho1;obtain ⟨A3,hR⟩:=hR.ex;obtain ⟨c3,hR⟩:=hR.ex;obtain ⟨hv3,hR⟩:=hR.pure;refine Asn.mD (v:=.pointer (some ⟨g3,0,none⟩)) (w':=W) (QB rfl ?_) ⟨_,rfl,Run.qW A3 (Run.qW c3 (Run.jF ⟨hv3,rfl⟩ hR))⟩
       show (puts (puts _ [48,49,55] [v,v2]) [53,54] us).eval (.tmp 6)=_
       rw [bQ 6 [53,54] us _ (by decide),bQ 6 [48,49,55] [v,v2] _ (by decide)];rfl
      ·simp at hi1
     ·intro i1 o1 vs us hi1 ho1 hv1 Z W hZ hR;rcases us with _ | ⟨v,_ | ⟨v2,us⟩⟩
      ·obtain rfl:8=i1:=by simpa using hi1
       simp only [List.getElem?_toArray,List.getElem?_cons_succ,List.getElem?_cons_zero,Option.some.injEq] at ho1;subst ho1;refine IJ hZ hR (fun w=>kW rfl ?_ (vJ (aZ T n.k x) w))
       show (puts (puts _ [48,49,55] vs) [53,54] []).eval (.tmp 52)=_
       rw [bQ 52 [53,54] [] _ (by decide),bQ 52 [48,49,55] vs _ (by decide)];rfl
      ·obtain rfl:9=i1:=by simpa using hi1
       simp only [List.getElem?_toArray,List.getElem?_cons_succ,List.getElem?_cons_zero,Option.some.injEq] at ho1;subst ho1;refine IK Rb (by decide) (.tmp 51) (.tmp 53) rfl hZ hR ?_ ?_ (by have:=HM6.out;omega) rfl (fun y hy=>by simp at hy;subst hy;rfl)
       ·show (puts (puts _ [48,49,55] vs) [53,54] [v]).eval (.tmp 51)=_
        rw [bQ 51 [53,54] [v] _ (by decide),bQ 51 [48,49,55] vs _ (by decide)];rfl
       ·show (puts (puts _ [48,49,55] vs) [53,54] [v]).eval (.tmp 53)=v
        exact tC v (by rw [mE];show 53 < 59;decide)
      ·simp at hi1
     intro vs us W hv hu hR;obtain ⟨v1,v2,v3,rfl⟩:=SG hv;obtain ⟨v4,v5,rfl⟩:=len2 hu;obtain ⟨A2,c2,B2,d2,rfl,rfl,rfl,hc2,hd2,hR2⟩:=QC hR;have HRR:=hide (HBK.out _ _ (aj bA bA) (hR2.perm (jQ _)));have HC2:=hide hc2;have HD2:=hide hd2;clear hR hv hu hR2 hc2 hd2;simp only [bS,List.map_cons,List.map_nil,List.getElem?_toArray,List.getElem?_cons_succ,List.getElem?_cons_zero,Option.bind_some,Option.getD_some,puts,Act.put,List.setIfInBounds_toArray,List.set_cons_zero,List.set_cons_succ];have h11:=HRR.out.perm (by ac_rfl:_=star (au g3 #[.slice A i c,.slice B i d] 71) (star (aS 77 3 (.slice A2 (i+1) c2) (i+1) (l.flatMap dP ++ dP (u,wa))) (star (aS 3 1 (.slice B2 (i+1) d2) (i+1) ((((n.ws.take i).map (aZ T n.k)).map (Value.int .i64)) ++ [.int .i64 (aZ T n.k x)])) (star (au g9 #[.int .i64 u.k,.slice wa.V u.vs.length wa.vc,.slice wa.L u.ls.length wa.lc] 77) (star (lV u wa) (star (kD l) (star (au g2 #[.slice none 0 0,.slice none 0 0] 71) (star (au g1 #[.int .i64 n.k,.slice (some ⟨b,o,none⟩) m cn] 28) (star (au w.heap.size #[.slice aA n1 ac,.slice aD n2 ad,.slice aE n3 ae,.int .i64 T.drop,.int .i64 T.ord,.int .i64 T.ini] 25) emp)))))))));have okX2:=hide (aj bA (aj bA (aj av (aj wF (aj tO okX.out)))):((star (aS 77 3 (.slice A2 (i+1) c2) (i+1) (l.flatMap dP ++ dP (u,wa))) (star (aS 3 1 (.slice B2 (i+1) d2) (i+1) ((((n.ws.take i).map (aZ T n.k)).map (Value.int .i64)) ++ [.int .i64 (aZ T n.k x)])) (star (au g9 #[.int .i64 u.k,.slice wa.V u.vs.length wa.vc,.slice wa.L u.ls.length wa.lc] 77) (star (lV u wa) (star (kD l) (star (au g2 #[.slice none 0 0,.slice none 0 0] 71) (star (au g1 #[.int .i64 n.k,.slice (some ⟨b,o,none⟩) m cn] 28) (star (au w.heap.size #[.slice aA n1 ac,.slice aD n2 ad,.slice aE n3 ae,.int .i64 T.drop,.int .i64 T.ord,.int .i64 T.ini] 25) emp))))))))).Ok);have h12:Run (fun _=>False) w (star (au g3 #[.slice A2 (i+1) c2,.slice B i d] 71) (star (aS 77 3 (.slice A2 (i+1) c2) (i+1) (l.flatMap dP ++ dP (u,wa))) (star (aS 3 1 (.slice B2 (i+1) d2) (i+1) ((((n.ws.take i).map (aZ T n.k)).map (Value.int .i64)) ++ [.int .i64 (aZ T n.k x)])) (star (au g9 #[.int .i64 u.k,.slice wa.V u.vs.length wa.vc,.slice wa.L u.ls.length wa.lc] 77) (star (lV u wa) (star (kD l) (star (au g2 #[.slice none 0 0,.slice none 0 0] 71) (star (au g1 #[.int .i64 n.k,.slice (some ⟨b,o,none⟩) m cn] 28) (star (au w.heap.size #[.slice aA n1 ac,.slice aD n2 ad,.slice aE n3 ae,.int .i64 T.drop,.int .i64 T.ord,.int .i64 T.ini] 25) emp))))))))) _:=aH h11 okX2.out 0 (.slice A2 (i+1) c2);have H12:=hide h12;obtain ⟨s0,s1,s2⟩:=bO h11;clear HSS HS0 HBK HF HRR h11 h12;refine rE (rs:=[11]) (by kernel_rfl) (by decide) (fun i1 hi1=>?_);obtain rfl:i1=11:=by simpa using hi1
     refine aO rfl rfl (Gv fun K hK=>?_);clear hi1;go_wp2_with fail;refine hK.out _ _ ⟨fun h=>by simp at h,?_⟩;clear hK;generalize W.setCell ⟨g3,0,none⟩ (.slice A2 (i+1) c2)=W2 at *
     clear s0 s1 s2;obtain ⟨s0,s1,s2⟩:=bO H12.out;have h13:Run (fun _=>False) w (star (au g3 #[.slice A2 (i+1) c2,.slice B2 (i+1) d2] 71) (star (aS 77 3 (.slice A2 (i+1) c2) (i+1) (l.flatMap dP ++ dP (u,wa))) (star (aS 3 1 (.slice B2 (i+1) d2) (i+1) ((((n.ws.take i).map (aZ T n.k)).map (Value.int .i64)) ++ [.int .i64 (aZ T n.k x)])) (star (au g9 #[.int .i64 u.k,.slice wa.V u.vs.length wa.vc,.slice wa.L u.ls.length wa.lc] 77) (star (lV u wa) (star (kD l) (star (au g2 #[.slice none 0 0,.slice none 0 0] 71) (star (au g1 #[.int .i64 n.k,.slice (some ⟨b,o,none⟩) m cn] 28) (star (au w.heap.size #[.slice aA n1 ac,.slice aD n2 ad,.slice aE n3 ae,.int .i64 T.drop,.int .i64 T.ord,.int .i64 T.ini] 25) emp))))))))) _:=aH H12.out okX2.out 1 (.slice B2 (i+1) d2);have H13:=hide h13;clear H12 h13;refine rE (rs:=[12]) (by kernel_rfl) (by decide) (fun i1 hi1=>?_);obtain rfl:i1=12:=by simpa using hi1
     refine aO rfl rfl (Gv fun K hK=>?_);clear hi1;go_wp2_with fail;refine hK.out _ _ ⟨fun h=>by simp at h,?_⟩;clear hK;refine rE (rs:=[13]) (by kernel_rfl) (by decide) (fun i1 hi1=>?_);obtain rfl:i1=13:=by simpa using hi1
     refine aO rfl rfl (Gv fun K hK=>?_);clear hi1;go_wp2_with fail;refine hK.out _ _ ⟨fun h=>by simp at h,?_⟩;clear hK;refine Dm (by kernel_rfl) ?_ _;generalize W2.setCell ⟨g3,1,none⟩ (.slice B2 (i+1) d2)=W3 at *
     clear s0 s1 s2;have hib:(i:Int) < 1000000:=by have:=HM6.out;omega
     go_wp2_with fail
     go_roundw
     case rel=>exact ⟨i+1,l ++ [(u,wa)],A2,c2,B2,d2,by go_num,hlt,by rw [List.map_append,HLE.out,HTK.out,List.map_append,HU.out];rfl,HC2.out,HD2.out,(H13.out.perm (by
      have e1:(((n.ws.take (i+1)).map (aZ T n.k)).map (Value.int .i64))=(((n.ws.take i).map (aZ T n.k)).map (Value.int .i64)) ++ [.int .i64 (aZ T n.k x)]:=by rw [HTK.out,List.map_append,List.map_append];rfl
      have e2:(l ++ [(u,wa)]).flatMap dP=l.flatMap dP ++ dP (u,wa):=by rw [List.flatMap_append,List.flatMap_singleton]
      rw [e1,e2,Al]
      ac_rfl:_=star (au g9 #[.int .i64 u.k,.slice wa.V u.vs.length wa.vc,.slice wa.L u.ls.length wa.lc] 77) (star (au g3 #[.slice A2 (i+1) c2,.slice B2 (i+1) d2] 71) (star (aS 77 3 (.slice A2 (i+1) c2) (i+1) ((l ++ [(u,wa)]).flatMap dP)) (star (aS 3 1 (.slice B2 (i+1) d2) (i+1) (((n.ws.take (i+1)).map (aZ T n.k)).map (Value.int .i64))) (star (kD (l ++ [(u,wa)])) (star (au g2 #[.slice none 0 0,.slice none 0 0] 71) (star (au g1 #[.int .i64 n.k,.slice (some ⟨b,o,none⟩) m cn] 28) (star (au w.heap.size #[.slice aA n1 ac,.slice aD n2 ad,.slice aE n3 ae,.int .i64 T.drop,.int .i64 T.ord,.int .i64 T.ini] 25) emp))))))))).drop⟩
     case measure=>simp [intOf];omega
    ·obtain rfl:i=m:=by omega
     have h1:=HR.out.perm (by ac_rfl:_=star (au g2 #[.slice none 0 0,.slice none 0 0] 71) (star (au g3 #[.slice A i c,.slice B i d] 71) (star (aS 77 3 (.slice A i c) i (l.flatMap dP)) (star (aS 3 1 (.slice B i d) i (((n.ws.take i).map (aZ T n.k)).map (Value.int .i64))) (star (kD l) (star (au g1 #[.int .i64 n.k,.slice An i cn] 28) (star (au w.heap.size #[.slice aA n1 ac,.slice aD n2 ad,.slice aE n3 ae,.int .i64 T.drop,.int .i64 T.ord,.int .i64 T.ini] 25) emp)))))));have okE:(star (au g3 #[.slice A i c,.slice B i d] 71) (star (aS 77 3 (.slice A i c) i (l.flatMap dP)) (star (aS 3 1 (.slice B i d) i (((n.ws.take i).map (aZ T n.k)).map (Value.int .i64))) (star (kD l) (star (au g1 #[.int .i64 n.k,.slice An i cn] 28) (star (au w.heap.size #[.slice aA n1 ac,.slice aD n2 ad,.slice aE n3 ae,.int .i64 T.drop,.int .i64 T.ord,.int .i64 T.ini] 25) emp)))))).Ok:=aj av (aj bA (aj bA (aj tO (aj av (aj av aB)))));obtain ⟨r0,r1,rf⟩:=bO h1;obtain ⟨s0,s1,s2⟩:=bO h1.drop;have h2:=kQ h1 okE (.slice A i c) (.slice B i d);have H2':=hide h2
     have HF:=hide (fun W (h:Run (fun _=>False) w (star (au g2 #[.slice A i c,.slice B i d] 71) (star (au g3 #[.slice A i c,.slice B i d] 71) (star (aS 77 3 (.slice A i c) i (l.flatMap dP)) (star (aS 3 1 (.slice B i d) i (((n.ws.take i).map (aZ T n.k)).map (Value.int .i64))) (star (kD l) (star (au g1 #[.int .i64 n.k,.slice An i cn] 28) (star (au w.heap.size #[.slice aA n1 ac,.slice aD n2 ad,.slice aE n3 ae,.int .i64 T.drop,.int .i64 T.ord,.int .i64 T.ini] 25) emp))))))) W)=>(show lU w T n (.returned (.tuple #[.agg #[.slice A i c,.slice B i d],.bool true])) W from by
      have ht:n.ws.take i=n.ws:=by rw [HM.out,List.take_length]
      have hln:l.length=i:=by
       have:=congrArg List.length HLE.out;rw [List.length_map,List.length_map,ht,←HM.out] at this;exact this
      obtain ⟨F1,hF1⟩:=h.drop.drop.fst;obtain ⟨F2,hF2⟩:=h.drop.drop.drop.fst;obtain ⟨F3,hF3⟩:=h.drop.drop.drop.drop.fst;refine HYES.out _ l A c B d (HBW.out _ _ h) ⟨by rw [HLE.out,ht],?_,?_,NJ hF3⟩ HIC.out HID.out
      ·have:=iT hF1 (yL l);unfold wu;rw [hln];exact this
      ·have:=iT hF2 (Df _);rw [ht] at this;unfold jE;rw [List.length_map,←HM.out]
       exact this))
     clear h1 h2 okE HR HLE HIC HID;go_wp2;obtain ⟨f2,hf2⟩:=H2'.out.fst;refine bodyPost_ret (NK rfl rfl hf2.1 rfl) rfl ?_;exact HF.out _ H2'.out
end Go.Proofs.YtbnnlpjpnihheaaGreatDoor
