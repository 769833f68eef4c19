/- A part of the proof: lemmas. -/
import Derived.Test.YtbnnlpjpnihheaaGreatDoorME19
import Derived.OrdersHeld
import Derived.Test.YtbnnlpjpnihheaaGreatDoorRows
import Derived.Test.YtbnnlpjpnihheaaGreatDoorME1
import Derived.PinnedBridge
import Derived.Lib.LaidCase
import Derived.Lib.LaidU8
import Derived.HandedShaped
import Derived.LaidMore
import Derived.Lay
import Derived.SevenTiedAt
import Derived.Stop.Joined
import Derived.WalkKit
import Derived.ProofKit
import Derived.OpenShut
import Derived.ShutString
import Derived.Test.YtbnnlpjpnihheaaGreatDoorME3
set_option maxHeartbeats 16000000
set_option maxRecDepth 100000
set_option linter.unusedSimpArgs false
set_option linter.unusedVariables false
namespace Go.CH.Mtc
open Go.CH.Scr Go.CH.dK
def l4:List Bs:=[[97],[110],[107],[105]]
def jl:Tab:=⟨l4.map fun x=>⟨1,x,x,0⟩,[⟨1,[97,108],0⟩],[⟨1,[107,105],2⟩],5,1,3⟩
end Go.CH.Mtc
namespace Go.Proofs.YtbnnlpjpnihheaaGreatDoor
open Go.RowKit Go.CH Go.CH.Scr Go.CH.dK Go.CH.Mtc
open Go.ChangeMaps (setBlock)
theorem Ov:dh Tryz.prog 22 113 (.agg #[.int .i64 0,.string ⟨#[]⟩,.string ⟨#[]⟩,.int .i64 0]) 4 48:=⟨Tryz.underlying22,by kernel_rfl,by decide,by decide⟩
theorem Ow (l:List Rule):∀ u ∈ l.flatMap dY,u.oneCell'=true:=by
 intro u hu;obtain ⟨x,-,hx⟩:=List.mem_flatMap.1 hu;unfold dY at hx;simp only [List.mem_cons,List.not_mem_nil,or_false] at hx;rcases hx with rfl | rfl | rfl | rfl <;> rfl

theorem AB {w:World} {F:Nat→Prop} {g:Nat} {cs:Array Value} {t:TypeId} (h:au g cs t w F) (h1:∀ u ∈ cs.toList,u.oneCell'=true):Src w (some ⟨g,0,none⟩) 1 cs.size cs.toList:=by
 refine ⟨by rw [Array.length_toList,Nat.one_mul],h1,fun _=>⟨_,rfl,fun j u hu=>?_⟩⟩;have h2:cs[j]?=some u:=by rw [←Array.getElem?_toList];exact hu
 have h3:=ay h h2;have e:(⟨g,0,none⟩:Addr).add j=⟨g,j,none⟩:=by unfold Addr.add;split <;> simp_all
 rw [e];exact h3
theorem Ox {F0:Nat→Prop} {w0 w:World} {g:Nat} {t:TypeId} {X:CH.Own} {a0 a1 a2 a3 a4 a5:Value} (h:Run F0 w0 (star (au g #[a0,a1,a2,a3,a4,a5] t) X) w) (hX:X.Ok) (b0 b1 b2 b3 b4 b5:Value) :
  Run F0 w0 (star (au g #[b0,b1,b2,b3,b4,b5] t) X) ((((((w.setCell ⟨g,0,none⟩ b0).setCell ⟨g,1,none⟩ b1).setCell ⟨g,2,none⟩ b2).setCell ⟨g,3,none⟩ b3).setCell ⟨g,4,none⟩ b4).setCell ⟨g,5,none⟩ b5):=by
 have h0:Run F0 w0 (star (au g #[b0,a1,a2,a3,a4,a5] t) X) _:=aH h hX 0 b0;have h1:Run F0 w0 (star (au g #[b0,b1,a2,a3,a4,a5] t) X) _:=aH h0 hX 1 b1;have h2:Run F0 w0 (star (au g #[b0,b1,b2,a3,a4,a5] t) X) _:=aH h1 hX 2 b2;have h3:Run F0 w0 (star (au g #[b0,b1,b2,b3,a4,a5] t) X) _:=aH h2 hX 3 b3;have h4:Run F0 w0 (star (au g #[b0,b1,b2,b3,b4,a5] t) X) _:=aH h3 hX 4 b4;exact aH h4 hX 5 b5
def QX (i:Nat):Bs:=l4.getD i []
theorem j4 (w:World):Calls Tryz.prog 27 #[] w (fun e w'=>∃ a:TA,e=.returned (eZ jl a)∧Below w.heap.size w w'∧jJ w' jl a):=by
 have h1:=aG (Run.begin w) aB #[.slice none 0 0,.slice none 0 0,.slice none 0 0,.int .i64 0,.int .i64 0,.int .i64 0] 25;have h2:=aG h1 (aj av aB) #[.int .i64 1,.string { data:=#[97,108] },.int .i64 0] 104;have h3:=aG h2 (aj av (aj av aB)) #[.int .i64 1,.string { data:=#[107,105] },.int .i64 2] 104;simp only [World.size_alloc] at h3;obtain ⟨gD,hgD⟩:∃ g,g=w.heap.size+1:=⟨_,rfl⟩;obtain ⟨gE,hgE⟩:∃ g,g=gD+1:=⟨_,rfl⟩;rw [←hgD,←hgE] at h3;have h4:=aG h3 (aj av (aj av (aj av aB))) #[.slice none 0 0,.slice (some ⟨gD,0,none⟩) 1 1,.slice (some ⟨gE,0,none⟩) 1 1,.int .i64 5,.int .i64 1,.int .i64 3] 25;have h5:=aG h4 (aj av (aj av (aj av (aj av aB)))) #[.string { data:=#[97] },.string { data:=#[110] },.string { data:=#[107] },.string { data:=#[105] }] 9;simp only [World.size_alloc] at h5;rw [←hgD,←hgE] at h5;have H5:=hide h5;clear h1 h2 h3 h4 h5;have e1:=hgD.symm;have e2:=hgE.symm;obtain ⟨g1,hg1⟩:∃ g,gE+1=g:=⟨_,rfl⟩;obtain ⟨gL,hgL⟩:∃ g,g1+1=g:=⟨_,rfl⟩;rw [hg1,hgL] at H5;clear hgD hgE
 go_enter Tryz.func27,Tryz.ntmps27
 go_upto_region 3 with (fail);generalize ((((w.alloc (.cells #[.slice none 0 0,.slice none 0 0,.slice none 0 0,.int .i64 0,.int .i64 0,.int .i64 0] 25)).alloc (.cells #[.int .i64 1,.string { data:=#[97,108] },.int .i64 0] 104)).alloc (.cells #[.int .i64 1,.string { data:=#[107,105] },.int .i64 2] 104)).alloc (.cells #[.slice none 0 0,.slice (some ⟨gD,0,none⟩) 1 1,.slice (some ⟨gE,0,none⟩) 1 1,.int .i64 5,.int .i64 1,.int .i64 3] 25)).alloc (.cells #[.string { data:=#[97] },.string { data:=#[110] },.string { data:=#[107] },.string { data:=#[105] }] 9)=w5 at *
 clear e1 e2 hg1 hgL;have h6:=(H5.out.fresh (aj av (aj av (aj av (aj av (aj av aB))))) (⟨fun _=>False,fH _ 113 4,Mod.refl _ _,fun i hi=>.inl hi⟩:Post w5 (fun _=>False) (aS 113 4 (.slice none 0 0) 0 []) w5)).perm (by ac_rfl:_=star (au g1 #[.slice none 0 0,.slice (some ⟨gD,0,none⟩) 1 1,.slice (some ⟨gE,0,none⟩) 1 1,.int .i64 5,.int .i64 1,.int .i64 3] 25) (star (aS 113 4 (.slice none 0 0) 0 []) (star (au gL #[.string { data:=#[97] },.string { data:=#[110] },.string { data:=#[107] },.string { data:=#[105] }] 9) (star (au gE #[.int .i64 1,.string { data:=#[107,105] },.int .i64 2] 104) (star (au gD #[.int .i64 1,.string { data:=#[97,108] },.int .i64 0] 104) (star (au w.heap.size #[.slice none 0 0,.slice none 0 0,.slice none 0 0,.int .i64 0,.int .i64 0,.int .i64 0] 25) emp))))));have H6:=hide h6;clear h6 H5;have okR:=hide ((aj av (aj av (aj av (aj av aB)))):((star (au gL #[.string { data:=#[97] },.string { data:=#[110] },.string { data:=#[107] },.string { data:=#[105] }] 9) (star (au gE #[.int .i64 1,.string { data:=#[107,105] },.int .i64 2] 104) (star (au gD #[.int .i64 1,.string { data:=#[97,108] },.int .i64 0] 104) (star (au w.heap.size #[.slice none 0 0,.slice none 0 0,.slice none 0 0,.int .i64 0,.int .i64 0,.int .i64 0] 25) emp))))).Ok);go_wp2_with fail;go_loopw [3] (fun kk wr=>∃ (i:Nat) (A:Option Addr) (c:Nat),kk=.int .i64 i∧i≤4∧Run (fun _=>False) w (star (au g1 #[.slice A i c,.slice (some ⟨gD,0,none⟩) 1 1,.slice (some ⟨gE,0,none⟩) 1 1,.int .i64 5,.int .i64 1,.int .i64 3] 25) (star (aS 113 4 (.slice A i c) i ((jl.rs.take i).flatMap dY)) (star (au gL #[.string { data:=#[97] },.string { data:=#[110] },.string { data:=#[107] },.string { data:=#[105] }] 9) (star (au gE #[.int .i64 1,.string { data:=#[107,105] },.int .i64 2] 104) (star (au gD #[.int .i64 1,.string { data:=#[97,108] },.int .i64 0] 104) (star (au w.heap.size #[.slice none 0 0,.slice none 0 0,.slice none 0 0,.int .i64 0,.int .i64 0,.int .i64 0] 25) emp)))))) wr) (fun kk _=>4 - (intOf kk).toNat)
 case atStart=>exact ⟨0,none,0,rfl,Nat.zero_le _,H6.out⟩
 case round =>
  obtain ⟨i,A,c,rfl,hi,hR⟩:=hrel;have HR:=hide hR;clear H6 hR;by_cases hlt:i < 4
  ·have hTK:=hide (show (jl.rs.take (i+1)).flatMap dY=(jl.rs.take i).flatMap dY ++ dY ⟨1,QX i,QX i,0⟩ from by
    have:i=0∨i=1∨i=2∨i=3:=by omega
    rcases this with rfl | rfl | rfl | rfl <;> rfl)
   obtain ⟨FL,hFL⟩:=HR.out.drop.drop.fst;have hs:wr.cell? ⟨gL,i,none⟩=some (.string (bs (QX i))):=by
    have:i=0∨i=1∨i=2∨i=3:=by omega
    rcases this with rfl | rfl | rfl | rfl
    ·exact ay hFL rfl
    ·exact ay hFL rfl
    ·exact ay hFL rfl
    ·exact ay hFL rfl
   generalize QX i=x at *
   obtain ⟨F1,hF1⟩:=HR.out.fst;have t0:=ay (i:=0) hF1 rfl;have okT:=hide (aj av (aj bA okR.out):(star (au g1 #[.slice A i c,.slice (some ⟨gD,0,none⟩) 1 1,.slice (some ⟨gE,0,none⟩) 1 1,.int .i64 5,.int .i64 1,.int .i64 3] 25) (star (aS 113 4 (.slice A i c) i ((jl.rs.take i).flatMap dY)) (star (au gL #[.string { data:=#[97] },.string { data:=#[110] },.string { data:=#[107] },.string { data:=#[105] }] 9) (star (au gE #[.int .i64 1,.string { data:=#[107,105] },.int .i64 2] 104) (star (au gD #[.int .i64 1,.string { data:=#[97,108] },.int .i64 0] 104) (star (au w.heap.size #[.slice none 0 0,.slice none 0 0,.slice none 0 0,.int .i64 0,.int .i64 0,.int .i64 0] 25) emp)))))).Ok);have H7:=hide (HR.out.drew okT.out);clear hFL FL hF1 F1 HR;go_wp2_with fail;have h1i:(i:Int) < 4:=by omega
   refine iK [11,12,14] [1,1,0,0,0,0,0,0,0,0,0,1,2,2,3] (fun w'=>w'.cell? ⟨g1,0,none⟩=some (.slice A i c)∧w'.cell? ⟨gL,i,none⟩=some (.string (bs x))) (fun w'=>w'.cell? ⟨g1,0,none⟩=some (.slice A i c)) (fun _=>True) (fun _=>True) (fun _ h=>h.1) (fun _ _=>trivial) (fun _ h=>h) (by kernel_rfl) (by kernel_rfl) (by kernel_rfl) (by kernel_rfl) (by exact ⟨t0,hs⟩) ?_
   (repeat ((first | refine fZ (by rfl) (by rfl) ?_ | ((first | refine eO (v:=?_) (by rfl) (by rfl) ?_ ?_ | refine eP (v:=?_) (by rfl) (by rfl) ?_ ?_ | refine eT (v:=?_) (by rfl) (by rfl) ?_ ?_ | refine eU (v:=?_) (by rfl) (by rfl) ?_ ?_ | refine eX (v:=?_) (by rfl) (by rfl) ?_ ?_);rotate_left;(focus (intro w' hS';go_simp;(try with_reducible rfl);done))));try simp only [Act.put,List.setIfInBounds_toArray,List.set_cons_zero,List.set_cons_succ]))
   refine kR rfl (by rfl) (fun K hK=>?_);go_wp2_with fail;have h8:=aG H7.out okT.out #[.int .i64 1,.string (bs x),.string (bs x),.int .i64 0] 113;have H8:=hide (h8.perm (by ac_rfl:_=star (aS 113 4 (.slice A i c) i ((jl.rs.take i).flatMap dY)) (star (au g1 #[.slice A i c,.slice (some ⟨gD,0,none⟩) 1 1,.slice (some ⟨gE,0,none⟩) 1 1,.int .i64 5,.int .i64 1,.int .i64 3] 25) (star (au wr.drew.heap.size #[.int .i64 1,.string (bs x),.string (bs x),.int .i64 0] 113) (star (au gL #[.string { data:=#[97] },.string { data:=#[110] },.string { data:=#[107] },.string { data:=#[105] }] 9) (star (au gE #[.int .i64 1,.string { data:=#[107,105] },.int .i64 2] 104) (star (au gD #[.int .i64 1,.string { data:=#[97,108] },.int .i64 0] 104) (star (au w.heap.size #[.slice none 0 0,.slice none 0 0,.slice none 0 0,.int .i64 0,.int .i64 0,.int .i64 0] 25) emp))))))));have okU:=hide (aj av (aj av okR.out):(star (au g1 #[.slice A i c,.slice (some ⟨gD,0,none⟩) 1 1,.slice (some ⟨gE,0,none⟩) 1 1,.int .i64 5,.int .i64 1,.int .i64 3] 25) (star (au wr.drew.heap.size #[.int .i64 1,.string (bs x),.string (bs x),.int .i64 0] 113) (star (au gL #[.string { data:=#[97] },.string { data:=#[110] },.string { data:=#[107] },.string { data:=#[105] }] 9) (star (au gE #[.int .i64 1,.string { data:=#[107,105] },.int .i64 2] 104) (star (au gD #[.int .i64 1,.string { data:=#[97,108] },.int .i64 0] 104) (star (au w.heap.size #[.slice none 0 0,.slice none 0 0,.slice none 0 0,.int .i64 0,.int .i64 0,.int .i64 0] 25) emp)))))).Ok);obtain ⟨F1,hF1⟩:=H8.out.drop.fst;have t0':=ay (i:=0) hF1 rfl;obtain ⟨F12,hF12⟩:=H8.out.drop.drop.fst;have hcx:∀ (j:Nat) u,(dY ⟨1,x,x,0⟩)[j]?=some u→_=some u:=fun j u hu=>ay hF12 (by unfold dY at hu;simpa using hu);refine hK.out _ _ t0' ?_;clear hK t0 hs h8 H7 hF1 F1 t0'
   (repeat ((first | refine fZ (by rfl) (by rfl) ?_ | ((first | refine eO (v:=?_) (by rfl) (by rfl) ?_ ?_ | refine eP (v:=?_) (by rfl) (by rfl) ?_ ?_ | refine eT (v:=?_) (by rfl) (by rfl) ?_ ?_ | refine eU (v:=?_) (by rfl) (by rfl) ?_ ?_ | refine eX (v:=?_) (by rfl) (by rfl) ?_ ?_);rotate_left;(focus (intro w' hS';go_simp;(try with_reducible rfl);done))));try simp only [Act.put,List.setIfInBounds_toArray,List.set_cons_zero,List.set_cons_succ]))
   refine kS rfl (by rfl) (fun K hK=>?_);refine wE Ov (by decide) (.tmp 17) (.tmp 27) rfl (A:=A) (c:=c) (n:=i) (xs:=(jl.rs.take i).flatMap dY) (cs:=dY ⟨1,x,x,0⟩) rfl rfl (by omega) okU.out H8.out rfl (fun u hu=>Ow [⟨1,x,x,0⟩] u (by simpa using hu)) hcx ?_;intro A9 c9 w6 hr6;have h9:=hr6.perm (by ac_rfl:_=star (au g1 #[.slice A i c,.slice (some ⟨gD,0,none⟩) 1 1,.slice (some ⟨gE,0,none⟩) 1 1,.int .i64 5,.int .i64 1,.int .i64 3] 25) (star (aS 113 4 (.slice A9 (i+1) c9) (i+1) ((jl.rs.take i).flatMap dY ++ dY ⟨1,x,x,0⟩)) (star (au wr.drew.heap.size #[.int .i64 1,.string (bs x),.string (bs x),.int .i64 0] 113) (star (au gL #[.string { data:=#[97] },.string { data:=#[110] },.string { data:=#[107] },.string { data:=#[105] }] 9) (star (au gE #[.int .i64 1,.string { data:=#[107,105] },.int .i64 2] 104) (star (au gD #[.int .i64 1,.string { data:=#[97,108] },.int .i64 0] 104) (star (au w.heap.size #[.slice none 0 0,.slice none 0 0,.slice none 0 0,.int .i64 0,.int .i64 0,.int .i64 0] 25) emp)))))));obtain ⟨F1,hF1⟩:=h9.fst;have t0':=ay (i:=0) hF1 rfl;have tf:=aJ hF1;have h10:Run (fun _=>False) w (star (au g1 #[.slice A9 (i+1) c9,.slice (some ⟨gD,0,none⟩) 1 1,.slice (some ⟨gE,0,none⟩) 1 1,.int .i64 5,.int .i64 1,.int .i64 3] 25) _) _:=aH h9 (aj bA (aj av okR.out)) 0 (.slice A9 (i+1) c9);have HE:=hide ((h10.perm (by ac_rfl:_=star (au wr.drew.heap.size #[.int .i64 1,.string (bs x),.string (bs x),.int .i64 0] 113) (star (au g1 #[.slice A9 (i+1) c9,.slice (some ⟨gD,0,none⟩) 1 1,.slice (some ⟨gE,0,none⟩) 1 1,.int .i64 5,.int .i64 1,.int .i64 3] 25) (star (aS 113 4 (.slice A9 (i+1) c9) (i+1) ((jl.rs.take i).flatMap dY ++ dY ⟨1,x,x,0⟩)) (star (au gL #[.string { data:=#[97] },.string { data:=#[110] },.string { data:=#[107] },.string { data:=#[105] }] 9) (star (au gE #[.int .i64 1,.string { data:=#[107,105] },.int .i64 2] 104) (star (au gD #[.int .i64 1,.string { data:=#[97,108] },.int .i64 0] 104) (star (au w.heap.size #[.slice none 0 0,.slice none 0 0,.slice none 0 0,.int .i64 0,.int .i64 0,.int .i64 0] 25) emp)))))))).drop);refine hK.out _ _ trivial ?_;clear hK hr6 h9 h10 hF1 F1 hcx hF12 F12 H8
   (repeat ((first | refine fZ (by rfl) (by rfl) ?_ | ((first | refine eO (v:=?_) (by rfl) (by rfl) ?_ ?_ | refine eP (v:=?_) (by rfl) (by rfl) ?_ ?_ | refine eT (v:=?_) (by rfl) (by rfl) ?_ ?_ | refine eU (v:=?_) (by rfl) (by rfl) ?_ ?_ | refine eX (v:=?_) (by rfl) (by rfl) ?_ ?_);rotate_left;(focus (intro w' hS';go_simp;(try with_reducible rfl);done))));try simp only [Act.put,List.setIfInBounds_toArray,List.set_cons_zero,List.set_cons_succ]))
   refine ru rfl (by rfl) (fun K hK=>?_);go_wp2_with fail;refine hK.out _ _ trivial (sF ?_);clear hK t0' tf;go_wp2_with fail
   go_roundw
   case rel=>exact ⟨i+1,A9,c9,by go_num,hlt,by rw [hTK.out];exact HE.out⟩
   case measure=>simp [intOf];omega
  ·obtain rfl:i=4:=by omega
   have h7:=HR.out.perm (by ac_rfl:_=star (au w.heap.size #[.slice none 0 0,.slice none 0 0,.slice none 0 0,.int .i64 0,.int .i64 0,.int .i64 0] 25) (star (au g1 #[.slice A 4 c,.slice (some ⟨gD,0,none⟩) 1 1,.slice (some ⟨gE,0,none⟩) 1 1,.int .i64 5,.int .i64 1,.int .i64 3] 25) (star (aS 113 4 (.slice A 4 c) 4 ((jl.rs.take 4).flatMap dY)) (star (au gL #[.string { data:=#[97] },.string { data:=#[110] },.string { data:=#[107] },.string { data:=#[105] }] 9) (star (au gE #[.int .i64 1,.string { data:=#[107,105] },.int .i64 2] 104) (star (au gD #[.int .i64 1,.string { data:=#[97,108] },.int .i64 0] 104) emp))))));have okV:(star (au g1 #[.slice A 4 c,.slice (some ⟨gD,0,none⟩) 1 1,.slice (some ⟨gE,0,none⟩) 1 1,.int .i64 5,.int .i64 1,.int .i64 3] 25) (star (aS 113 4 (.slice A 4 c) 4 ((jl.rs.take 4).flatMap dY)) (star (au gL #[.string { data:=#[97] },.string { data:=#[110] },.string { data:=#[107] },.string { data:=#[105] }] 9) (star (au gE #[.int .i64 1,.string { data:=#[107,105] },.int .i64 2] 104) (star (au gD #[.int .i64 1,.string { data:=#[97,108] },.int .i64 0] 104) emp))))).Ok:=aj av (aj bA (aj av (aj av (aj av aB))));obtain ⟨t0,t1,t2,t3,t4,t5⟩:=bW h7.drop;obtain ⟨z0,z1,z2,z3,z4,z5⟩:=bW h7;obtain ⟨FZ,hFZ⟩:=h7.fst;have zf:=aJ hFZ;have h8:=Ox h7 okV (.slice A 4 c) (.slice (some ⟨gD,0,none⟩) 1 1) (.slice (some ⟨gE,0,none⟩) 1 1) (.int .i64 5) (.int .i64 1) (.int .i64 3);have H8:=hide h8;clear hFZ FZ h7 h8 HR okV;go_wp2;obtain ⟨f2,hf2⟩:=H8.out.fst;refine bodyPost_ret (results_cell_row rfl _ _ w.heap.size 25 #[.slice A 4 c,.slice (some ⟨gD,0,none⟩) 1 1,.slice (some ⟨gE,0,none⟩) 1 1,.int .i64 5,.int .i64 1,.int .i64 3] (0,0) (.struct _) rfl hf2.1 Tryz.underlying25 rfl (by kernel_rfl)) rfl ?_;obtain ⟨F1,hF1⟩:=H8.out.drop.drop.fst;obtain ⟨F2,hF2⟩:=H8.out.drop.drop.drop.drop.fst;obtain ⟨F3,hF3⟩:=H8.out.drop.drop.drop.drop.drop.fst;refine ⟨⟨A,c,some ⟨gD,0,none⟩,1,some ⟨gE,0,none⟩,1⟩,rfl,H8.out.bI,?_⟩;refine { rs:=iT hF1 (Ow _),ds:=AB hF3 (by decide),es:=AB hF2 (by decide),lr:=by decide,ld:=by decide,le:=by decide,sr:=?_,sd:=?_,se:=?_ } <;> decide
end Go.Proofs.YtbnnlpjpnihheaaGreatDoor
namespace Go.CH.Mtc
open Go.CH.Scr Go.CH.dK

def ED (a b:bq) (c:Int) (p:Nat) (s:Bool):Bool:=nM jl a b && (decide ((gH jl a b).c=c) && (decide ((gH jl a b).ps.length=p) && decide ((gH jl a b).s=s)))
def lW:bq:=⟨1,[[97,110,110,97]]⟩
def QY:bq:=⟨1,[[97,110,110,97],[107,97,105]]⟩
def Us:bq:=⟨1,[[107,97,105],[97,110,110,97]]⟩
def Rz:bq:=⟨1,[[97,108],[97,110,110,97]]⟩
def Oy:bq:=⟨1,[[97],[107,97,105]]⟩
def EF:bq:=⟨1,[[97,110,110,97,107,105]]⟩
def RD:bq:=⟨1,[[107,97,105]]⟩
theorem Ut:ED lW lW 0 1 false=true:=by decide +kernel
theorem Uu:ED QY Us 1 2 true=true:=by decide +kernel
theorem Uv:ED Rz lW 0 1 false=true:=by decide +kernel
theorem Uw:ED Oy QY 3 2 false=true:=by decide +kernel
theorem Ux:ED EF lW 2 1 false=true:=by decide +kernel
theorem Uy:ED lW RD 10 0 false=true:=by decide +kernel
theorem Uz:(fK jl 1 [97] 1 [97,110,110,97]).map (fun p=>(p.kd,p.c))=some (2,3):=by decide +kernel
theorem UA:(fK jl 1 [97,110,110,97] 1 [107,97,105]).isNone=true:=by decide +kernel
theorem AJ {T:Tab} {a b:bq} {s:Bool}:∀ (l:List Pr) (last before:Int) (rs:List Int),jw T a b s last before rs l→∀ p ∈ l,p.d.L.length≤12∧p.d.M.length≤12
 | [],_,_,_,_,p,hp=>by cases hp
 | q :: l,last,before,rs,h,p,hp=>by
  rw [jw] at h;obtain ⟨-,-,-,-,-,-,h7,h8⟩:=h;rcases List.mem_cons.1 hp with rfl | hp
  ·obtain ⟨w,-,-,h9⟩:=h7;exact (ny h9).2.2
  ·exact AJ l _ _ _ h8 p hp
theorem K8 {T:Tab} {a b:bq} {m:Mt} (h:oJ T a b m):∀ p ∈ m.ps,p.d.L.length≤12∧p.d.M.length≤12:=AJ _ _ _ _ h.2.1
theorem vR {T:Tab} {a b:bq} {s:Bool}:∀ (l:List Pr) (last before:Int) (rs:List Int),-1≤last→jw T a b s last before rs l→(l.length:Int)≤a.ws.length - (last+1)∨l=[]
 | [],_,_,_,_,_=>.inr rfl
 | q :: l,last,before,rs,hl,h=>by
  rw [jw] at h;obtain ⟨h1,h2,-,-,-,-,-,h8⟩:=h;left;rcases vR l _ _ _ (by omega) h8 with h9 | h9
  ·rw [List.length_cons];omega
  ·rw [h9,List.length_cons];simp;omega
theorem EG {T:Tab} {a b:bq} {m:Mt} (h:oJ T a b m):m.ps.length≤6:=by
 have h1:=(bG.1 (by have:=h.1;unfold nM at this;rw [Bool.and_eq_true,Bool.and_eq_true] at this;exact this.2.1:dx a=true)).2.2;rcases vR _ _ _ _ (by omega) h.2.1 with h2 | h2
 ·omega
 ·rw [h2];simp
end Go.CH.Mtc
namespace Go.Proofs.YtbnnlpjpnihheaaGreatDoor
open Go.RowKit Go.CH Go.CH.Scr Go.CH.dK Go.CH.Mtc
open Go.ChangeMaps (setBlock)
theorem fE (A:Option Addr) (n c:Nat) (w:World):Calls Tryz.prog 26 #[.slice A n c] w (fun e w'=>e=.returned (.agg #[.int .i64 1,.slice A n c])∧Below w.heap.size w w'):=by
 have h1:=aG (Run.begin w) aB #[.int .i64 0,.slice none 0 0] 28;obtain ⟨z0,z1,zf⟩:=bO h1;have h2:Run (fun _=>False) w (star (au w.heap.size #[.int .i64 1,.slice none 0 0] 28) emp) _:=aH h1 aB 0 (.int .i64 1);have h3:Run (fun _=>False) w (star (au w.heap.size #[.int .i64 1,.slice A n c] 28) emp) _:=aH h2 aB 1 (.slice A n c);have H3:=hide h3;clear h2 h3
 go_enter Tryz.func26,Tryz.ntmps26
 go_upto_region 1 with (fail);generalize hw:w.alloc (.cells #[.int .i64 0,.slice none 0 0] 28)=w1 at *
 clear hw;go_wp2;obtain ⟨f2,hf2⟩:=H3.out.fst;refine bodyPost_ret (results_cell_row rfl _ _ w.heap.size 28 _ (0,0) (.struct _) rfl hf2.1 Tryz.underlying28 rfl (by kernel_rfl)) rfl ?_;exact ⟨rfl,H3.out.bI⟩
theorem tail_at {P:Program} {ops:Array Oper} {Q:Exit→Act→World→Prop} {S:World→Prop} {fuel fuel2:Nat} {ls ls2:Array Bool} {a:Act} {w:World} (I:Act→World→Act→Prop)
  (h1:(∀ W' a',I a W' a'→wpAnyH P .any ops Q S fuel2 ls2 a' W')→wpAnyH P .any ops Q S fuel ls a w) (h2:∀ W' a',I a W' a'→wpAnyH P .any ops Q S fuel2 ls2 a' W'):wpAnyH P .any ops Q S fuel ls a w:=h1 h2

theorem QZ {w:World} {T:Tab} {ta:TA} (hT:jJ w T ta) (hz:LZ w) {a b:bq} {An Bn Am:Option Addr} {ca cb cm:Nat} (hA:fF w An a.ws) (hB:fF w Bn b.ws) (hla:a.ws.length≤1000000) (hlb:b.ws.length≤1000000) (hwa:∀ x ∈ a.ws,x.length≤1000000) (hwb:∀ x ∈ b.ws,x.length≤1000000) {mc:Int} {sw:Bool} {l:List (Pr × PA)} (hM:NW w Am l) (hln:l.length≤1000) (hlm:∀ e ∈ l,e.1.d.L.length≤1000∧e.1.d.M.length≤1000) :
  Calls Tryz.prog 16 #[eZ T ta,BS a An ca,BS b Bn cb,.agg #[.int .i64 mc,.bool sw,.slice Am l.length cm]] w (vg w T a b ⟨mc,sw,l.map (·.1)⟩):=by
 cases sw with
 | false=>exact Ob hT hz hA hB hla hlb hwa hwb hM hln hlm
 | true=>exact Oc hT hz hA hB hla hlb hwa hwb hM hln hlm
theorem jg {w:World} (hz:LZ w) {a b:bq} {An Bn:Option Addr} {ca cb:Nat} (hA:fF w An a.ws) (hB:fF w Bn b.ws) (hwa:∀ x ∈ a.ws,x.length≤1000000) (hwb:∀ x ∈ b.ws,x.length≤1000000) {c:Int} {p:Nat} {s:Bool} (hk:ED a b c p s=true) :
  Calls Tryz.prog 25 #[BS a An ca,BS b Bn cb,.int .i64 c,.int .i64 (p:Int),.bool s] w (aP w (.bool true)):=by
 have hk1:nM jl a b=true∧(gH jl a b).c=c∧(gH jl a b).ps.length=p∧(gH jl a b).s=s:=by
  unfold ED at hk;rw [Bool.and_eq_true,Bool.and_eq_true,Bool.and_eq_true,decide_eq_true_eq,decide_eq_true_eq,decide_eq_true_eq] at hk;exact hk
 have HK:=hide hk1;have hla:a.ws.length≤1000000:=by have:=(bG.1 (qp.1 hk1.1).2.1).2.2;omega
 have hlb:b.ws.length≤1000000:=by have:=(bG.1 (qp.1 hk1.1).2.2).2.2;omega
 have h1:=aG (Run.begin w) aB #[.int .i64 a.k,.slice An a.ws.length ca] 28;have h2:=aG h1 (aj av aB) #[.int .i64 b.k,.slice Bn b.ws.length cb] 28;simp only [World.size_alloc] at h2;have HB:=hide h2.bI;obtain ⟨a0,a1,-⟩:=bO h2.drop;obtain ⟨b0,b1,-⟩:=bO h2;have HN:=hide (fun W (h:Below ((w.alloc (.cells #[.int .i64 a.k,.slice An a.ws.length ca] 28)).alloc (.cells #[.int .i64 b.k,.slice Bn b.ws.length cb] 28)).heap.size ((w.alloc (.cells #[.int .i64 a.k,.slice An a.ws.length ca] 28)).alloc (.cells #[.int .i64 b.k,.slice Bn b.ws.length cb] 28)) W)=>(show W.cell? ⟨w.heap.size,0,none⟩=some (.int .i64 a.k)∧W.cell? ⟨w.heap.size,1,none⟩=some (.slice An a.ws.length ca)∧W.cell? ⟨w.heap.size+1,0,none⟩=some (.int .i64 b.k)∧W.cell? ⟨w.heap.size+1,1,none⟩=some (.slice Bn b.ws.length cb) from ⟨aF a0 h,aF a1 h,aF b0 h,aF b1 h⟩))
 have KB:=hide (fun W (hb:Below w.heap.size w W) (ta:TA) (hT:jJ W jl ta)=>(Gy (ta:=ta) hT (hz.below hb) (ca:=ca) (cb:=cb) (aR hA hb) (aR hB hb) hla hlb hwa hwb).mono fun e w' (h:BL W jl a b e w')=>(show ∃ (A:Option Addr) (c':Nat) (l:List (Pr × PA)),e=.returned (.tuple #[.agg #[.int .i64 c,.bool s,.slice A p c'],.int .i64 0])∧l.length=p∧l.map (·.1)=(gH jl a b).ps∧Post W (fun _=>False) (OO A c' l) w' from by
  obtain ⟨x,er,A,c',l,h1,h2,h3,h4⟩:=h;cases h2 with
  | arg h5=>rw [hk1.1] at h5;cases h5
  | some h5 =>
   have h6:l.length=p:=by rw [←hk1.2.2.1,←h3,List.length_map]
   exact ⟨A,c',l,by rw [h1,hk1.2.1,hk1.2.2.2,h6],h6,h3,h4⟩))
 have KC:=hide (fun W (hb:Below w.heap.size w W) (ta:TA) (hT:jJ W jl ta) (A:Option Addr) (c':Nat) (l:List (Pr × PA)) (hM:NW W A l) (hl:l.map (·.1)=(gH jl a b).ps) (hlp:l.length=p)=>(show Calls Tryz.prog 16 #[eZ jl ta,.agg #[.int .i64 a.k,.slice An a.ws.length ca],.agg #[.int .i64 b.k,.slice Bn b.ws.length cb],.agg #[.int .i64 c,.bool s,.slice A p c']] W (fun e w'=>e=.returned (.bool true)∧Below W.heap.size W w') from by
  have hr:=iR hk1.1;have h9:∀ e ∈ l,e.1.d.L.length≤1000∧e.1.d.M.length≤1000:=fun e he=>by
   have:=K8 hr e.1 (by rw [←hl];exact List.mem_map.2 ⟨e,he,rfl⟩);omega
  have h10:l.length≤1000:=by
   have:=EG hr;rw [←hl,List.length_map] at this;omega
  rw [←hlp];refine (QZ (ta:=ta) hT (hz.below hb) (ca:=ca) (cb:=cb) (aR hA hb) (aR hB hb) hla hlb hwa hwb (mc:=c) (sw:=s) (cm:=c') hM h10 h9).mono ?_;rintro e w' ⟨o,rfl,h11,h12⟩;have h13:o=true:=h11.2 (by rw [hl,←hk1.2.1,←hk1.2.2.2];exact hr)
  exact ⟨by rw [h13],h12⟩))
 clear hz hA hB hwa hwb hk hk1 hla hlb h1 h2 a0 a1 b0 b1;unfold BS at *
 generalize a.ws.length=la at *
 generalize b.ws.length=lb at *
 go_enter Tryz.func25,Tryz.ntmps25
 go_upto_region 1 with (fail);generalize (w.alloc (.cells #[.int .i64 a.k,.slice An la ca] 28)).alloc (.cells #[.int .i64 b.k,.slice Bn lb cb] 28)=w2 at *
 generalize hg:w.heap.size=g5 at HN ⊢;clear hg;have HBW:=hide (fun W (h:Below w2.heap.size w2 W)=>HB.out.trans (h.mono HB.out.size));have hSD:=HN.out w2.drew (aV (Below.refl _ _));refine wp_region_held (S:=fun w'=>w'.cell? ⟨g5,0,none⟩=some (.int .i64 a.k)∧w'.cell? ⟨g5,1,none⟩=some (.slice An la ca)∧w'.cell? ⟨g5+1,0,none⟩=some (.int .i64 b.k)∧w'.cell? ⟨g5+1,1,none⟩=some (.slice Bn lb cb)) (by kernel_rfl) (show wpAnyH _ _ _ _ _ _ _ _ w2.drew from ?_);refine wpAnyH_take (i:=1) (v:=.agg #[.int .i64 a.k,.slice An la ca]) rfl (by kernel_rfl) (by kernel_rfl) (by kernel_rfl) (fun _ _ _ h=>h) (.inl ⟨rfl,fun w' hS'=>?_⟩) hSD ?_
 ·obtain ⟨s0,s1,s2,s3⟩:=hS';go_simp
 try simp only [Act.put,List.getElem_toArray,List.getElem_cons_succ,List.getElem_cons_zero,List.setIfInBounds_toArray,List.set_cons_zero,List.set_cons_succ]
 refine wpAnyH_take (i:=2) (v:=.agg #[.int .i64 b.k,.slice Bn lb cb]) rfl (by kernel_rfl) (by kernel_rfl) (by kernel_rfl) (fun _ _ _ h=>h) (.inl ⟨rfl,fun w' hS'=>?_⟩) hSD ?_
 ·obtain ⟨s0,s1,s2,s3⟩:=hS';go_simp
 try simp only [Act.put,List.getElem_toArray,List.getElem_cons_succ,List.getElem_cons_zero,List.setIfInBounds_toArray,List.set_cons_zero,List.set_cons_succ]
 refine tail_at (fuel2:=2) (ls2:=#[true,true,true,true,true,true,true,true,false,false]) (fun a0 W' a'=>∃ (ta:TA) (A:Option Addr) (c' g:Nat) (l:List (Pr × PA)),a'=(((((a0.put (some 14) (eZ jl ta)).put (some 17) (.tuple #[.agg #[.int .i64 c,.bool s,.slice A p c'],.int .i64 0])).put (some 13) (.tuple #[.agg #[.int .i64 c,.bool s,.slice A p c'],.int .i64 0])).put (some 18) (.agg #[.int .i64 c,.bool s,.slice A p c'])).put (some 19) (.int .i64 0)).put (some 11) (.pointer (some ⟨g,0,none⟩)) ∧
   Hid (l.length=p∧l.map (·.1)=(gH jl a b).ps∧Run (fun _=>False) w2 (star (au g #[.int .i64 0,.bool false,.slice none 0 0] 31) (star (OO A c' l) emp)) W')) (fun TAIL=>?g1) ?g2
 case g1 =>
  refine wpAnyH_all (rs:=[0,7]) (by kernel_rfl) (by decide) (fun i hi=>?_);simp only [List.mem_cons,List.not_mem_nil,or_false] at hi;rcases hi with rfl | rfl
  ·refine aO rfl rfl ?_;go_wp2_with fail;refine (j4 w2.drew).mono ?_;rintro e9 w3 ⟨ta,rfl,hb,hT⟩;have H3:=hide ((Run.begin w2).below aB ((aV (Below.refl _ _)).trans hb));have HT3:=hide hT;clear hb hT
   try simp only [Act.put,List.getElem_toArray,List.getElem_cons_succ,List.getElem_cons_zero,List.setIfInBounds_toArray,List.set_cons_zero,List.set_cons_succ]
   refine ⟨HN.out w3 H3.out.bI,?_⟩;refine wpAnyH_all (rs:=[3,7]) (by kernel_rfl) (by decide) (fun i hi=>?_);simp only [List.mem_cons,List.not_mem_nil,or_false] at hi;rcases hi with rfl | rfl
   ·refine aO rfl rfl ?_;go_wp2_with fail;refine (KB.out w3 (HBW.out _ H3.out.bI) ta HT3.out).mono ?_;rintro e9 w4 ⟨A,c',l,rfl,hl1,hl2,hp⟩;have H4:=hide (H3.out.fresh aB hp);clear hp
    try simp only [Act.put,List.getElem_toArray,List.getElem_cons_succ,List.getElem_cons_zero,List.setIfInBounds_toArray,List.set_cons_zero,List.set_cons_succ]
    refine ⟨HN.out w4 H4.out.bI,?_⟩;have hSN:=HN.out w4 H4.out.bI;refine wpAnyH_take (i:=4) (v:=.tuple #[.agg #[.int .i64 c,.bool s,.slice A p c'],.int .i64 0]) rfl (by kernel_rfl) (by kernel_rfl) (by kernel_rfl) (fun _ _ _ h=>h) (.inl ⟨rfl,fun w' hS'=>?_⟩) hSN ?_
    ·go_simp
    try simp only [Act.put,List.getElem_toArray,List.getElem_cons_succ,List.getElem_cons_zero,List.setIfInBounds_toArray,List.set_cons_zero,List.set_cons_succ]
    refine wpAnyH_take (i:=5) (v:=.agg #[.int .i64 c,.bool s,.slice A p c']) rfl (by kernel_rfl) (by kernel_rfl) (by kernel_rfl) (fun _ _ _ h=>h) (.inl ⟨rfl,fun w' hS'=>?_⟩) hSN ?_
    ·go_simp
    try simp only [Act.put,List.getElem_toArray,List.getElem_cons_succ,List.getElem_cons_zero,List.setIfInBounds_toArray,List.set_cons_zero,List.set_cons_succ]
    refine wpAnyH_take (i:=6) (v:=.int .i64 0) rfl (by kernel_rfl) (by kernel_rfl) (by kernel_rfl) (fun _ _ _ h=>h) (.inl ⟨rfl,fun w' hS'=>?_⟩) hSN ?_
    ·go_simp
    try simp only [Act.put,List.getElem_toArray,List.getElem_cons_succ,List.getElem_cons_zero,List.setIfInBounds_toArray,List.set_cons_zero,List.set_cons_succ]

    refine wpAnyH_all (rs:=[7]) (by kernel_rfl) (by decide) (fun i hi=>?_);simp only [List.mem_cons,List.not_mem_nil,or_false] at hi;subst hi;refine aO rfl rfl ?_;go_wp2_with fail
    try simp only [Act.put,List.getElem_toArray,List.getElem_cons_succ,List.getElem_cons_zero,List.setIfInBounds_toArray,List.set_cons_zero,List.set_cons_succ]
    have H5:=hide (aG H4.out (aj Gx aB) #[.int .i64 0,.bool false,.slice none 0 0] 31);refine ⟨HN.out _ H5.out.bI,?_⟩;refine TAIL _ _ ⟨ta,A,c',w4.heap.size,l,?_,hide ⟨hl1,hl2,H5.out⟩⟩;simp only [Act.put,List.setIfInBounds_toArray,List.set_cons_zero,List.set_cons_succ]
   ·refine aO rfl rfl ?_;go_wp2_with fail;have H4:=hide (aG H3.out aB #[.int .i64 0,.bool false,.slice none 0 0] 31);have HT4:=hide (HT3.out.below ((Below.refl _ _).alloc (Nat.le_refl _) _:Below w3.heap.size w3 (w3.alloc (.cells #[.int .i64 0,.bool false,.slice none 0 0] 31))))
    try simp only [Act.put,List.getElem_toArray,List.getElem_cons_succ,List.getElem_cons_zero,List.setIfInBounds_toArray,List.set_cons_zero,List.set_cons_succ]
    refine ⟨HN.out _ H4.out.bI,?_⟩;generalize w3.alloc (.cells #[.int .i64 0,.bool false,.slice none 0 0] 31)=w4 at *
    generalize w3.heap.size=g11 at *
    refine wpAnyH_all (rs:=[3]) (by kernel_rfl) (by decide) (fun i hi=>?_);simp only [List.mem_cons,List.not_mem_nil,or_false] at hi;subst hi;refine aO rfl rfl ?_;go_wp2_with fail;refine (KB.out w4 (HBW.out _ H4.out.bI) ta HT4.out).mono ?_;rintro e9 w5 ⟨A,c',l,rfl,hl1,hl2,hp⟩;have H5:=hide ((H4.out.fresh (aj av aB) hp).perm (by ac_rfl:_=star (au g11 #[.int .i64 0,.bool false,.slice none 0 0] 31) (star (OO A c' l) emp)));clear hp
    try simp only [Act.put,List.getElem_toArray,List.getElem_cons_succ,List.getElem_cons_zero,List.setIfInBounds_toArray,List.set_cons_zero,List.set_cons_succ]
    refine ⟨HN.out _ H5.out.bI,?_⟩;have hSN:=HN.out w5 H5.out.bI;refine wpAnyH_take (i:=4) (v:=.tuple #[.agg #[.int .i64 c,.bool s,.slice A p c'],.int .i64 0]) rfl (by kernel_rfl) (by kernel_rfl) (by kernel_rfl) (fun _ _ _ h=>h) (.inl ⟨rfl,fun w' hS'=>?_⟩) hSN ?_
    ·go_simp
    try simp only [Act.put,List.getElem_toArray,List.getElem_cons_succ,List.getElem_cons_zero,List.setIfInBounds_toArray,List.set_cons_zero,List.set_cons_succ]
    refine wpAnyH_take (i:=5) (v:=.agg #[.int .i64 c,.bool s,.slice A p c']) rfl (by kernel_rfl) (by kernel_rfl) (by kernel_rfl) (fun _ _ _ h=>h) (.inl ⟨rfl,fun w' hS'=>?_⟩) hSN ?_
    ·go_simp
    try simp only [Act.put,List.getElem_toArray,List.getElem_cons_succ,List.getElem_cons_zero,List.setIfInBounds_toArray,List.set_cons_zero,List.set_cons_succ]
    refine wpAnyH_take (i:=6) (v:=.int .i64 0) rfl (by kernel_rfl) (by kernel_rfl) (by kernel_rfl) (fun _ _ _ h=>h) (.inl ⟨rfl,fun w' hS'=>?_⟩) hSN ?_
    ·go_simp
    try simp only [Act.put,List.getElem_toArray,List.getElem_cons_succ,List.getElem_cons_zero,List.setIfInBounds_toArray,List.set_cons_zero,List.set_cons_succ]
    refine TAIL _ _ ⟨ta,A,c',g11,l,?_,hide ⟨hl1,hl2,H5.out⟩⟩;simp only [Act.put,List.setIfInBounds_toArray,List.set_cons_zero,List.set_cons_succ]
  ·refine aO rfl rfl ?_;go_wp2_with fail;have H3:=hide ((aG (Run.begin w2) aB #[.int .i64 0,.bool false,.slice none 0 0] 31).drew (aj av aB))
   try simp only [Act.put,List.getElem_toArray,List.getElem_cons_succ,List.getElem_cons_zero,List.setIfInBounds_toArray,List.set_cons_zero,List.set_cons_succ]
   refine ⟨HN.out (w2.alloc (.cells #[.int .i64 0,.bool false,.slice none 0 0] 31)).drew H3.out.bI,?_⟩;generalize hw3:(w2.alloc (.cells #[.int .i64 0,.bool false,.slice none 0 0] 31)).drew=w3 at *
   generalize w2.heap.size=g11 at H3 ⊢;refine wpAnyH_all (rs:=[0]) (by kernel_rfl) (by decide) (fun i hi=>?_);simp only [List.mem_cons,List.not_mem_nil,or_false] at hi;subst hi;refine aO rfl rfl ?_;go_wp2_with fail;refine (j4 _).mono ?_;rintro e9 w4 ⟨ta,rfl,hb,hT⟩;have H4:=hide (H3.out.below (aj av aB) hb);have HT4:=hide hT;clear hb hT H3
   try simp only [Act.put,List.getElem_toArray,List.getElem_cons_succ,List.getElem_cons_zero,List.setIfInBounds_toArray,List.set_cons_zero,List.set_cons_succ]
   refine ⟨HN.out w4 H4.out.bI,?_⟩;refine wpAnyH_all (rs:=[3]) (by kernel_rfl) (by decide) (fun i hi=>?_);simp only [List.mem_cons,List.not_mem_nil,or_false] at hi;subst hi;refine aO rfl rfl ?_;go_wp2_with fail;refine (KB.out w4 (HBW.out _ H4.out.bI) ta HT4.out).mono ?_;rintro e9 w5 ⟨A,c',l,rfl,hl1,hl2,hp⟩;have H5:=hide ((H4.out.fresh (aj av aB) hp).perm (by ac_rfl:_=star (au g11 #[.int .i64 0,.bool false,.slice none 0 0] 31) (star (OO A c' l) emp)));clear hp
   try simp only [Act.put,List.getElem_toArray,List.getElem_cons_succ,List.getElem_cons_zero,List.setIfInBounds_toArray,List.set_cons_zero,List.set_cons_succ]
   refine ⟨HN.out _ H5.out.bI,?_⟩;have hSN:=HN.out w5 H5.out.bI;refine wpAnyH_take (i:=4) (v:=.tuple #[.agg #[.int .i64 c,.bool s,.slice A p c'],.int .i64 0]) rfl (by kernel_rfl) (by kernel_rfl) (by kernel_rfl) (fun _ _ _ h=>h) (.inl ⟨rfl,fun w' hS'=>?_⟩) hSN ?_
   ·go_simp
   try simp only [Act.put,List.getElem_toArray,List.getElem_cons_succ,List.getElem_cons_zero,List.setIfInBounds_toArray,List.set_cons_zero,List.set_cons_succ]
   refine wpAnyH_take (i:=5) (v:=.agg #[.int .i64 c,.bool s,.slice A p c']) rfl (by kernel_rfl) (by kernel_rfl) (by kernel_rfl) (fun _ _ _ h=>h) (.inl ⟨rfl,fun w' hS'=>?_⟩) hSN ?_
   ·go_simp
   try simp only [Act.put,List.getElem_toArray,List.getElem_cons_succ,List.getElem_cons_zero,List.setIfInBounds_toArray,List.set_cons_zero,List.set_cons_succ]
   refine wpAnyH_take (i:=6) (v:=.int .i64 0) rfl (by kernel_rfl) (by kernel_rfl) (by kernel_rfl) (fun _ _ _ h=>h) (.inl ⟨rfl,fun w' hS'=>?_⟩) hSN ?_
   ·go_simp
   try simp only [Act.put,List.getElem_toArray,List.getElem_cons_succ,List.getElem_cons_zero,List.setIfInBounds_toArray,List.set_cons_zero,List.set_cons_succ]
   refine TAIL _ _ ⟨ta,A,c',g11,l,?_,hide ⟨hl1,hl2,H5.out⟩⟩;simp only [Act.put,List.setIfInBounds_toArray,List.set_cons_zero,List.set_cons_succ]
 case g2 =>
  rintro W' a' ⟨ta,A,c',g,l,rfl,hH⟩;obtain ⟨hl1,hl2,h9⟩:=hH.out;have H9:=hide h9;have nM:=hide (aj Gx aB:(star (OO A c' l) emp).Ok);obtain ⟨z0,z1,z2⟩:=cK h9;obtain ⟨FZ,hFZ⟩:=h9.fst;have zf:=aJ hFZ;have h10:=oV h9 nM.out (.int .i64 c) (.bool s) (.slice A p c');have H10:=hide h10;clear hH h9 h10 hFZ FZ H9
  try simp only [Act.put,List.getElem_toArray,List.getElem_cons_succ,List.getElem_cons_zero,List.setIfInBounds_toArray,List.set_cons_zero,List.set_cons_succ]
  have hSN:=HN.out _ H10.out.bI;refine wpAnyH_all (rs:=[8]) (by kernel_rfl) (by decide) (fun i hi=>?_);simp only [List.mem_cons,List.not_mem_nil,or_false] at hi;subst hi;refine aO rfl rfl ?_;go_wp2_with fail;generalize ((W'.setCell ⟨g,0,none⟩ (.int .i64 c)).setCell ⟨g,1,none⟩ (.bool s)).setCell ⟨g,2,none⟩ (.slice A p c')=w5 at *
  clear z0 z1 z2 zf
  try simp only [Act.put,List.getElem_toArray,List.getElem_cons_succ,List.getElem_cons_zero,List.setIfInBounds_toArray,List.set_cons_zero,List.set_cons_succ]
  refine wpAnyH_take (i:=9) (v:=.int .i64 0) rfl (by kernel_rfl) (by kernel_rfl) (by kernel_rfl) (fun _ _ _ h=>h) (.inl ⟨rfl,fun w' hS'=>?_⟩) hSN ?_
  ·go_simp
  try simp only [Act.put,List.getElem_toArray,List.getElem_cons_succ,List.getElem_cons_zero,List.setIfInBounds_toArray,List.set_cons_zero,List.set_cons_succ]
  refine wpAnyH_done (by kernel_rfl) ?_ _;clear hSN
  try dsimp only
  obtain ⟨q0,q1,q2⟩:=cK H10.out
  have HM:=hide (show ∀ W,Below w5.heap.size w5 W→NW W A l from fun W hb=>by
   obtain ⟨F,hF⟩:=H10.out.drop.fst
   exact (Un hF).below hb)
  have HQ:=hide (fun W (hb:Below w5.heap.size w5 W)=>(show W.cell? ⟨g,0,none⟩=some (.int .i64 c)∧W.cell? ⟨g,1,none⟩=some (.bool s)∧W.cell? ⟨g,2,none⟩=some (.slice A p c') from ⟨aF q0 hb,aF q1 hb,aF q2 hb⟩));have HB5:=hide (fun W (hb:Below w5.heap.size w5 W)=>H10.out.bI.trans (hb.mono H10.out.bI.size));clear q0 q1 q2 H10 nM;go_upto_region 2 with (fail);obtain ⟨n0,n1,n2,n3⟩:=HN.out _ (HB5.out _ (aV (Below.refl _ _)));obtain ⟨q0,q1,q2⟩:=HQ.out _ (aV (Below.refl _ _));refine aI (fun w'=>(w'.cell? ⟨g5,0,none⟩=some (.int .i64 a.k)∧w'.cell? ⟨g5,1,none⟩=some (.slice An la ca)∧w'.cell? ⟨g5+1,0,none⟩=some (.int .i64 b.k)∧w'.cell? ⟨g5+1,1,none⟩=some (.slice Bn lb cb))∧w'.cell? ⟨g,0,none⟩=some (.int .i64 c)∧w'.cell? ⟨g,1,none⟩=some (.bool s)∧w'.cell? ⟨g,2,none⟩=some (.slice A p c')) (by kernel_rfl) (by kernel_rfl) (by exact ⟨⟨n0,n1,n2,n3⟩,q0,q1,q2⟩) ?_;clear n0 n1 n2 n3 q0 q1 q2
  (repeat ((first | refine aK (by rfl) ?_ | (refine aL (v:=?_) (by rfl) ?_ ?_;rotate_left;(focus (intro w' hS';go_simp;(try with_reducible rfl);done))));try simp only [Act.put,List.setIfInBounds_toArray,List.set_cons_zero,List.set_cons_succ]))
  refine dR rfl (by rfl) (fun K hK=>?_);go_wp2_with fail;refine (j4 _).mono ?_;rintro e9 w6 ⟨tb,rfl,hb,hT⟩;have HB6:=hide ((aV (Below.refl w5.heap.size w5)).trans hb);have HT6:=hide hT;refine hK.out _ _ (by exact ⟨HN.out _ (HB5.out _ HB6.out),HQ.out _ HB6.out⟩) ?_;clear hK hb hT
  (repeat ((first | refine aK (by rfl) ?_ | (refine aL (v:=?_) (by rfl) ?_ ?_;rotate_left;(focus (intro w' hS';go_simp;(try with_reducible rfl);done))));try simp only [Act.put,List.setIfInBounds_toArray,List.set_cons_zero,List.set_cons_succ]))
  refine dR rfl (by rfl) (fun K hK=>?_);go_wp2_with fail;refine (KC.out w6 (HBW.out _ (HB5.out _ HB6.out)) tb HT6.out A c' l (HM.out _ HB6.out) hl2 hl1).mono ?_;rintro e9 w7 ⟨rfl,hb⟩;have HB7:=hide (HB6.out.trans (hb.mono HB6.out.size));refine hK.out _ _ (by exact ⟨HN.out _ (HB5.out _ HB7.out),HQ.out _ HB7.out⟩) ?_;clear hK hb
  (repeat ((first | refine aK (by rfl) ?_ | (refine aL (v:=?_) (by rfl) ?_ ?_;rotate_left;(focus (intro w' hS';go_simp;(try with_reducible rfl);done))));try simp only [Act.put,List.setIfInBounds_toArray,List.set_cons_zero,List.set_cons_succ]))
  refine lex_nil ?_;have HE:=hide (HBW.out _ (HB5.out _ HB7.out));clear hl1 hl2;go_wp2;go_ret;exact aQ rfl HE.out
end Go.Proofs.YtbnnlpjpnihheaaGreatDoor
namespace Go.Proofs.YtbnnlpjpnihheaaGreatDoor
open Go.RowKit Go.CH Go.CH.Scr Go.CH.dK Go.CH.Mtc
open Go.ChangeMaps (setBlock)
theorem gK (W:World) (l:List Bs):fF (W.alloc (.cells (lq l).toArray 9)) (some ⟨W.heap.size,0,none⟩) l:=by
 refine ⟨by simp [lq],fun u hu=>?_,fun _=>⟨_,rfl,fun j u hu=>?_⟩⟩
 ·unfold lq at hu;obtain ⟨s,-,rfl⟩:=List.mem_map.1 hu;rfl
 ·have e:(⟨W.heap.size,0,none⟩:Addr).add j=⟨W.heap.size,j,none⟩:=by unfold Addr.add;split <;> simp_all
  rw [e];have h1:(W.alloc (.cells (lq l).toArray 9)).heap[W.heap.size]?=some (.cells (lq l).toArray 9 (0,0)):=heap_alloc_new W _;simp only [World.cell?,h1]
  show (lq l).toArray[j]?=some u
  rw [List.getElem?_toArray];exact hu
theorem y8 {w w':World} {R:CH.Own} (h:Post w (fun _=>False) R w'):Below w.heap.size w w':=by
 obtain ⟨F,h1,h2,h3⟩:=h;exact h2.below (fun _ _ h=>h)
theorem cZ (W:World) (o:Obj):Below W.heap.size W (W.alloc o):=(Below.refl _ _).alloc (Nat.le_refl _) _
theorem Oz (w:World) (hz:LZ w):Calls Tryz.prog 10 #[] w (aP w (.bool true)):=by
 have HZ:=hide hz;clear hz;have HB0:=hide (Below.refl w.heap.size w)
 go_enter Tryz.func10,Tryz.ntmps10
 have hv:fF (w.alloc (.cells #[.string { data:=#[97,110,110,97] }] 9)) (some ⟨w.heap.size,0,none⟩) [[97,110,110,97]]:=gK w [[97,110,110,97]];have HV:=hide hv;have HA:=hide (cZ w (.cells #[.string { data:=#[97,110,110,97] }] 9));clear hv;go_wp2_with fail;refine (fE _ _ _ _).mono ?_;rintro e9 w1 ⟨rfl,hb⟩;have HB1:=hide (aC (aC HB0.out HA.out) hb);have HV1:=hide (fF.below HV.out hb);clear HV HA hb HB0;obtain ⟨g1,hg1⟩:∃ g,g=w.heap.size:=⟨_,rfl⟩;rw [←hg1] at HV1 ⊢;clear hg1
 try dsimp only
 have hv:fF (w1.alloc (.cells #[.string { data:=#[97,110,110,97] }] 9)) (some ⟨w1.heap.size,0,none⟩) [[97,110,110,97]]:=gK w1 [[97,110,110,97]];have HV:=hide hv;have HA:=hide (cZ w1 (.cells #[.string { data:=#[97,110,110,97] }] 9));clear hv;go_wp2_with fail;refine (fE _ _ _ _).mono ?_;rintro e9 w2 ⟨rfl,hb⟩;have HB2:=hide (aC (aC HB1.out HA.out) hb);have HV2:=hide (fF.below HV.out hb);have HV1_2:=hide (fF.below (fF.below HV1.out HA.out) hb);clear HV1;clear HV HA hb HB1;obtain ⟨g2,hg2⟩:∃ g,g=w1.heap.size:=⟨_,rfl⟩;rw [←hg2] at HV2 ⊢;clear hg2
 try dsimp only
 have K:=hide (show Calls Tryz.prog 25 #[.agg #[.int .i64 1,.slice (some ⟨g1,0,none⟩) 1 1],.agg #[.int .i64 1,.slice (some ⟨g2,0,none⟩) 1 1],.int .i64 0,.int .i64 1,.bool false] w2 (aP w2 (.bool true)) from jg (HZ.out.below HB2.out) (a:=lW) (b:=lW) (ca:=1) (cb:=1) HV1_2.out HV2.out (by decide) (by decide) Ut);clear HV1_2 HV2;go_wp2_with fail;refine K.out.mono ?_;rintro e9 w3 ⟨rfl,hb⟩;have HB3:=hide (aC HB2.out hb);clear K hb HB2
 try dsimp only
 have hv:fF (w3.alloc (.cells #[.string { data:=#[97,110,110,97] },.string { data:=#[107,97,105] }] 9)) (some ⟨w3.heap.size,0,none⟩) [[97,110,110,97],[107,97,105]]:=gK w3 [[97,110,110,97],[107,97,105]];have HV:=hide hv;have HA:=hide (cZ w3 (.cells #[.string { data:=#[97,110,110,97] },.string { data:=#[107,97,105] }] 9));clear hv;go_wp2_with fail;refine (fE _ _ _ _).mono ?_;rintro e9 w4 ⟨rfl,hb⟩;have HB4:=hide (aC (aC HB3.out HA.out) hb);have HV4:=hide (fF.below HV.out hb);clear HV HA hb HB3;obtain ⟨g4,hg4⟩:∃ g,g=w3.heap.size:=⟨_,rfl⟩;rw [←hg4] at HV4 ⊢;clear hg4
 try dsimp only
 have hv:fF (w4.alloc (.cells #[.string { data:=#[107,97,105] },.string { data:=#[97,110,110,97] }] 9)) (some ⟨w4.heap.size,0,none⟩) [[107,97,105],[97,110,110,97]]:=gK w4 [[107,97,105],[97,110,110,97]];have HV:=hide hv;have HA:=hide (cZ w4 (.cells #[.string { data:=#[107,97,105] },.string { data:=#[97,110,110,97] }] 9));clear hv;go_wp2_with fail;refine (fE _ _ _ _).mono ?_;rintro e9 w5 ⟨rfl,hb⟩;have HB5:=hide (aC (aC HB4.out HA.out) hb);have HV5:=hide (fF.below HV.out hb);have HV4_5:=hide (fF.below (fF.below HV4.out HA.out) hb);clear HV4;clear HV HA hb HB4;obtain ⟨g5,hg5⟩:∃ g,g=w4.heap.size:=⟨_,rfl⟩;rw [←hg5] at HV5 ⊢;clear hg5
 try dsimp only
 have K:=hide (show Calls Tryz.prog 25 #[.agg #[.int .i64 1,.slice (some ⟨g4,0,none⟩) 2 2],.agg #[.int .i64 1,.slice (some ⟨g5,0,none⟩) 2 2],.int .i64 1,.int .i64 2,.bool true] w5 (aP w5 (.bool true)) from jg (HZ.out.below HB5.out) (a:=QY) (b:=Us) (ca:=2) (cb:=2) HV4_5.out HV5.out (by decide) (by decide) Uu);clear HV4_5 HV5;go_wp2_with fail;refine K.out.mono ?_;rintro e9 w6 ⟨rfl,hb⟩;have HB6:=hide (aC HB5.out hb);clear K hb HB5
 try dsimp only
 have hv:fF (w6.alloc (.cells #[.string { data:=#[97,108] },.string { data:=#[97,110,110,97] }] 9)) (some ⟨w6.heap.size,0,none⟩) [[97,108],[97,110,110,97]]:=gK w6 [[97,108],[97,110,110,97]];have HV:=hide hv;have HA:=hide (cZ w6 (.cells #[.string { data:=#[97,108] },.string { data:=#[97,110,110,97] }] 9));clear hv;go_wp2_with fail;refine (fE _ _ _ _).mono ?_;rintro e9 w7 ⟨rfl,hb⟩;have HB7:=hide (aC (aC HB6.out HA.out) hb);have HV7:=hide (fF.below HV.out hb);clear HV HA hb HB6;obtain ⟨g7,hg7⟩:∃ g,g=w6.heap.size:=⟨_,rfl⟩;rw [←hg7] at HV7 ⊢;clear hg7
 try dsimp only
 have hv:fF (w7.alloc (.cells #[.string { data:=#[97,110,110,97] }] 9)) (some ⟨w7.heap.size,0,none⟩) [[97,110,110,97]]:=gK w7 [[97,110,110,97]];have HV:=hide hv;have HA:=hide (cZ w7 (.cells #[.string { data:=#[97,110,110,97] }] 9));clear hv;go_wp2_with fail;refine (fE _ _ _ _).mono ?_;rintro e9 w8 ⟨rfl,hb⟩;have HB8:=hide (aC (aC HB7.out HA.out) hb);have HV8:=hide (fF.below HV.out hb);have HV7_8:=hide (fF.below (fF.below HV7.out HA.out) hb);clear HV7;clear HV HA hb HB7;obtain ⟨g8,hg8⟩:∃ g,g=w7.heap.size:=⟨_,rfl⟩;rw [←hg8] at HV8 ⊢;clear hg8
 try dsimp only
 have K:=hide (show Calls Tryz.prog 25 #[.agg #[.int .i64 1,.slice (some ⟨g7,0,none⟩) 2 2],.agg #[.int .i64 1,.slice (some ⟨g8,0,none⟩) 1 1],.int .i64 0,.int .i64 1,.bool false] w8 (aP w8 (.bool true)) from jg (HZ.out.below HB8.out) (a:=Rz) (b:=lW) (ca:=2) (cb:=1) HV7_8.out HV8.out (by decide) (by decide) Uv);clear HV7_8 HV8;go_wp2_with fail;refine K.out.mono ?_;rintro e9 w9 ⟨rfl,hb⟩;have HB9:=hide (aC HB8.out hb);clear K hb HB8
 try dsimp only
 have hv:fF (w9.alloc (.cells #[.string { data:=#[97] },.string { data:=#[107,97,105] }] 9)) (some ⟨w9.heap.size,0,none⟩) [[97],[107,97,105]]:=gK w9 [[97],[107,97,105]];have HV:=hide hv;have HA:=hide (cZ w9 (.cells #[.string { data:=#[97] },.string { data:=#[107,97,105] }] 9));clear hv;go_wp2_with fail;refine (fE _ _ _ _).mono ?_;rintro e9 w10 ⟨rfl,hb⟩;have HB10:=hide (aC (aC HB9.out HA.out) hb);have HV10:=hide (fF.below HV.out hb);clear HV HA hb HB9;obtain ⟨g10,hg10⟩:∃ g,g=w9.heap.size:=⟨_,rfl⟩;rw [←hg10] at HV10 ⊢;clear hg10
 try dsimp only
 have hv:fF (w10.alloc (.cells #[.string { data:=#[97,110,110,97] },.string { data:=#[107,97,105] }] 9)) (some ⟨w10.heap.size,0,none⟩) [[97,110,110,97],[107,97,105]]:=gK w10 [[97,110,110,97],[107,97,105]];have HV:=hide hv;have HA:=hide (cZ w10 (.cells #[.string { data:=#[97,110,110,97] },.string { data:=#[107,97,105] }] 9));clear hv;go_wp2_with fail;refine (fE _ _ _ _).mono ?_;rintro e9 w11 ⟨rfl,hb⟩;have HB11:=hide (aC (aC HB10.out HA.out) hb);have HV11:=hide (fF.below HV.out hb);have HV10_11:=hide (fF.below (fF.below HV10.out HA.out) hb);clear HV10;clear HV HA hb HB10;obtain ⟨g11,hg11⟩:∃ g,g=w10.heap.size:=⟨_,rfl⟩;rw [←hg11] at HV11 ⊢;clear hg11
 try dsimp only
 have K:=hide (show Calls Tryz.prog 25 #[.agg #[.int .i64 1,.slice (some ⟨g10,0,none⟩) 2 2],.agg #[.int .i64 1,.slice (some ⟨g11,0,none⟩) 2 2],.int .i64 3,.int .i64 2,.bool false] w11 (aP w11 (.bool true)) from jg (HZ.out.below HB11.out) (a:=Oy) (b:=QY) (ca:=2) (cb:=2) HV10_11.out HV11.out (by decide) (by decide) Uw);clear HV10_11 HV11;go_wp2_with fail;refine K.out.mono ?_;rintro e9 w12 ⟨rfl,hb⟩;have HB12:=hide (aC HB11.out hb);clear K hb HB11
 try dsimp only
 have hv:fF (w12.alloc (.cells #[.string { data:=#[97,110,110,97,107,105] }] 9)) (some ⟨w12.heap.size,0,none⟩) [[97,110,110,97,107,105]]:=gK w12 [[97,110,110,97,107,105]];have HV:=hide hv;have HA:=hide (cZ w12 (.cells #[.string { data:=#[97,110,110,97,107,105] }] 9));clear hv;go_wp2_with fail;refine (fE _ _ _ _).mono ?_;rintro e9 w13 ⟨rfl,hb⟩;have HB13:=hide (aC (aC HB12.out HA.out) hb);have HV13:=hide (fF.below HV.out hb);clear HV HA hb HB12;obtain ⟨g13,hg13⟩:∃ g,g=w12.heap.size:=⟨_,rfl⟩;rw [←hg13] at HV13 ⊢;clear hg13
 try dsimp only
 have hv:fF (w13.alloc (.cells #[.string { data:=#[97,110,110,97] }] 9)) (some ⟨w13.heap.size,0,none⟩) [[97,110,110,97]]:=gK w13 [[97,110,110,97]];have HV:=hide hv;have HA:=hide (cZ w13 (.cells #[.string { data:=#[97,110,110,97] }] 9));clear hv;go_wp2_with fail;refine (fE _ _ _ _).mono ?_;rintro e9 w14 ⟨rfl,hb⟩;have HB14:=hide (aC (aC HB13.out HA.out) hb);have HV14:=hide (fF.below HV.out hb);have HV13_14:=hide (fF.below (fF.below HV13.out HA.out) hb);clear HV13;clear HV HA hb HB13;obtain ⟨g14,hg14⟩:∃ g,g=w13.heap.size:=⟨_,rfl⟩;rw [←hg14] at HV14 ⊢;clear hg14
 try dsimp only
 have K:=hide (show Calls Tryz.prog 25 #[.agg #[.int .i64 1,.slice (some ⟨g13,0,none⟩) 1 1],.agg #[.int .i64 1,.slice (some ⟨g14,0,none⟩) 1 1],.int .i64 2,.int .i64 1,.bool false] w14 (aP w14 (.bool true)) from jg (HZ.out.below HB14.out) (a:=EF) (b:=lW) (ca:=1) (cb:=1) HV13_14.out HV14.out (by decide) (by decide) Ux);clear HV13_14 HV14;go_wp2_with fail;refine K.out.mono ?_;rintro e9 w15 ⟨rfl,hb⟩;have HB15:=hide (aC HB14.out hb);clear K hb HB14
 try dsimp only
 have hv:fF (w15.alloc (.cells #[.string { data:=#[97,110,110,97] }] 9)) (some ⟨w15.heap.size,0,none⟩) [[97,110,110,97]]:=gK w15 [[97,110,110,97]];have HV:=hide hv;have HA:=hide (cZ w15 (.cells #[.string { data:=#[97,110,110,97] }] 9));clear hv;go_wp2_with fail;refine (fE _ _ _ _).mono ?_;rintro e9 w16 ⟨rfl,hb⟩;have HB16:=hide (aC (aC HB15.out HA.out) hb);have HV16:=hide (fF.below HV.out hb);clear HV HA hb HB15;obtain ⟨g16,hg16⟩:∃ g,g=w15.heap.size:=⟨_,rfl⟩;rw [←hg16] at HV16 ⊢;clear hg16
 try dsimp only
 have hv:fF (w16.alloc (.cells #[.string { data:=#[107,97,105] }] 9)) (some ⟨w16.heap.size,0,none⟩) [[107,97,105]]:=gK w16 [[107,97,105]];have HV:=hide hv;have HA:=hide (cZ w16 (.cells #[.string { data:=#[107,97,105] }] 9));clear hv;go_wp2_with fail;refine (fE _ _ _ _).mono ?_;rintro e9 w17 ⟨rfl,hb⟩;have HB17:=hide (aC (aC HB16.out HA.out) hb);have HV17:=hide (fF.below HV.out hb);have HV16_17:=hide (fF.below (fF.below HV16.out HA.out) hb);clear HV16;clear HV HA hb HB16;obtain ⟨g17,hg17⟩:∃ g,g=w16.heap.size:=⟨_,rfl⟩;rw [←hg17] at HV17 ⊢;clear hg17
 try dsimp only
 have K:=hide (show Calls Tryz.prog 25 #[.agg #[.int .i64 1,.slice (some ⟨g16,0,none⟩) 1 1],.agg #[.int .i64 1,.slice (some ⟨g17,0,none⟩) 1 1],.int .i64 10,.int .i64 0,.bool false] w17 (aP w17 (.bool true)) from jg (HZ.out.below HB17.out) (a:=lW) (b:=RD) (ca:=1) (cb:=1) HV16_17.out HV17.out (by decide) (by decide) Uy);clear HV16_17 HV17;go_wp2_with fail;refine K.out.mono ?_;rintro e9 w18 ⟨rfl,hb⟩;have HB18:=hide (aC HB17.out hb);clear K hb HB17
 try dsimp only
 go_wp2_with fail;refine (j4 _).mono ?_;rintro e9 v1 ⟨t1,rfl,hb,hT⟩;have HC1:=hide (aC HB18.out hb);have K:=hide (yY hT (HZ.out.below HC1.out) 1 [97] 1 [97,110,110,97] (by decide) (by decide));clear hb hT HB18
 try dsimp only
 go_wp2_with fail;refine K.out.mono ?_;rintro e9 v2 ⟨p,er,A,ac,B,bc,rfl,hw,hp⟩;have h1:er=0∧p.kd=2∧p.c=3:=by
  have h7:=Uz;cases hw with
  | arg h=>exact absurd h (by decide)
  | none h h2=>rw [h2] at h7;cases h7
  | some h h2 =>
   rw [h2] at h7;injection h7 with h7
   injection h7 with h8 h9
   exact ⟨rfl,h8,h9⟩
 obtain ⟨rfl,h2,h3⟩:=h1;have HC2:=hide (aC HC1.out (y8 hp));clear K hw hp HC1;unfold lX;rw [h2,h3];clear h2 h3;have h4:=aG (Run.begin v2) aB #[.int .i64 p.i,.int .i64 p.j,.int .i64 2,.int .i64 p.l,.int .i64 p.r,.int .i64 3,.int .i64 p.d.c,.slice A p.d.L.length ac,.slice B p.d.M.length bc,.string (bs p.d.F)] 44;have HC3:=hide (aC HC2.out h4.bI);obtain ⟨⟨p0,p1,p2,p3,p4⟩,⟨p5,p6,p7,p8,p9⟩,pf⟩:=bg h4;have HPC:=hide (fun W (h:Below (v2.alloc (.cells #[.int .i64 p.i,.int .i64 p.j,.int .i64 2,.int .i64 p.l,.int .i64 p.r,.int .i64 3,.int .i64 p.d.c,.slice A p.d.L.length ac,.slice B p.d.M.length bc,.string (bs p.d.F)] 44)).heap.size (v2.alloc (.cells #[.int .i64 p.i,.int .i64 p.j,.int .i64 2,.int .i64 p.l,.int .i64 p.r,.int .i64 3,.int .i64 p.d.c,.slice A p.d.L.length ac,.slice B p.d.M.length bc,.string (bs p.d.F)] 44)) W)=>(show W.cell? ⟨v2.heap.size,2,none⟩=some (.int .i64 2)∧W.cell? ⟨v2.heap.size,5,none⟩=some (.int .i64 3) from ⟨aF p2 h,aF p5 h⟩));clear p0 p1 p2 p3 p4 p5 p6 p7 p8 p9 pf h4 HC2
 try dsimp only
 go_upto_region 4 with (fail);generalize v2.alloc (.cells #[.int .i64 p.i,.int .i64 p.j,.int .i64 2,.int .i64 p.l,.int .i64 p.r,.int .i64 3,.int .i64 p.d.c,.slice A p.d.L.length ac,.slice B p.d.M.length bc,.string (bs p.d.F)] 44)=v3 at *
 generalize v2.heap.size=gp at *
 go_wp2_with fail;refine (j4 _).mono ?_;rintro e9 v4 ⟨t2,rfl,hb,hT⟩;have HC4:=hide (aC HC3.out hb);have HD4:=hide hb;have K:=hide (yY hT (HZ.out.below HC4.out) 1 [97,110,110,97] 1 [107,97,105] (by decide) (by decide));clear hb hT
 try dsimp only
 go_wp2_with fail;refine K.out.mono ?_;rintro e9 v5 ⟨q,er,A2,ac2,B2,bc2,rfl,hw,hp⟩;have h1:er=11:=by
  have h8:=UA;cases hw with
  | arg h=>exact absurd h (by decide)
  | none h h2=>rfl
  | some h h2=>rw [h2] at h8;cases h8
 obtain rfl:=h1;have HC5:=hide (aC HC4.out (y8 hp));have HD5:=hide (aC HD4.out (y8 hp));clear K hw hp HC4 HC3 HD4;unfold lX;have HC6:=hide (aC HC5.out (cZ v5 (.cells #[.int .i64 q.i,.int .i64 q.j,.int .i64 q.kd,.int .i64 q.l,.int .i64 q.r,.int .i64 q.c,.int .i64 q.d.c,.slice A2 q.d.L.length ac2,.slice B2 q.d.M.length bc2,.string (bs q.d.F)] 44)));have HD6:=hide (aC HD5.out (cZ v5 (.cells #[.int .i64 q.i,.int .i64 q.j,.int .i64 q.kd,.int .i64 q.l,.int .i64 q.r,.int .i64 q.c,.int .i64 q.d.c,.slice A2 q.d.L.length ac2,.slice B2 q.d.M.length bc2,.string (bs q.d.F)] 44)));clear HC5 HD5
 try dsimp only
 go_upto_region 5 with (fail);generalize v5.alloc (.cells #[.int .i64 q.i,.int .i64 q.j,.int .i64 q.kd,.int .i64 q.l,.int .i64 q.r,.int .i64 q.c,.int .i64 q.d.c,.slice A2 q.d.L.length ac2,.slice B2 q.d.M.length bc2,.string (bs q.d.F)] 44)=v6 at *
 obtain ⟨p2,p5⟩:=HPC.out v6 HD6.out;go_wp2;go_ret;exact aQ rfl HC6.out
end Go.Proofs.YtbnnlpjpnihheaaGreatDoor
namespace Go.Proofs.YtbnnlpjpnihheaaGreatDoor
open Go.RowKit Go.CH Go.CH.Scr Go.CH.dK Go.CH.Mtc
open Go.ChangeMaps (setBlock)
theorem Q0 {W:World} {cs:Array Value} {t:TypeId} (n size:Nat) (xs:List Value) (hx:xs.toArray=cs) (hl:xs.length=n*size) (h1:∀ u ∈ xs,u.oneCell'=true):Src (W.alloc (.cells cs t)) (some ⟨W.heap.size,0,none⟩) n size xs:=by
 refine ⟨hl,h1,fun _=>⟨_,rfl,fun j u hu=>?_⟩⟩;have e:(⟨W.heap.size,0,none⟩:Addr).add j=⟨W.heap.size,j,none⟩:=by unfold Addr.add;split <;> simp_all
 rw [e];have h1:(W.alloc (.cells cs t)).heap[W.heap.size]?=some (.cells cs t (0,0)):=heap_alloc_new W _;simp only [World.cell?,h1]
 show cs[j]?=some u
 rw [←hx,List.getElem?_toArray];exact hu
theorem Q5 (l:List EC):∀ u ∈ l.flatMap TG,u.oneCell'=true:=by
 intro u hu;obtain ⟨x,-,hx⟩:=List.mem_flatMap.1 hu;unfold TG at hx;simp only [List.mem_cons,List.not_mem_nil,or_false] at hx;rcases hx with rfl | rfl <;> rfl
theorem K9 {W:World} {cs:Array Value} (l:List EC) (hx:(l.flatMap TG).toArray=cs) (h:∀ z ∈ l,fF W z.A z.n.ws):GN (W.alloc (.cells cs 28)) (some ⟨W.heap.size,0,none⟩) l :=
 ⟨Q0 l.length 2 _ hx (NC (R:=TG) (size:=2) (fun _=>rfl) l) (Q5 l),fun z hz=>(h z hz).below (cZ W _)⟩

theorem BR {T:Tab} {l:List EC} (h:zq T l=true):(∀ {w:World} {a:TA},yZ w T a→jJ w T a)∧∀ z ∈ l,z.n.ws.length≤3∧∀ s ∈ z.n.ws,s.length≤30:=by
 obtain ⟨h1,h2⟩:=uz.1 h;refine ⟨fun hT=>hT.few h1,fun z hz=>?_⟩;obtain ⟨h3,h4⟩:=Jb.1 (h2 z hz);exact ⟨h3,fun s hs=>qy.1 ((o8.1 h4).2.2.2.2 s hs)⟩
end Go.Proofs.YtbnnlpjpnihheaaGreatDoor
namespace Go.Proofs.YtbnnlpjpnihheaaGreatDoor
open Go.ChangeShapes Go.WideShapes Go.ChangeAt Go.RowKit Go.CH Go.CH.Scr Go.CH.dK Go.CH.Mtc Go.Deep Go.Shelf Go.Lib
theorem Ui:CaseExtra Tryz.prog Tryz.oP:={ n13:=by kernel_rfl,y13:=by kernel_rfl,c21:=by kernel_rfl,c51:=by kernel_rfl,c206:=by kernel_rfl,c208:=by kernel_rfl }
theorem U2:U8Extra Tryz.prog Tryz.oO:={ n3:=by kernel_rfl,n4:=by kernel_rfl,y3:=by kernel_rfl,y4:=by kernel_rfl,c5:=by kernel_rfl,c119:=by kernel_rfl,c138:=by kernel_rfl }
theorem Td:Lays.n274 Tryz.prog Tryz.oP:={ Tryz.Qx with }
theorem Te:Lays.n260 Tryz.prog Tryz.oO:={ Tryz.Qw with }

def IC:List (String × DataW Unit):=[("unicode/utf8.acceptRanges",Rows.laid_unicode_utf8_acceptRanges),("unicode.CaseRanges",Rows.laid_unicode_CaseRanges),("unicode/utf8.first",Rows.laid_unicode_utf8_first)]
theorem Uj {w:World} (h:laidMetH Tryz.prog IC w) (hs:w.ShapedOpen Tryz.prog):LZ w:=by
 rw [MakeChecks.laidMetH_plain _ _ _ (by kernel_rfl)] at h;have h1:=laidMet.reads h (n := "unicode/utf8.acceptRanges") (d:=Rows.laid_unicode_utf8_acceptRanges) (by simp [IC]);have h2:=laidMet.reads h (n := "unicode.CaseRanges") (d:=Rows.laid_unicode_CaseRanges) (by simp [IC]);have h3:=laidMet.reads h (n := "unicode/utf8.first") (d:=Rows.laid_unicode_utf8_first) (by simp [IC]);rw [show (Rows.laid_unicode_CaseRanges:DataW Unit)=caseData from Pinned.caseRanges_eq] at h2;rw [show (Rows.laid_unicode_utf8_first:DataW Unit)=firstData from Pinned.utf8First_eq] at h3;rw [show (Rows.laid_unicode_utf8_acceptRanges:DataW Unit)=acceptData by kernel_rfl] at h1;exact ⟨caseVar_of_reads Td (by kernel_rfl) Ui h2,utf8Tabs_of_reads Te U2 h3 h1,Go.Proofs.cell_of_shapedOpen_int (P:=Tryz.prog) (zero:=#[.int .i64 0]) (t:=3) hs (of_decide_eq_true (by kernel_rfl)) (by kernel_rfl) rfl (by kernel_rfl) (by kernel_rfl) Tryz.underlying3⟩

theorem rH {H:Type} {enc:TypeId × Value→H} {a:Assume} {C:Checked} {os:Os} {f:FuncId} {fn:Func} {s:ChangeSpec} {conds:List PathCond} {apart fresh handsOn again:Bool} {X:World→Array Value→Prop}
  (hX:∀ (w w':World) (args:Array Value),w.heap=w'.heap→X w args→X w' args)
  (own:ownKnob C.prog.godebug=none) (started:os.Started) (noInit:C.prog.inits.idxOf? f=none) (hfn:C.prog.funcs[f]?=some fn)
  (witness:∃ (w:World) (tape:Tape) (i:Input),w.os=os∧(w.forCall tape i).Shaped C.prog∧i.vars=[]∧Input.okWide C.prog (w.forCall tape i) .any w.heap.size f i ∧
   ((s.pre enc C.prog fn conds apart (w.forCall tape i).memory i.args∧X (w.forCall tape i).memory i.args)∧sizedMet enc C.prog fn (OpenSpec.ofChange s) apart (w.forCall tape i).memory i.args)∧a.holds C.prog (lone (Frame.enter C.prog f i.args .normal) [] (w.forCall tape i)))
  (contract:∀ (W:World) (base:Nat) (args:Array Value) (ds gs:List (DataW H)) (before:List MemPlace),
   (∀ (j:Nat) t v,fn.params[j]?=some t→args[j]?=some v→Value.okWide C.prog W .any base t v) →
   DataW.Whole enc C.prog fn.params.toList s.vars apart W args.toList ds gs before →
   X W args→W.ShapedOpen C.prog →
   Calls C.prog f args W fun e W'=>∃ v,e=.returned v∧s.post enc C.prog fn apart fresh handsOn again W args v W') :
  ReturnsInHanded a C os f .any (fun w args=>(s.pre enc C.prog fn conds apart w args∧X w args)∧sizedMet enc C.prog fn (OpenSpec.ofChange s) apart w args) (s.post enc C.prog fn apart fresh handsOn again):=by
 refine returnsInHanded_of_calls own started noInit witness ?_;intro w tape i _ hsh _ hok hpre hholds;obtain ⟨_,_,_,fn',hfn',_,_,_,_,hval⟩:=hok;have e:fn'=fn:=Option.some.inj (hfn'.symm.trans hfn);subst e;obtain ⟨⟨⟨ds,gs,before,hw,hc⟩,hx⟩,hz⟩:=hpre;have hw':=DataW.Whole.of_heap (w':=w.forCall tape i) (by rfl) hw;refine (contract (w.forCall tape i) w.heap.size i.args ds gs before hval hw' (hX _ _ _ (by rfl) hx) hsh).mono fun e W' ⟨v,he,hp⟩=>?_;subst he;exact ChangeSpec.post_blind hp
section
variable {H:Type} {enc:TypeId × Value→H} {w:World} {base:Nat}
instance:Inhabited Rule:=⟨⟨0,[],[],0⟩⟩
instance:Inhabited Drop:=⟨⟨0,[],0⟩⟩
theorem Kr:∀ m cs y,DataW.trod enc Tryz.prog w base (fun _=>true) true m 113 cs=some y→∃ R:Rule,cs=dY R∧True:=by
 intro m cs y h;obtain ⟨hl,n,hf⟩:=vI Tryz.underlying113 (by kernel_rfl) (by kernel_rfl) h;obtain ⟨v0,z0,c0,t0⟩:=hf 0 _ rfl;obtain ⟨v1,z1,c1,t1⟩:=hf 1 _ rfl;obtain ⟨v2,z2,c2,t2⟩:=hf 2 _ rfl;obtain ⟨v3,z3,c3,t3⟩:=hf 3 _ rfl;obtain ⟨x0,f0,-,-⟩:=DataW.trod_int Tryz.underlying3 t0;obtain ⟨x1,f1,-⟩:=DataW.trod_string Tryz.underlying9 t1;obtain ⟨x2,f2,-⟩:=DataW.trod_string Tryz.underlying9 t2;obtain ⟨x3,f3,-,-⟩:=DataW.trod_int Tryz.underlying3 t3;injection f0 with f0
 injection f1 with f1
 injection f2 with f2
 injection f3 with f3
 subst f0 f1 f2 f3;refine ⟨⟨x0,bl x1,bl x2,x3⟩,?_,trivial⟩;have hl:cs.length=4:=hl
 match cs,hl with
 | [a,b,c,d],_ =>
  simp at c0 c1 c2 c3;subst c0 c1 c2 c3;unfold dY;rw [qG,qG]
theorem Kt:∀ m cs y,DataW.trod enc Tryz.prog w base (fun _=>true) true m 104 cs=some y→∃ d:Drop,cs=uK d∧True:=by
 intro m cs y h;obtain ⟨hl,n,hf⟩:=vI Tryz.underlying104 (by kernel_rfl) (by kernel_rfl) h;obtain ⟨v0,z0,c0,t0⟩:=hf 0 _ rfl;obtain ⟨v1,z1,c1,t1⟩:=hf 1 _ rfl;obtain ⟨v2,z2,c2,t2⟩:=hf 2 _ rfl;obtain ⟨x0,f0,-,-⟩:=DataW.trod_int Tryz.underlying3 t0;obtain ⟨x1,f1,-⟩:=DataW.trod_string Tryz.underlying9 t1;obtain ⟨x2,f2,-,-⟩:=DataW.trod_int Tryz.underlying3 t2;injection f0 with f0
 injection f1 with f1
 injection f2 with f2
 subst f0 f1 f2;refine ⟨⟨x0,bl x1,x2⟩,?_,trivial⟩;have hl:cs.length=3:=hl
 match cs,hl with
 | [a,b,c],_ =>
  simp at c0 c1 c2;subst c0 c1 c2;unfold uK;rw [qG]
theorem slice_form {t e:TypeId} {m:Nat} {v:Value} {y:DataW H × List MemPlace} (ht:Tryz.prog.underlying t=some (.slice e)) (h:DataW.trod enc Tryz.prog w 0 (fun _=>true) true m t [v]=some y):∃ A n c,v=.slice A n c:=by
 rcases open_slice ht h with ⟨h0,_⟩ | ⟨a,len,cap,_,_,_,_,hv,_⟩
 ·injection h0 with h0
  exact ⟨none,0,0,h0⟩
 ·injection hv with hv
  exact ⟨some a,len,cap,hv⟩
theorem Gt {m:Nat} {v:Value} {y:DataW H × List MemPlace} (h:DataW.trod enc Tryz.prog w 0 (fun _=>true) true m 22 [v]=some y) :
  ∃ (A:Option Addr) (c:Nat) (l:List Rule),v=.slice A l.length c∧qV w A l∧l.length≤c:=by
 obtain ⟨A,n,c,rfl⟩:=slice_form Tryz.underlying22 h;obtain ⟨xs,h1,h2,h3,h4,h5⟩:=Dl (P:=Tryz.prog) (t:=22) (e:=113) (A:=A) (n:=n) (c:=c) (d:=y.1) (ps:=y.2) (size:=4) dY (fun _=>True) Tryz.underlying22 (by kernel_rfl) (by decide) Kr (fun R _ u hu=>by simp [dY] at hu;rcases hu with rfl | rfl | rfl | rfl <;> rfl) ⟨m,by simpa [Value.cells] using h⟩;subst h1;exact ⟨A,c,xs,rfl,h2,h4⟩
theorem yG {m:Nat} {v:Value} {y:DataW H × List MemPlace} (h:DataW.trod enc Tryz.prog w 0 (fun _=>true) true m 23 [v]=some y) :
  ∃ (A:Option Addr) (c:Nat) (l:List Drop),v=.slice A l.length c∧j6 w A l∧l.length≤c:=by
 obtain ⟨A,n,c,rfl⟩:=slice_form Tryz.underlying23 h;obtain ⟨xs,h1,h2,h3,h4,h5⟩:=Dl (P:=Tryz.prog) (t:=23) (e:=104) (A:=A) (n:=n) (c:=c) (d:=y.1) (ps:=y.2) (size:=3) uK (fun _=>True) Tryz.underlying23 (by kernel_rfl) (by decide) Kt (fun R _ u hu=>by simp [uK] at hu;rcases hu with rfl | rfl | rfl <;> rfl) ⟨m,by simpa [Value.cells] using h⟩;subst h1;exact ⟨A,c,xs,rfl,h2,h4⟩
theorem UQ {cs:List Value} (h:cs.length=6):∃ a b c d e f,cs=[a,b,c,d,e,f]:=by
 match cs,h with
 | [a,b,c,d,e,f],_=>exact ⟨a,b,c,d,e,f,rfl⟩

structure TZ where
 T:Tab
 a:TA
def Uk (w:World) (z:TZ):Prop:=yZ w z.T z.a∧z.T.rs.length≤z.a.c
theorem Tf {r:Reach} {b0:Nat} {v:Value} {d:DataW H} {ps:List MemPlace} (hok:Value.okWide Tryz.prog w r b0 25 v) (h:DataW.Trod enc Tryz.prog w 0 (fun _=>true) true 25 v d ps):∃ z:TZ,v=eZ z.T z.a∧Uk w z:=by
 obtain ⟨cs,rfl,hsz⟩:=okWide_struct Tryz.underlying25 hok;obtain ⟨m,hm⟩:=h;obtain ⟨xs,n,_,_,hl,hxl,hf⟩:=DataW.trod_struct Tryz.underlying25 hm;have hl6:=hl.trans (by kernel_rfl:_=6);obtain ⟨a0,a1,a2,a3,a4,a5,ha⟩:=UQ hl6;have hxl6:xs.length=6:=hxl;have ex:∀ i (hi:i < 6),xs[i]?=some (xs[i]'(by omega)):=fun i hi=>List.getElem?_eq_getElem (by omega);have s3:Tryz.prog.cellsOf 3=1:=by kernel_rfl
 have s22:Tryz.prog.cellsOf 22=1:=by kernel_rfl
 have s23:Tryz.prog.cellsOf 23=1:=by kernel_rfl
 have t0:=(hf 0 _ rfl).trans (ex 0 (by omega));have t1:=(hf 1 _ rfl).trans (ex 1 (by omega));have t2:=(hf 2 _ rfl).trans (ex 2 (by omega));have t3:=(hf 3 _ rfl).trans (ex 3 (by omega));have t4:=(hf 4 _ rfl).trans (ex 4 (by omega));have t5:=(hf 5 _ rfl).trans (ex 5 (by omega));rw [ha] at t0 t1 t2 t3 t4 t5;have t0':DataW.trod enc Tryz.prog w 0 (fun _=>true) true n 22 (([a0,a1,a2,a3,a4,a5].drop 0).take (Tryz.prog.cellsOf 22))=some (xs[0]'(by omega)):=t0;have t1':DataW.trod enc Tryz.prog w 0 (fun _=>true) true n 23 (([a0,a1,a2,a3,a4,a5].drop 1).take (Tryz.prog.cellsOf 23))=some (xs[1]'(by omega)):=t1;have t2':DataW.trod enc Tryz.prog w 0 (fun _=>true) true n 23 (([a0,a1,a2,a3,a4,a5].drop 2).take (Tryz.prog.cellsOf 23))=some (xs[2]'(by omega)):=t2;have t3':DataW.trod enc Tryz.prog w 0 (fun _=>true) true n 3 (([a0,a1,a2,a3,a4,a5].drop 3).take (Tryz.prog.cellsOf 3))=some (xs[3]'(by omega)):=t3;have t4':DataW.trod enc Tryz.prog w 0 (fun _=>true) true n 3 (([a0,a1,a2,a3,a4,a5].drop 4).take (Tryz.prog.cellsOf 3))=some (xs[4]'(by omega)):=t4;have t5':DataW.trod enc Tryz.prog w 0 (fun _=>true) true n 3 (([a0,a1,a2,a3,a4,a5].drop 5).take (Tryz.prog.cellsOf 3))=some (xs[5]'(by omega)):=t5;simp only [s3,s22,s23,List.drop,List.take] at t0' t1' t2' t3' t4' t5';obtain ⟨A,ac,rs,f0,k0,k0'⟩:=Gt t0';obtain ⟨D,dc,ds,f1,k1,-⟩:=yG t1';obtain ⟨E,ec,es,f2,k2,-⟩:=yG t2';obtain ⟨x3,f3,-,-⟩:=DataW.trod_int Tryz.underlying3 t3';obtain ⟨x4,f4,-,-⟩:=DataW.trod_int Tryz.underlying3 t4';obtain ⟨x5,f5,-,-⟩:=DataW.trod_int Tryz.underlying3 t5';injection f3 with f3
 injection f4 with f4
 injection f5 with f5
 subst f0 f1 f2 f3 f4 f5;refine ⟨⟨⟨rs,ds,es,x3,x4,x5⟩,⟨A,ac,D,dc,E,ec⟩⟩,?_,⟨k0,k1,k2⟩,k0'⟩;have:cs=#[.slice A rs.length ac,.slice D ds.length dc,.slice E es.length ec,.int .i64 x3,.int .i64 x4,.int .i64 x5]:=by
  apply Array.toList_inj.1;simpa [Value.cells] using ha
 rw [this];rfl
instance:Inhabited (Pr × PA):=⟨(BX,⟨none,0,none,0⟩)⟩
end
end Go.Proofs.YtbnnlpjpnihheaaGreatDoor
namespace Go.Proofs.YtbnnlpjpnihheaaGreatDoor
open Go.RowKit Go.CH Go.CH.Scr Go.CH.dK Go.CH.Mtc
open Go.ChangeMaps (setBlock)
end Go.Proofs.YtbnnlpjpnihheaaGreatDoor
namespace Go.Proofs.YtbnnlpjpnihheaaGreatDoor
open Go.RowKit Go.CH Go.CH.Scr Go.CH.dK Go.CH.Mtc
open Go.ChangeMaps (setBlock)

section
variable {α:Type} (a b:α) (l:List α) (n:Nat)
theorem d9 (h:n < l.toArray.size):l.toArray[n]'h=l[n]'(by simpa using h):=List.getElem_toArray h
theorem sg1 (h:n+1 < (a :: l).length):(a :: l)[n+1]'h=l[n]'(by simpa using h):=List.getElem_cons_succ ..
theorem sg2 (h:0 < (a :: l).length):(a :: l)[0]'h=a:=List.getElem_cons_zero ..
theorem eu:l.toArray.setIfInBounds n a=(l.set n a).toArray:=List.setIfInBounds_toArray ..
theorem eD:(a :: l).set 0 b=b :: l:=List.set_cons_zero ..
theorem eG:(a :: l).set (n+1) b=a :: l.set n b:=List.set_cons_succ ..
end
theorem wJ {P:Program} {ops:Array Oper} {Q:Exit→Act→World→Prop} {S:World→Prop} {fuel fuel2:Nat} {ls ls2:Array Bool} {a:Act} {w:World} (I:Act→World→Act→Prop)
  (h2:∀ W' a',I a W' a'→wpAnyH P .any ops Q S fuel2 ls2 a' W') (h1:(∀ W' a',I a W' a'→wpAnyH P .any ops Q S fuel2 ls2 a' W')→wpAnyH P .any ops Q S fuel ls a w):wpAnyH P .any ops Q S fuel ls a w:=h1 h2
end Go.Proofs.YtbnnlpjpnihheaaGreatDoor
