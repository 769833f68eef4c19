/- A part of the proof: lemmas. -/
import Derived.Test.YtbnnlpjpnihheaaGreatDoorME5
import Derived.Test.YtbnnlpjpnihheaaGreatDoorME6
import Derived.Test.YtbnnlpjpnihheaaGreatDoorME3
import Derived.Test.YtbnnlpjpnihheaaGreatDoorME2
import Derived.Deep.DeepCutAuto
set_option maxHeartbeats 16000000
set_option maxRecDepth 100000
set_option linter.unusedSimpArgs false
set_option linter.unusedVariables false
namespace Go.Proofs.YtbnnlpjpnihheaaGreatDoor
open Go.RowKit Go.CH Go.CH.Scr Go.CH.dK Go.CH.Mtc
open Go.ChangeMaps (setBlock)

def NH (w:World) (k:Int) (l:Bs) (e:Ending) (w':World):Prop :=
 ∃ A c,e=.returned (.slice A (aW k l).length c)∧Below w.heap.size w w'∧fF w' A (aW k l)∧(aW k l).length≤c
theorem BH (k:Int) (s:ByteArray) (w:World) (hs:s.size≤1000000) (hz:LZ w):Calls Tryz.prog 48 #[.int .i64 k,.string s] w (NH w k (bl s)):=by
 have KF:=hide (rR k s w hs hz);have HZ:=hide hz;clear hz;by_cases hw:word k (bl s)=true
 ·have e1:fO k (bl s)=(lower (bl s),0):=by unfold fO;rw [if_pos hw]
  have e2:aT k (lower (bl s))=((aM k (lower (bl s))).1,0):=by unfold aT;rw [if_pos (fU hw)]
  have e3:aW k (bl s)=(aM k (lower (bl s))).1:=mY hw;have KL:=hide (fun W (hz:LZ W)=>zP k (bs (lower (bl s))) W (by rw [bX];unfold lower;rw [List.length_map,uF];exact hs) hz);simp only [gQ] at KL;unfold L8 at KL;simp only [e2] at KL;unfold aP at KF;simp only [e1] at KF;unfold NH;rw [e3];clear e1 e2 e3 hw
  go_enter Tryz.func48,Tryz.ntmps48
  go_wp2_with fail;refine KF.out.mono ?_;rintro e9 w1 ⟨rfl,hb⟩;have HB:=hide hb;have KL2:=hide (KL.out w1 (HZ.out.below hb));clear KF KL hb;dsimp only;go_wp2_with fail;refine KL2.out.mono ?_;rintro e9 w2 ⟨A,c,rfl,hb,hA,hc⟩;have HB2:=hide (aC HB.out hb);have HA:=hide hA;have HC:=hide hc;clear KL2 HB hb hA hc;dsimp only;go_wp2;go_ret;exact ⟨A,c,rfl,HB2.out,HA.out,HC.out⟩
 ·have e1:fO k (bl s)=([],1):=by unfold fO;rw [if_neg hw]
  have e3:aW k (bl s)=[]:=by unfold aW;rw [if_neg hw]
  unfold aP at KF;simp only [e1] at KF;unfold NH;rw [e3];clear e1 e3 hw
  go_enter Tryz.func48,Tryz.ntmps48
  go_wp2_with fail;refine KF.out.mono ?_;rintro e9 w1 ⟨rfl,hb⟩;have HB:=hide hb;clear KF hb;dsimp only;go_wp2;go_ret;exact ⟨none,0,rfl,HB.out,Src.none_,Nat.le_refl _⟩
theorem vP (k:Int) (x:Bs) (w:World) (hs:x.length≤1000000) (hz:LZ w):Calls Tryz.prog 48 #[.int .i64 k,.string (bs x)] w (NH w k x):=by
 have:=BH k (bs x) w (by rw [bX];exact hs) hz;rw [gQ] at this;exact this
theorem BJ (k:Int) (x:Bs) (w:World) (hs:x.length≤1000000) (hz:LZ w):Calls Tryz.prog 23 #[.int .i64 k,.string (bs x)] w (aP w (.tuple #[.string (bs (fO k x).1),.int .i64 (fO k x).2])):=by
 have:=rR k (bs x) w (by rw [bX];exact hs) hz;rw [gQ] at this;exact this
theorem Ef:∀ l:List Bs,Lib.join l []=l.flatten
 | []=>rfl
 | x :: l=>by
  rw [Lib.join_cons,List.flatten_cons];congr 1;unfold Lib.joinTail;congr 1;exact (List.map_congr_left (fun y _=>List.nil_append y)).trans (List.map_id _)

theorem Eh {w:World} {A:Option Addr} {c:Nat} {l:List Bs} (hA:fF w A l) (hc:l.length≤c) (hl:l.length≤1000000) (hf:l.flatten.length≤1000000000) :
  Calls Tryz.prog 49 #[.slice A l.length c,.string ⟨#[]⟩] w (aP w (.string (bs l.flatten))):=by
 by_cases h0:0 < l.length
 ·obtain ⟨b,o,rfl,hat⟩:=hA.at h0;have e1:((l.map bs).map (·.data.toList))=l:=by rw [List.map_map];exact List.map_id'' (fun x=>gQ x) _
  have h:=Tryz.strings_Join b o c (l.map bs) ⟨#[]⟩ w (fun j x hx=>by
   rw [List.getElem?_map] at hx;cases hj:l[j]? with
   | none=>rw [hj] at hx;cases hx
   | some y =>
    rw [hj] at hx;have hx:some (bs y)=some x:=hx;injection hx with hx
    obtain ⟨hj1,hj2⟩:=List.getElem?_eq_some_iff.1 hj
    rw [hat w (Below.refl _ _) j hj1,hj2,hx]) (by have:=hat w (Below.refl _ _) 0 h0;exact World.block_lt_of_cell? _ _ this) (by rw [List.length_map];omega) (by rw [List.length_map];exact hc) (by
    rw [e1]
    show (Lib.join l []).length≤_
    rw [Ef];omega)
  rw [e1,List.length_map] at h;refine h.mono ?_;rintro e w' ⟨rfl,hb⟩;refine ⟨?_,hb⟩
  show Ending.returned (.string ⟨(Lib.join l []).toArray⟩)=_
  rw [Ef];rfl
 ·have e:l=[]:=List.eq_nil_of_length_eq_zero (by omega);subst e;refine (Tryz.strings_Join_none A c ⟨#[]⟩ w).mono ?_;rintro e w' ⟨rfl,rfl⟩;exact ⟨rfl,Below.refl _ _⟩

def mH (T:Tab) (k:Int) (x:Bs):Int × Int:=if word k x && aX T then (aZ T k x,0) else (0,1)
theorem NI {T:Tab} {k:Int} {x:Bs} {n:Nat} (hn:n < T.ds.length) (hb:∀ j (h:j < T.ds.length),j < n→¬ (T.ds[j].k=k∧T.ds[j].w=lower x)) (hh:T.ds[n].k=k∧T.ds[n].w=lower x):aZ T k x=T.ds[n].c:=by
 unfold aZ;have:T.ds.find? (fun d=>decide (d.k=k) && decide (d.w=lower x))=some T.ds[n]:=by
  rw [List.find?_eq_some_iff_getElem];refine ⟨by simp [hh.1,hh.2],n,hn,rfl,fun j hj=>?_⟩;have:=hb j (by omega) hj;simp only [Bool.not_eq_true',Bool.and_eq_false_iff,decide_eq_false_iff_not];by_cases h1:T.ds[j].k=k
  ·exact .inr fun h2=>this ⟨h1,h2⟩
  ·exact .inl h1
 rw [this]
theorem Ky {T:Tab} {k:Int} {x:Bs} (hb:∀ j (h:j < T.ds.length),¬ (T.ds[j].k=k∧T.ds[j].w=lower x)):aZ T k x=T.drop:=by
 unfold aZ;have:T.ds.find? (fun d=>decide (d.k=k) && decide (d.w=lower x))=none:=by
  rw [List.find?_eq_none];intro d hd;obtain ⟨j,hj,rfl⟩:=List.mem_iff_getElem.1 hd;have:=hb j hj;simp only [Bool.and_eq_true,decide_eq_true_eq];exact this
 rw [this]
theorem BK {w:World} {T:Tab} {a:TA} (hT:jJ w T a) (hz:LZ w) (k:Int) (x:Bs) (hx:x.length≤1000000) :
  Calls Tryz.prog 21 #[eZ T a,.int .i64 k,.string (bs x)] w (aP w (.tuple #[.int .i64 (mH T k x).1,.int .i64 (mH T k x).2])):=by
 have h1:=aG (Run.begin w) aB (dA T a) 25;have HB1:=hide (show Below w.heap.size w _ from h1.mod.below (fun _ _ h=>h));have KF:=hide (BJ k x (w.alloc (.cells (dA T a) 25)) hx (hz.below HB1.out));have KV:=hide (fun W (hb:Below w.heap.size w W)=>mU (hT.below hb) (hz.below hb))
 have HTC:=hide (fun W (h:Below (w.alloc (.cells (dA T a) 25)).heap.size (w.alloc (.cells (dA T a) 25)) W)=>(show W.cell? ⟨w.heap.size,0,none⟩=some (.slice a.A T.rs.length a.c)∧W.cell? ⟨w.heap.size,1,none⟩=some (.slice a.D T.ds.length a.d)∧W.cell? ⟨w.heap.size,2,none⟩=some (.slice a.E T.es.length a.e)∧W.cell? ⟨w.heap.size,3,none⟩=some (.int .i64 T.drop)∧W.cell? ⟨w.heap.size,4,none⟩=some (.int .i64 T.ord)∧W.cell? ⟨w.heap.size,5,none⟩=some (.int .i64 T.ini) from by
  obtain ⟨f,hf⟩:=(h1.below (aj av aB) h).fst
  exact ⟨ay hf rfl,ay hf rfl,ay hf rfl,ay hf rfl,ay hf rfl,ay hf rfl⟩))
 have HDS:=hide hT.ds;have HLD:=hide hT.ld;have HHIT:=hide (fun (n:Nat) (hn:n < T.ds.length) hb hh=>NI (T:=T) (k:=k) (x:=x) hn hb hh);have HMISS:=hide (fun hb=>Ky (T:=T) (k:=k) (x:=x) hb);clear hT hz h1 hx;unfold eZ at KV ⊢;unfold dA at HB1 KF KV HTC ⊢;generalize T.rs.length=n1 at *
 obtain ⟨n2,hn2⟩:∃ n,n=T.ds.length:=⟨_,rfl⟩;have HN2:=hide hn2;rw [←hn2] at HB1 KF KV HTC HLD ⊢;clear hn2;generalize T.es.length=n3 at *
 obtain ⟨aA,ac,aD,ad,aE,ae⟩:=a;dsimp only at HB1 KF KV HTC HDS ⊢;by_cases hw:word k x=true
 ·have e1:fO k x=(lower x,0):=by unfold fO;rw [if_pos hw]
  have HV1:=hide (show aX T=true→mH T k x=(aZ T k x,0) from fun h=>by unfold mH;rw [hw,h];rfl);have HV0:=hide (show aX T=false→mH T k x=(0,1) from fun h=>by unfold mH;rw [hw,h];rfl);rw [e1] at KF;generalize mH T k x=dv at *
  unfold aP at KF;clear e1 hw
  go_enter Tryz.func21,Tryz.ntmps21
  go_wp2_with fail;refine KF.out.mono ?_;rintro e9 w2 ⟨rfl,hb⟩;generalize w.alloc (.cells #[.slice aA n1 ac,.slice aD n2 ad,.slice aE n3 ae,.int .i64 T.drop,.int .i64 T.ord,.int .i64 T.ini] 25)=w1 at *
  generalize hg:w.heap.size=g3 at HTC ⊢;clear hg;have HB2:=hide hb;obtain ⟨t0,t1,t2,t3,t4,t5⟩:=HTC.out _ hb;have KV2:=hide (KV.out w2 (aC HB1.out hb));clear KF KV hb;dsimp only;go_wp2_with fail;refine KV2.out.mono ?_;rintro e9 w3 ⟨rfl,hb⟩;have HB3:=hide (aC HB2.out hb);clear KV2 HB2 hb t0 t1 t2 t3 t4 t5;dsimp only;cases hv:aX T with
  | false =>
   obtain rfl:=HV0.out hv;have HF:=hide (aC HB1.out HB3.out);go_wp2;refine bodyPost_ret (results_tmp2 rfl _ _ _) rfl ?_;exact ⟨rfl,HF.out⟩
  | true =>
   obtain rfl:=HV1.out hv;clear hv HV0 HV1;obtain ⟨t0,t1,t2,t3,t4,t5⟩:=HTC.out _ HB3.out;go_wp2_with fail;go_loopw [28] (fun i wr=>∃ n:Nat,i=.int .i64 n∧n≤n2∧(∀ j (h:j < T.ds.length),j < n→¬ (T.ds[j].k=k∧T.ds[j].w=lower x))∧Below w1.heap.size w1 wr) (fun i _=>n2 - (intOf i).toNat)
   case atStart=>exact ⟨0,rfl,Nat.zero_le _,fun j _ h=>absurd h (Nat.not_lt_zero _),HB3.out⟩
   case round =>
    clear HB3 t0 t1 t2 t3 t4 t5;obtain ⟨n,rfl,hn,hs,hbel⟩:=hrel;have HBE:=hide hbel;have HS:=hide hs;clear hbel hs;by_cases hlt:n < n2
    ·have hnd:n < T.ds.length:=by rw [←HN2.out];exact hlt
     obtain ⟨b,o,rfl,hc⟩:=j6.at HDS.out (by omega);have hbw:=aC HB1.out HBE.out;obtain ⟨c0,c1,c2⟩:=hc _ hbw n hnd;have hnb:(n:Int) < 1000000:=by have:=HLD.out;omega
     have HN1:=hide (show n+1≤n2 from hlt);have HHN:=hide (fun hh=>HHIT.out n hnd HS.out hh)
     have HSN:=hide (fun (hh:¬ (T.ds[n].k=k∧T.ds[n].w=lower x))=>(show ∀ j (h:j < T.ds.length),j < n+1→¬ (T.ds[j].k=k∧T.ds[j].w=lower x) from fun j hj hjn=>by
      by_cases e:j=n
      ·subst e;exact hh
      ·exact HS.out j hj (by omega)))
     clear hc hbw hn HS;generalize T.ds[n]=d at *
     clear hnd;obtain ⟨dk,dw,dc⟩:=d;dsimp only at c0 c1 c2 HHN HSN;go_upto_region 7 with (fail);have h7:=aG (Run.begin wr) aB #[.int .i64 dk,.string (bs dw),.int .i64 dc] 104;obtain ⟨f7,hf7⟩:=h7.fst;have d0:=ay (i:=0) hf7 rfl;have d1:=ay (i:=1) hf7 rfl;have d2:=ay (i:=2) hf7 rfl;have HB7:=hide (aC HBE.out (h7.mod.below (fun _ _ h=>h)));clear hf7 f7 h7 c0 c1 c2 HBE;generalize wr.alloc (.cells #[.int .i64 dk,.string (bs dw),.int .i64 dc] 104)=w7 at *
     generalize wr.heap.size=g11 at *
     by_cases h1:dk=k
     ·have k1:(dk == k)=true:=by simp [h1]
      by_cases h2:dw=lower x
      ·have k2:((bs dw).toList == (bs (lower x)).toList)=true:=by rw [iW];simp [h2]
       have HF:=hide (show aP w (.tuple #[.int .i64 (aZ T k x),.int .i64 0]) (.returned (.tuple #[.int .i64 dc,.int .i64 0])) w7 from by rw [HHN.out ⟨h1,h2⟩];exact ⟨rfl,aC HB1.out HB7.out⟩);clear h1 h2;go_wp2;refine bodyPost_ret (results_tmp2 rfl _ _ _) rfl ?_;exact HF.out
      ·have k2:((bs dw).toList == (bs (lower x)).toList)=false:=by rw [iW];simpa using fun h=>h2 (AZ h)
       have HS2:=hide (HSN.out (fun h=>h2 h.2));clear h1 h2;go_wp2_with fail
       go_roundw
       case rel=>exact ⟨n+1,by go_num,HN1.out,HS2.out,HB7.out⟩
       case measure=>have:=HN1.out;simp [intOf];omega
     ·have k1:(dk == k)=false:=by simp [h1]
      have HS2:=hide (HSN.out (fun h=>h1 h.1));clear h1;go_wp2_with fail
      go_roundw
      case rel=>exact ⟨n+1,by go_num,HN1.out,HS2.out,HB7.out⟩
      case measure=>have:=HN1.out;simp [intOf];omega
    ·obtain ⟨t0,t1,t2,t3,t4,t5⟩:=HTC.out _ HBE.out;have HF:=hide (show aP w (.tuple #[.int .i64 (aZ T k x),.int .i64 0]) (.returned (.tuple #[.int .i64 T.drop,.int .i64 0])) wr from by rw [HMISS.out (fun j h=>HS.out j h (by have:=HN2.out;omega))];exact ⟨rfl,aC HB1.out HBE.out⟩);go_wp2;refine bodyPost_ret (results_tmp2 rfl _ _ _) rfl ?_;exact HF.out
 ·have e1:fO k x=([],1):=by unfold fO;rw [if_neg hw]
  have e2:mH T k x=(0,1):=by unfold mH;rw [Bool.not_eq_true] at hw;rw [hw];rfl
  rw [e1] at KF;rw [e2];unfold aP at KF;clear e1 e2 hw
  go_enter Tryz.func21,Tryz.ntmps21
  go_wp2_with fail;refine KF.out.mono ?_;rintro e9 w2 ⟨rfl,hb⟩;have HF:=hide (aC HB1.out hb);clear KF KV hb;dsimp only;go_wp2;refine bodyPost_ret (results_tmp2 rfl _ _ _) rfl ?_;exact ⟨rfl,HF.out⟩
end Go.Proofs.YtbnnlpjpnihheaaGreatDoor
namespace Go.Proofs.YtbnnlpjpnihheaaGreatDoor
open Go.RowKit Go.CH Go.CH.Scr Go.CH.dK Go.CH.Mtc
open Go.ChangeMaps (setBlock)

theorem wE {F0:Nat→Prop} {w0 W:World} {Y:CH.Own} {o:Oper} {a:Act} {K:Act→World→Prop} {Q:Exit→Act→World→Prop} {t e:TypeId} {z:Value} {size bytes:Nat} (S:dh Tryz.prog t e z size bytes) (hby:bytes≤1000) (s x:Operand)
  (ho:o.op=.call { callee:=.builtin .append,args:=#[s,x],argTypes:=#[t,t] }) {A:Option Addr} {c n g:Nat} {xs cs:List Value} (hsv:a.eval s=.slice A n c) (hx:a.eval x=.slice (some ⟨g,0,none⟩) 1 1) (hn:n≤1000000) (hY:Y.Ok)
  (h:Run F0 w0 (star (aS e size (.slice A n c) n xs) Y) W) (h1:cs.length=size) (h2:∀ u ∈ cs,u.oneCell'=true) (hg:∀ (j:Nat) u,cs[j]?=some u→W.cell? ⟨g,j,none⟩=some u)
  (hK:∀ A' c' w',Run F0 w0 (star (aS e size (.slice A' (n+1) c') (n+1) (xs ++ cs)) Y) w'→K (a.put o.dst (.slice A' (n+1) c')) w'):o.wp Tryz.prog a W K Q:=by
 obtain ⟨F7,hR7,-,bk7⟩:=h.take bA hY;have hsrc:Src W (some ⟨g,0,none⟩) 1 size cs:=by
  refine ⟨by rw [h1];exact (Nat.one_mul _).symm,h2,fun _=>⟨_,rfl,fun j u hu=>?_⟩⟩;have e:(⟨g,0,none⟩:Addr).add j=⟨g,j,none⟩:=by unfold Addr.add;split <;> simp_all
  rw [e];exact hg j u hu
 refine wh s x ho S _ 0 (v:=.slice A n c) (n:=n) (xs:=xs) hsv hR7.1 (A:=some ⟨g,0,none⟩) (m:=1) (c:=1) (news:=cs) hx hsrc (by unfold maxLen;omega) (by
  have:(n+1)*bytes≤(n+1)*1000:=Nat.mul_le_mul_left _ hby
  omega) (Nat.zero_le _) ?_
 intro v8 w8 ho8 hg8 hv8;have S8:=bk7 _ _ (iA hR7 ho8 hg8 hv8);obtain ⟨A8,c8,rfl⟩:=gy ho8;exact hK A8 c8 w8 S8
def jD (v:Vr):List Value:=[.string (bs v.w),.int .i64 v.e,.int .i64 v.c]
theorem yR (l:List Vr):∀ u ∈ l.flatMap jD,u.oneCell'=true:=by
 intro u hu;obtain ⟨x,-,hx⟩:=List.mem_flatMap.1 hu;unfold jD at hx;simp only [List.mem_cons,List.not_mem_nil,or_false] at hx;rcases hx with rfl | rfl | rfl <;> rfl
def j3 (A:Option Addr) (c:Nat) (l:List Vr):CH.Own:=aS 60 3 (.slice A l.length c) l.length (l.flatMap jD)
theorem nA {A:Option Addr} {c:Nat} {l:List Vr}:(j3 A c l).Ok:=bA
abbrev BP (w:World) (A:Option Addr) (l:List Vr):Prop:=wu jD 3 w A l
theorem Od {w:World} {F:Nat→Prop} {A:Option Addr} {c:Nat} {l:List Vr} (h:j3 A c l w F):BP w A l:=iT h (yR l)
theorem Uo:dh Tryz.prog 54 60 (.agg #[.string ⟨#[]⟩,.int .i64 0,.int .i64 0]) 3 32:=⟨Tryz.underlying54,by kernel_rfl,by decide,by decide⟩
theorem Oe {A:Option Addr} {c n:Nat} {l:List Vr} {x:Vr} (hn:l.length=n):aS 60 3 (.slice A (n+1) c) (n+1) (l.flatMap jD ++ jD x)=j3 A c (l ++ [x]):=by
 subst hn;unfold j3;rw [List.flatMap_append,List.length_append,List.length_singleton,List.flatMap_singleton]
theorem QN {W:World} {p:Vr}:Post W (fun _=>False) (j3 (some ⟨W.heap.size,0,none⟩) 1 [p]) (W.alloc (.cells (jD p).toArray 60)):=by
 refine qg ⟨rfl,.inr ⟨W.heap.size,1,(jD p).toArray,rfl,Nat.le_refl _,heap_alloc_new W _,Nat.le_refl _,by decide,rfl,rfl⟩⟩ ((Below.refl _ _).alloc (Nat.le_refl _) _)
theorem I8 {w w':World} (hb:Below w.heap.size w w'):Post w (fun _=>False) (j3 none 0 []) w':=⟨fun _=>False,fH _ _ _,Mod.of_below hb,fun i hi=>hi.elim⟩

def je (T:Tab) (k:Int) (x:Bs):List Vr × Int:=if word k x && aX T then (bV T k x,0) else ([],1)
def nC (w:World) (T:Tab) (k:Int) (x:Bs) (e:Ending) (w':World):Prop :=
 ∃ A c,e=.returned (.tuple #[.slice A (je T k x).1.length c,.int .i64 (je T k x).2])∧Post w (fun _=>False) (j3 A c (je T k x).1) w'

def dZ (T:Tab) (k:Int) (x:Bs) (n:Nat):List Vr:=⟨(aW k x).flatten,-1,0⟩ :: (T.es.zipIdx.take n).filterMap (iC k (aW k x))
theorem Ay {T:Tab} {k:Int} {x:Bs}:dZ T k x 0=[⟨(aW k x).flatten,-1,0⟩]:=by unfold dZ;rw [List.take_zero];rfl
theorem Ey {T:Tab} {k:Int} {x:Bs} {n:Nat} (h:T.es.length≤n):dZ T k x n=bV T k x:=by
 unfold dZ bV;rw [List.take_of_length_le (by rw [List.length_zipIdx];exact h)]
theorem Kz {T:Tab} {k:Int} {x:Bs} {n:Nat} (h:n < T.es.length):dZ T k x (n+1)=dZ T k x n ++ (match iC k (aW k x) (T.es[n],n) with | some v=>[v] | none=>[]):=by
 unfold dZ;have hz:n < T.es.zipIdx.length:=by rw [List.length_zipIdx];exact h
 rw [List.take_succ_eq_append_getElem hz,List.filterMap_append,List.cons_append];congr 2;rw [List.getElem_zipIdx,Nat.zero_add];cases he:iC k (aW k x) (T.es[n],n) with
 | none=>simp [he]
 | some v=>simp [he]
theorem Ez {T:Tab} {k:Int} {x:Bs} {n:Nat}:(dZ T k x n).length≤n+1:=by
 unfold dZ;rw [List.length_cons];have h1:=List.length_filterMap_le (iC k (aW k x)) (T.es.zipIdx.take n);have h2:(T.es.zipIdx.take n).length≤n:=by rw [List.length_take];omega
 omega
theorem ug {k:Int} {x:Bs} {n:Nat}:((aW k x).take n).flatten.length≤x.length:=by
 have h1:((aW k x).take n).flatten.length≤(aW k x).flatten.length:=by
  have:=List.take_append_drop n (aW k x)
  conv=>rhs;rw [←this,List.flatten_append,List.length_append]
  omega
 by_cases hw:word k x=true
 ·rw [pY hw] at h1;unfold lower at h1;rw [List.length_map] at h1;exact h1
 ·unfold aW at h1 ⊢;rw [if_neg hw] at h1 ⊢;simp
end Go.Proofs.YtbnnlpjpnihheaaGreatDoor
namespace Go.Proofs.YtbnnlpjpnihheaaGreatDoor
open Go.RowKit Go.CH Go.CH.Scr Go.CH.dK
open Go.ChangeMaps (setBlock)
theorem xG {P:Program} {t e:TypeId} {z:Value} {size bytes:Nat} (S:dh P t e z size bytes) (A:Option Addr) (n c k h:Nat) (kd kd2:IntKind) (l l2:Int) (hl:l=k) (hl2:l2=h) (h1:k≤h) (h2:h≤c) (w:World) :
  (Instr.slice t (.slice A n c) (some (.int kd l)) (some (.int kd2 l2)) none).run P w=.ok (.slice (uV A c k size) (h - k) (c - k)) w:=by
 obtain ⟨ht,hi,hz,hsz⟩:=S;obtain ⟨i,hi,hi1,hi2,hi3⟩:=info_parts hi;subst hl hl2;have h0:(0:Int)≤k∧(k:Int)≤h:=by omega
 simp [Instr.slice,run_underlying ht,Instr.sliceBounds,Instr.sliceBound,asIntOf,h1,h2,sizeOf,typeInfo,hi,hi2,uV]
theorem CS {w:World} {A:Option Addr} {l:List Bs} (n:Nat) (h:fF w A l):fF w A (l.take n):=by
 have e:lq (l.take n)=(lq l).take n:=by unfold lq;rw [List.map_take]
 refine ⟨by rw [e,List.length_take,h.1,List.length_take];omega,fun u hu=>h.2.1 u (by rw [e] at hu;exact List.mem_of_mem_take hu),fun hn=>?_⟩;obtain ⟨ad,rfl,hc⟩:=h.2.2 (by rw [List.length_take] at hn;omega);refine ⟨ad,rfl,fun j u hu=>hc j u ?_⟩;rw [e,List.getElem?_take] at hu;split at hu
 ·exact hu
 ·cases hu
theorem CU {w:World} {L F R:Option Addr} {lc fc rn rc:Nat} {l:List Bs} {r:AR} {i:Nat} (hL:fF w L l) (hF:fF w F r.f) (hi:i≤l.length) (hc:l.length≤lc) (hll:l.length≤1000000) (hfl:r.f.length≤1000000) :
  Calls Tryz.prog 127 #[.agg #[.slice L l.length lc,.slice R rn rc],.agg #[.int .i64 (r.ix:Nat),.int .i64 r.c,.slice F r.f.length fc,.string (bs r.t)],.int .i64 i] w (aP w (.bool (iY l r i))):=by
 obtain ⟨ix,c,f,t⟩:=r;dsimp only at hF hfl ⊢;have HFA:iY l ⟨ix,c,f,t⟩ i=(decide (i+f.length≤l.length) && decide ((l.drop i).take f.length=f)):=rfl;have HV:=hide HFA;have KE:=hide (fun (W:World) (h:Below w.heap.size w W)=>zS (c:=lc - i) (d:=fc) (CS f.length (Hq (hL.below h) hi hc)) (hF.below h) (by rw [List.length_take];omega) (by omega));have h1:=aG (Run.begin w) aB #[.slice L l.length lc,.slice R rn rc] 167;have h2:=aG h1 (aj av aB) #[.int .i64 (ix:Nat),.int .i64 c,.slice F f.length fc,.string (bs t)] 181;rw [World.size_alloc] at h2;have OK:=hide (show (star (au (w.heap.size+1) #[.int .i64 (ix:Nat),.int .i64 c,.slice F f.length fc,.string (bs t)] 181) (star (au w.heap.size #[.slice L l.length lc,.slice R rn rc] 167) emp)).Ok from aj av (aj av aB));have HBW:=hide (fun W O (h:Run (fun _=>False) w O W)=>(show Below w.heap.size w W from h.mod.below (fun _ _ h=>h)));have HBR:=hide (fun W O v (h:Run (fun _=>False) w O W)=>(show aP w v (.returned v) W from ⟨rfl,h.mod.below (fun _ _ h=>h)⟩));have HSL:i+f.length≤l.length→∀ W',(Instr.slice 26 (.slice L l.length lc) (some (.int .i64 (i:Int))) (some (.int .i64 ((i:Int)+(f.length:Int)))) none).run Tryz.prog W'=.ok (.slice (uV L lc i 1) f.length (lc - i)) W':=fun h W'=>by
  have:=xG Bb L l.length lc i (i+f.length) .i64 .i64 (i:Int) ((i:Int)+(f.length:Int)) rfl (by omega) (by omega) (by omega) W';rw [this];congr 2;omega
 have HSL:=hide HSL;have HLT:=hide (show i+f.length≤l.length→((l.drop i).take f.length).length=f.length from fun h=>by rw [List.length_take,List.length_drop];omega);have H2:=hide h2;obtain ⟨b,hb⟩:∃ b,b=iY l ⟨ix,c,f,t⟩ i:=⟨_,rfl⟩;rw [←hb] at HV ⊢;clear h1 h2 HFA hb hL hF;have hi2:(i:Int)≤1000000:=by omega
 generalize f.length=fl at *
 generalize l.length=ll at *
 go_enter Tryz.func127,Tryz.ntmps127
 go_wp2_with fail;generalize (w.alloc (.cells #[.slice L ll lc,.slice R rn rc] 167)).alloc (.cells #[.int .i64 (ix:Nat),.int .i64 c,.slice F fl fc,.string (bs t)] 181)=w1 at *
 generalize w.heap.size+1=g2 at *
 generalize w.heap.size=g1 at *
 have hSS:∀ W,Run (fun _=>False) w (star (au g2 #[.int .i64 (ix:Nat),.int .i64 c,.slice F fl fc,.string (bs t)] 181) (star (au g1 #[.slice L ll lc,.slice R rn rc] 167) emp)) W→(fun W:World=>W.cell? ⟨g2,2,none⟩=some (.slice F fl fc)∧W.cell? ⟨g1,0,none⟩=some (.slice L ll lc)) W:=fun W h=>by
  obtain ⟨f1,hf1⟩:=h.fst;obtain ⟨f2,hf2⟩:=h.drop.fst;exact ⟨ay hf1 rfl,ay hf2 rfl⟩
 have HSS:=hide hSS;clear hSS;have H3:=hide (H2.out.drew OK.out);have hS0:=HSS.out _ H3.out;clear H2;have hwr:IntKind.i64.wrap ((i:Int)+(fl:Int))=(i:Int)+(fl:Int):=IntWalk.i64_in _ (by omega);by_cases hle:i+fl≤ll
 ·have hd1:decide ((i:Int)+(fl:Int)≤(ll:Int))=true:=decide_eq_true (by omega);have hsl:=HSL.out hle;have hlt:=HLT.out hle;have HB:=hide (show b=decide ((l.drop i).take fl=f) from by rw [HV.out,decide_eq_true hle,Bool.true_and]);rw [hlt] at KE;clear HSL HLT HV hlt;refine aI (fun W:World=>W.cell? ⟨g2,2,none⟩=some (.slice F fl fc)∧W.cell? ⟨g1,0,none⟩=some (.slice L ll lc)) (by rfl) (by kernel_rfl) hS0 ?_;clear hS0;generalize w1.drew=w2 at *
  (repeat ((first | refine aK (by rfl) ?_ | (refine aL (v:=?_) (by rfl) ?_ ?_;rotate_left;(focus (intro w' hS';go_simp;(try with_reducible rfl);done))));try simp only [Act.put,List.setIfInBounds_toArray,List.set_cons_zero,List.set_cons_succ]))
  refine dR rfl (by rfl) (fun K hK=>?_);go_wp2_with fail;refine (KE.out _ (HBW.out _ _ H3.out)).mono ?_;rintro e9 w3 ⟨rfl,hb⟩;have H4:=hide (H3.out.below OK.out hb);clear KE H3 hb;dsimp only;refine hK.out _ _ (HSS.out _ H4.out) ?_;clear hK
  (repeat ((first | refine aK (by rfl) ?_ | (refine aL (v:=?_) (by rfl) ?_ ?_;rotate_left;(focus (intro w' hS';go_simp;(try with_reducible rfl);done))));try simp only [Act.put,List.setIfInBounds_toArray,List.set_cons_zero,List.set_cons_succ]))
  refine lex_nil ?_;rw [←HB.out];go_wp2;go_ret;exact HBR.out _ _ _ H4.out
 ·have hd1:decide ((i:Int)+(fl:Int)≤(ll:Int))=false:=decide_eq_false (by omega);have HB:=hide (show b=false from by rw [HV.out,decide_eq_false hle,Bool.false_and]);clear HSL HLT HV KE;refine aI (fun W:World=>W.cell? ⟨g2,2,none⟩=some (.slice F fl fc)∧W.cell? ⟨g1,0,none⟩=some (.slice L ll lc)) (by rfl) (by kernel_rfl) hS0 ?_;clear hS0;generalize w1.drew=w2 at *
  (repeat ((first | refine aK (by rfl) ?_ | (refine aL (v:=?_) (by rfl) ?_ ?_;rotate_left;(focus (intro w' hS';go_simp;(try with_reducible rfl);done))));try simp only [Act.put,List.setIfInBounds_toArray,List.set_cons_zero,List.set_cons_succ]))
  refine lex_nil ?_;go_wp2;go_ret;rw [HB.out];exact HBR.out _ _ _ H3.out
end Go.Proofs.YtbnnlpjpnihheaaGreatDoor
namespace Go.Proofs.YtbnnlpjpnihheaaGreatDoor
open Go.RowKit Go.CH Go.CH.Scr Go.CH.dK Go.CH.Mtc
open Go.ChangeMaps (setBlock)
theorem bW {F0:Nat→Prop} {w0 w:World} {g:Nat} {t:TypeId} {X:CH.Own} {a b c d e f:Value} (h:Run F0 w0 (star (au g #[a,b,c,d,e,f] t) X) w):w.cell? ⟨g,0,none⟩=some a∧w.cell? ⟨g,1,none⟩=some b∧w.cell? ⟨g,2,none⟩=some c∧w.cell? ⟨g,3,none⟩=some d∧w.cell? ⟨g,4,none⟩=some e∧w.cell? ⟨g,5,none⟩=some f:=by
 obtain ⟨F,hF⟩:=h.fst;exact ⟨ay hF rfl,ay hF rfl,ay hF rfl,ay hF rfl,ay hF rfl,ay hF rfl⟩
theorem cK {F0:Nat→Prop} {w0 w:World} {g:Nat} {t:TypeId} {X:CH.Own} {a b c:Value} (h:Run F0 w0 (star (au g #[a,b,c] t) X) w):w.cell? ⟨g,0,none⟩=some a∧w.cell? ⟨g,1,none⟩=some b∧w.cell? ⟨g,2,none⟩=some c:=by
 obtain ⟨F,hF⟩:=h.fst;exact ⟨ay hF rfl,ay hF rfl,ay hF rfl⟩
theorem QO {k:Int} {l:List Bs} {d:Drop} {n m:Nat} (h1:d.k=k) (hm:m+(aW k d.w).length=l.length) (h0:0 < m) (h2:l.drop m=aW k d.w):iC k l (d,n)=some ⟨(l.take m).flatten,n,d.c⟩:=by
 unfold iC;have e:l.length - (aW k d.w).length=m:=by omega
 simp only [e];rw [if_pos ⟨h1,by omega,h2⟩]
theorem QS {k:Int} {l:List Bs} {d:Drop} {n:Nat} (h1:d.k≠k):iC k l (d,n)=none:=by
 unfold iC;rw [if_neg (fun h=>h1 h.1)]
theorem QT {k:Int} {l:List Bs} {d:Drop} {n:Nat} (h1:¬ (aW k d.w).length < l.length):iC k l (d,n)=none:=by
 unfold iC;rw [if_neg (fun h=>h1 h.2.1)]
theorem QU {k:Int} {l:List Bs} {d:Drop} {n m:Nat} (hm:m+(aW k d.w).length=l.length) (h2:¬ l.drop m=aW k d.w):iC k l (d,n)=none:=by
 unfold iC;have e:l.length - (aW k d.w).length=m:=by omega
 simp only [e];rw [if_neg (fun h=>h2 h.2.2)]
theorem nD {w:World} {T:Tab} {a:TA} (hT:jJ w T a) (hz:LZ w) (k:Int) (x:Bs) (hx:x.length≤1000000) :
  Calls Tryz.prog 22 #[eZ T a,.int .i64 k,.string (bs x)] w (nC w T k x):=by
 have h1:=aG (Run.begin w) aB (dA T a) 25;have H1:=hide h1;have KL:=hide (vP k x (w.alloc (.cells (dA T a) 25)) hx (hz.below (h1.mod.below (fun _ _ h=>h))));have KLD:=hide (fun W (hb:Below w.heap.size w W) (y:Bs) (hy:y.length≤1000000)=>vP k y W hy (hz.below hb));have KV:=hide (fun W (hb:Below w.heap.size w W)=>mU (hT.below hb) (hz.below hb));have HES:=hide hT.es;have HLE:=hide hT.le;have HSE:=hide hT.se;have HX:=hide hx;have HBW:=hide (fun W X (h:Run (fun _=>False) w X W)=>(show Below w.heap.size w W from h.mod.below (fun _ _ h=>h)));clear hT hz h1 hx;unfold eZ at KV ⊢;unfold dA at H1 KL KV ⊢;generalize T.rs.length=n1 at *
 generalize T.ds.length=n2 at *
 obtain ⟨n3,hn3⟩:∃ n,n=T.es.length:=⟨_,rfl⟩;have HN3:=hide hn3;rw [←hn3] at H1 KL KV HLE ⊢;clear hn3;obtain ⟨aA,ac,aD,ad,aE,ae⟩:=a;dsimp only at H1 KL KV HES ⊢;have okB:=hide (aj av aB:(star (au w.heap.size #[.slice aA n1 ac,.slice aD n2 ad,.slice aE n3 ae,.int .i64 T.drop,.int .i64 T.ord,.int .i64 T.ini] 25) emp).Ok);by_cases hw:word k x=true
 ·have hlen:=dI hw
  have HV1:=hide (show aX T=true→∀ W' A c,Post w (fun _=>False) (j3 A c (bV T k x)) W'→nC w T k x (.returned (.tuple #[.slice A (bV T k x).length c,.int .i64 0])) W' from fun h W' A c hp=>by
   have e:je T k x=(bV T k x,0):=by unfold je;rw [hw,h];rfl
   exact ⟨A,c,by rw [e],by rw [e];exact hp⟩)
  have HV0:=hide (show aX T=false→∀ W',Below w.heap.size w W'→nC w T k x (.returned (.tuple #[.slice none 0 0,.int .i64 1])) W' from fun h W' hb=>by
   have e:je T k x=([],1):=by unfold je;rw [hw,h];rfl
   exact ⟨none,0,by rw [e];rfl,by rw [e];exact I8 hb⟩)
  clear hw
  go_enter Tryz.func22,Tryz.ntmps22
  go_wp2_with fail;refine KL.out.mono ?_;rintro e9 w2 ⟨A,c,rfl,hb,hA,hc⟩;have H2:=hide (H1.out.below okB.out hb);have HA:=hide hA;have HC:=hide hc;clear KL hb hA H1;generalize w.heap.size=g3 at H2 okB ⊢;obtain ⟨nl,hnl⟩:∃ n,n=(aW k x).length:=⟨_,rfl⟩;have HNL:=hide hnl;rw [←hnl] at hc hlen ⊢;clear hnl;have t0:((nl:Int) == 0)=false:=by simp;omega
  obtain ⟨b0,b1,b2,b3,b4,b5⟩:=bW H2.out;have KV2:=hide (KV.out w2 (HBW.out _ _ H2.out));clear KV;dsimp only;go_wp2_with fail;refine KV2.out.mono ?_;rintro e9 w3 ⟨rfl,hb⟩;have H3:=hide (H2.out.below okB.out hb);have HA3:=hide (aR HA.out hb);clear KV2 H2 HA hb b0 b1 b2 b3 b4 b5;dsimp only;cases hv:aX T with
  | false =>
   have HF:=hide (HV0.out hv _ (HBW.out _ _ H3.out));go_wp2;refine bodyPost_ret (results_tmp2 rfl _ _ _) rfl ?_;exact HF.out
  | true =>
   have HVF:=hide (HV1.out hv);clear hv HV0 HV1
   have KJ:=hide (show Calls Tryz.prog 49 #[.slice A nl c,.string ⟨#[]⟩] w3 (aP w3 (.string (bs (aW k x).flatten))) from by
    have:=Eh (c:=c) HA3.out HC.out (by rw [←HNL.out];omega) (by
     have:=ug (k:=k) (x:=x) (n:=(aW k x).length);rw [List.take_length] at this;have:=HX.out
     omega)
    rw [←HNL.out] at this
    exact this)
   go_wp2_with fail;refine KJ.out.mono ?_;rintro e9 w4 ⟨rfl,hb⟩;have H4:=hide (H3.out.below okB.out hb);have HA4:=hide (aR HA3.out hb);clear KJ H3 HA3 hb;dsimp only;go_upto_region 5 with (fail);have HBOX:=hide (fun W (h:Below w4.heap.size w4 W)=>bW (H4.out.below okB.out h));have HBW4:=hide (fun W X (h:Run (fun _=>False) w4 X W)=>(show Below w.heap.size w W from (HBW.out _ _ H4.out).trans ((h.mod.below (fun _ _ h=>h)).mono (HBW.out _ _ H4.out).size)));have HBX:=hide (fun W X (h:Run (fun _=>False) w4 X W)=>(show Below w4.heap.size w4 W from h.mod.below (fun _ _ h=>h)));have HAW:=hide (fun W X (h:Run (fun _=>False) w4 X W)=>(show fF W A (aW k x) from aR HA4.out (h.mod.below (fun _ _ h=>h))));have HPO:=hide (fun W A' c' (l:List Vr) (h:Run (fun _=>False) w4 (star (j3 A' c' l) emp) W)=>(show Post w (fun _=>False) (j3 A' c' l) W from ((H4.out.fresh okB.out (h.swap.drop.post nA)).swap.drop).post nA));have hn5:=(Run.begin w4).fresh aB (QN (p:=⟨(aW k x).flatten,-1,0⟩));have H5:=hide (show Run (fun _=>False) w4 (star (j3 (some ⟨w4.heap.size,0,none⟩) 1 (dZ T k x 0)) emp) (w4.alloc (.cells #[.string (bs (aW k x).flatten),.int .i64 (-1),.int .i64 0] 60)) from by rw [Ay];exact hn5);have e0:=hide (show (1:Nat)=(dZ T k x 0).length by rw [Ay];rfl);clear hn5 H4 HA4 HBW;generalize w4.alloc (.cells #[.string (bs (aW k x).flatten),.int .i64 (-1),.int .i64 0] 60)=w5 at *
   generalize (⟨w4.heap.size,0,none⟩:Addr)=a9 at *
   obtain ⟨b0,b1,b2,b3,b4,b5⟩:=HBOX.out _ (HBX.out _ _ H5.out);go_wp2_with fail;go_loopw [9,32] (fun v kk wr=>∃ (n:Nat) (A':Option Addr) (c':Nat),kk=.int .i64 n∧n≤n3∧v=.slice A' (dZ T k x n).length c'∧Run (fun _=>False) w4 (star (j3 A' c' (dZ T k x n)) emp) wr) (fun _ kk _=>n3 - (intOf kk).toNat)
   case atStart=>exact ⟨0,_,1,rfl,Nat.zero_le _,by rw [←e0.out],H5.out⟩
   case round =>
    clear H5 e0 b0 b1 b2 b3 b4 b5;obtain ⟨n,A',c',rfl,hn,rfl,hR⟩:=hrel;have HR:=hide hR;clear hR;by_cases hlt:n < n3
    ·have hnd:n < T.es.length:=by rw [←HN3.out];exact hlt
     obtain ⟨b,o,rfl,hcc⟩:=j6.at HES.out (by omega);obtain ⟨c0,c1,c2⟩:=hcc _ (HBW4.out _ _ HR.out) n hnd;have hnb:(n:Int) < 1000000:=by have:=HLE.out;omega
     have HN1:=hide (show n+1≤n3 from hlt);have HDW:=hide (HSE.out _ (List.getElem_mem hnd));have HST:=hide (Kz (T:=T) (k:=k) (x:=x) hnd);have HVL:=hide (Ez (T:=T) (k:=k) (x:=x) (n:=n));clear hcc hn;generalize T.es[n]=d at *
     clear hnd;obtain ⟨dk,dw,dc⟩:=d;dsimp only at c0 c1 c2 HDW;have okV:=hide (aj nA aB:(star (j3 A' c' (dZ T k x n)) emp).Ok);go_upto_region 8 with (fail);have H7:=hide (aG HR.out okV.out #[.int .i64 dk,.string (bs dw),.int .i64 dc] 104);clear c0 c1 c2 HR;generalize wr.alloc (.cells #[.int .i64 dk,.string (bs dw),.int .i64 dc] 104)=w7 at *
     generalize wr.heap.size=g11 at *
     obtain ⟨d0,d1,d2⟩:=cK H7.out;have okD:=hide (aj av okV.out:(star (au g11 #[.int .i64 dk,.string (bs dw),.int .i64 dc] 104) (star (j3 A' c' (dZ T k x n)) emp)).Ok);by_cases hk1:dk=k
     ·have k1:(dk != k)=false:=by simp [hk1]
      have KD:=hide (KLD.out w7 (HBW4.out _ _ H7.out) dw HDW.out);have HK1:=hide hk1;clear hk1;go_wp2_with fail;refine KD.out.mono ?_;rintro e9 w8 ⟨A2,c2,rfl,hb,hA2,hc2⟩;have H8:=hide (H7.out.below okD.out hb);have HA2:=hide hA2;clear KD H7 hb hA2 d0 d1 d2;obtain ⟨d0,d1,d2⟩:=cK H8.out;obtain ⟨ne,hne⟩:∃ n,n=(aW k dw).length:=⟨_,rfl⟩;have HNE:=hide hne;rw [←hne] at hc2 ⊢;have hneb:ne≤12:=by
       rw [hne];by_cases hw2:word k dw=true
       ·exact (dI hw2).2
       ·unfold aW;rw [if_neg hw2];exact Nat.zero_le _
      clear hne;dsimp only;by_cases hle:ne < nl
      ·obtain ⟨m,hm⟩:∃ m,m+ne=nl:=⟨nl - ne,by omega⟩;have HM:=hide hm;have tw:wrap64 ((nl:Int) - (ne:Int))=(m:Int):=by rw [IntWalk.wrap64_in _ (by omega)];omega
       have t1:decide (0 < (m:Int))=true:=decide_eq_true (by omega);have t1':decide (0 < m)=true:=decide_eq_true (by omega);have h0m:0 < m:=by omega
       have HSL:∀ W',(Instr.slice 26 (.slice A nl c) (some (.int .i64 (m:Int))) none none).run Tryz.prog W'=.ok (.slice (uV A c m 1) (nl - m) (c - m)) W':=fun W'=>xX Bb A nl c m .i64 (m:Int) rfl (by omega) W'
       have KE:=hide (show Calls Tryz.prog 50 #[.slice (uV A c m 1) (nl - m) (c - m),.slice A2 ne c2] w8 (aP w8 (.bool (decide ((aW k x).drop m=aW k dw)))) from by
        have:=zS (c:=c - m) (d:=c2) (Hq (HAW.out _ _ H8.out) (show m≤(aW k x).length by rw [←HNL.out];omega) HC.out) HA2.out (by rw [List.length_drop,←HNL.out];omega) (by rw [←HNE.out];omega);rw [List.length_drop,←HNL.out,←HNE.out] at this
        exact this)
       have te:(nl:Int) - (ne:Int)=(m:Int):=by omega
       clear hm tw;go_upto_region 11 with (fail);clear te;go_wp2_with fail;refine KE.out.mono ?_;rintro e9 w9 ⟨rfl,hb⟩;have H9:=hide (H8.out.below okD.out hb);clear KE HSL H8 HA2 hb d0 d1 d2;dsimp only;by_cases heq:(aW k x).drop m=aW k dw
       ·rw [decide_eq_true heq]
        have HST2:=hide (show dZ T k x (n+1)=dZ T k x n ++ [⟨((aW k x).take m).flatten,n,dc⟩] from by
         rw [HST.out,QO HK1.out (by have:=HM.out;have:=HNL.out;have:=HNE.out;dsimp only;omega) h0m heq])
        have KJ2:=hide (fun W (hb:Below w9.heap.size w9 W)=>(show Calls Tryz.prog 49 #[.slice A m c,.string ⟨#[]⟩] W (aP W (.string (bs ((aW k x).take m).flatten))) from by
         have hlt:((aW k x).take m).length=m:=by rw [List.length_take,←HNL.out];have:=HM.out;omega
         have:=Eh (c:=c) (CS m (aR (HAW.out _ _ H9.out) hb)) (by rw [hlt];have:=HM.out;have:=HC.out;have:=HNL.out;omega) (by rw [hlt];have:=HM.out;omega) (by
          have:=ug (k:=k) (x:=x) (n:=m);have:=HX.out
          omega)
         rw [hlt] at this
         exact this))
        have HSL2:∀ W',(Instr.slice 26 (.slice A nl c) none (some (.int .i64 (m:Int))) none).run Tryz.prog W'=.ok (.slice A m c) W':=fun W'=>Bt Bb A nl c m .i64 (m:Int) rfl (by have:=HM.out;omega) W';have H10:=hide (H9.out.drew okD.out);have hvl:(dZ T k x n).length≤1000000:=by have:=HVL.out;omega
        have hBd:=(Below.refl w9.heap.size w9).drew;have KJ3:=hide (KJ2.out _ hBd);clear heq HST hBd;go_upto_region 12 with (fail);refine qJ [4,9,10] [2,0,0,0,1,1,1,1,1,2,3,3] (fun w'=>w'.cell? ⟨g11,2,none⟩=some (.int .i64 dc)) [fun w'=>w'.cell? ⟨g11,2,none⟩=some (.int .i64 dc),fun _=>True,fun _=>True] ⟨fun _ h=>h,fun _ _=>trivial,fun _ _=>trivial,trivial⟩ rfl (by kernel_rfl) (by kernel_rfl) (by kernel_rfl) (cK H10.out).2.2 ?_;generalize World.drew _=w10 at *
        clear H9 KJ2
        (repeat (first | (refine fG (by rfl) (by rfl) ?_;try simp only [Act.put,List.setIfInBounds_toArray,List.set_cons_zero,List.set_cons_succ]) | (refine dW (v:=?_) (by rfl) (by rfl) ?_ ?_;rotate_left;(focus (intro w' hS';(try simp only [xM] at hS');go_simp;(try with_reducible rfl);done));try simp only [Act.put,List.setIfInBounds_toArray,List.set_cons_zero,List.set_cons_succ])))
        refine dO rfl (by rfl) (fun K hK=>?_);go_wp2_with fail;refine KJ3.out.mono ?_;rintro e9 w11 ⟨rfl,hb⟩;have H11:=hide (H10.out.below okD.out hb);clear KJ3 H10 hb HSL2;dsimp only;refine hK.out _ _ (cK H11.out).2.2 ?_;clear hK
        (repeat (first | (refine fG (by rfl) (by rfl) ?_;try simp only [Act.put,List.setIfInBounds_toArray,List.set_cons_zero,List.set_cons_succ]) | (refine dW (v:=?_) (by rfl) (by rfl) ?_ ?_;rotate_left;(focus (intro w' hS';(try simp only [xM] at hS');go_simp;(try with_reducible rfl);done));try simp only [Act.put,List.setIfInBounds_toArray,List.set_cons_zero,List.set_cons_succ])))
        refine dO rfl (by rfl) (fun K hK=>?_);go_wp2_with fail;have H12:=hide (aG H11.out okD.out #[.string (bs ((aW k x).take m).flatten),.int .i64 (n:Int),.int .i64 dc] 60);clear H11;generalize w11.alloc (.cells #[.string (bs ((aW k x).take m).flatten),.int .i64 (n:Int),.int .i64 dc] 60)=w12 at *
        generalize w11.heap.size=gN at *
        refine hK.out _ _ trivial ?_;clear hK
        (repeat (first | (refine fG (by rfl) (by rfl) ?_;try simp only [Act.put,List.setIfInBounds_toArray,List.set_cons_zero,List.set_cons_succ]) | (refine dW (v:=?_) (by rfl) (by rfl) ?_ ?_;rotate_left;(focus (intro w' hS';(try simp only [xM] at hS');go_simp;(try with_reducible rfl);done));try simp only [Act.put,List.setIfInBounds_toArray,List.set_cons_zero,List.set_cons_succ])))
        refine dO rfl (by rfl) (fun K hK=>?_);obtain ⟨p0,p1,p2⟩:=cK H12.out
        refine wE Uo (by decide) (.tmp 59) (.tmp 68) rfl (A:=A') (c:=c') (n:=(dZ T k x n).length) (g:=gN) (xs:=(dZ T k x n).flatMap jD) (cs:=jD ⟨((aW k x).take m).flatten,n,dc⟩) rfl rfl hvl (aj av (aj av aB)) (H12.out.perm (by unfold j3;ac_rfl:_=star (aS 60 3 (.slice A' (dZ T k x n).length c') (dZ T k x n).length ((dZ T k x n).flatMap jD)) (star (au gN #[.string (bs ((aW k x).take m).flatten),.int .i64 (n:Int),.int .i64 dc] 60) (star (au g11 #[.int .i64 dk,.string (bs dw),.int .i64 dc] 104) emp)))) rfl (fun u hu=>yR [⟨((aW k x).take m).flatten,n,dc⟩] u (by simpa [jD] using hu)) (fun j u hu=>by
         unfold jD at hu
         match j,hu with
         | 0,hu=>simp at hu;subst hu;exact p0
         | 1,hu=>simp at hu;subst hu;exact p1
         | 2,hu=>simp at hu;subst hu;exact p2
         | j+3,hu=>simp at hu) ?_
        intro A9 c9 w13 hr13;rw [Oe rfl] at hr13;have H13:=hide hr13;clear hr13 H12 p0 p1 p2;refine hK.out _ _ trivial ?_;clear hK
        (repeat (first | (refine fG (by rfl) (by rfl) ?_;try simp only [Act.put,List.setIfInBounds_toArray,List.set_cons_zero,List.set_cons_succ]) | (refine dW (v:=?_) (by rfl) (by rfl) ?_ ?_;rotate_left;(focus (intro w' hS';(try simp only [xM] at hS');go_simp;(try with_reducible rfl);done));try simp only [Act.put,List.setIfInBounds_toArray,List.set_cons_zero,List.set_cons_succ])))
        refine sD ?_;have hl2:(dZ T k x n).length+1=(dZ T k x (n+1)).length:=by rw [HST2.out,List.length_append];rfl
        rw [hl2];clear hl2;go_wp2_with fail
        go_roundw
        case rel=>exact ⟨n+1,A9,c9,by go_num,HN1.out,rfl,by rw [HST2.out];exact (H13.out.perm (by ac_rfl:_=star (au gN #[.string (bs ((aW k x).take m).flatten),.int .i64 (n:Int),.int .i64 dc] 60) (star (au g11 #[.int .i64 dk,.string (bs dw),.int .i64 dc] 104) (star (j3 A9 c9 (dZ T k x n ++ [⟨((aW k x).take m).flatten,n,dc⟩])) emp)))).drop.drop⟩
        case measure=>have:=HN1.out;simp [intOf];omega
       ·rw [decide_eq_false heq]
        have HST2:=hide (show dZ T k x (n+1)=dZ T k x n from by
         rw [HST.out,QU (by have:=HM.out;have:=HNL.out;have:=HNE.out;dsimp only;omega) heq,List.append_nil])
        clear heq HST;go_wp2_with fail
        go_roundw
        case rel=>exact ⟨n+1,A',c',by go_num,HN1.out,by rw [HST2.out],by rw [HST2.out];exact H9.out.drop⟩
        case measure=>have:=HN1.out;simp [intOf];omega
      ·have tw:wrap64 ((nl:Int) - (ne:Int))=(nl:Int) - (ne:Int):=IntWalk.wrap64_in _ (by omega);have t1:decide (0 < (nl:Int) - (ne:Int))=false:=decide_eq_false (by omega)
       have HST2:=hide (show dZ T k x (n+1)=dZ T k x n from by
        rw [HST.out,QT (by have:=HNL.out;have:=HNE.out;dsimp only;omega),List.append_nil])
       clear HST HA2;go_wp2_with fail
       go_roundw
       case rel=>exact ⟨n+1,A',c',by go_num,HN1.out,by rw [HST2.out],by rw [HST2.out];exact H8.out.drop⟩
       case measure=>have:=HN1.out;simp [intOf];omega
     ·have k1:(dk != k)=true:=by simp [hk1]
      have HST2:=hide (show dZ T k x (n+1)=dZ T k x n from by
       rw [HST.out,QS hk1,List.append_nil])
      clear hk1 HST;go_wp2_with fail
      go_roundw
      case rel=>exact ⟨n+1,A',c',by go_num,HN1.out,by rw [HST2.out],by rw [HST2.out];exact H7.out.drop⟩
      case measure=>have:=HN1.out;simp [intOf];omega
    ·have hen:=Ey (T:=T) (k:=k) (x:=x) (n:=n) (by have:=HN3.out;omega);have HF:=hide (HVF.out wr A' c' (by rw [←hen];exact HPO.out _ _ _ _ HR.out));rw [hen];clear hen HR;go_wp2;refine bodyPost_ret (results_tmp2 rfl _ _ _) rfl ?_;exact HF.out
 ·have hl0:aW k x=[]:=by unfold aW;rw [if_neg hw]
  have e2:je T k x=([],1):=by unfold je;rw [Bool.not_eq_true] at hw;rw [hw];rfl
  have HV0:=hide (show ∀ W',Below w.heap.size w W'→nC w T k x (.returned (.tuple #[.slice none 0 0,.int .i64 1])) W' from fun W' hb=>⟨none,0,by rw [e2];rfl,by rw [e2];exact I8 hb⟩);unfold NH at KL;rw [hl0] at KL;clear e2 hw
  go_enter Tryz.func22,Tryz.ntmps22
  go_wp2_with fail;refine KL.out.mono ?_;rintro e9 w2 ⟨A,c,rfl,hb,hA,hc⟩;have HF:=hide (HBW.out _ _ (H1.out.below okB.out hb));clear KL KV hb hA hc;dsimp only;simp only [List.length_nil];go_wp2;refine bodyPost_ret (results_tmp2 rfl _ _ _) rfl ?_;exact HV0.out _ HF.out
end Go.Proofs.YtbnnlpjpnihheaaGreatDoor
namespace Go.Proofs.YtbnnlpjpnihheaaGreatDoor
open Go.RowKit Go.CH Go.CH.Scr Go.CH.dK Go.CH.Mtc
open Go.ChangeMaps (setBlock)

structure WW where
 V:Option Addr
 vc:Nat
 L:Option Addr
 lc:Nat

structure uh where
 k:Int
 vs:List Vr
 ls:List Bs
def cu (T:Tab) (k:Int) (x:Bs):uh:=⟨k,bV T k x,aW k x⟩
def noW:uh:=⟨0,[],[]⟩
def lu (u:uh) (a:WW):Array Value:=#[.int .i64 u.k,.slice a.V u.vs.length a.vc,.slice a.L u.ls.length a.lc]
def nP (u:uh) (a:WW):Value:=.agg (lu u a)
structure iB (w:World) (u:uh) (a:WW):Prop where
 vs:BP w a.V u.vs
 ls:fF w a.L u.ls
theorem iB.below {w w':World} {u:uh} {a:WW} (h:iB w u a) (hb:Below w.heap.size w w'):iB w' u a:=⟨h.vs.below hb,aR h.ls hb⟩

def kZ (T:Tab) (k:Int) (x:Bs):uh × Bool:=if word k x && aX T then (cu T k x,true) else (noW,false)
def yS (w:World) (T:Tab) (k:Int) (x:Bs) (e:Ending) (w':World):Prop :=
 ∃ a:WW,e=.returned (.tuple #[nP (kZ T k x).1 a,.bool (kZ T k x).2])∧Below w.heap.size w w'∧iB w' (kZ T k x).1 a
def lV (u:uh) (a:WW):CH.Own:=star (j3 a.V a.vc u.vs) (ig a.L a.lc u.ls)
theorem wF {u:uh} {a:WW}:(lV u a).Ok:=aj nA dX
theorem Og {w:World} {F:Nat→Prop} {u:uh} {a:WW} (h:lV u a w F):iB w u a:=by
 obtain ⟨F1,F2,h1,h2,-,-⟩:=h;exact ⟨Od h1,wU h2⟩
theorem Oh {w w':World} (hb:Below w.heap.size w w'):Post w (fun _=>False) (star (j3 none 0 []) (ig none 0 [])) w':=by
 have h1:=((Run.begin w).below aB hb).fresh aB (⟨fun _=>False,fH _ _ _,Mod.refl _ _,fun i hi=>.inl hi⟩:Post _ (fun _=>False) (j3 none 0 []) _);have h2:=h1.fresh (aj nA aB) (⟨fun _=>False,fH _ _ _,Mod.refl _ _,fun i hi=>.inl hi⟩:Post _ (fun _=>False) (ig none 0 []) _);exact ((h2.perm (by ac_rfl:_=star emp (star (j3 none 0 []) (ig none 0 [])))).drop).post (aj nA dX)
def yT (w:World) (T:Tab) (k:Int) (x:Bs) (e:Ending) (w':World):Prop :=
 ∃ a:WW,e=.returned (.tuple #[nP (kZ T k x).1 a,.bool (kZ T k x).2])∧Post w (fun _=>False) (lV (kZ T k x).1 a) w'
theorem Rx {tmps:Array Value} {w:World} {g:Nat} {cs:Array Value} (h:tmps.getD 6 undef=.pointer (some ⟨g,0,none⟩)) (hs:cs.size=3) (hc:w.heap[g]?=some (.cells cs 77)) {v:Value} (hv:tmps.getD 7 undef=v):(results Tryz.f43 tmps).run Tryz.prog w=.ok (.tuple #[.agg cs,v]) w:=by
 subst hv;exact bZ rfl tmps w g 77 cs (0,0) h hc Tryz.underlying77 (by rw [hs];kernel_rfl)
theorem yU {w:World} {T:Tab} {a:TA} (hT:jJ w T a) (hz:LZ w) (k:Int) (x:Bs) (hx:x.length≤1000000) :
  Calls Tryz.prog 43 #[eZ T a,.int .i64 k,.string (bs x)] w (yT w T k x):=by
 have h1:=aG (Run.begin w) aB (dA T a) 25;have h2:=aG h1 (aj av aB) #[.int .i64 0,.slice none 0 0,.slice none 0 0] 77;rw [World.size_alloc] at h2;have H2:=hide h2;have HBW:=hide (fun W X (h:Run (fun _=>False) w X W)=>(show Below w.heap.size w W from h.mod.below (fun _ _ h=>h)));have hB2:Below w.heap.size w _:=h2.mod.below (fun _ _ h=>h);have KV:=hide (nD (hT.below hB2) (hz.below hB2) k x hx);have KF:=hide (fun W (hb:Below w.heap.size w W)=>BJ k x W hx (hz.below hb));have KL:=hide (fun W (hb:Below w.heap.size w W)=>jR k (bs (lower x)) W (by rw [bX];unfold lower;rw [List.length_map];exact hx) (hz.below hb));simp only [gQ] at KL;clear hT hz h1 h2 hB2 hx;unfold eZ at KV ⊢;unfold dA at H2 KV ⊢;generalize T.rs.length=n1 at *
 generalize T.ds.length=n2 at *
 generalize T.es.length=n3 at *
 obtain ⟨aA,ac,aD,ad,aE,ae⟩:=a;dsimp only at H2 KV ⊢;have okX:=hide (aj av (aj av aB):(star (au (w.heap.size+1) #[.int .i64 0,.slice none 0 0,.slice none 0 0] 77) (star (au w.heap.size #[.slice aA n1 ac,.slice aD n2 ad,.slice aE n3 ae,.int .i64 T.drop,.int .i64 T.ord,.int .i64 T.ini] 25) emp)).Ok);by_cases hwv:(word k x && aX T)=true
 ·have hw:word k x=true:=by rw [Bool.and_eq_true] at hwv;exact hwv.1
  have e1:je T k x=(bV T k x,0):=by unfold je;rw [if_pos hwv]
  have e2:fO k x=(lower x,0):=by unfold fO;rw [if_pos hw]
  have e3:aT k (lower x)=(aW k x,0):=by unfold aT;rw [if_pos (fU hw),mY hw]
  have HF:=hide (show ∀ (W:World) V vc L lc,Post w (fun _=>False) (star (j3 V vc (bV T k x)) (ig L lc (aW k x))) W→yT w T k x (.returned (.tuple #[.agg #[.int .i64 k,.slice V (bV T k x).length vc,.slice L (aW k x).length lc],.bool true])) W from fun W V vc L lc hb=>by
   have e:kZ T k x=(cu T k x,true):=by unfold kZ;rw [if_pos hwv]
   exact ⟨⟨V,vc,L,lc⟩,by rw [e];rfl,by rw [e];exact hb⟩)
  unfold nC at KV;rw [e1] at KV;unfold aP at KF;simp only [e2] at KF;unfold mO at KL;simp only [e3] at KL;clear e1 e2 e3 hw hwv
  go_enter Tryz.func43,Tryz.ntmps43
  go_wp2_with fail;refine KV.out.mono ?_;rintro e9 w2 ⟨V,vc,rfl,hp⟩;have H3:=hide (H2.out.fresh okX.out hp);have okY:=hide (aj nA okX.out:(star (j3 V vc (bV T k x)) (star (au (w.heap.size+1) #[.int .i64 0,.slice none 0 0,.slice none 0 0] 77) (star (au w.heap.size #[.slice aA n1 ac,.slice aD n2 ad,.slice aE n3 ae,.int .i64 T.drop,.int .i64 T.ord,.int .i64 T.ini] 25) emp))).Ok);have KF2:=hide (KF.out w2 (HBW.out _ _ H3.out));clear KV KF H2 hp;dsimp only;generalize hnv:(bV T k x).length=nv at *
  clear hnv;go_wp2_with fail;refine KF2.out.mono ?_;rintro e9 w3 ⟨rfl,hb⟩;have H4:=hide (H3.out.below okY.out hb);have KL2:=hide (KL.out w3 (HBW.out _ _ H4.out));clear KF2 KL H3 hb;dsimp only;go_wp2_with fail;refine KL2.out.mono ?_;rintro e9 w4 ⟨L,lc,rfl,hp⟩;have H5:=hide ((H4.out.fresh okY.out hp).perm (by ac_rfl:_=star (au (w.heap.size+1) #[.int .i64 0,.slice none 0 0,.slice none 0 0] 77) (star (ig L lc (aW k x)) (star (j3 V vc (bV T k x)) (star (au w.heap.size #[.slice aA n1 ac,.slice aD n2 ad,.slice aE n3 ae,.int .i64 T.drop,.int .i64 T.ord,.int .i64 T.ini] 25) emp)))));have okZ:=hide (aj dX (aj nA (aj av aB)):(star (ig L lc (aW k x)) (star (j3 V vc (bV T k x)) (star (au w.heap.size #[.slice aA n1 ac,.slice aD n2 ad,.slice aE n3 ae,.int .i64 T.drop,.int .i64 T.ord,.int .i64 T.ini] 25) emp))).Ok);clear KL2 H4 hp;dsimp only;generalize hnl:(aW k x).length=nl at *
  clear hnl;obtain ⟨f1,hf1⟩:=H5.out.fst;have c0:=ay (i:=0) hf1 rfl;have c1:=ay (i:=1) hf1 rfl;have c2:=ay (i:=2) hf1 rfl;have cf:=aJ hf1;clear hf1 f1;have h60:=aH H5.out okZ.out 0 (.int .i64 k);have h61:=aH h60 okZ.out 1 (.slice V nv vc);have h62:=aH h61 okZ.out 2 (.slice L nl lc);have H6:=hide (show Run (fun _=>False) w (star (au (w.heap.size+1) #[.int .i64 k,.slice V nv vc,.slice L nl lc] 77) (star (ig L lc (aW k x)) (star (j3 V vc (bV T k x)) (star (au w.heap.size #[.slice aA n1 ac,.slice aD n2 ad,.slice aE n3 ae,.int .i64 T.drop,.int .i64 T.ord,.int .i64 T.ini] 25) emp)))) (((w4.setCell ⟨w.heap.size+1,0,none⟩ (.int .i64 k)).setCell ⟨w.heap.size+1,1,none⟩ (.slice V nv vc)).setCell ⟨w.heap.size+1,2,none⟩ (.slice L nl lc)) from h62);clear h60 h61 h62 H5;go_wp2;obtain ⟨f2,hf2⟩:=H6.out.fst;refine bodyPost_ret (Rx rfl rfl hf2.1 rfl) rfl ?_;exact HF.out _ _ _ _ _ (((H6.out.perm (by ac_rfl:_=star (star (au (w.heap.size+1) #[.int .i64 k,.slice V nv vc,.slice L nl lc] 77) (star (au w.heap.size #[.slice aA n1 ac,.slice aD n2 ad,.slice aE n3 ae,.int .i64 T.drop,.int .i64 T.ord,.int .i64 T.ini] 25) emp)) (star (j3 V vc (bV T k x)) (ig L lc (aW k x))))).drop).post (aj nA dX))
 ·have HF:=hide (show ∀ (W:World),Below w.heap.size w W→yT w T k x (.returned (.tuple #[.agg #[.int .i64 0,.slice none 0 0,.slice none 0 0],.bool false])) W from fun W hb=>by
   have e:kZ T k x=(noW,false):=by unfold kZ;rw [if_neg hwv]
   exact ⟨⟨none,0,none,0⟩,by rw [e];rfl,by rw [e];exact Oh hb⟩)
  have e1:je T k x=([],1):=by unfold je;rw [if_neg hwv]
  unfold nC at KV;rw [e1] at KV;clear e1 hwv KF KL
  go_enter Tryz.func43,Tryz.ntmps43
  go_wp2_with fail;refine KV.out.mono ?_;rintro e9 w2 ⟨V,vc,rfl,hp⟩;have H3:=hide ((H2.out.fresh okX.out hp).drop);clear KV H2 hp;dsimp only;simp only [List.length_nil];obtain ⟨f1,hf1⟩:=H3.out.fst;have c0:=ay (i:=0) hf1 rfl;have c1:=ay (i:=1) hf1 rfl;have c2:=ay (i:=2) hf1 rfl;have cf:=aJ hf1;clear hf1 f1;have h60:=aH H3.out (aj av aB) 0 (.int .i64 0);have h61:=aH h60 (aj av aB) 1 (.slice none 0 0);have h62:=aH h61 (aj av aB) 2 (.slice none 0 0);have H6:=hide (show Run (fun _=>False) w (star (au (w.heap.size+1) #[.int .i64 0,.slice none 0 0,.slice none 0 0] 77) (star (au w.heap.size #[.slice aA n1 ac,.slice aD n2 ad,.slice aE n3 ae,.int .i64 T.drop,.int .i64 T.ord,.int .i64 T.ini] 25) emp)) (((w2.setCell ⟨w.heap.size+1,0,none⟩ (.int .i64 0)).setCell ⟨w.heap.size+1,1,none⟩ (.slice none 0 0)).setCell ⟨w.heap.size+1,2,none⟩ (.slice none 0 0)) from h62);clear h60 h61 h62 H3;go_wp2;obtain ⟨f2,hf2⟩:=H6.out.fst;refine bodyPost_ret (Rx rfl rfl hf2.1 rfl) rfl ?_;exact HF.out _ (HBW.out _ _ H6.out)
theorem yV {w:World} {T:Tab} {a:TA} (hT:jJ w T a) (hz:LZ w) (k:Int) (x:Bs) (hx:x.length≤1000000) :
  Calls Tryz.prog 43 #[eZ T a,.int .i64 k,.string (bs x)] w (yS w T k x) :=
 (yU hT hz k x hx).mono fun e w' ⟨a,h1,h2⟩=>⟨a,h1,by
  obtain ⟨F,h3,h4,-⟩:=h2
  exact ⟨h4.below (fun _ _ h=>h),Og h3⟩⟩
end Go.Proofs.YtbnnlpjpnihheaaGreatDoor
namespace Go.Proofs.YtbnnlpjpnihheaaGreatDoor
open Go.RowKit Go.CH Go.CH.Scr Go.CH.dK Go.CH.Mtc
open Go.ChangeMaps (setBlock)
attribute [local go_sem] Oper.semAt_some

def Zy (u v:uh) (a c:WW) (T:Tab) (t:TA) (b1 b2 b3:Nat):CH.Own:=star (au b1 (lu u a) 77) (star (au b2 (lu v c) 77) (au b3 (dA T t) 25))
theorem jf {u v:uh} {a c:WW} {T:Tab} {t:TA} {b1 b2 b3:Nat}:(Zy u v a c T t b1 b2 b3).Ok:=aj av (aj av av)
def jk (w:Wy):Array Value:=#[.int .i64 0,.int .i64 0,.int .i64 w.kd,.int .i64 w.l,.int .i64 w.r,.int .i64 w.c,.int .i64 0,.slice none 0 0,.slice none 0 0,.string ⟨#[]⟩,.string (bs w.x),.string (bs w.y)]
def GH (w:Wy):Array Value:=#[.agg (jk w)]
theorem KP {F0:Nat→Prop} {w0 w:World} {g:Nat} {t:TypeId} {X:CH.Own} {a0 a1 a2 a3 a4 a5 a6 a7 a8 a9 a10 a11:Value} (h:Run F0 w0 (star (au g #[a0,a1,a2,a3,a4,a5,a6,a7,a8,a9,a10,a11] t) X) w) (hX:X.Ok) (b0 b1 b2 b3 b4 b5 b6 b7 b8 b9 b10 b11:Value) :
  Run F0 w0 (star (au g #[b0,b1,b2,b3,b4,b5,b6,b7,b8,b9,b10,b11] t) X) ((((((((((((w.setCell ⟨g,0,none⟩ b0).setCell ⟨g,1,none⟩ b1).setCell ⟨g,2,none⟩ b2).setCell ⟨g,3,none⟩ b3).setCell ⟨g,4,none⟩ b4).setCell ⟨g,5,none⟩ b5).setCell ⟨g,6,none⟩ b6).setCell ⟨g,7,none⟩ b7).setCell ⟨g,8,none⟩ b8).setCell ⟨g,9,none⟩ b9).setCell ⟨g,10,none⟩ b10).setCell ⟨g,11,none⟩ b11):=by
 have h0:Run F0 w0 (star (au g #[b0,a1,a2,a3,a4,a5,a6,a7,a8,a9,a10,a11] t) X) _:=aH h hX 0 b0;have h1:Run F0 w0 (star (au g #[b0,b1,a2,a3,a4,a5,a6,a7,a8,a9,a10,a11] t) X) _:=aH h0 hX 1 b1;have h2:Run F0 w0 (star (au g #[b0,b1,b2,a3,a4,a5,a6,a7,a8,a9,a10,a11] t) X) _:=aH h1 hX 2 b2;have h3:Run F0 w0 (star (au g #[b0,b1,b2,b3,a4,a5,a6,a7,a8,a9,a10,a11] t) X) _:=aH h2 hX 3 b3;have h4:Run F0 w0 (star (au g #[b0,b1,b2,b3,b4,a5,a6,a7,a8,a9,a10,a11] t) X) _:=aH h3 hX 4 b4;have h5:Run F0 w0 (star (au g #[b0,b1,b2,b3,b4,b5,a6,a7,a8,a9,a10,a11] t) X) _:=aH h4 hX 5 b5;have h6:Run F0 w0 (star (au g #[b0,b1,b2,b3,b4,b5,b6,a7,a8,a9,a10,a11] t) X) _:=aH h5 hX 6 b6;have h7:Run F0 w0 (star (au g #[b0,b1,b2,b3,b4,b5,b6,b7,a8,a9,a10,a11] t) X) _:=aH h6 hX 7 b7;have h8:Run F0 w0 (star (au g #[b0,b1,b2,b3,b4,b5,b6,b7,b8,a9,a10,a11] t) X) _:=aH h7 hX 8 b8;have h9:Run F0 w0 (star (au g #[b0,b1,b2,b3,b4,b5,b6,b7,b8,b9,a10,a11] t) X) _:=aH h8 hX 9 b9;have h10:Run F0 w0 (star (au g #[b0,b1,b2,b3,b4,b5,b6,b7,b8,b9,b10,a11] t) X) _:=aH h9 hX 10 b10;exact aH h10 hX 11 b11
structure Tw (u v:uh) (a c:WW) (w:World):Prop where
 u:iB w u a
 v:iB w v c
theorem Tw.below {u v:uh} {a c:WW} {w w':World} (h:Tw u v a c w) (hb:Below w.heap.size w w'):Tw u v a c w':=⟨h.u.below hb,h.v.below hb⟩
theorem mI {u v:uh} {a c:WW} {T:Tab} {t:TA} {b1 b2 b3:Nat} {F0:Nat→Prop} {w0 w:World} {X:CH.Own} (h:Run F0 w0 (star (Zy u v a c T t b1 b2 b3) X) w) :
  (w.cell? ⟨b1,0,none⟩=some (.int .i64 u.k)∧w.cell? ⟨b1,1,none⟩=some (.slice a.V u.vs.length a.vc)∧w.cell? ⟨b1,2,none⟩=some (.slice a.L u.ls.length a.lc)) ∧
  (w.cell? ⟨b2,0,none⟩=some (.int .i64 v.k)∧w.cell? ⟨b2,1,none⟩=some (.slice c.V v.vs.length c.vc)∧w.cell? ⟨b2,2,none⟩=some (.slice c.L v.ls.length c.lc))∧w.cell? ⟨b3,5,none⟩=some (.int .i64 T.ini):=by
 obtain ⟨f1,h1⟩:=(h.perm (by unfold Zy;ac_rfl:_=star (au b1 (lu u a) 77) (star (au b2 (lu v c) 77) (star (au b3 (dA T t) 25) X)))).fst;obtain ⟨f2,h2⟩:=(h.perm (by unfold Zy;ac_rfl:_=star (au b2 (lu v c) 77) (star (au b1 (lu u a) 77) (star (au b3 (dA T t) 25) X)))).fst;obtain ⟨f3,h3⟩:=(h.perm (by unfold Zy;ac_rfl:_=star (au b3 (dA T t) 25) (star (au b1 (lu u a) 77) (star (au b2 (lu v c) 77) X)))).fst;exact ⟨⟨ay h1 rfl,ay h1 rfl,ay h1 rfl⟩,⟨ay h2 rfl,ay h2 rfl,ay h2 rfl⟩,ay h3 rfl⟩

theorem vk (us vs:List Vr):(oI us vs).length=us.length*vs.length:=by
 unfold oI
 induction us with
 | nil=>simp
 | cons x us ih=>rw [List.flatMap_cons,List.length_append,List.length_map,ih,List.length_cons,Nat.succ_mul];omega
theorem Oi {us vs:List Vr}:∀ {i j:Nat} (hi:i < us.length) (hj:j < vs.length),(oI us vs)[i*vs.length+j]?=some (vU us[i] vs[j]):=by
 induction us with
 | nil=>intro i j hi;simp at hi
 | cons x us ih =>
  intro i j hi hj;have e:oI (x :: us) vs=vs.map (vU x) ++ oI us vs:=by unfold oI;rw [List.flatMap_cons]
  rw [e];cases i with
  | zero =>
   rw [Nat.zero_mul,Nat.zero_add,List.getElem?_append_left (by rw [List.length_map];exact hj),List.getElem?_map,List.getElem?_eq_getElem hj];rfl
  | succ i =>
   rw [List.getElem?_append_right (by rw [List.length_map,Nat.succ_mul];omega),List.length_map];have e2:(i+1)*vs.length+j - vs.length=i*vs.length+j:=by rw [Nat.succ_mul];omega
   rw [e2,ih (by simpa using hi) hj];rfl
theorem QV {ini:Int} {us vs:List Vr} {p q:List Bs} {i j:Nat} (hi:i < us.length) (hj:j < vs.length):∃ h:i*vs.length+j < (fA ini us vs p q).length,(fA ini us vs p q)[i*vs.length+j]=vU us[i] vs[j]:=by
 have h1:=Oi hi hj;have h2:(fA ini us vs p q)[i*vs.length+j]?=some (vU us[i] vs[j]):=by
  unfold fA;rw [List.getElem?_append_left (List.getElem?_eq_some_iff.1 h1).1];exact h1
 exact List.getElem?_eq_some_iff.1 h2
theorem Oj {ini:Int} {us vs:List Vr} {p q:List Bs} (hp:p.length=1):∃ h:us.length*vs.length < (fA ini us vs p q).length,(fA ini us vs p q)[us.length*vs.length]=iD 2 ini p q:=by
 have e:fA ini us vs p q=oI us vs ++ (iD 2 ini p q :: (if q.length=1 then [iD 3 ini p q] else [])):=by unfold fA;rw [if_pos hp];rfl
 have hl:=vk us vs;refine ⟨by rw [e,List.length_append,List.length_cons];omega,?_⟩;simp only [e];rw [List.getElem_append_right (by omega)];simp [hl]
theorem GI {ini:Int} {us vs:List Vr} {p q:List Bs} (hq:q.length=1) {n:Nat} (hn:n=us.length*vs.length+if p.length=1 then 1 else 0):(∃ h:n < (fA ini us vs p q).length,(fA ini us vs p q)[n]=iD 3 ini p q)∧n+1=(fA ini us vs p q).length:=by
 have e:fA ini us vs p q=(oI us vs ++ (if p.length=1 then [iD 2 ini p q] else [])) ++ [iD 3 ini p q]:=by unfold fA;rw [if_pos hq,List.append_assoc]
 have hl:=vk us vs;have hl2:(oI us vs ++ (if p.length=1 then [iD 2 ini p q] else [])).length=n:=by
  rw [List.length_append,hl,hn];split <;> rfl
 refine ⟨⟨by rw [e,List.length_append,hl2];exact Nat.lt_succ_self _,?_⟩,by rw [e,List.length_append,hl2];rfl⟩;simp only [e];rw [List.getElem_append_right (by omega)];simp [hl2]
theorem KQ {ini:Int} {us vs:List Vr} {p q:List Bs} (hq:q.length≠1) {n:Nat} (hn:n=us.length*vs.length+if p.length=1 then 1 else 0):n=(fA ini us vs p q).length:=by
 unfold fA;rw [List.length_append,vk,List.length_append,if_neg hq,hn];split <;> rfl
theorem GJ {l:List Bs} (h:0 < l.length):l[0]=hd0 l:=by
 cases l with
 | nil=>simp at h
 | cons z l=>rfl
theorem o7 {u v:uh} {a c:WW} {T:Tab} {t:TA} {b1 b2 b3:Nat} {F0:Nat→Prop} {w0 w:World} {X:CH.Own} (hX:X.Ok) (h:Run F0 w0 (star (Zy u v a c T t b1 b2 b3) X) w) (hr:Tw u v a c w) (hu:0 < u.ls.length) (hv:0 < v.ls.length) (kd:Int) :
  Calls Tryz.prog 94 #[.int .i64 kd,.pointer (some ⟨b3,0,none⟩),.pointer (some ⟨b1,0,none⟩),.pointer (some ⟨b2,0,none⟩)] w (aP w (.agg (jk (iD kd T.ini u.ls v.ls)))):=by
 obtain ⟨bu,ou,hau,hcu⟩:=hr.u.ls.at hu;obtain ⟨bv,ov,hav,hcv⟩:=hr.v.ls.at hv;have HZ:=hide (fun W (hb:Below w.heap.size w W)=>mI (h.below (aj jf hX) hb))
 have HCU:=hide (fun W (hb:Below w.heap.size w W)=>(show W.cell? ⟨bu,ou,none⟩=some (.string (bs (hd0 u.ls))) from by
  have h1:=hcu W hb 0 hu;rw [GJ hu] at h1
  exact h1))
 have HCV:=hide (fun W (hb:Below w.heap.size w W)=>(show W.cell? ⟨bv,ov,none⟩=some (.string (bs (hd0 v.ls))) from by
  have h1:=hcv W hb 0 hv;rw [GJ hv] at h1
  exact h1))
 have r1:Run (fun _=>False) w (star (au w.heap.size #[.int .i64 0,.int .i64 0,.int .i64 0,.int .i64 0,.int .i64 0,.int .i64 0,.int .i64 0,.slice none 0 0,.slice none 0 0,.string ⟨#[]⟩,.string ⟨#[]⟩,.string ⟨#[]⟩] 119) emp) _:=aG (Run.begin w) aB _ 119;have R1:=hide r1;clear hcu hcv h hX hr r1;rw [hau,hav] at HZ;clear hau hav;unfold jk iD;dsimp only;generalize hd0 u.ls=hx at *
 generalize hd0 v.ls=hy at *
 have hul:(0:Int) < (u.ls.length:Int):=by omega
 have hvl:(0:Int) < (v.ls.length:Int):=by omega
 generalize u.ls.length=nu at *
 generalize v.ls.length=nv at *
 go_enter Tryz.func94,Tryz.ntmps94
 go_upto_region 1 with (fail);generalize w.alloc (.cells #[.int .i64 0,.int .i64 0,.int .i64 0,.int .i64 0,.int .i64 0,.int .i64 0,.int .i64 0,.slice none 0 0,.slice none 0 0,.string ⟨#[]⟩,.string ⟨#[]⟩,.string ⟨#[]⟩] 119)=w1 at *
 have HBW:=hide (fun W X (h:Run (fun _=>False) w X W)=>(show Below w.heap.size w W from h.mod.below (fun _ _ h=>h)));have R2:=hide (R1.out.drew (aj av aB));have hS:∀ W,Below w.heap.size w W→W.cell? ⟨b1,2,none⟩=some (.slice (some ⟨bu,ou,none⟩) nu a.lc)∧W.cell? ⟨b2,2,none⟩=some (.slice (some ⟨bv,ov,none⟩) nv c.lc)∧W.cell? ⟨b3,5,none⟩=some (.int .i64 T.ini)∧W.cell? ⟨bu,ou,none⟩=some (.string (bs hx))∧W.cell? ⟨bv,ov,none⟩=some (.string (bs hy)):=fun W hb=>by
  obtain ⟨⟨-,-,z1⟩,⟨-,-,z2⟩,z3⟩:=HZ.out W hb;exact ⟨z1,z2,z3,HCU.out W hb,HCV.out W hb⟩
 have hS0:=hS _ (HBW.out _ _ R2.out);clear hS R1;refine fJ (fun W=>W.cell? ⟨b1,2,none⟩=some (.slice (some ⟨bu,ou,none⟩) nu a.lc)∧W.cell? ⟨b2,2,none⟩=some (.slice (some ⟨bv,ov,none⟩) nv c.lc)∧W.cell? ⟨b3,5,none⟩=some (.int .i64 T.ini)∧W.cell? ⟨bu,ou,none⟩=some (.string (bs hx))∧W.cell? ⟨bv,ov,none⟩=some (.string (bs hy))) rfl (by kernel_rfl) (by kernel_rfl) hS0 ?_;clear hS0 HZ HCU HCV;generalize w1.drew=w2 at *
 (repeat ((first | refine jU (by rfl) ?_ | (refine jV (v:=?_) (by rfl) ?_ ?_;rotate_left;(focus (intro w' hS';go_simp;(try with_reducible rfl);done))));try simp only [Act.put,List.setIfInBounds_toArray,List.set_cons_zero,List.set_cons_succ]))
 refine kV rfl (by rfl) (fun K hK=>?_);obtain ⟨f1,hf1⟩:=R2.out.fst;have c0:=ay (i:=0) hf1 rfl;have c1:=ay (i:=1) hf1 rfl;have c2:=ay (i:=2) hf1 rfl;have c3:=ay (i:=3) hf1 rfl;have c4:=ay (i:=4) hf1 rfl;have c5:=ay (i:=5) hf1 rfl;have c6:=ay (i:=6) hf1 rfl;have c7:=ay (i:=7) hf1 rfl;have c8:=ay (i:=8) hf1 rfl;have c9:=ay (i:=9) hf1 rfl;have c10:=ay (i:=10) hf1 rfl;have c11:=ay (i:=11) hf1 rfl;have cf:=aJ hf1;clear hf1 f1;have R3:=hide (KP R2.out aB (.int .i64 0) (.int .i64 0) (.int .i64 kd) (.int .i64 (-1)) (.int .i64 (-1)) (.int .i64 T.ini) (.int .i64 0) (.slice none 0 0) (.slice none 0 0) (.string ⟨#[]⟩) (.string (bs hx)) (.string (bs hy)));go_wp2;refine hK.out _ _ ?_;clear hK;go_wp2;obtain ⟨f,hf⟩:=R3.out.fst;refine bodyPost_ret (results_cell_row rfl _ _ w.heap.size 119 _ (0,0) _ rfl hf.1 Tryz.underlying119 rfl (by kernel_rfl)) rfl ?_;exact ⟨rfl,HBW.out _ _ R3.out⟩
end Go.Proofs.YtbnnlpjpnihheaaGreatDoor
namespace Go.CH
open Go.RowKit

def M5 {α:Type} (P:Program) (gf:Nat) (lb:Array Value) (E:World→Prop) (Z0:Own) (enc:α→Array Value) (xs:List α):Prop :=
 ∀ (n l:Nat) (W:World) (F0:Nat→Prop) (w0:World) (X:Nat→Own) (Y:Own),(∀ i,(X i).Ok)→Y.Ok→(∀ W,Mod F0 w0 W→E W)→Run F0 w0 (star Z0 (X 0)) W →
  (∀ Z:Own,Z.Ok→∀ i (hi:i < xs.length) W1,Run F0 w0 (star Z (X i)) W1→YieldAt Fence.wide (n - 1) P l (enc xs[i]) W1 fun e W' =>
   (e=.returned (.bool true)∧Run F0 w0 (star Z (X (i+1))) W')∨(e=.returned (.bool false)∧Run F0 w0 (star Z Y) W')) →
  CallsIn Fence.wide n P gf (#[.func (.yield l) #[] #[]] ++ lb) W fun e W'=>(∃ v,e=.returned v)∧∃ Z:Own,Z.Ok∧(Run F0 w0 (star Z (X xs.length)) W'∨Run F0 w0 (star Z Y) W')
theorem mZ {α:Type} {P:Program} {g:Operand} {ps:Array Tmp} {assign body:Code} {Q:Exit→Act→World→Prop} {a:Act} {w:World} {gf:Nat} {lb:Array Value}
  (hg:a.eval g=.func (.func gf) #[] lb) (eg:∀ args w,(callFunc gf args).run P w=.ok (.enter gf args) w) {E:World→Prop} {Z0:Own} {enc:α→Array Value} {xs:List α}
  (hit:M5 P gf lb E Z0 enc xs) (hZ0:Z0.Ok) (hps:∀ x,(enc x).size=ps.size)
  {F0:Nat→Prop} {w0:World} (hE:∀ W,Mod F0 w0 W→E W) (I:Nat→Own) (Ix:Code→Own) (hI:∀ i,(I i).Ok) (I2:Nat→Act→Own) (hI2:∀ i a,(I2 i a).Ok) (hIx:∀ c,(Ix c).Ok) (h0:Run F0 w0 (star Z0 (I 0)) w)
  (hassign:∀ (l m i:Nat) (hi:i < xs.length) (R:Own) (W:World) (K:Act→World→Prop),R.Ok→Run F0 w0 (star (I i) R) W→(∀ a' W',Run F0 w0 (star (I2 i a') R) W'→K a' W') →
   assign.wpIn (Fence.wide.inRound l) m P (Exit.then K (fun _ _ _=>False)) { tmps:=(ps.zip (enc xs[i])).foldl (fun t (p,v)=>t.setIfInBounds p v) a.tmps,defers:=[] } W)
  (hbody:∀ (l m i:Nat) (hi:i < xs.length) (a':Act) (R:Own) (W:World),R.Ok→Run F0 w0 (star (I2 i a') R) W→body.wpIn (Fence.wide.inRound l) m P (Ii F0 w0 R (I (i+1)) Ix) a' W)
  (hdone:∀ (D:Nat) (R:Own) (W:World),R.Ok→Run F0 w0 (star (I xs.length) (star (bE D (.deferred (some []))) R)) W→Q .normal { a with defers:={ target:=.collected D,args:=#[] } :: a.defers } W)
  (hstop:∀ (D:Nat) (c:Code) (R:Own) (W:World),R.Ok→Run F0 w0 (star (Ix c) (star (bE D (.deferred (some []))) R)) W→c.wp P Q { a with defers:={ target:=.collected D,args:=#[] } :: a.defers } W) :
  (Code.rangeFunc g ps assign body).wp P Q a w:=by
 refine (wpIn_wide (n:=8)).1 ?_;refine wpIn_rangeFunc ?_;intro fn hfn;obtain ⟨rec,hrec⟩:∃ rec:LoopState→Option Code→Loop,rec=fun st pe=>{ state:=st,pending:=pe,fn,tmps:=a.tmps,params:=ps,assign,body,defers:=w.heap.size }:=⟨_,rfl⟩;obtain ⟨W1,hW1⟩:∃ W1,(w.alloc (.deferred (some []))).alloc (.loop (rec .ready none))=W1:=⟨_,rfl⟩;obtain ⟨l,hl⟩:∃ l,l=w.heap.size+1:=⟨_,rfl⟩;obtain ⟨D,hD⟩:∃ D,D=w.heap.size:=⟨_,rfl⟩;have R1:Run F0 w0 (star Z0 (star (bE l (.loop (rec .ready none))) (star (bE D (.deferred (some []))) (I 0)))) W1:=by
  have o1:=aj hZ0 (hI 0);have h1:=h0.fresh o1 (wD w (.deferred (some [])));have h2:=h1.fresh (aj bH o1) (wD (w.alloc (.deferred (some []))) (.loop (rec .ready none)));have e1:(w.alloc (.deferred (some []))).heap.size=l:=by rw [hl];simp
  rw [e1,←hD] at h2;rw [hW1] at h2;exact h2.perm (by ac_rfl)
 have okD:(bE D (.deferred (some []))).Ok:=bH
 refine ⟨l,[{ target:=.collected w.heap.size,args:=#[] }],W1,{ target:=.fn (.func gf) lb,args:=#[.func (.yield l) #[] #[]] },W1,gf,
  #[.func (.yield l) #[] #[]] ++ lb,W1,?_,?_,?_,?_,fun _=>by omega,?_⟩
 ·rw [←hW1,hrec,hl];exact run_enterLoop_outer _ _ _ _ _
 ·simp only [resolve,hg];simp [go_sem]
 ·intro f' hf';trivial
 ·simp [invoke,go_sem,eg]
 ·refine (hit (8 - 1) l W1 F0 w0 (fun i=>star (bE l (.loop (rec .ready none))) (star (bE D (.deferred (some []))) (I i)))
   (UM fun c=>star (bE l (.loop (rec .done (some c)))) (star (bE D (.deferred (some []))) (Ix c)))
   (fun i=>aj bH (aj bH (hI i))) (M4 fun c=>aj bH (aj bH (hIx c))) hE R1 ?_).mono ?_
  ·-- one round
   intro Z hZ i hi W hR;have okR:(star (bE D (.deferred (some []))) (star Z (I i))).Ok:=aj bH (aj hZ (hI i));have hR2:=hR.perm (by ac_rfl:_=star (bE l (.loop (rec .ready none))) (star (bE D (.deferred (some []))) (star Z (I i))));obtain ⟨FL,hL,-,bk⟩:=hR2.take bH okR;have hy:=run_yield (P:=P) (args:=enc xs[i]) hL.1 (by rw [hrec];exact hps _);rw [hrec] at hy;refine ⟨fn,_,assign,body,hy,roundIn_of_wpIn hfn (hassign l _ i hi (star (bE l (.loop (rec .ready none))) (star (bE D (.deferred (some []))) Z)) W _ (aj bH (aj bH hZ)) (hR2.perm (by ac_rfl)) ?_)⟩;intro a' W' hR3;obtain ⟨FL',hL',-,bk'⟩:=(hR3.perm (by ac_rfl:_=star (bE l (.loop (rec .ready none))) (star (bE D (.deferred (some []))) (star Z (I2 i a'))))).take bH (aj bH (aj hZ (hI2 i a')));refine ⟨_,run_beginRound hL'.1 (by rw [hrec]),?_⟩;have hB:=bk' _ _ (iy hL' (.loop { rec .ready none with state:=.busy }));have okB:(star (bE l (.loop { rec .ready none with state:=.busy })) (star (bE D (.deferred (some []))) Z)).Ok:=aj bH (aj bH hZ);refine wpIn_mono (hbody l _ i hi a' (star (bE l (.loop { rec .ready none with state:=.busy })) (star (bE D (.deferred (some []))) Z)) _ okB (hB.perm (by ac_rfl))) ?_;have fin:∀ (jump:Option Code) (W3:World) (O:Own),O.Ok→Run F0 w0 (star O (star (bE l (.loop { rec .ready none with state:=.busy })) (star (bE D (.deferred (some []))) Z))) W3 →
     ∃ W4,(Instr.endRound l jump).run P W3=.ok (.bool jump.isNone) W4∧Run F0 w0 (star Z (star (bE l (.loop (rec (if jump.isNone then .ready else .done) jump))) (star (bE D (.deferred (some []))) O))) W4:=fun jump W3 O hO h3=>by
    have h4:=h3.perm (by ac_rfl:_=star (bE l (.loop { rec .ready none with state:=.busy })) (star (bE D (.deferred (some []))) (star Z O)));obtain ⟨FL,hL,-,bk⟩:=h4.take bH (aj bH (aj hZ hO));refine ⟨_,run_endRound (P:=P) jump hL.1,?_⟩;have h5:=bk _ _ (iy hL (.loop { { rec .ready none with state:=.busy } with state:=if jump.isNone then .ready else .done,pending:=jump }));have e5:({ { rec .ready none with state:=.busy } with state:=if jump.isNone then .ready else .done,pending:=jump }:Loop)=rec (if jump.isNone then .ready else .done) jump:=by rw [hrec]
    rw [e5] at h5 ⊢;exact h5.perm (by ac_rfl)
   rintro e a3 W3 hp;cases e with
   | normal =>
    obtain ⟨W4,h4,h5⟩:=fin none W3 _ (hI (i+1)) hp;exact ⟨_,_,h4,.inl ⟨rfl,h5⟩⟩
   | ret =>
    obtain ⟨W4,h4,h5⟩:=fin (some .ret) W3 _ (hIx .ret) hp;exact ⟨_,_,h4,.inr ⟨rfl,h5.imp fun w F hh=>bF hh (fun _ h=>h) (fun _ h=>⟨.ret,h⟩)⟩⟩
   | exit id =>
    obtain ⟨W4,h4,h5⟩:=fin (some (.exit id)) W3 _ (hIx (.exit id)) hp;exact ⟨_,_,h4,.inr ⟨rfl,h5.imp fun w F hh=>bF hh (fun _ h=>h) (fun _ h=>⟨.exit id,h⟩)⟩⟩
   | goto t =>
    obtain ⟨W4,h4,h5⟩:=fin (some (.goto t)) W3 _ (hIx (.goto t)) hp;exact ⟨_,_,h4,.inr ⟨rfl,h5.imp fun w F hh=>bF hh (fun _ h=>h) (fun _ h=>⟨.goto t,h⟩)⟩⟩
   | panic ch=>exact hp.elim
   | outgrown=>exact hp.elim
  ·-- behind the iterator
   have fin:∀ (st:LoopState) (pe:Option Code) (W2:World) (Z:Own) (O:Own),Z.Ok→O.Ok→st≠.busy→Run F0 w0 (star Z (star (bE l (.loop (rec st pe))) (star (bE D (.deferred (some []))) O))) W2 →
     ∃ W4 R,R.Ok∧(Instr.endLoop l).run P W2=.ok pe W4∧Run F0 w0 (star O (star (bE D (.deferred (some []))) R)) W4:=fun st pe W2 Z O hZ hO hst h3=>by
    have h4:=h3.perm (by ac_rfl:_=star (bE l (.loop (rec st pe))) (star (bE D (.deferred (some []))) (star Z O)));obtain ⟨FL,hL,-,bk⟩:=h4.take bH (aj bH (aj hZ hO));have he:=run_endLoop (P:=P) hL.1 (by rw [hrec];exact hst);have e6:(rec st pe).pending=pe:=by rw [hrec]
    have he:=he.trans (congrArg (fun p=>Result.ok p (W2.putObj l (.loop { rec st pe with state:=.exhausted }))) e6);have hp:=iy hL (.loop { rec st pe with state:=.exhausted });generalize Obj.loop { rec st pe with state:=.exhausted }=o4 at he hp;have h5:=bk _ _ hp;exact ⟨_,star (bE l o4) Z,aj bH hZ,he,h5.perm (by ac_rfl:_=star O (star (bE D (.deferred (some []))) (star (bE l o4) Z)))⟩
   rintro e W2 ⟨⟨v,rfl⟩,Z,hZ,h2 | h2⟩
   ·obtain ⟨W4,R,hR,he,h4⟩:=fin .ready none W2 Z _ hZ (hI _) (by simp) h2;rw [←hD];exact ⟨none,_,he,hdone D R W4 hR h4⟩
   ·have h3:∃ c,Run F0 w0 (star Z (star (bE l (.loop (rec .done (some c)))) (star (bE D (.deferred (some []))) (Ix c)))) W2:=by
     obtain ⟨⟨F,⟨F1,F2,g1,⟨c,g2⟩,g3,g4⟩,hF⟩,hm⟩:=h2;exact ⟨c,⟨⟨F,⟨F1,F2,g1,g2,g3,g4⟩,hF⟩,hm⟩⟩
    obtain ⟨c,h3⟩:=h3;obtain ⟨W4,R,hR,he,h4⟩:=fin .done (some c) W2 Z _ hZ (hIx c) (by simp) h3;rw [←hD];exact ⟨some c,_,he,(wpIn_wide (n:=8)).2 (hstop D c R W4 hR h4)⟩
end Go.CH
