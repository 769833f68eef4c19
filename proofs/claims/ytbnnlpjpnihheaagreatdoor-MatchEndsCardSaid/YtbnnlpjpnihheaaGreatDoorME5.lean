/- A part of the proof: lemmas. -/
import Derived.Test.YtbnnlpjpnihheaaGreatDoorME4
import Derived.Test.YtbnnlpjpnihheaaGreatDoorME2
import Derived.Test.YtbnnlpjpnihheaaGreatDoorME3
import Derived.Deep.LoopGhost
set_option maxHeartbeats 16000000
set_option maxRecDepth 100000
set_option linter.unusedSimpArgs false
set_option linter.unusedVariables false
namespace Go.Proofs.YtbnnlpjpnihheaaGreatDoor
open Go.RowKit Go.CH Go.CH.Scr Go.CH.dK
open Go.ChangeMaps (setBlock)
theorem mU {w:World} {T:Tab} {a:TA} (hT:jJ w T a) (hz:LZ w):Calls Tryz.prog 47 #[eZ T a] w (aP w (.bool (aX T))):=by
 obtain ⟨A,ac,D,dc,E,ec⟩:=a;have HT:=hide hT;have HZ:=hide hz;have HC:=hide (fun n W=>qX n W);have h1:Run (fun _=>False) w (star (au w.heap.size (dA T ⟨A,ac,D,dc,E,ec⟩) 25) emp) _:=aG (Run.begin w) aB (dA T ⟨A,ac,D,dc,E,ec⟩) 25;have H1:=hide h1;obtain ⟨N,hN⟩:∃ N,N=T.rs.length:=⟨_,rfl⟩;have HN:=hide hN;unfold eZ dA;dsimp only;unfold dA at H1;dsimp only at H1;rw [←hN] at H1 ⊢;clear hT hz h1 hN
 go_enter Tryz.func47,Tryz.ntmps47
 iterate 12 (first | go_values | go_guarded | go_step)
 have hcells:∀ W,Run (fun _=>False) w (star (au w.heap.size #[.slice A N ac,.slice D T.ds.length dc,.slice E T.es.length ec,.int .i64 T.drop,.int .i64 T.ord,.int .i64 T.ini] 25) emp) W →
   W.cell? ⟨w.heap.size,0,none⟩=some (.slice A N ac)∧W.cell? ⟨w.heap.size,1,none⟩=some (.slice D T.ds.length dc)∧W.cell? ⟨w.heap.size,2,none⟩=some (.slice E T.es.length ec)∧W.cell? ⟨w.heap.size,3,none⟩=some (.int .i64 T.drop)∧W.cell? ⟨w.heap.size,4,none⟩=some (.int .i64 T.ord)∧W.cell? ⟨w.heap.size,5,none⟩=some (.int .i64 T.ini):=fun W h=>by
  obtain ⟨F,hF⟩:=h.fst;exact ⟨ay hF rfl,ay hF rfl,ay hF rfl,ay hF rfl,ay hF rfl,ay hF rfl⟩
 have HCE:=hide hcells;clear hcells;generalize w.alloc (.cells #[.slice A N ac,.slice D T.ds.length dc,.slice E T.es.length ec,.int .i64 T.drop,.int .i64 T.ord,.int .i64 T.ini] 25)=w1 at *
 obtain ⟨c0,c1,c2,c3,c4,c5⟩:=HCE.out _ H1.out;have HB:=hide (H1.out.mod.below (fun _ _ h=>h));by_cases hn0:N=0
 ·have t1:((N:Int) == 0)=true:=by simp [hn0]
  have HF:=hide (kP (T:=T) (.inl (by rw [←List.length_eq_zero_iff,←HN.out];exact hn0)));clear hn0;go_wp2;go_ret;exact aQ HF.out HB.out
 ·have t1:((N:Int) == 0)=false:=by simp [hn0]
  by_cases h80:80 < N
  ·have t2:(80:Int) < (N:Int):=by omega
   have HF:=hide (kP (T:=T) (.inr (.inl (by rw [←HN.out];exact h80))));clear hn0 h80;go_wp2;go_ret;exact aQ HF.out HB.out
  ·have t2:¬ (80:Int) < (N:Int):=by omega
   have K1:=hide (HC.out T.drop);have K2:=hide (HC.out T.ord);have K3:=hide (HC.out T.ini);have HNE:=hide (show T.rs≠[]∧T.rs.length≤80 from ⟨by rw [ne_eq,←List.length_eq_zero_iff,←HN.out];exact hn0,by rw [←HN.out];omega⟩);clear HC hn0;cases h3:eY T.drop with
   | false =>
    have HF:=hide (kP (T:=T) (.inr (.inr (.inl h3))));simp only [h3] at K1;clear h3;go_wp2_with fail;refine (K1.out _).mono ?_;rintro e9 w2 ⟨rfl,hb⟩;have HB2:=hide (aC HB.out hb);clear K1 K2 K3 hb;dsimp only;go_wp2;go_ret;exact aQ HF.out HB2.out
   | true =>
    simp only [h3] at K1;go_wp2_with fail;refine (K1.out _).mono ?_;rintro e9 w2 ⟨rfl,hb⟩;have H2:=hide (H1.out.below (aj av aB) hb);have HB2:=hide (aC HB.out hb);clear K1 hb c0 c1 c2 c3 c4 c5 H1 HB;obtain ⟨c0,c1,c2,c3,c4,c5⟩:=HCE.out _ H2.out;dsimp only;cases h4:eY T.ord with
    | false =>
     have HF:=hide (kP (T:=T) (.inr (.inr (.inr (.inl h4)))));simp only [h4] at K2;clear h3 h4;go_wp2_with fail;refine (K2.out _).mono ?_;rintro e9 w3 ⟨rfl,hb⟩;have HB3:=hide (aC HB2.out hb);clear K2 K3 hb;dsimp only;go_wp2;go_ret;exact aQ HF.out HB3.out
    | true =>
     simp only [h4] at K2;go_wp2_with fail;refine (K2.out _).mono ?_;rintro e9 w3 ⟨rfl,hb⟩;have H3:=hide (H2.out.below (aj av aB) hb);have HB3:=hide (aC HB2.out hb);clear K2 hb c0 c1 c2 c3 c4 c5 H2 HB2;obtain ⟨c0,c1,c2,c3,c4,c5⟩:=HCE.out _ H3.out;dsimp only;cases h5:eY T.ini with
     | false =>
      have HF:=hide (kP (T:=T) (.inr (.inr (.inr (.inr h5)))));simp only [h5] at K3;clear h3 h4 h5;go_wp2_with fail;refine (K3.out _).mono ?_;rintro e9 w4 ⟨rfl,hb⟩;have HB4:=hide (aC HB3.out hb);clear K3 hb;dsimp only;go_wp2;go_ret;exact aQ HF.out HB4.out
     | true =>
      have HHD:=hide (show T.rs≠[]∧T.rs.length≤80∧eY T.drop=true∧eY T.ord=true∧eY T.ini=true from ⟨HNE.out.1,HNE.out.2,h3,h4,h5⟩);simp only [h5] at K3;clear h3 h4 h5;go_wp2_with fail;refine (K3.out _).mono ?_;rintro e9 w4 ⟨rfl,hb⟩;have H4:=hide (H3.out.below (aj av aB) hb);have HB4:=hide (aC HB3.out hb);clear K3 hb c0 c1 c2 c3 c4 c5 H3 HB3;obtain ⟨c0,c1,c2,c3,c4,c5⟩:=HCE.out _ H4.out;dsimp only;have hmk:∀ w:World,(Instr.makeMap 144 none).run Tryz.prog w=.ok (.map (some w.heap.size)) (w.alloc (.map #[] 0)):=fun w=>by kernel_rfl
      have H5:=hide (show Run (fun _=>False) w (star (vT w4.heap.size ((T.rs.take 0).map jS)) _) (w4.alloc (.map #[] 0)) from H4.out.fresh (aj av aB) (lK (kv:=Pq) w4));have hbx:∀ W O,Run (fun _=>False) w (star O (star (au w.heap.size #[.slice A N ac,.slice D T.ds.length dc,.slice E T.es.length ec,.int .i64 T.drop,.int .i64 T.ord,.int .i64 T.ini] 25) emp)) W→W.cell? ⟨w.heap.size,0,none⟩=some (.slice A N ac):=fun W O h=>(HCE.out _ h.drop).1;have hc0:=hbx _ _ H5.out;clear hbx c0 c1 c2 c3 c4 c5 H4 HB4;go_wp2;clear hmk hc0;generalize w4.alloc (.map #[] 0)=w5 at *
      generalize w4.heap.size=bm at *
      generalize w.heap.size=gt at *
      have HB0:=hide (show ∀ wr O,Run (fun _=>False) w O wr→Below w.heap.size w wr from fun wr O h=>h.mod.below (fun _ _ h=>h));go_loopw [39] (fun i wr=>∃ k:Nat,k≤N∧i=.int .i64 k∧(∀ d ∈ T.rs.take k,qI d=true)∧((T.rs.take k).map jS).Nodup∧Run (fun _=>False) w (star (vT bm ((T.rs.take k).map jS)) (star (au gt #[.slice A N ac,.slice D T.ds.length dc,.slice E T.es.length ec,.int .i64 T.drop,.int .i64 T.ord,.int .i64 T.ini] 25) emp)) wr) (fun i _=>N - (intOf i).toNat)
      case atStart=>exact ⟨0,Nat.zero_le _,rfl,by simp,by simp,H5.out⟩
      case round =>
       clear H5 HB0;obtain ⟨k,hk,rfl,ha,hnd,hR⟩:=hrel;have HAL:=hide ha;have HND:=hide hnd;have HR:=hide hR;clear ha hnd hR;by_cases hlt:k < N
       ·have hkn:k < T.rs.length:=by rw [←HN.out];exact hlt
        have HK1:=hide (show k+1≤N from hlt);have hkb:(k:Int) < 1000000:=by have:=HNE.out.2;omega
        obtain ⟨b,o,rfl,hc⟩:=qV.at HT.out.rs (by omega);obtain ⟨r0,r1,r2,r3⟩:=hc wr (HR.out.mod.below (fun _ _ h=>h)) k hkn;have hsr:=HT.out.sr _ (List.getElem_mem hkn);clear hc;have okB:(star (vT bm ((T.rs.take k).map jS)) (star (au gt #[.slice (some ⟨b,o,none⟩) N ac,.slice D T.ds.length dc,.slice E T.es.length ec,.int .i64 T.drop,.int .i64 T.ord,.int .i64 T.ini] 25) emp)).Ok:=aj qY (aj av aB);have h2:=aG HR.out okB #[.int .i64 T.rs[k].k,.string (bs T.rs[k].f),.string (bs T.rs[k].t),.int .i64 T.rs[k].c] 113;have h3:=aG h2 (aj av okB) #[.int .i64 T.rs[k].k,.string (bs T.rs[k].f),.string (bs T.rs[k].t)] 146;rw [World.size_alloc] at h3;obtain ⟨FS,hFS⟩:=h3.drop.drop.fst;have hlk:=Ht hFS (jS T.rs[k]);have hlk2:(Instr.lookup 144 (.map (some bm)) (.agg #[.int .i64 T.rs[k].k,.string (bs T.rs[k].f),.string (bs T.rs[k].t)]) false).run Tryz.prog ((wr.alloc (.cells #[.int .i64 T.rs[k].k,.string (bs T.rs[k].f),.string (bs T.rs[k].t),.int .i64 T.rs[k].c] 113)).alloc (.cells #[.int .i64 T.rs[k].k,.string (bs T.rs[k].f),.string (bs T.rs[k].t)] 146))=.ok (.bool (decide (jS T.rs[k] ∈ (T.rs.take k).map jS))) _:=hlk;have HNO:=hide (fun h=>CQ (Mh hkn h));have HST:=hide (fun h=>Fj hkn HND.out h);have HAS:=hide (fun h=>Jy hkn HAL.out h);have H3:=hide h3;clear hlk h2 h3 hFS HR;by_cases hin:jS T.rs[k] ∈ (T.rs.take k).map jS
        ·rw [decide_eq_true hin] at hlk2;have HF:=hide (HNO.out (.inl hin));clear hin HNO HST HAS;generalize T.rs[k]=d at *
         have HB:=hide (H3.out.mod.below (fun _ _ h=>h));go_wp2;go_ret;exact aQ HF.out HB.out
        ·rw [decide_eq_false hin] at hlk2;have HKS:=hide (HST.out hin);have HKN:=hide hin;have KF:=hide (fun W (hz:LZ W)=>xC T.rs[k].k (bs T.rs[k].f) 3 W (by rw [bX];exact hsr.1) hz);have KG:=hide (fun W=>Fh (bs T.rs[k].t) W (by rw [bX];exact hsr.2));clear hin HST;simp only [gQ] at KF KG;have KF2:=hide (KF.out _ (HZ.out.below (H3.out.mod.below (fun _ _ h=>h))));have KC:=hide (fun W=>qX T.rs[k].c W);have okA:(star (au (wr.heap.size+1) #[.int .i64 T.rs[k].k,.string (bs T.rs[k].f),.string (bs T.rs[k].t)] 146) (star (au wr.heap.size #[.int .i64 T.rs[k].k,.string (bs T.rs[k].f),.string (bs T.rs[k].t),.int .i64 T.rs[k].c] 113) (star (vT bm ((T.rs.take k).map jS)) (star (au gt #[.slice (some ⟨b,o,none⟩) N ac,.slice D T.ds.length dc,.slice E T.es.length ec,.int .i64 T.drop,.int .i64 T.ord,.int .i64 T.ini] 25) emp)))).Ok:=aj av (aj av okB);have OKA:=hide okA;have OKB:=hide okB;have HDN:=hide (show qI T.rs[k]=(fT T.rs[k].k T.rs[k].f 3 && (qH T.rs[k].t && eY T.rs[k].c)) from rfl);have HKY:=hide (show jS T.rs[k]=(T.rs[k].k,T.rs[k].f,T.rs[k].t) from rfl);clear KF okA okB;go_wp2_with fail;refine KF2.out.mono ?_;rintro e9 w6 ⟨rfl,hb⟩;have H4:=hide (H3.out.below OKA.out hb);clear KF2 H3 hb hlk2 r0 r1 r2 r3;generalize wr.heap.size+1=g2 at *
         generalize wr.heap.size=g1 at *
         obtain ⟨F1,hF1⟩:=H4.out.fst;have y0:=ay (i:=0) hF1 rfl;have y1:=ay (i:=1) hF1 rfl;have y2:=ay (i:=2) hF1 rfl;obtain ⟨F2,hF2⟩:=H4.out.drop.fst;have x0:=ay (i:=0) hF2 rfl;have x1:=ay (i:=1) hF2 rfl;have x2:=ay (i:=2) hF2 rfl;have x3:=ay (i:=3) hF2 rfl;clear hF1 hF2;dsimp only;cases hfo:fT T.rs[k].k T.rs[k].f 3 with
         | false =>
          have HF:=hide (HNO.out (.inr (by rw [HDN.out,hfo];rfl)));have HB:=hide (H4.out.mod.below (fun _ _ h=>h));clear hfo;go_wp2;go_ret;exact aQ HF.out HB.out
         | true =>
          cases hfm:qH T.rs[k].t with
          | false =>
           have HF:=hide (HNO.out (.inr (by rw [HDN.out,hfo,hfm];rfl)));simp only [hfm] at KG;clear hfo hfm;go_wp2_with fail;refine (KG.out _).mono ?_;rintro e9 w7 ⟨rfl,hb⟩;have H5:=hide (H4.out.below OKA.out hb);have HB:=hide (H5.out.mod.below (fun _ _ h=>h));clear KG H4 hb;dsimp only;go_wp2;go_ret;exact aQ HF.out HB.out
          | true =>
           simp only [hfm] at KG;go_wp2_with fail;refine (KG.out _).mono ?_;rintro e9 w7 ⟨rfl,hb⟩;have H5:=hide (H4.out.below OKA.out hb);clear KG H4 hb y0 y1 y2 x0 x1 x2 x3;obtain ⟨F1,hF1⟩:=H5.out.fst;have y0:=ay (i:=0) hF1 rfl;have y1:=ay (i:=1) hF1 rfl;have y2:=ay (i:=2) hF1 rfl;obtain ⟨F2,hF2⟩:=H5.out.drop.fst;have x0:=ay (i:=0) hF2 rfl;have x1:=ay (i:=1) hF2 rfl;have x2:=ay (i:=2) hF2 rfl;have x3:=ay (i:=3) hF2 rfl;clear hF1 hF2;dsimp only;cases hco:eY T.rs[k].c with
           | false =>
            have HF:=hide (HNO.out (.inr (by rw [HDN.out,hfo,hfm,hco];rfl)));simp only [hco] at KC;clear hfo hfm hco;go_wp2_with fail;refine (KC.out _).mono ?_;rintro e9 w8 ⟨rfl,hb⟩;have H6:=hide (H5.out.below OKA.out hb);have HB:=hide (H6.out.mod.below (fun _ _ h=>h));clear KC H5 hb;dsimp only;go_wp2;go_ret;exact aQ HF.out HB.out
           | true =>
            have HA2:=hide (HAS.out (by rw [HDN.out,hfo,hfm,hco];rfl));simp only [hco] at KC;clear hfo hfm hco;go_wp2_with fail;refine (KC.out _).mono ?_;rintro e9 w8 ⟨rfl,hb⟩;have H6:=hide (H5.out.below OKA.out hb);clear KC H5 hb y0 y1 y2 x0 x1 x2 x3;dsimp only;obtain ⟨F1,hF1⟩:=H6.out.fst;have y0:=ay (i:=0) hF1 rfl;have y1:=ay (i:=1) hF1 rfl;have y2:=ay (i:=2) hF1 rfl;clear hF1;obtain ⟨FM,hFM,-,bk⟩:=(H6.out.drop.drop).take qY (aj av aB);obtain ⟨w9,hup,hpost⟩:=Hu hFM HKN.out;have h6:=bk _ _ hpost;rw [←HKS.out.1] at h6;have H7:=hide h6;rw [HKY.out] at hup;have hup2:(Instr.mapUpdate 144 (.map (some bm)) (.agg #[.int .i64 T.rs[k].k,.string (bs T.rs[k].f),.string (bs T.rs[k].t)]) (.bool true)).run Tryz.prog w8=.ok () w9:=hup;clear hFM bk hup hpost h6;go_wp2
            go_roundw
            case rel=>exact ⟨k+1,HK1.out,by go_num,HA2.out,HKS.out.2,H7.out⟩
            case measure=>have:=HK1.out;simp [intOf];omega
       ·obtain rfl:k=N:=by omega
        have hrl:nZ T.rs=true:=kM.2 ⟨by have:=HND.out;rw [HN.out,List.take_length] at this;exact this,by have:=HAL.out;rw [HN.out,List.take_length] at this;exact this⟩;have HVT:=hide (Fp HHD.out hrl);clear HND HAL hrl;obtain ⟨FT,hFT⟩:=HR.out.drop.fst;have c1:=ay (i:=1) hFT rfl;have c2:=ay (i:=2) hFT rfl;clear hFT;have okC:(star (vT bm ((T.rs.take k).map jS)) (star (au gt #[.slice A k ac,.slice D T.ds.length dc,.slice E T.es.length ec,.int .i64 T.drop,.int .i64 T.ord,.int .i64 T.ini] 25) emp)).Ok:=aj qY (aj av aB);have HBW:=hide (HR.out.mod.below (fun _ _ h=>h));have KD:=hide (oo (most:=12) (c:=dc) (HT.out.ds.below HBW.out) HT.out.ld HT.out.sd (HZ.out.below HBW.out));have KE:=hide (fun W (hb:Below w.heap.size w W)=>oo (w:=W) (most:=4) (c:=ec) (HT.out.es.below hb) HT.out.le HT.out.se (HZ.out.below hb));go_wp2_with fail;refine KD.out.mono ?_;rintro e9 w6 ⟨rfl,hb⟩;have H4:=hide (HR.out.below okC hb);have HB:=hide (aC HBW.out hb);clear KD hb c1 c2 okC HR HBW;obtain ⟨FT,hFT⟩:=H4.out.drop.fst;have c2:=ay (i:=2) hFT rfl;clear hFT H4;dsimp only;cases hd1:gV 12 T.ds with
        | false =>
         have HF:=hide (show aX T=false by rw [HVT.out,hd1];rfl);clear hd1 KE;go_wp2;go_ret;exact aQ HF.out HB.out
        | true =>
         have HF:=hide (show aX T=gV 4 T.es by rw [HVT.out,hd1];rfl);have KE2:=hide (KE.out w6 HB.out);clear hd1 KE;go_wp2_with fail;refine KE2.out.mono ?_;rintro e9 w7 ⟨rfl,hb⟩;have HB2:=hide (aC HB.out hb);clear KE2 hb;dsimp only;go_wp2;go_ret;exact aQ HF.out HB2.out
end Go.Proofs.YtbnnlpjpnihheaaGreatDoor
namespace Go.Proofs.YtbnnlpjpnihheaaGreatDoor
open Go.RowKit Go.CH Go.CH.Scr Go.CH.dK
open Go.ChangeMaps (setBlock)
end Go.Proofs.YtbnnlpjpnihheaaGreatDoor
namespace Go.Proofs.YtbnnlpjpnihheaaGreatDoor
open Go.RowKit Go.CH Go.CH.Scr Go.CH.dK
open Go.ChangeMaps (setBlock)

def OB (T:Tab) (k:Int) (x:Bs) (k2:Int) (y:Bs):Wd:=⟨k,k2,(rV k x).1,(rV k2 y).1,T.rs⟩
theorem Mc {T:Tab} {k k2:Int} {x y:Bs} (h:okW T k x k2 y=true):OB T k x k2 y=bJ T k x k2 y:=by
 obtain ⟨h1,h2,-⟩:=gG.1 h;unfold OB bJ rV;rw [if_pos h1,if_pos h2]
theorem uL (k:Int) (x:Bs):(rV k x).1.length≤12:=by
 unfold rV;split
 ·rename_i h;exact (dz.1 (fU h)).2.2
 ·exact Nat.zero_le _
theorem bZ {fn:Func} {p u:Tmp} {ty:TypeId} (h:fn.results=#[.cell p ty,.tmp u]) {P:Program} (tmps:Array Value) (w:World) (g:Nat) (t:TypeId) (cs:Array Value) (fr:Nat × Nat) {d:Array Field}
  (hp:tmps.getD p undef=.pointer (some ⟨g,0,none⟩)) (hg:w.heap[g]?=some (.cells cs t fr))
  (hu:P.underlying ty=some (.struct d)) (hi:(P.info? ty).map (·.size)=some cs.size) :
  (results fn tmps).run P w=.ok (.tuple #[.agg cs,tmps.getD u undef]) w:=by
 rw [results_cell_tmp h,hp];simp [asAddr,run_loadVar_row w g t ty cs fr (.struct d) hg hu rfl hi]
end Go.Proofs.YtbnnlpjpnihheaaGreatDoor
namespace Go.CH
open Go.RowKit
open Go.ChangeMaps (setBlock)
section
variable {P:Program}
end
end Go.CH
namespace Go.CH.dK
open Go.CH.Scr
end Go.CH.dK
namespace Go.Proofs.YtbnnlpjpnihheaaGreatDoor
open Go.RowKit Go.CH Go.CH.Scr Go.CH.dK
open Go.ChangeMaps (setBlock)
end Go.Proofs.YtbnnlpjpnihheaaGreatDoor
namespace Go.Proofs.YtbnnlpjpnihheaaGreatDoor
open Go.RowKit Go.CH Go.CH.Scr Go.CH.dK
open Go.ChangeMaps (setBlock)
theorem lD {W:World} {cs:Array Value} {t:TypeId} (h:∀ u ∈ cs.toList,u.oneCell'=true):Src (W.alloc (.cells cs t)) (some ⟨W.heap.size,0,none⟩) 1 cs.size cs.toList:=by
 refine ⟨by simp,h,fun _=>⟨_,rfl,fun j u hu=>?_⟩⟩;rw [Array.getElem?_toList] at hu;have e:(⟨W.heap.size,0,none⟩:Addr).add j=⟨W.heap.size,j,none⟩:=by unfold Addr.add;split <;> simp_all
 rw [e];simp only [World.cell?,heap_alloc_new W _];rw [hu];rfl
end Go.Proofs.YtbnnlpjpnihheaaGreatDoor
namespace Go.Proofs.YtbnnlpjpnihheaaGreatDoor
open Go.RowKit Go.CH Go.CH.Scr Go.CH.dK
open Go.ChangeMaps (setBlock)

structure RA where
 r:AR
 A:Option Addr
 c:Nat
def bN (x:RA):List Value:=[.int .i64 (x.r.ix:Nat),.int .i64 x.r.c,.slice x.A x.r.f.length x.c,.string (bs x.r.t)]
theorem xD (l:List RA):∀ u ∈ l.flatMap bN,u.oneCell'=true:=by
 intro u hu;obtain ⟨x,-,hx⟩:=List.mem_flatMap.1 hu;unfold bN at hx;simp only [List.mem_cons,List.not_mem_nil,or_false] at hx;rcases hx with rfl | rfl | rfl | rfl <;> rfl
def jm:List RA→CH.Own
 | []=>emp
 | x :: l=>star (ig x.A x.c x.r.f) (jm l)
theorem pQ:∀ {l:List RA},(jm l).Ok
 | []=>aB
 | _ :: _=>aj dX pQ
theorem zR (x:RA):∀ l:List RA,jm (l ++ [x])=star (ig x.A x.c x.r.f) (jm l)
 | []=>rfl
 | y :: l=>by
  show star _ (jm (l ++ [x]))=star _ (star _ (jm l))
  rw [zR x l];ac_rfl
def oq (A:Option Addr) (c:Nat) (l:List RA):CH.Own:=aS 181 4 (.slice A l.length c) l.length (l.flatMap bN)
theorem qZ {A:Option Addr} {c:Nat} {l:List RA}:(oq A c l).Ok:=bA
abbrev Fq (w:World) (A:Option Addr) (l:List RA):Prop:=wu bN 4 w A l
theorem Sc {w:World} {F:Nat→Prop} {A:Option Addr} {c:Nat} {l:List RA} (h:oq A c l w F):Fq w A l:=iT h (xD l)
theorem TU:dh Tryz.prog 165 181 (.agg #[.int .i64 0,.int .i64 0,.slice none 0 0,.string ⟨#[]⟩]) 4 56:=⟨Tryz.underlying165,by kernel_rfl,by decide,by decide⟩
theorem Mi {A:Option Addr} {c:Nat} {l:List RA} {x:RA}:aS 181 4 (.slice A (l.length+1) c) (l.length+1) (l.flatMap bN ++ bN x)=oq A c (l ++ [x]):=by
 unfold oq;rw [List.flatMap_append,List.length_append,List.length_singleton,List.flatMap_singleton]
theorem Pv {F0:Nat→Prop} {w0 W:World} {Y:CH.Own} {ops:Array Oper} {rest:List Oper} {o:Oper} {a:Act} {Q:Exit→Act→World→Prop} (hgd:o.guard=none) (s x:Operand)
  (ho:o.op=.call { callee:=.builtin .append,args:=#[s,x],argTypes:=#[165,165] }) {A:Option Addr} {c n:Nat} {l:List RA} (p:RA) (hl:l.length=n) (hsv:a.eval s=.slice A n c) (hx:a.eval x=.slice (some ⟨W.heap.size,0,none⟩) 1 1) (hn:n≤1000000) (hY:Y.Ok)
  (h:Run F0 w0 (star (oq A c l) Y) W)
  (hK:∀ A' c' w',Run F0 w0 (star (oq A' c' (l ++ [p])) Y) w'→wpList Tryz.prog ops Q rest (a.put o.dst (.slice A' (n+1) c')) w'):wpList Tryz.prog ops Q (o :: rest) a (W.alloc (.cells #[.int .i64 (p.r.ix:Nat),.int .i64 p.r.c,.slice p.A p.r.f.length p.c,.string (bs p.r.t)] 181)):=by
 subst hl;obtain ⟨F7,hR7,-,bk7⟩:=(h.below (aj qZ hY) ((Below.refl _ _).alloc (Nat.le_refl _) (.cells #[.int .i64 (p.r.ix:Nat),.int .i64 p.r.c,.slice p.A p.r.f.length p.c,.string (bs p.r.t)] 181))).take qZ hY;refine Ch hgd s x ho TU _ 0 (v:=.slice A l.length c) (n:=l.length) (xs:=l.flatMap bN) hsv hR7.1 (A:=some ⟨W.heap.size,0,none⟩) (m:=1) (c:=1) (news:=bN p) hx (lD (cs:=#[.int .i64 (p.r.ix:Nat),.int .i64 p.r.c,.slice p.A p.r.f.length p.c,.string (bs p.r.t)]) (fun u hu=>xD [p] u (by simpa [bN] using hu))) (by unfold maxLen;omega) (by omega) (Nat.zero_le _) ?_;intro v8 w8 ho8 hg8 hv8;have S8:=bk7 _ _ (iA hR7 ho8 hg8 hv8);obtain ⟨A8,c8,rfl⟩:=gy ho8;rw [Mi] at S8;exact hK A8 c8 w8 S8

structure SA where
 L:Option Addr
 lc:Nat
 R:Option Addr
 rc:Nat
 q:List RA

def jo (T:Tab) (k:Int) (x:Bs):List Bs × List AR:=if word k x then ((aM k (lower x)).1,dU T.rs k) else ([],[])
def CR (l:List Bs) (s:SA):Array Value:=#[.slice s.L l.length s.lc,.slice s.R s.q.length s.rc]
def fP (l:List Bs) (s:SA):CH.Own:=star (ig s.L s.lc l) (star (oq s.R s.rc s.q) (jm s.q))
theorem lG {l:List Bs} {s:SA}:(fP l s).Ok:=aj dX (aj qZ pQ)

def pU (w:World) (T:Tab) (k:Int) (x:Bs) (e:Ending) (w':World):Prop :=
 ∃ s:SA,e=.returned (.tuple #[.agg (CR (jo T k x).1 s),.bool (word k x)])∧s.q.map (·.r)=(jo T k x).2∧Post w (fun _=>False) (fP (jo T k x).1 s) w'
theorem kQ {F0:Nat→Prop} {w0 w:World} {g:Nat} {t:TypeId} {X:CH.Own} {a0 a1:Value} (h:Run F0 w0 (star (au g #[a0,a1] t) X) w) (hX:X.Ok) (b0 b1:Value) :
  Run F0 w0 (star (au g #[b0,b1] t) X) ((w.setCell ⟨g,0,none⟩ b0).setCell ⟨g,1,none⟩ b1):=by
 have h0:Run F0 w0 (star (au g #[b0,a1] t) X) _:=aH h hX 0 b0;exact aH h0 hX 1 b1
theorem Pw {rs:List Rule} {k:Int} {n:Nat} (hn:n < rs.length):(rs.zipIdx.take (n+1)).filterMap (vS k)=(rs.zipIdx.take n).filterMap (vS k) ++ (vS k (rs[n],n)).toList:=by
 have e:rs.zipIdx.take (n+1)=rs.zipIdx.take n ++ [(rs[n],n)]:=by
  rw [List.take_succ_eq_append_getElem (by rw [List.length_zipIdx];exact hn)];simp
 rw [e,List.filterMap_append];cases h:vS k (rs[n],n) <;> simp [h]
theorem Sd {rs:List Rule} {k:Int} {n:Nat} (hn:rs.length≤n):(rs.zipIdx.take n).filterMap (vS k)=dU rs k:=by
 rw [List.take_of_length_le (by rw [List.length_zipIdx];exact hn)];rfl
end Go.Proofs.YtbnnlpjpnihheaaGreatDoor
namespace Go.Proofs.YtbnnlpjpnihheaaGreatDoor
open Go.RowKit Go.CH Go.CH.Scr Go.CH.dK
open Go.ChangeMaps (setBlock)
theorem xE {w:World} {T:Tab} {a:TA} (hT:jJ w T a) (hz:LZ w) (k:Int) (x:Bs) (hx:x.length≤1000000) :
  Calls Tryz.prog 124 #[eZ T a,.int .i64 k,.string (bs x)] w (pU w T k x):=by
 have HT:=hide hT;have HZ:=hide hz;have HX:=hide hx;have h1:Run (fun _=>False) w (star (au w.heap.size (dA T a) 25) emp) _:=aG (Run.begin w) aB (dA T a) 25;have KF:=hide (fun W (hz:LZ W)=>rR k (bs x) W (by rw [bX];exact hx) hz);simp only [gQ] at KF;unfold aP at KF;have H1:=hide h1;clear hT hz hx h1;unfold eZ dA;unfold dA at H1
 go_enter Tryz.func124,Tryz.ntmps124
 have H2:=hide (show Run (fun _=>False) w (star (au (w.heap.size+1) #[.slice none 0 0,.slice none 0 0] 167) (star (au w.heap.size #[.slice a.A T.rs.length a.c,.slice a.D T.ds.length a.d,.slice a.E T.es.length a.e,.int .i64 T.drop,.int .i64 T.ord,.int .i64 T.ini] 25) emp)) _ from (by have h2:=aG H1.out (aj av aB) #[.slice none 0 0,.slice none 0 0] 167;rw [World.size_alloc] at h2;exact h2));go_wp2_with fail;clear H1;generalize hw1:(w.alloc (.cells #[.slice a.A T.rs.length a.c,.slice a.D T.ds.length a.d,.slice a.E T.es.length a.e,.int .i64 T.drop,.int .i64 T.ord,.int .i64 T.ini] 25)).alloc (.cells #[.slice none 0 0,.slice none 0 0] 167)=w1 at *
 clear hw1;generalize w.heap.size+1=gr at *
 generalize w.heap.size=gt at *
 have OK2:=hide (show (star (au gr #[.slice none 0 0,.slice none 0 0] 167) (star (au gt #[.slice a.A T.rs.length a.c,.slice a.D T.ds.length a.d,.slice a.E T.es.length a.e,.int .i64 T.drop,.int .i64 T.ord,.int .i64 T.ini] 25) emp)).Ok from aj av (aj av aB));have HZW:=hide (fun W O (h:Run (fun _=>False) w O W)=>HZ.out.below (h.mod.below (fun _ _ h=>h)));by_cases hw:word k x=true
 ·have e1:fO k x=(lower x,0):=by unfold fO;rw [if_pos hw]
  have e2:aT k (lower x)=((aM k (lower x)).1,0):=by unfold aT;rw [if_pos (fU hw)]
  have e3:jo T k x=((aM k (lower x)).1,dU T.rs k):=by unfold jo;rw [if_pos hw]
  have hlo:(rV k x).1=(aM k (lower x)).1:=by unfold rV;rw [if_pos hw]
  have HLL:=hide (show (aM k (lower x)).1.length≤1000000 from by rw [←hlo];exact Nat.le_trans (uL k x) (by omega));have KL:=hide (fun W (hz:LZ W)=>jR k (bs (lower x)) W (by rw [bX];unfold lower;rw [List.length_map];exact HX.out) hz);simp only [gQ] at KL;unfold mO at KL;simp only [e2] at KL;simp only [e1] at KF
  have HSR:=hide (show ∀ (l:List Bs) (s:SA) W,l=(aM k (lower x)).1→s.q.map (·.r)=dU T.rs k→Post w (fun _=>False) (fP l s) W→pU w T k x (.returned (.tuple #[.agg (CR l s),.bool true])) W from fun l s W hl hq hp=>by
   unfold pU;rw [e3,hw];subst hl
   exact ⟨s,rfl,hq,hp⟩)
  obtain ⟨l,hl⟩:∃ l,l=(aM k (lower x)).1:=⟨_,rfl⟩;have HL:=hide hl;rw [←hl] at KL HLL;clear e1 e2 e3 hw hlo hl;refine (KF.out _ (HZW.out _ _ H2.out)).mono ?_;rintro e9 w2 ⟨rfl,hb⟩;have H3:=hide (H2.out.below OK2.out hb);have KL2:=hide (KL.out _ (HZW.out _ _ H3.out));clear KF KL H2 hb;dsimp only;go_wp2_with fail;refine KL2.out.mono ?_;rintro e9 w3 ⟨L,lc,rfl,hp⟩;have H4:=hide (H3.out.fresh OK2.out hp);clear KL2 H3 hp;dsimp only;obtain ⟨n1,hn1⟩:∃ n,n=l.length:=⟨_,rfl⟩;have HN1:=hide hn1;rw [←hn1];clear hn1;have HTW:=hide (HT.out.below (H4.out.mod.below (fun _ _ h=>h)));have H5:=hide (aG H4.out (aj dX OK2.out) #[.slice L n1 lc,.slice none 0 0] 167);clear H4;obtain ⟨fr,hfr⟩:=H5.out.drop.drop.drop.fst;have c0:=ay (i:=0) hfr rfl;clear hfr;go_wp2_with fail;clear c0;generalize w3.alloc (.cells #[.slice L n1 lc,.slice none 0 0] 167)=w4 at *
  generalize w3.heap.size=gp at *
  obtain ⟨Z,hZ⟩:∃ Z,Z=star (ig L lc l) (star (au gr #[.slice none 0 0,.slice none 0 0] 167) (star (au gt #[.slice a.A T.rs.length a.c,.slice a.D T.ds.length a.d,.slice a.E T.es.length a.e,.int .i64 T.drop,.int .i64 T.ord,.int .i64 T.ini] 25) emp)):=⟨_,rfl⟩;have okZ:Z.Ok:=by rw [hZ];exact aj dX OK2.out
  have H6:=hide (((H5.out.fresh (aj av (aj dX OK2.out)) (⟨fun _=>False,fH _ _ _,Mod.refl _ _,fun i hi=>.inl hi⟩:Post _ (fun _=>False) (oq none 0 []) _)).perm (by rw [hZ];unfold jm;rw [wQ];ac_rfl:_=star (au gp #[.slice L n1 lc,.slice none 0 0] 167) (star (oq none 0 []) (star (jm []) Z)))));have HZZ:=hide hZ;have OKZ:=hide okZ;obtain ⟨N,hN⟩:∃ N,N=T.rs.length:=⟨_,rfl⟩;have HNB:=hide (show N≤1000000 from by rw [hN];exact HT.out.lr);clear H5 hZ okZ OK2 HTW;rw [←hN];have HN:=hide hN;clear hN;go_loopw [39] (fun i wr=>∃ (n:Nat) (q:List RA) (A:Option Addr) (c:Nat),n≤N∧q.length≤n∧i=.int .i64 n∧q.map (·.r)=(T.rs.zipIdx.take n).filterMap (vS k)∧Run (fun _=>False) w (star (au gp #[.slice L n1 lc,.slice A q.length c] 167) (star (oq A c q) (star (jm q) Z))) wr) (fun i _=>N - (intOf i).toNat)
  case atStart=>exact ⟨0,[],none,0,Nat.zero_le _,Nat.zero_le _,rfl,rfl,H6.out⟩
  case round =>
   clear H6;obtain ⟨n,q,A,c,hn,hql,rfl,hq,hR⟩:=hrel;have HR:=hide hR;have HQ:=hide hq;have HQL:=hide hql;clear hR hq hql;by_cases hlt:n < N
   ·have hkn:n < T.rs.length:=by rw [←HN.out];exact hlt
    have HK1:=hide (show n+1≤N from hlt);have hkb:(n:Int) < 1000000:=by have:=HNB.out;omega
    obtain ⟨b,o,hA,hc⟩:=HT.out.rs.at (by omega);rw [hA];obtain ⟨r0,r1,r2,r3⟩:=hc wr (HR.out.mod.below (fun _ _ h=>h)) n hkn;have HA:=hide hA;have HSM:=hide (HT.out.sr _ (List.getElem_mem hkn));have HST:=hide (Pw (k:=k) hkn);clear hc hA;have HAR:∀ R,R=T.rs[n]→vS k (R,n)=if R.k=k then (if word k R.f=true then some ⟨n,R.c,(aM k R.f).1,R.t⟩ else none) else none:=fun R _=>rfl
    have HAR:=hide (HAR _ rfl);rw [HAR.out] at HST;clear HAR;generalize T.rs[n]=R at *
    obtain ⟨Rk,Rf,Rt,Rc⟩:=R;dsimp only at r0 r1 r2 r3 HSM HST;have OKR:=hide (show (star (au gp #[.slice L n1 lc,.slice A q.length c] 167) (star (oq A c q) (star (jm q) Z))).Ok from aj av (aj qZ (aj pQ OKZ.out)));have H7:=hide (aG HR.out OKR.out #[.int .i64 0,.string { data:=#[] },.string { data:=#[] },.int .i64 0] 113);go_upto_region 10 with (fail)
    iterate 13 (first | go_values | go_guarded | go_step)
    clear HR r0 r1 r2 r3;generalize wr.alloc (.cells #[.int .i64 0,.string { data:=#[] },.string { data:=#[] },.int .i64 0] 113)=w5 at *
    generalize wr.heap.size=gq at *
    obtain ⟨r0,r1,r2,r3,rf⟩:=cB H7.out;go_upto_region 11 with (fail);have H8:=hide (aH (aH (aH (aH H7.out OKR.out 0 (.int .i64 Rk)) OKR.out 1 (.string (bs Rf))) OKR.out 2 (.string (bs Rt))) OKR.out 3 (.int .i64 Rc):Run (fun _=>False) w (star (au gq #[.int .i64 Rk,.string (bs Rf),.string (bs Rt),.int .i64 Rc] 113) (star (au gp #[.slice L n1 lc,.slice A q.length c] 167) (star (oq A c q) (star (jm q) Z)))) _);clear H7 r0 r1 r2 r3 rf;generalize (((w5.setCell ⟨gq,0,none⟩ (.int .i64 Rk)).setCell ⟨gq,1,none⟩ (.string (bs Rf))).setCell ⟨gq,2,none⟩ (.string (bs Rt))).setCell ⟨gq,3,none⟩ (.int .i64 Rc)=w6 at *
    obtain ⟨r0,r1,r2,r3,rf⟩:=cB H8.out;by_cases hkk:Rk=k
    ·have t1:(Rk != k)=false:=by simp [hkk]
     rw [if_pos hkk] at HST;have KL:=hide (fun W (hz:LZ W)=>jR k (bs Rf) W (by rw [bX];exact HSM.out.1) hz);simp only [gQ] at KL;unfold mO at KL;have KL2:=hide (KL.out _ (HZW.out _ _ H8.out));clear KL hkk;cases hwf:word k Rf with
     | true =>
      have e2:aT k Rf=((aM k Rf).1,0):=by unfold aT;rw [if_pos hwf]
      rw [if_pos hwf] at HST;simp only [e2] at KL2;have HS2:=hide (show _=_ ++ [_] from HST.out);clear HST e2 hwf;generalize (aM k Rf).1=f at *
      go_wp2_with fail;refine KL2.out.mono ?_;rintro e9 w7 ⟨F,fc,rfl,hp⟩;have H9:=hide (H8.out.fresh (aj av OKR.out) hp);clear KL2 H8 hp r0 r1 r2 r3 rf t1;dsimp only;obtain ⟨r0,r1,r2,r3,rf⟩:=cB H9.out.drop;obtain ⟨fp,hfp⟩:=H9.out.drop.drop.fst;have c1:=ay (i:=1) hfp rfl;clear hfp;have OKY:=hide (show (star (ig F fc f) (star (au gq #[.int .i64 Rk,.string (bs Rf),.string (bs Rt),.int .i64 Rc] 113) (star (au gp #[.slice L n1 lc,.slice A q.length c] 167) (star (jm q) Z)))).Ok from aj dX (aj av (aj av (aj pQ OKZ.out))));have H10:=hide (H9.out.perm (by ac_rfl:_=star (oq A c q) (star (ig F fc f) (star (au gq #[.int .i64 Rk,.string (bs Rf),.string (bs Rt),.int .i64 Rc] 113) (star (au gp #[.slice L n1 lc,.slice A q.length c] 167) (star (jm q) Z))))));clear H9;go_wp2_with (at_builtin;refine held ?_);refine Held.mk (Pv rfl (.tmp 58) (.tmp 66) rfl ⟨⟨n,Rc,f,Rt⟩,F,fc⟩ rfl rfl (by rfl) (by have:=HQL.out;omega) OKY.out H10.out ?_);intro A' c' w8 hr8;have H11:=hide (hr8.perm (by rw [zR];ac_rfl:_=star (au gp #[.slice L n1 lc,.slice A q.length c] 167) (star (oq A' c' (q ++ [⟨⟨n,Rc,f,Rt⟩,F,fc⟩])) (star (jm (q ++ [⟨⟨n,Rc,f,Rt⟩,F,fc⟩])) (star (au gq #[.int .i64 Rk,.string (bs Rf),.string (bs Rt),.int .i64 Rc] 113) Z)))));clear hr8 H10 c1 r0 r1 r2 r3 rf;obtain ⟨fp,hfp⟩:=H11.out.fst;have c1:=ay (i:=1) hfp rfl;have cf:=aJ hfp;clear hfp;go_upto_region 15 with (fail);have H12:=hide ((aH H11.out (aj qZ (aj pQ (aj av OKZ.out))) 1 (.slice A' (q.length+1) c'):Run (fun _=>False) w (star (au gp #[.slice L n1 lc,.slice A' (q.length+1) c'] 167) _) _));clear H11 c1 cf;generalize w8.setCell ⟨gp,1,none⟩ (.slice A' (q.length+1) c')=w9 at *
      go_wp2
      go_roundw
      case rel=>exact ⟨n+1,q ++ [⟨⟨n,Rc,f,Rt⟩,F,fc⟩],A',c',HK1.out,by have:=HQL.out;rw [List.length_append,List.length_singleton];omega,by go_num,by rw [HS2.out,List.map_append,HQ.out];rfl,by
       rw [List.length_append,List.length_singleton]
       exact (H12.out.perm (by ac_rfl:_=star (au gq #[.int .i64 Rk,.string (bs Rf),.string (bs Rt),.int .i64 Rc] 113) (star (au gp #[.slice L n1 lc,.slice A' (q.length+1) c'] 167) (star (oq A' c' (q ++ [⟨⟨n,Rc,f,Rt⟩,F,fc⟩])) (star (jm (q ++ [⟨⟨n,Rc,f,Rt⟩,F,fc⟩])) Z))))).drop⟩
      case measure=>have:=HK1.out;simp [intOf];omega
     | false =>
      have e2:aT k Rf=([],1):=by unfold aT;rw [if_neg (by rw [hwf];decide)]
      rw [if_neg (by rw [hwf];decide)] at HST;simp only [e2] at KL2;have HS2:=hide (HST.out.trans (List.append_nil _));clear HST e2 hwf;go_wp2_with fail;refine KL2.out.mono ?_;rintro e9 w7 ⟨F,fc,rfl,hp⟩;have H9:=hide (H8.out.fresh (aj av OKR.out) hp);clear KL2 H8 hp r0 r1 r2 r3 rf t1;dsimp only;go_wp2
      go_roundw
      case rel=>exact ⟨n+1,q,A,c,HK1.out,by have:=HQL.out;omega,by go_num,by rw [HS2.out];exact HQ.out,H9.out.drop.drop⟩
      case measure=>have:=HK1.out;simp [intOf];omega
    ·have t1:(Rk != k)=true:=by simp [hkk]
     rw [if_neg hkk] at HST;have HS2:=hide (HST.out.trans (List.append_nil _));clear HST hkk;go_wp2
     go_roundw
     case rel=>exact ⟨n+1,q,A,c,HK1.out,by have:=HQL.out;omega,by go_num,by rw [HS2.out];exact HQ.out,H8.out.drop⟩
     case measure=>have:=HK1.out;simp [intOf];omega
   ·have HQE:=hide (HQ.out.trans (Sd (by rw [←HN.out];omega)));have H7:=hide (HR.out.perm (by rw [HZZ.out];ac_rfl:_=star (au gr #[.slice none 0 0,.slice none 0 0] 167) (star (au gp #[.slice L n1 lc,.slice A q.length c] 167) (star (ig L lc l) (star (oq A c q) (star (jm q) (star (au gt #[.slice a.A T.rs.length a.c,.slice a.D T.ds.length a.d,.slice a.E T.es.length a.e,.int .i64 T.drop,.int .i64 T.ord,.int .i64 T.ini] 25) emp)))))));clear HR;obtain ⟨fr,hfr⟩:=H7.out.fst;have r0:=ay (i:=0) hfr rfl;have r1:=ay (i:=1) hfr rfl;have rf:=aJ hfr;obtain ⟨fp,hfp⟩:=H7.out.drop.fst;have c0:=ay (i:=0) hfp rfl;have c1:=ay (i:=1) hfp rfl;clear hfr hfp;go_wp2_with fail;have H8:=hide (kQ H7.out (aj av (aj dX (aj qZ (aj pQ (aj av aB))))) (.slice L n1 lc) (.slice A q.length c));clear H7 r0 r1 rf c0 c1;generalize (wr.setCell ⟨gr,0,none⟩ (.slice L n1 lc)).setCell ⟨gr,1,none⟩ (.slice A q.length c)=w9 at *
    obtain ⟨fr,hfr⟩:=H8.out.fst;have hblk:=hfr.1;clear hfr;refine bodyPost_ret (bZ rfl _ _ gr 167 #[.slice L n1 lc,.slice A q.length c] (0,0) rfl hblk Tryz.underlying167 (by kernel_rfl)) rfl ?_;clear hblk;have h9:Run (fun _=>False) w (star (fP l ⟨L,lc,A,c,q⟩) (star (au gr #[.slice L n1 lc,.slice A q.length c] 167) (star (au gp #[.slice L n1 lc,.slice A q.length c] 167) (star (au gt #[.slice a.A T.rs.length a.c,.slice a.D T.ds.length a.d,.slice a.E T.es.length a.e,.int .i64 T.drop,.int .i64 T.ord,.int .i64 T.ini] 25) emp)))) w9:=H8.out.perm (by unfold fP;ac_rfl);have h10:=HSR.out l ⟨L,lc,A,c,q⟩ w9 HL.out HQE.out ((h9.swap.drop).post lG);unfold CR at h10;rw [←HN1.out] at h10;exact h10
 ·have e1:fO k x=([],1):=by unfold fO;rw [if_neg hw]
  have e2:jo T k x=([],[]):=by unfold jo;rw [if_neg hw]
  have e3:word k x=false:=Bool.eq_false_iff.2 hw;simp only [e1] at KF
  have HFIN:=hide (show ∀ W,Run (fun _=>False) w (star (au gr #[.slice none 0 0,.slice none 0 0] 167) (star (au gt #[.slice a.A T.rs.length a.c,.slice a.D T.ds.length a.d,.slice a.E T.es.length a.e,.int .i64 T.drop,.int .i64 T.ord,.int .i64 T.ini] 25) emp)) W→pU w T k x (.returned (.tuple #[.agg #[.slice none 0 0,.slice none 0 0],.bool false])) W from fun W h=>by
   unfold pU;rw [e2,e3];refine ⟨⟨none,0,none,0,[]⟩,rfl,rfl,?_⟩;have h1:=(h.fresh (aj av (aj av aB)) (⟨fun _=>False,fH _ _ _,Mod.refl _ _,fun i hi=>.inl hi⟩:Post _ (fun _=>False) (oq none 0 []) _)).fresh (aj qZ (aj av (aj av aB))) (⟨fun _=>False,fH _ _ _,Mod.refl _ _,fun i hi=>.inl hi⟩:Post _ (fun _=>False) (ig none 0 []) _);have h2:Run (fun _=>False) w (star (fP [] ⟨none,0,none,0,[]⟩) (star (au gr #[.slice none 0 0,.slice none 0 0] 167) (star (au gt #[.slice a.A T.rs.length a.c,.slice a.D T.ds.length a.d,.slice a.E T.es.length a.e,.int .i64 T.drop,.int .i64 T.ord,.int .i64 T.ini] 25) emp))) W:=h1.perm (by unfold fP jm;simp only [jQ];ac_rfl)
   exact (h2.swap.drop).post lG)
  clear e1 e2 e3 hw;refine (KF.out _ (HZW.out _ _ H2.out)).mono ?_;rintro e9 w2 ⟨rfl,hb⟩;have H3:=hide (H2.out.below OK2.out hb);clear KF H2 hb;dsimp only;obtain ⟨fr,hfr⟩:=H3.out.fst;have r0:=ay (i:=0) hfr rfl;have r1:=ay (i:=1) hfr rfl;have rf:=aJ hfr;clear hfr;go_wp2_with fail;have H4:=hide (kQ H3.out (aj av aB) (.slice none 0 0) (.slice none 0 0));clear H3 r0 r1 rf;generalize (w2.setCell ⟨gr,0,none⟩ (.slice none 0 0)).setCell ⟨gr,1,none⟩ (.slice none 0 0)=w3 at *
  obtain ⟨fr,hfr⟩:=H4.out.fst;have hblk:=hfr.1;clear hfr;refine bodyPost_ret (bZ rfl _ _ gr 167 #[.slice none 0 0,.slice none 0 0] (0,0) rfl hblk Tryz.underlying167 (by kernel_rfl)) rfl ?_;clear hblk;exact HFIN.out _ H4.out
end Go.Proofs.YtbnnlpjpnihheaaGreatDoor
namespace Go.Proofs.YtbnnlpjpnihheaaGreatDoor
open Go.RowKit Go.CH Go.CH.Scr Go.CH.dK
open Go.ChangeMaps (setBlock)
theorem TV (p q:Bs):(!(@BEq.beq (List UInt8) (@List.instBEq UInt8 instBEqOfDecidableEq) (bs p).toList (bs q).toList)) = !decide (p=q):=by
 rw [ByteArray.toList_eq,ByteArray.toList_eq]
 show (!(@BEq.beq (List UInt8) (@List.instBEq UInt8 instBEqOfDecidableEq) p q))=_
 by_cases h:p=q <;> simp [h]
theorem zS {w:World} {A B:Option Addr} {c d:Nat} {C D:List Bs} (hA:fF w A C) (hB:fF w B D) (hl:C.length≤4611686018427387904) (hl2:D.length≤4611686018427387904) :
  Calls Tryz.prog 50 #[.slice A C.length c,.slice B D.length d] w (aP w (.bool (decide (C=D)))):=by
 have HA:=hide hA;have HB:=hide hB;obtain ⟨n,hn⟩:∃ n,n=C.length:=⟨_,rfl⟩;obtain ⟨m,hm⟩:∃ m,m=D.length:=⟨_,rfl⟩;rw [←hn] at hl ⊢;rw [←hm] at hl2 ⊢;have HN:=hide hn;have HM:=hide hm;clear hA hB hn hm;by_cases hnm:n=m
 ·subst hnm;obtain ⟨b,hb⟩:∃ b,b=decide (C=D):=⟨_,rfl⟩;rw [←hb];have HV:=hide hb;clear hb
  go_enter Tryz.func50,Tryz.ntmps50
  go_wp2_with fail;go_loopw [13] (fun i wr=>∃ k:Nat,k≤n∧i=.int .i64 k∧C.take k=D.take k∧Below w.heap.size w wr) (fun i _=>n - (intOf i).toNat)
  case atStart=>exact ⟨0,Nat.zero_le _,rfl,by simp,Below.refl _ _⟩
  case round =>
   obtain ⟨k,hk,rfl,heq,hbel⟩:=hrel;have HEQ:=hide heq;have HBE:=hide hbel;clear heq hbel;by_cases hlt:k < n
   ·have hkc:k < C.length:=by rw [←HN.out];exact hlt
    have hkd:k < D.length:=by rw [←HM.out];exact hlt
    have HLT:=hide hlt;obtain ⟨b1,o1,rfl,hc1⟩:=HA.out.at (by omega);obtain ⟨b2,o2,rfl,hc2⟩:=HB.out.at (by omega);have HST:=hide (show C[k]=D[k]→C.take (k+1)=D.take (k+1) from fun h=>by rw [List.take_succ_eq_append_getElem hkc,List.take_succ_eq_append_getElem hkd,HEQ.out,h]);have HNO:=hide (show C[k]≠D[k]→b=false from fun h=>by rw [HV.out];exact decide_eq_false (fun e=>h (by simp only [e])));have HB3:=hide (aV HBE.out);have hS1:=And.intro (hc1 _ HB3.out k hkc) (hc2 _ HB3.out k hkd);clear hc1 hc2;generalize C[k]=p at *
    generalize D[k]=q at *
    go_wp2_with fail;refine aI (fun W=>W.cell? ⟨b1,o1+k,none⟩=some (.string (bs p))∧W.cell? ⟨b2,o2+k,none⟩=some (.string (bs q))) (by rfl) (by kernel_rfl) hS1 ?_;clear hS1
    (repeat ((first | refine aK (by rfl) ?_ | (refine aL (v:=?_) (by rfl) ?_ ?_;rotate_left;(focus (intro w' hS';go_simp;(try with_reducible rfl);done))));try simp only [Act.put,List.setIfInBounds_toArray,List.set_cons_zero,List.set_cons_succ]))
    refine lex_nil ?_;by_cases hpq:p=q
    ·have t:=(TV p q).trans (show _=false from by simp [hpq]);have HTK:=hide (HST.out hpq);clear hpq;rw [t];clear t;go_wp2
     go_roundw
     case rel=>exact ⟨k+1,HLT.out,by go_num,HTK.out,HB3.out⟩
     case measure=>have:=HLT.out;simp [intOf];omega
    ·have t:=(TV p q).trans (show _=true from by simp [hpq]);have HF:=hide (HNO.out hpq);clear hpq;rw [t];clear t;go_wp2;go_ret;exact aQ HF.out HB3.out
   ·have HF:=hide (show b=true from by
     rw [HV.out];have h:=HEQ.out;have e:k=n:=by omega
     rw [List.take_of_length_le (by rw [←HN.out];omega),List.take_of_length_le (by rw [←HM.out];omega)] at h
     exact decide_eq_true h)
    clear HEQ;go_wp2;go_ret;exact aQ HF.out HBE.out
 ·have t:((n:Int) != (m:Int))=true:=by simp;omega
  have hf:decide (C=D)=false:=decide_eq_false (fun e=>hnm (by rw [HN.out,HM.out,e]));rw [hf];clear hf hnm
  go_enter Tryz.func50,Tryz.ntmps50
  go_wp2;go_ret;exact ⟨rfl,Below.refl _ _⟩
end Go.Proofs.YtbnnlpjpnihheaaGreatDoor
namespace Go.CH.aY

def sg:Nat→(Nat→Int)→Int
 | 0,_=>0
 | n+1,f=>sg n f+f n
section
variable {n m:Nat} {f g:Nat→Int}
theorem Lc:sg 0 f=0:=rfl
theorem bT:sg (n+1) f=sg n f+f n:=rfl
theorem bB (h:∀ i,i < n→f i=g i):sg n f=sg n g:=by
 induction n with
 | zero=>rfl
 | succ n ih=>rw [bT,bT,ih (fun i hi=>h i (by omega)),h n (by omega)]
theorem zu (h:∀ i,i < n→f i≤g i):sg n f≤sg n g:=by
 induction n with
 | zero=>exact Int.le_refl _
 | succ n ih=>rw [bT,bT];have:=ih (fun i hi=>h i (by omega));have:=h n (by omega);omega
theorem qO (f g:Nat→Int):sg n (fun i=>f i+g i)=sg n f+sg n g:=by
 induction n with
 | zero=>rfl
 | succ n ih=>rw [bT,bT,bT,ih];omega
theorem AL (f g:Nat→Int):sg n (fun i=>f i - g i)=sg n f - sg n g:=by
 induction n with
 | zero=>rfl
 | succ n ih=>rw [bT,bT,bT,ih];omega
theorem Ld (n:Nat):sg n (fun _=>0)=0:=by
 induction n with
 | zero=>rfl
 | succ n ih=>rw [bT,ih];rfl
theorem pz (h:∀ i,i < n→0≤f i):0≤sg n f:=by have:=zu (f:=fun _=>0) h;rw [Ld] at this;exact this
theorem AO {k:Nat} (hk:k < n) (h:∀ i,i < n→i≠k→f i=g i):sg n f=sg n g+(f k - g k):=by
 induction n with
 | zero=>omega
 | succ n ih =>
  rw [bT,bT];by_cases e:k=n
  ·subst e;rw [bB (g:=g) (fun i hi=>h i (by omega) (by omega))];omega
  ·rw [ih (by omega) (fun i hi hne=>h i (by omega) hne),h n (by omega) (by omega)];omega
theorem EL {k:Nat}:sg (n+k) f=sg n f+sg k (fun i=>f (n+i)):=by
 induction k with
 | zero=>simp [sg]
 | succ k ih=>rw [←Nat.add_assoc,bT,bT,ih];omega
theorem wK:sg (n+1) f=f 0+sg n (fun i=>f (i+1)):=by
 rw [Nat.add_comm,EL];simp only [bT,Lc,Int.zero_add];congr 1;exact bB (fun i _=>by rw [Nat.add_comm])
end

structure aY (n m:Nat) (P:Nat→Nat):Prop where
 le:∀ i,i < n→P i≤m
 inj:∀ i j,i < n→j < n→P i=P j→P i < m→i=j
def used (P:Nat→Nat):Nat→Nat→Bool
 | 0,_=>false
 | n+1,j=>used P n j || P n == j
theorem lY {P:Nat→Nat} {n j:Nat}:used P n j=true↔∃ i,i < n∧P i=j:=by
 induction n with
 | zero=>simp [used]
 | succ n ih =>
  simp only [used,Bool.or_eq_true,beq_iff_eq,ih];constructor
  ·rintro (⟨i,h1,h2⟩ | h)
   ·exact ⟨i,by omega,h2⟩
   ·exact ⟨n,by omega,h⟩
  ·rintro ⟨i,h1,h2⟩;by_cases e:i=n
   ·subst e;exact .inr h2
   ·exact .inl ⟨i,by omega,h2⟩
theorem lZ {P:Nat→Nat} {n j:Nat}:used P n j=false↔∀ i,i < n→P i≠j:=by
 rw [←Bool.not_eq_true,lY];exact ⟨fun h i hi e=>h ⟨i,hi,e⟩,fun h ⟨i,hi,e⟩=>h i hi e⟩
section
variable {n m:Nat} {P Q:Nat→Nat}
theorem aY.low (h:aY n m P) {k:Nat} (hk:k≤n):aY k m P:=⟨fun i hi=>h.le i (by omega),fun i j hi hj=>h.inj i j (by omega) (by omega)⟩

theorem col (h:aY n m P) (f:Nat→Int):sg n (fun i=>if P i < m then f (P i) else 0)=sg m (fun j=>if used P n j then f j else 0):=by
 induction n with
 | zero=>exact (Ld m).symm
 | succ n ih =>
  rw [bT,ih (h.low (by omega))];by_cases hp:P n < m
  ·rw [if_pos hp];have hu:used P n (P n)=false:=lZ.2 fun i hi e=>by have:=h.inj i n (by omega) (by omega) e (by omega);omega
   rw [AO (f:=fun j=>if used P (n+1) j then f j else 0) (g:=fun j=>if used P n j then f j else 0) hp ?_]
   ·simp only [used,hu,beq_self_eq_true,Bool.or_true];simp
   ·intro j _ hne;have:(P n == j)=false:=by simp;omega
    simp only [used,this,Bool.or_false]
  ·rw [if_neg hp,Int.add_zero];refine bB fun j hj=>?_;have:(P n == j)=false:=by simp;omega
   simp only [used,this,Bool.or_false]
end

def cost (c:Nat→Nat→Int) (d e:Nat→Int) (n m:Nat) (P:Nat→Nat):Int :=
 sg n (fun i=>if P i < m then c i (P i) else d i)+sg m (fun j=>if used P n j then 0 else e j)

def wt (c:Nat→Nat→Int) (d e:Nat→Int) (m:Nat) (i k:Nat):Int:=if k < m then c i k - e k else d i
def tot (w:Nat→Nat→Int) (n:Nat) (P:Nat→Nat):Int:=sg n (fun i=>w i (P i))
section
variable {n m:Nat} {P Q:Nat→Nat} {c:Nat→Nat→Int} {d e:Nat→Int}
theorem dQ (h:aY n m P):cost c d e n m P=sg m e+tot (wt c d e m) n P:=by
 have h1:=col h e;have h2:sg m (fun j=>if used P n j then 0 else e j)=sg m e - sg m (fun j=>if used P n j then e j else 0):=by
  rw [←AL];refine bB fun j _=>?_;cases used P n j <;> simp
 have h3:tot (wt c d e m) n P=sg n (fun i=>if P i < m then c i (P i) else d i) - sg n (fun i=>if P i < m then e (P i) else 0):=by
  unfold tot;rw [←AL];refine bB fun i _=>?_;unfold wt;split <;> simp
 unfold cost;rw [h2,h3,h1];omega

structure EH (c:Nat→Nat→Int) (d e:Nat→Int) (n m:Nat) (v:Int):Prop where
 has:∃ P,aY n m P∧cost c d e n m P=v
 low:∀ P,aY n m P→v≤cost c d e n m P
end

def pv (n m:Nat) (P Q:Nat→Nat) (s:Nat):Option Nat:=if Q s < m then (List.range n).find? (fun r=>P r == Q s) else none

def Jc (n m:Nat) (P Q:Nat→Nat):Nat→Option Nat
 | 0=>some n
 | k+1=>(Jc n m P Q k).bind (pv n m P Q)
section
variable {n m:Nat} {P Q:Nat→Nat}
theorem GQ {s r:Nat} (h:pv n m P Q s=some r):Q s < m∧r < n∧P r=Q s:=by
 unfold pv at h;split at h
 ·rename_i h1;have h2:=List.mem_of_find?_eq_some h;have h3:=List.find?_some h;exact ⟨h1,List.mem_range.1 h2,by simpa using h3⟩
 ·cases h
theorem TH (hP:aY n m P) {s r:Nat} (h1:Q s < m) (h2:r < n) (h3:P r=Q s):pv n m P Q s=some r:=by
 cases e:pv n m P Q s with
 | none =>
  unfold pv at e;rw [if_pos h1,List.find?_eq_none] at e;exact absurd h3 (by simpa using e r (List.mem_range.2 h2))
 | some r' =>
  obtain ⟨_,h5,h6⟩:=GQ e;rw [hP.inj r' r h5 h2 (h6.trans h3.symm) (by omega)]
theorem l5 {k s:Nat} (h:Jc n m P Q k=some s) (hs:s≠n):∃ j r,k=j+1∧Jc n m P Q j=some r∧Q r < m∧s < n∧P s=Q r:=by
 cases k with
 | zero=>injection h with h;exact absurd h.symm hs
 | succ j =>
  simp only [Jc,Option.bind_eq_some_iff] at h;obtain ⟨r,h1,h2⟩:=h;exact ⟨j,r,rfl,h1,GQ h2⟩
theorem Ca (hP:aY n m P) {k s r:Nat} (h:Jc n m P Q k=some s) (h1:Q s < m) (h2:r < n) (h3:P r=Q s):Jc n m P Q (k+1)=some r:=by
 simp only [Jc,h];exact TH hP h1 h2 h3

theorem UD {w:Nat→Nat→Int} {i:Nat} (hi:i < n) (hw:∀ k,k≤m→w n k=w i k) (hP:aY n m P) (hQ:aY (n+1) m Q) (hO:∀ R,aY n m R→tot w n P≤tot w n R) :
  ∃ R,aY (n+1) m R∧R i=P i∧tot w (n+1) R≤tot w (n+1) Q:=by
 by_cases hA:∃ k,Jc n m P Q k=some i
 ·-- the rows met come to i: the least such k
  have hL:∃ k,Jc n m P Q k=some i∧∀ j,j < k→Jc n m P Q j≠some i:=by
   obtain ⟨k,hk⟩:=hA
   induction k using Nat.strongRecOn with
   | _ k ih =>
    by_cases hj:∃ j,j < k∧Jc n m P Q j=some i
    ·obtain ⟨j,h1,h2⟩:=hj;exact ih j h1 h2
    ·exact ⟨k,hk,fun j h1 h2=>hj ⟨j,h1,h2⟩⟩
  obtain ⟨k,hk,hmin⟩:=hL
  classical
  let S:Nat→Prop:=fun s=>∃ j,j≤k∧Jc n m P Q j=some s
  have hSn:S n:=⟨0,by omega,rfl⟩;have hSi:S i:=⟨k,by omega,hk⟩;have hk0:0 < k:=by
   cases k with
   | zero=>injection hk with hk;omega
   | succ k=>omega
  have prev:∀ s,S s→s≠n→∃ r,S r∧r≠i∧Q r < m∧s < n∧P s=Q r:=by
   rintro s ⟨j,hj,hs⟩ hne;obtain ⟨j',r,rfl,h1,h2,h3,h4⟩:=l5 hs hne;exact ⟨r,⟨j',by omega,h1⟩,fun e=>hmin j' (by omega) (e ▸ h1),h2,h3,h4⟩
  have next:∀ s r,S s→s≠i→Q s < m→r < n→P r=Q s→S r:=by
   rintro s r ⟨j,hj,hs⟩ hne h1 h2 h3;have:j≠k:=fun e=>by subst e;rw [hk] at hs;injection hs with hs;exact hne hs.symm
   exact ⟨j+1,by omega,Ca hP hs h1 h2 h3⟩
  let P':Nat→Nat:=fun r=>if r=i then Q n else if S r then Q r else P r
  let Q':Nat→Nat:=fun r=>if r=n then Q i else if S r then P r else Q r
  have hP':aY n m P':=by
   constructor
   ·intro r hr;simp only [P'];split
    ·exact hQ.le n (by omega)
    ·split
     ·exact hQ.le r (by omega)
     ·exact hP.le r hr
   ·-- two rows with one column
    have key:∀ a b,a < n→b < n→P' a=P' b→P' a < m→(a=i∨S a)→b=a:=by
     intro a b ha hb he hm hSa
     -- the row whose Q is meant
     have h1:∃ s,S s∧s≠i∧P' a=Q s∧(s=n↔a=i)∧(a≠i→s=a):=by
      by_cases e:a=i
      ·exact ⟨n,hSn,by omega,by simp [P',e],by simp [e],fun h=>absurd e h⟩
      ·have:S a:=hSa.resolve_left e;exact ⟨a,this,e,by simp [P',e,this],by constructor <;> intro h <;> omega,fun _=>rfl⟩
     obtain ⟨s,h2,h3,h4,h5,h6⟩:=h1;have hsn:s≤n:=by obtain ⟨j,_,hs⟩:=h2;by_cases e:s=n;omega;obtain ⟨_,_,_,_,_,h,_⟩:=l5 hs e;omega
     by_cases eb:b=i
     ·have h7:P' b=Q n:=by simp [P',eb]
      have:=hQ.inj s n (by omega) (by omega) (by omega) (by omega);rw [eb];exact (h5.1 this).symm
     ·by_cases hSb:S b
      ·have h7:P' b=Q b:=by simp [P',eb,hSb]
       have h8:=hQ.inj s b (by omega) (by omega) (by omega) (by omega);by_cases ea:a=i
       ·have:=h5.2 ea;omega
       ·rw [←h8,h6 ea]
      ·have h7:P' b=P b:=by simp [P',eb,hSb]
       exact absurd (next s b h2 h3 (by omega) hb (by omega)) hSb
    intro a b ha hb he hm;by_cases hSa:a=i∨S a
    ·exact (key a b ha hb he hm hSa).symm
    ·by_cases hSb:b=i∨S b
     ·exact key b a hb ha he.symm (he ▸ hm) hSb
     ·have ea:P' a=P a:=by simp only [P',if_neg (fun h=>hSa (.inl h)),if_neg (fun h=>hSa (.inr h))]
      have eb:P' b=P b:=by simp only [P',if_neg (fun h=>hSb (.inl h)),if_neg (fun h=>hSb (.inr h))]
      exact hP.inj a b ha hb (by omega) (by omega)
  have hQ':aY (n+1) m Q':=by
   constructor
   ·intro r hr;simp only [Q'];split
    ·exact hQ.le i (by omega)
    ·split
     ·rename_i h1 h2;exact hP.le r (by omega)
     ·exact hQ.le r hr
   ·-- each row of the set has the column of another one of the set
    have src:∀ a,a < n+1→(a=n∨S a)→∃ s,S s∧s < n+1∧Q' a=Q s∧(a=n↔s=i)∧(a≠n→P a=Q s):=by
     intro a ha h;by_cases e:a=n
     ·exact ⟨i,hSi,by omega,by simp [Q',e],by simp [e],fun h=>absurd e h⟩
     ·have hS:S a:=h.resolve_left e;obtain ⟨r,h1,h2,h3,h4,h5⟩:=prev a hS e;have hrn:r≤n:=by obtain ⟨j,_,hs⟩:=h1;by_cases e:r=n;omega;obtain ⟨_,_,_,_,_,h,_⟩:=l5 hs e;omega
      exact ⟨r,h1,by omega,by simp [Q',e,hS,h5],by simp [e,h2],fun _=>h5⟩
    have key:∀ a b,a < n+1→b < n+1→Q' a=Q' b→Q' a < m→(a=n∨S a)→b=a:=by
     intro a b ha hb he hm hSa;obtain ⟨s,h1,h2,h3,h4,h5⟩:=src a ha hSa;by_cases hSb:b=n∨S b
     ·obtain ⟨t,g1,g2,g3,g4,g5⟩:=src b hb hSb;have hst:=hQ.inj s t h2 g2 (by omega) (by omega);by_cases ea:a=n
      ·have:=g4.2 (by rw [←hst];exact h4.1 ea);omega
      ·by_cases eb:b=n
       ·have:=h4.2 (by rw [hst];exact g4.1 eb);omega
       ·exact (hP.inj a b (by omega) (by omega) (by rw [h5 ea,g5 eb,hst]) (by rw [h5 ea];omega)).symm
     ·have eb:Q' b=Q b:=by simp only [Q',if_neg (fun h=>hSb (.inl h)),if_neg (fun h=>hSb (.inr h))]
      have:=hQ.inj s b h2 hb (by omega) (by omega);exact absurd (this ▸ h1) (fun h=>hSb (.inr h))
    intro a b ha hb he hm;by_cases hSa:a=n∨S a
    ·exact (key a b ha hb he hm hSa).symm
    ·by_cases hSb:b=n∨S b
     ·exact key b a hb ha he.symm (he ▸ hm) hSb
     ·have ea:Q' a=Q a:=by simp only [Q',if_neg (fun h=>hSa (.inl h)),if_neg (fun h=>hSa (.inr h))]
      have eb:Q' b=Q b:=by simp only [Q',if_neg (fun h=>hSb (.inl h)),if_neg (fun h=>hSb (.inr h))]
      exact hQ.inj a b ha hb (by omega) (by omega)
  refine ⟨Q',hQ',?_,?_⟩
  ·have:i≠n:=by omega
   simp [Q',this,hSi]
  ·have hsum:tot w n P'+tot w (n+1) Q'=tot w n P+tot w (n+1) Q:=by
    have e1:sg n (fun r=>w r (P' r)+w r (Q' r))=sg n (fun r=>w r (P r)+w r (Q r))+((w i (P' i)+w i (Q' i)) - (w i (P i)+w i (Q i))):=by
     refine AO hi fun r hr hne=>?_;have hn:r≠n:=by omega
     by_cases hS:S r
     ·simp only [P',Q',if_neg hne,if_neg hn,if_pos hS];omega
     ·simp only [P',Q',if_neg hne,if_neg hn,if_neg hS]
    rw [qO,qO] at e1;have e2:P' i=Q n:=by simp [P']
    have e3:Q' i=P i:=by (have:i≠n:=by omega);simp [Q',this,hSi]
    have e4:Q' n=Q i:=by simp [Q']
    have e5:=hw (Q n) (hQ.le n (by omega));have e6:=hw (Q i) (hQ.le i (by omega));unfold tot;rw [bT,bT,e4];rw [e2,e3] at e1;omega
   have:=hO P' hP';omega
 ·-- the rows met never come to i
  classical
  let S:Nat→Prop:=fun s=>∃ k,Jc n m P Q k=some s
  have hSn:S n:=⟨0,rfl⟩;have hSi:¬ S i:=hA;have prev:∀ s,S s→s≠n→∃ r,S r∧Q r < m∧s < n∧P s=Q r:=by
   rintro s ⟨j,hs⟩ hne;obtain ⟨j',r,rfl,h1,h2,h3,h4⟩:=l5 hs hne;exact ⟨r,⟨j',h1⟩,h2,h3,h4⟩
  have next:∀ s r,S s→Q s < m→r < n→P r=Q s→S r:=by
   rintro s r ⟨j,hs⟩ h1 h2 h3;exact ⟨j+1,Ca hP hs h1 h2 h3⟩
  let R:Nat→Nat:=fun r=>if S r then Q r else P r
  let R':Nat→Nat:=fun r=>if S r then P r else Q r
  have hR:aY (n+1) m R:=by
   constructor
   ·intro r hr;simp only [R];split
    ·exact hQ.le r (by omega)
    ·rename_i h;have:r≠n:=fun e=>h (e ▸ hSn);exact hP.le r (by omega)
   ·intro a b ha hb he hm;by_cases ha':S a <;> by_cases hb':S b <;> simp only [R,ha',hb',if_true,if_false] at he hm
    ·exact hQ.inj a b ha hb he hm
    ·have:b≠n:=fun e=>hb' (e ▸ hSn);exact absurd (next a b ha' hm (by omega) he.symm) hb'
    ·have:a≠n:=fun e=>ha' (e ▸ hSn);exact absurd (next b a hb' (by omega) (by omega) he) ha'
    ·have:b≠n:=fun e=>hb' (e ▸ hSn);have:a≠n:=fun e=>ha' (e ▸ hSn);exact hP.inj a b (by omega) (by omega) he hm
  have hR':aY n m R':=by
   constructor
   ·intro r hr;simp only [R'];split
    ·exact hP.le r hr
    ·exact hQ.le r (by omega)
   ·intro a b ha hb he hm;by_cases ha':S a <;> by_cases hb':S b <;> simp only [R',ha',hb',if_true,if_false] at he hm
    ·exact hP.inj a b ha hb he hm
    ·obtain ⟨r,h1,h2,h3,h4⟩:=prev a ha' (by omega);have hrn:r≤n:=by obtain ⟨j,hs⟩:=h1;by_cases e:r=n;omega;obtain ⟨_,_,_,_,_,h,_⟩:=l5 hs e;omega
     have:=hQ.inj r b (by omega) (by omega) (by omega) h2;exact absurd (this ▸ h1) hb'
    ·obtain ⟨r,h1,h2,h3,h4⟩:=prev b hb' (by omega);have hrn:r≤n:=by obtain ⟨j,hs⟩:=h1;by_cases e:r=n;omega;obtain ⟨_,_,_,_,_,h,_⟩:=l5 hs e;omega
     have:=hQ.inj r a (by omega) (by omega) (by omega) h2;exact absurd (this ▸ h1) ha'
    ·exact hQ.inj a b (by omega) (by omega) he hm
  refine ⟨R,hR,by simp only [R,if_neg hSi],?_⟩;have hsum:tot w n R'+tot w (n+1) R=tot w n P+tot w (n+1) Q:=by
   have e1:sg n (fun r=>w r (R' r)+w r (R r))=sg n (fun r=>w r (P r)+w r (Q r)):=by
    refine bB fun r hr=>?_;by_cases hS:S r
    ·simp only [R,R',if_pos hS]
    ·simp only [R,R',if_neg hS];omega
   rw [qO,qO] at e1;have e2:R n=Q n:=by simp only [R,if_pos hSn]
   unfold tot;rw [bT,bT,e2];omega
  have:=hO R' hR';omega
end

section
variable {n m:Nat} {P Q:Nat→Nat} {c:Nat→Nat→Int} {d e:Nat→Int} {u v:Nat→Int}

structure Cb (c:Nat→Nat→Int) (d e:Nat→Int) (n m:Nat) (u v:Nat→Int):Prop where
 c:∀ i,i < n→∀ j,j < m→u i+v j≤c i j
 d:∀ i,i < n→u i≤d i
 e:∀ j,j < m→v j≤e j
theorem weak (h:Cb c d e n m u v) (hP:aY n m P):sg n u+sg m v≤cost c d e n m P:=by
 rw [dQ hP];have h1:=col hP (fun j=>v j - e j);have h2:sg m (fun j=>v j - e j)≤sg m (fun j=>if used P n j then v j - e j else 0):=zu fun j hj=>by
  have:=h.e j hj;split <;> omega
 rw [AL] at h2;have h3:sg n (fun i=>u i+if P i < m then v (P i) - e (P i) else 0)≤tot (wt c d e m) n P:=zu fun i hi=>by
  show _≤wt c d e m i (P i)
  unfold wt;split
  ·rename_i hp;have:=h.c i hi _ hp;omega
  ·have:=h.d i hi;omega
 rw [qO] at h3;omega

def iH (c:Nat→Nat→Int) (n i:Nat):Nat→Nat→Int:=fun r=>if r=n then c i else c r
def iI (d:Nat→Int) (n i:Nat):Nat→Int:=fun r=>if r=n then d i else d r
theorem AP {i:Nat} (hi:i < n) (k:Nat):wt (iH c n i) (iI d n i) e m n k=wt (iH c n i) (iI d n i) e m i k:=by
 have:i≠n:=by omega
 simp [wt,iH,iI,this]
theorem vX {i r:Nat} (hr:r < n) (k:Nat):wt (iH c n i) (iI d n i) e m r k=wt c d e m r k:=by
 have:r≠n:=by omega
 simp [wt,iH,iI,this]
theorem lC (i:Nat) (P:Nat→Nat):tot (wt (iH c n i) (iI d n i) e m) n P=tot (wt c d e m) n P:=bB fun r hr=>vX hr _
theorem Cb.dup (h:Cb c d e n m u v) {i:Nat} (hi:i < n):Cb (iH c n i) (iI d n i) e (n+1) m (fun r=>if r=n then u i else u r) v:=by
 refine ⟨fun r hr j hj=>?_,fun r hr=>?_,h.e⟩
 ·by_cases e:r=n
  ·simp only [iH,if_pos e];exact h.c i hi j hj
  ·simp only [iH,if_neg e];exact h.c r (by omega) j hj
 ·by_cases e:r=n
  ·simp only [iI,if_pos e];exact h.d i hi
  ·simp only [iI,if_neg e];exact h.d r (by omega)

def put (P:Nat→Nat) (n k:Nat):Nat→Nat:=fun r=>if r=n then k else P r
theorem vY (h:aY n m P) {k:Nat} (hk:k≤m) (hu:k < m→used P n k=false):aY (n+1) m (put P n k):=by
 refine ⟨fun i hi=>?_,fun i j hi hj he hm=>?_⟩
 ·unfold put;split;exact hk;exact h.le i (by omega)
 ·by_cases e1:i=n <;> by_cases e2:j=n <;> simp only [put,e1,e2,if_true,if_false] at he hm
  ·omega
  ·exact absurd he.symm (lZ.1 (hu hm) j (by omega))
  ·exact absurd he (lZ.1 (hu (by omega)) i (by omega))
  ·exact h.inj i j (by omega) (by omega) he hm
theorem AQ (w:Nat→Nat→Int) (k:Nat):tot w (n+1) (put P n k)=tot w n P+w n k:=by
 unfold tot;rw [bT,bB (g:=fun i=>w i (P i)) (fun i hi=>by (have:i≠n:=by omega);simp [put,this])];simp [put]

def cut (P:Nat→Nat) (n i:Nat):Nat→Nat:=fun r=>if r=i then P n else P r
theorem AU {i:Nat} (hi:i < n) (h:aY (n+1) m P):aY n m (cut P n i):=by
 refine ⟨fun r hr=>?_,fun a b ha hb he hm=>?_⟩
 ·unfold cut;split;exact h.le n (by omega);exact h.le r (by omega)
 ·by_cases e1:a=i <;> by_cases e2:b=i <;> simp only [cut,e1,e2,if_true,if_false] at he hm
  ·omega
  ·have:=h.inj n b (by omega) (by omega) he hm;omega
  ·have:=h.inj a n (by omega) (by omega) he hm;omega
  ·exact h.inj a b (by omega) (by omega) he hm
theorem AV {w:Nat→Nat→Int} {i:Nat} (hi:i < n) (hw:∀ k,w n k=w i k):tot w n (cut P n i)+w i (P i)=tot w (n+1) P:=by
 unfold tot;rw [bT,AO (g:=fun r=>w r (P r)) hi (fun r hr hne=>by simp [cut,hne])];simp [cut,hw];omega
theorem EM {i:Nat} (hi:i < n) (h:aY (n+1) m P) (hp:P i < m):used (cut P n i) n (P i)=false:=lZ.2 fun r hr he=>by
 by_cases e:r=i
 ·simp only [cut,if_pos e] at he;have:=h.inj n i (by omega) (by omega) he (by omega);omega
 ·simp only [cut,if_neg e] at he;have:=h.inj r i (by omega) (by omega) he (by omega);omega

structure dK (c:Nat→Nat→Int) (d e:Nat→Int) (n m:Nat) (v:Int) (U V:Nat→Int):Prop where
 opt:EH c d e n m v
 more:∀ i,i < n→EH (iH c n i) (iI d n i) e (n+1) m (U i+v)
 ve:∀ j,j < m→V j≤e j
 vc:∀ j,j < m→∀ i,i < n→V j≤c i j - U i
 vis:∀ j,j < m→V j=e j∨∃ i,i < n∧V j=c i j - U i
theorem dK.RF {v0:Int} {U V:Nat→Int} (h:dK c d e n m v0 U V):Cb c d e n m U V:=by
 refine ⟨fun i hi j hj=>by have:=h.vc j hj i hi;omega,fun i hi=>?_,h.ve⟩;obtain ⟨P,hP,hv⟩:=h.opt.has;have h1:=(h.more i hi).low (put P n m) (vY hP (Nat.le_refl _) (fun h=>by omega));rw [dQ (vY hP (Nat.le_refl _) (fun h=>by omega)),AQ,lC] at h1;rw [dQ hP] at hv;have:wt (iH c n i) (iI d n i) e m n m=d i:=by simp [wt,iI]
 omega

theorem dK.at {v0:Int} {U V:Nat→Int} (h:dK c d e n m v0 U V) {P:Nat→Nat} (hP:aY n m P) (hv:cost c d e n m P=v0) {i:Nat} (hi:i < n) :
  ∃ R,aY (n+1) m R∧R i=P i∧sg m e+tot (wt (iH c n i) (iI d n i) e m) (n+1) R=U i+v0:=by
 obtain ⟨Q,hQ,hq⟩:=(h.more i hi).has;rw [dQ hQ] at hq
 obtain ⟨R,h1,h2,h3⟩:=UD (w:=wt (iH c n i) (iI d n i) e m) hi (fun k _=>AP hi k) hP hQ (fun R hR=>by
  rw [lC,lC];have:=h.opt.low R hR;rw [dQ hR] at this;rw [dQ hP] at hv
  omega)
 have h4:=(h.more i hi).low R h1;rw [dQ h1] at h4;exact ⟨R,h1,h2,by omega⟩
theorem dK.TI {v0:Int} {U V:Nat→Int} (h:dK c d e n m v0 U V) {P:Nat→Nat} (hP:aY n m P) (hv:cost c d e n m P=v0) :
  (∀ i,i < n→P i < m→U i+V (P i)=c i (P i))∧(∀ i,i < n→P i=m→U i=d i)∧∀ j,j < m→used P n j=false→V j=e j:=by
 have hF:=h.RF;have hv':=hv;rw [dQ hP] at hv';refine ⟨fun i hi hp=>?_,fun i hi hp=>?_,fun j hj hu=>?_⟩
 ·obtain ⟨R,h1,h2,h3⟩:=h.at hP hv hi;have hR:=AU hi h1;have e1:=AV (P:=R) (w:=wt (iH c n i) (iI d n i) e m) hi (fun k=>AP hi k);have e2:wt (iH c n i) (iI d n i) e m i (R i)=c i (P i) - e (P i):=by rw [vX hi,h2,wt,if_pos hp]
  rw [lC] at e1;have hun:used (cut R n i) n (P i)=false:=h2 ▸ EM hi h1 (by omega)
  -- the column is free without row i
  have hlow:=hF.c i hi _ hp;rcases h.vis _ hp with hV | ⟨i',hi',hV⟩
  ·have:=h.opt.low _ hR;rw [dQ hR] at this;omega
  ·have hp':=vY hR (Nat.le_of_lt hp) (fun _=>hun);have:=(h.more i' hi').low _ hp';rw [dQ hp',AQ,lC] at this;have e3:wt (iH c n i') (iI d n i') e m n (P i)=c i' (P i) - e (P i):=by simp [wt,iH,hp]
   omega
 ·obtain ⟨R,h1,h2,h3⟩:=h.at hP hv hi;have hR:=AU hi h1;have e1:=AV (P:=R) (w:=wt (iH c n i) (iI d n i) e m) hi (fun k=>AP hi k);have e2:wt (iH c n i) (iI d n i) e m i (R i)=d i:=by rw [vX hi,h2,wt,if_neg (by omega)]
  rw [lC] at e1;have:=h.opt.low _ hR;rw [dQ hR] at this;have:=hF.d i hi;omega
 ·rcases h.vis j hj with hV | ⟨i,hi,hV⟩
  ·exact hV
  ·have hp':=vY hP (Nat.le_of_lt hj) (fun _=>hu);have:=(h.more i hi).low _ hp';rw [dQ hp',AQ,lC] at this;have e3:wt (iH c n i) (iI d n i) e m n j=c i j - e j:=by simp [wt,iH,hj]
   have:=h.ve j hj;omega
theorem dK.sum {v0:Int} {U V:Nat→Int} (h:dK c d e n m v0 U V):sg n U+sg m V=v0:=by
 obtain ⟨P,hP,hv⟩:=h.opt.has;obtain ⟨h1,h2,h3⟩:=h.TI hP hv;have e1:=col hP (fun j=>V j - e j);have e2:sg m (fun j=>if used P n j then V j - e j else 0)=sg m (fun j=>V j - e j):=bB fun j hj=>by
  cases hu:used P n j
  ·have:=h3 j hj hu;simp;omega
  ·simp
 have e3:sg n (fun i=>U i+if P i < m then V (P i) - e (P i) else 0)=tot (wt c d e m) n P:=bB fun i hi=>by
  show _=wt c d e m i (P i)
  unfold wt;split
  ·rename_i hp;have:=h1 i hi hp;omega
  ·have:=h2 i hi (by have:=hP.le i hi;omega);omega
 rw [qO] at e3;rw [AL] at e2;rw [dQ hP] at hv;omega

theorem dK.most {v0:Int} {U V:Nat→Int} (h:dK c d e n m v0 U V) {u v:Nat→Int} (hF:Cb c d e n m u v) (hs:sg n u+sg m v=v0) {i:Nat} (hi:i < n):u i≤U i:=by
 obtain ⟨P,hP,hv⟩:=(h.more i hi).has;have:=weak (hF.dup hi) hP;rw [bT,bB (g:=u) (fun r hr=>by (have:r≠n:=by omega);simp [this])] at this;simp at this;omega
theorem EH.weak {v0:Int} (h:EH c d e n m v0) {u v:Nat→Int} (hF:Cb c d e n m u v):sg n u+sg m v≤v0:=by
 obtain ⟨P,hP,hv⟩:=h.has;rw [←hv];exact aY.weak hF hP

theorem dK.low {v0:Int} {U V:Nat→Int} {E:Int} (h:dK c d e n m v0 U V) (hc:∀ i,i < n→∀ j,j < m→0≤c i j) (hd:∀ i,i < n→0≤d i) (he:∀ j,j < m→0≤e j∧e j≤E) (hE:0≤E) {i:Nat} (hi:i < n) : -E≤U i:=by
 obtain ⟨Q,hQ,hq⟩:=(h.more i hi).has;rw [dQ hQ] at hq;have hR:=AU hi hQ;have e1:=AV (P:=Q) (w:=wt (iH c n i) (iI d n i) e m) hi (fun k=>AP hi k);rw [lC,vX hi] at e1;have:=h.opt.low _ hR;rw [dQ hR] at this;have h5 : -E≤wt c d e m i (Q i):=by
  unfold wt;split
  ·rename_i hp;have:=hc i hi _ hp;have:=he _ hp;omega
  ·have:=hd i hi;omega
 omega
end
end Go.CH.aY
