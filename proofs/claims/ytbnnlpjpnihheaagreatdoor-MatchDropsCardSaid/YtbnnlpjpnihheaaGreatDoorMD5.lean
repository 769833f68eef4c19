import Derived.Test.YtbnnlpjpnihheaaGreatDoorMD4
import Derived.Test.YtbnnlpjpnihheaaGreatDoorMD2
import Derived.Test.YtbnnlpjpnihheaaGreatDoorMD3
import Derived.Deep.LoopGhost
set_option linter.unusedSimpArgs false
set_option linter.unusedVariables false
namespace Go.Proofs.YtbnnlpjpnihheaaGreatDoor
open Go.RowKit Go.CH Go.CH.Scr Go.CH.Pot
open Go.ChangeMaps (setBlock)
set_option maxHeartbeats 6400000 in
set_option maxRecDepth 100000 in
theorem tvalid_any {w:World} {T:Tab} {a:TA} (hT:TabR w T a) (hz:LZ w):Calls Tryz.prog 47 #[tabV T a] w (BelowRet w (.bool (validT T))):=by
 obtain ⟨A,ac,D,dc,E,ec⟩:=a
 have HT:=hide hT
 have HZ:=hide hz
 have HC:=hide (fun n W=>isCost_any n W)
 have h1:Run (fun _=>False) w (star (CellO w.heap.size (tabC T ⟨A,ac,D,dc,E,ec⟩) 25) emp) _:=run_new (Run.begin w) emp_ok (tabC T ⟨A,ac,D,dc,E,ec⟩) 25
 have H1:=hide h1
 obtain ⟨N,hN⟩:∃ N,N=T.rs.length:=⟨_,rfl⟩
 have HN:=hide hN
 unfold tabV tabC
 dsimp only
 unfold tabC at H1
 dsimp only at H1
 rw [←hN] at H1 ⊢
 clear hT hz h1 hN
 go_enter Tryz.func47,Tryz.ntmps47
 iterate 12 (first | go_values | go_guarded | go_step)
 have hcells:∀ W,Run (fun _=>False) w (star (CellO w.heap.size #[.slice A N ac,.slice D T.ds.length dc,.slice E T.es.length ec,.int .i64 T.drop,.int .i64 T.ord,.int .i64 T.ini] 25) emp) W →
   W.cell? ⟨w.heap.size,0,none⟩=some (.slice A N ac)∧W.cell? ⟨w.heap.size,1,none⟩=some (.slice D T.ds.length dc)∧W.cell? ⟨w.heap.size,2,none⟩=some (.slice E T.es.length ec)∧W.cell? ⟨w.heap.size,3,none⟩=some (.int .i64 T.drop)∧W.cell? ⟨w.heap.size,4,none⟩=some (.int .i64 T.ord)∧W.cell? ⟨w.heap.size,5,none⟩=some (.int .i64 T.ini):=fun W h=>by
  obtain ⟨F,hF⟩:=h.fst
  exact ⟨cell_at hF rfl,cell_at hF rfl,cell_at hF rfl,cell_at hF rfl,cell_at hF rfl,cell_at hF rfl⟩
 have HCE:=hide hcells
 clear hcells
 generalize w.alloc (.cells #[.slice A N ac,.slice D T.ds.length dc,.slice E T.es.length ec,.int .i64 T.drop,.int .i64 T.ord,.int .i64 T.ini] 25)=w1 at *
 obtain ⟨c0,c1,c2,c3,c4,c5⟩:=HCE.out _ H1.out
 have HB:=hide (H1.out.mod.below (fun _ _ h=>h))
 by_cases hn0:N=0
 ·have t1:((N:Int) == 0)=true:=by simp [hn0]
  have HF:=hide (valid_head (T:=T) (.inl (by rw [←List.length_eq_zero_iff,←HN.out];exact hn0)))
  clear hn0
  go_wp2
  go_ret
  exact bel_bool HF.out HB.out
 ·have t1:((N:Int) == 0)=false:=by simp [hn0]
  by_cases h80:80 < N
  ·have t2:(80:Int) < (N:Int):=by omega
   have HF:=hide (valid_head (T:=T) (.inr (.inl (by rw [←HN.out];exact h80))))
   clear hn0 h80
   go_wp2
   go_ret
   exact bel_bool HF.out HB.out
  ·have t2:¬ (80:Int) < (N:Int):=by omega
   have K1:=hide (HC.out T.drop)
   have K2:=hide (HC.out T.ord)
   have K3:=hide (HC.out T.ini)
   have HNE:=hide (show T.rs≠[]∧T.rs.length≤80 from ⟨by rw [ne_eq,←List.length_eq_zero_iff,←HN.out];exact hn0,by rw [←HN.out];omega⟩)
   clear HC hn0
   cases h3:costN T.drop with
   | false =>
    have HF:=hide (valid_head (T:=T) (.inr (.inr (.inl h3))))
    simp only [h3] at K1
    clear h3
    go_wp2_with fail
    refine (K1.out _).mono ?_
    rintro e9 w2 ⟨rfl,hb⟩
    have HB2:=hide (bel_trans HB.out hb)
    clear K1 K2 K3 hb
    dsimp only
    go_wp2
    go_ret
    exact bel_bool HF.out HB2.out
   | true =>
    simp only [h3] at K1
    go_wp2_with fail
    refine (K1.out _).mono ?_
    rintro e9 w2 ⟨rfl,hb⟩
    have H2:=hide (H1.out.below (star_ok cell_ok emp_ok) hb)
    have HB2:=hide (bel_trans HB.out hb)
    clear K1 hb c0 c1 c2 c3 c4 c5 H1 HB
    obtain ⟨c0,c1,c2,c3,c4,c5⟩:=HCE.out _ H2.out
    dsimp only
    cases h4:costN T.ord with
    | false =>
     have HF:=hide (valid_head (T:=T) (.inr (.inr (.inr (.inl h4)))))
     simp only [h4] at K2
     clear h3 h4
     go_wp2_with fail
     refine (K2.out _).mono ?_
     rintro e9 w3 ⟨rfl,hb⟩
     have HB3:=hide (bel_trans HB2.out hb)
     clear K2 K3 hb
     dsimp only
     go_wp2
     go_ret
     exact bel_bool HF.out HB3.out
    | true =>
     simp only [h4] at K2
     go_wp2_with fail
     refine (K2.out _).mono ?_
     rintro e9 w3 ⟨rfl,hb⟩
     have H3:=hide (H2.out.below (star_ok cell_ok emp_ok) hb)
     have HB3:=hide (bel_trans HB2.out hb)
     clear K2 hb c0 c1 c2 c3 c4 c5 H2 HB2
     obtain ⟨c0,c1,c2,c3,c4,c5⟩:=HCE.out _ H3.out
     dsimp only
     cases h5:costN T.ini with
     | false =>
      have HF:=hide (valid_head (T:=T) (.inr (.inr (.inr (.inr h5)))))
      simp only [h5] at K3
      clear h3 h4 h5
      go_wp2_with fail
      refine (K3.out _).mono ?_
      rintro e9 w4 ⟨rfl,hb⟩
      have HB4:=hide (bel_trans HB3.out hb)
      clear K3 hb
      dsimp only
      go_wp2
      go_ret
      exact bel_bool HF.out HB4.out
     | true =>
      have HHD:=hide (show T.rs≠[]∧T.rs.length≤80∧costN T.drop=true∧costN T.ord=true∧costN T.ini=true from ⟨HNE.out.1,HNE.out.2,h3,h4,h5⟩)
      simp only [h5] at K3
      clear h3 h4 h5
      go_wp2_with fail
      refine (K3.out _).mono ?_
      rintro e9 w4 ⟨rfl,hb⟩
      have H4:=hide (H3.out.below (star_ok cell_ok emp_ok) hb)
      have HB4:=hide (bel_trans HB3.out hb)
      clear K3 hb c0 c1 c2 c3 c4 c5 H3 HB3
      obtain ⟨c0,c1,c2,c3,c4,c5⟩:=HCE.out _ H4.out
      dsimp only
      have hmk:∀ w:World,(Instr.makeMap 144 none).run Tryz.prog w=.ok (.map (some w.heap.size)) (w.alloc (.map #[] 0)):=fun w=>by kernel_rfl
      have H5:=hide (show Run (fun _=>False) w (star (SetO w4.heap.size ((T.rs.take 0).map keyR)) _) (w4.alloc (.map #[] 0)) from H4.out.fresh (star_ok cell_ok emp_ok) (map_new (kv:=keyV) w4))
      have hbx:∀ W O,Run (fun _=>False) w (star O (star (CellO w.heap.size #[.slice A N ac,.slice D T.ds.length dc,.slice E T.es.length ec,.int .i64 T.drop,.int .i64 T.ord,.int .i64 T.ini] 25) emp)) W→W.cell? ⟨w.heap.size,0,none⟩=some (.slice A N ac):=fun W O h=>(HCE.out _ h.drop).1
      have hc0:=hbx _ _ H5.out
      clear hbx c0 c1 c2 c3 c4 c5 H4 HB4
      go_wp2
      clear hmk hc0
      generalize w4.alloc (.map #[] 0)=w5 at *
      generalize w4.heap.size=bm at *
      generalize w.heap.size=gt at *
      have HB0:=hide (show ∀ wr O,Run (fun _=>False) w O wr→Below w.heap.size w wr from fun wr O h=>h.mod.below (fun _ _ h=>h))
      go_loopw [39] (fun i wr=>∃ k:Nat,k≤N∧i=.int .i64 k∧(∀ d ∈ T.rs.take k,ruleN d=true)∧((T.rs.take k).map keyR).Nodup∧Run (fun _=>False) w (star (SetO bm ((T.rs.take k).map keyR)) (star (CellO gt #[.slice A N ac,.slice D T.ds.length dc,.slice E T.es.length ec,.int .i64 T.drop,.int .i64 T.ord,.int .i64 T.ini] 25) emp)) wr) (fun i _=>N - (intOf i).toNat)
      case atStart=>exact ⟨0,Nat.zero_le _,rfl,by simp,by simp,H5.out⟩
      case round =>
       clear H5 HB0
       obtain ⟨k,hk,rfl,ha,hnd,hR⟩:=hrel
       have HAL:=hide ha
       have HND:=hide hnd
       have HR:=hide hR
       clear ha hnd hR
       by_cases hlt:k < N
       ·have hkn:k < T.rs.length:=by rw [←HN.out];exact hlt
        have HK1:=hide (show k+1≤N from hlt)
        have hkb:(k:Int) < 1000000:=by have:=HNE.out.2;omega
        obtain ⟨b,o,rfl,hc⟩:=RulesR.at HT.out.rs (by omega)
        obtain ⟨r0,r1,r2,r3⟩:=hc wr (HR.out.mod.below (fun _ _ h=>h)) k hkn
        have hsr:=HT.out.sr _ (List.getElem_mem hkn)
        clear hc
        have okB:(star (SetO bm ((T.rs.take k).map keyR)) (star (CellO gt #[.slice (some ⟨b,o,none⟩) N ac,.slice D T.ds.length dc,.slice E T.es.length ec,.int .i64 T.drop,.int .i64 T.ord,.int .i64 T.ini] 25) emp)).Ok:=star_ok set_ok (star_ok cell_ok emp_ok)
        have h2:=run_new HR.out okB #[.int .i64 T.rs[k].k,.string (bs T.rs[k].f),.string (bs T.rs[k].t),.int .i64 T.rs[k].c] 113
        have h3:=run_new h2 (star_ok cell_ok okB) #[.int .i64 T.rs[k].k,.string (bs T.rs[k].f),.string (bs T.rs[k].t)] 146
        rw [World.size_alloc] at h3
        obtain ⟨FS,hFS⟩:=h3.drop.drop.fst
        have hlk:=set_get hFS (keyR T.rs[k])
        have hlk2:(Instr.lookup 144 (.map (some bm)) (.agg #[.int .i64 T.rs[k].k,.string (bs T.rs[k].f),.string (bs T.rs[k].t)]) false).run Tryz.prog ((wr.alloc (.cells #[.int .i64 T.rs[k].k,.string (bs T.rs[k].f),.string (bs T.rs[k].t),.int .i64 T.rs[k].c] 113)).alloc (.cells #[.int .i64 T.rs[k].k,.string (bs T.rs[k].f),.string (bs T.rs[k].t)] 146))=.ok (.bool (decide (keyR T.rs[k] ∈ (T.rs.take k).map keyR))) _:=hlk
        have HNO:=hide (fun h=>valid_rules (rules_no hkn h))
        have HST:=hide (fun h=>rkeys_step hkn HND.out h)
        have HAS:=hide (fun h=>rall_step hkn HAL.out h)
        have H3:=hide h3
        clear hlk h2 h3 hFS HR
        by_cases hin:keyR T.rs[k] ∈ (T.rs.take k).map keyR
        ·rw [decide_eq_true hin] at hlk2
         have HF:=hide (HNO.out (.inl hin))
         clear hin HNO HST HAS
         generalize T.rs[k]=d at *
         have HB:=hide (H3.out.mod.below (fun _ _ h=>h))
         go_wp2
         go_ret
         exact bel_bool HF.out HB.out
        ·rw [decide_eq_false hin] at hlk2
         have HKS:=hide (HST.out hin)
         have HKN:=hide hin
         have KF:=hide (fun W (hz:LZ W)=>folded_any T.rs[k].k (bs T.rs[k].f) 3 W (by rw [bs_size];exact hsr.1) hz)
         have KG:=hide (fun W=>isForm_any (bs T.rs[k].t) W (by rw [bs_size];exact hsr.2))
         clear hin HST
         simp only [bl_bs] at KF KG
         have KF2:=hide (KF.out _ (HZ.out.below (H3.out.mod.below (fun _ _ h=>h))))
         have KC:=hide (fun W=>isCost_any T.rs[k].c W)
         have okA:(star (CellO (wr.heap.size+1) #[.int .i64 T.rs[k].k,.string (bs T.rs[k].f),.string (bs T.rs[k].t)] 146) (star (CellO wr.heap.size #[.int .i64 T.rs[k].k,.string (bs T.rs[k].f),.string (bs T.rs[k].t),.int .i64 T.rs[k].c] 113) (star (SetO bm ((T.rs.take k).map keyR)) (star (CellO gt #[.slice (some ⟨b,o,none⟩) N ac,.slice D T.ds.length dc,.slice E T.es.length ec,.int .i64 T.drop,.int .i64 T.ord,.int .i64 T.ini] 25) emp)))).Ok:=star_ok cell_ok (star_ok cell_ok okB)
         have OKA:=hide okA
         have OKB:=hide okB
         have HDN:=hide (show ruleN T.rs[k]=(foldedN T.rs[k].k T.rs[k].f 3 && (formN T.rs[k].t && costN T.rs[k].c)) from rfl)
         have HKY:=hide (show keyR T.rs[k]=(T.rs[k].k,T.rs[k].f,T.rs[k].t) from rfl)
         clear KF okA okB
         go_wp2_with fail
         refine KF2.out.mono ?_
         rintro e9 w6 ⟨rfl,hb⟩
         have H4:=hide (H3.out.below OKA.out hb)
         clear KF2 H3 hb hlk2 r0 r1 r2 r3
         generalize wr.heap.size+1=g2 at *
         generalize wr.heap.size=g1 at *
         obtain ⟨F1,hF1⟩:=H4.out.fst
         have y0:=cell_at (i:=0) hF1 rfl
         have y1:=cell_at (i:=1) hF1 rfl
         have y2:=cell_at (i:=2) hF1 rfl
         obtain ⟨F2,hF2⟩:=H4.out.drop.fst
         have x0:=cell_at (i:=0) hF2 rfl
         have x1:=cell_at (i:=1) hF2 rfl
         have x2:=cell_at (i:=2) hF2 rfl
         have x3:=cell_at (i:=3) hF2 rfl
         clear hF1 hF2
         dsimp only
         cases hfo:foldedN T.rs[k].k T.rs[k].f 3 with
         | false =>
          have HF:=hide (HNO.out (.inr (by rw [HDN.out,hfo];rfl)))
          have HB:=hide (H4.out.mod.below (fun _ _ h=>h))
          clear hfo
          go_wp2
          go_ret
          exact bel_bool HF.out HB.out
         | true =>
          cases hfm:formN T.rs[k].t with
          | false =>
           have HF:=hide (HNO.out (.inr (by rw [HDN.out,hfo,hfm];rfl)))
           simp only [hfm] at KG
           clear hfo hfm
           go_wp2_with fail
           refine (KG.out _).mono ?_
           rintro e9 w7 ⟨rfl,hb⟩
           have H5:=hide (H4.out.below OKA.out hb)
           have HB:=hide (H5.out.mod.below (fun _ _ h=>h))
           clear KG H4 hb
           dsimp only
           go_wp2
           go_ret
           exact bel_bool HF.out HB.out
          | true =>
           simp only [hfm] at KG
           go_wp2_with fail
           refine (KG.out _).mono ?_
           rintro e9 w7 ⟨rfl,hb⟩
           have H5:=hide (H4.out.below OKA.out hb)
           clear KG H4 hb y0 y1 y2 x0 x1 x2 x3
           obtain ⟨F1,hF1⟩:=H5.out.fst
           have y0:=cell_at (i:=0) hF1 rfl
           have y1:=cell_at (i:=1) hF1 rfl
           have y2:=cell_at (i:=2) hF1 rfl
           obtain ⟨F2,hF2⟩:=H5.out.drop.fst
           have x0:=cell_at (i:=0) hF2 rfl
           have x1:=cell_at (i:=1) hF2 rfl
           have x2:=cell_at (i:=2) hF2 rfl
           have x3:=cell_at (i:=3) hF2 rfl
           clear hF1 hF2
           dsimp only
           cases hco:costN T.rs[k].c with
           | false =>
            have HF:=hide (HNO.out (.inr (by rw [HDN.out,hfo,hfm,hco];rfl)))
            simp only [hco] at KC
            clear hfo hfm hco
            go_wp2_with fail
            refine (KC.out _).mono ?_
            rintro e9 w8 ⟨rfl,hb⟩
            have H6:=hide (H5.out.below OKA.out hb)
            have HB:=hide (H6.out.mod.below (fun _ _ h=>h))
            clear KC H5 hb
            dsimp only
            go_wp2
            go_ret
            exact bel_bool HF.out HB.out
           | true =>
            have HA2:=hide (HAS.out (by rw [HDN.out,hfo,hfm,hco];rfl))
            simp only [hco] at KC
            clear hfo hfm hco
            go_wp2_with fail
            refine (KC.out _).mono ?_
            rintro e9 w8 ⟨rfl,hb⟩
            have H6:=hide (H5.out.below OKA.out hb)
            clear KC H5 hb y0 y1 y2 x0 x1 x2 x3
            dsimp only
            obtain ⟨F1,hF1⟩:=H6.out.fst
            have y0:=cell_at (i:=0) hF1 rfl
            have y1:=cell_at (i:=1) hF1 rfl
            have y2:=cell_at (i:=2) hF1 rfl
            clear hF1
            obtain ⟨FM,hFM,-,bk⟩:=(H6.out.drop.drop).take set_ok (star_ok cell_ok emp_ok)
            obtain ⟨w9,hup,hpost⟩:=set_put hFM HKN.out
            have h6:=bk _ _ hpost
            rw [←HKS.out.1] at h6
            have H7:=hide h6
            rw [HKY.out] at hup
            have hup2:(Instr.mapUpdate 144 (.map (some bm)) (.agg #[.int .i64 T.rs[k].k,.string (bs T.rs[k].f),.string (bs T.rs[k].t)]) (.bool true)).run Tryz.prog w8=.ok () w9:=hup
            clear hFM bk hup hpost h6
            go_wp2
            go_roundw
            case rel=>exact ⟨k+1,HK1.out,by go_num,HA2.out,HKS.out.2,H7.out⟩
            case measure=>have:=HK1.out;simp [intOf];omega
       ·obtain rfl:k=N:=by omega
        have hrl:rulesN T.rs=true:=rulesN_iff.2 ⟨by have:=HND.out;rw [HN.out,List.take_length] at this;exact this,by have:=HAL.out;rw [HN.out,List.take_length] at this;exact this⟩
        have HVT:=hide (valid_tail HHD.out hrl)
        clear HND HAL hrl
        obtain ⟨FT,hFT⟩:=HR.out.drop.fst
        have c1:=cell_at (i:=1) hFT rfl
        have c2:=cell_at (i:=2) hFT rfl
        clear hFT
        have okC:(star (SetO bm ((T.rs.take k).map keyR)) (star (CellO gt #[.slice A k ac,.slice D T.ds.length dc,.slice E T.es.length ec,.int .i64 T.drop,.int .i64 T.ord,.int .i64 T.ini] 25) emp)).Ok:=star_ok set_ok (star_ok cell_ok emp_ok)
        have HBW:=hide (HR.out.mod.below (fun _ _ h=>h))
        have KD:=hide (checkDrops_any (most:=12) (c:=dc) (HT.out.ds.below HBW.out) HT.out.ld HT.out.sd (HZ.out.below HBW.out))
        have KE:=hide (fun W (hb:Below w.heap.size w W)=>checkDrops_any (w:=W) (most:=4) (c:=ec) (HT.out.es.below hb) HT.out.le HT.out.se (HZ.out.below hb))
        go_wp2_with fail
        refine KD.out.mono ?_
        rintro e9 w6 ⟨rfl,hb⟩
        have H4:=hide (HR.out.below okC hb)
        have HB:=hide (bel_trans HBW.out hb)
        clear KD hb c1 c2 okC HR HBW
        obtain ⟨FT,hFT⟩:=H4.out.drop.fst
        have c2:=cell_at (i:=2) hFT rfl
        clear hFT H4
        dsimp only
        cases hd1:dropsN 12 T.ds with
        | false =>
         have HF:=hide (show validT T=false by rw [HVT.out,hd1];rfl)
         clear hd1 KE
         go_wp2
         go_ret
         exact bel_bool HF.out HB.out
        | true =>
         have HF:=hide (show validT T=dropsN 4 T.es by rw [HVT.out,hd1];rfl)
         have KE2:=hide (KE.out w6 HB.out)
         clear hd1 KE
         go_wp2_with fail
         refine KE2.out.mono ?_
         rintro e9 w7 ⟨rfl,hb⟩
         have HB2:=hide (bel_trans HB.out hb)
         clear KE2 hb
         dsimp only
         go_wp2
         go_ret
         exact bel_bool HF.out HB2.out
end Go.Proofs.YtbnnlpjpnihheaaGreatDoor
namespace Go.Proofs.YtbnnlpjpnihheaaGreatDoor
open Go.RowKit Go.CH Go.CH.Scr Go.CH.Pot
open Go.ChangeMaps (setBlock)
end Go.Proofs.YtbnnlpjpnihheaaGreatDoor
namespace Go.Proofs.YtbnnlpjpnihheaaGreatDoor
open Go.RowKit Go.CH Go.CH.Scr Go.CH.Pot
open Go.ChangeMaps (setBlock)

def ofW (T:Tab) (k:Int) (x:Bs) (k2:Int) (y:Bs):Wd:=⟨k,k2,(openN k x).1,(openN k2 y).1,T.rs⟩
theorem ofW_ok {T:Tab} {k k2:Int} {x y:Bs} (h:okW T k x k2 y=true):ofW T k x k2 y=wdOf T k x k2 y:=by
 obtain ⟨h1,h2,-⟩:=okW_iff.1 h
 unfold ofW wdOf openN
 rw [if_pos h1,if_pos h2]
theorem openN_len (k:Int) (x:Bs):(openN k x).1.length≤12:=by
 unfold openN
 split
 ·rename_i h;exact (word_iff.1 (fold_word h)).2.2
 ·exact Nat.zero_le _
theorem res_cell_tmp {fn:Func} {p u:Tmp} {ty:TypeId} (h:fn.results=#[.cell p ty,.tmp u]) {P:Program} (tmps:Array Value) (w:World) (g:Nat) (t:TypeId) (cs:Array Value) (fr:Nat × Nat) {d:Array Field}
  (hp:tmps.getD p undef=.pointer (some ⟨g,0,none⟩)) (hg:w.heap[g]?=some (.cells cs t fr))
  (hu:P.underlying ty=some (.struct d)) (hi:(P.info? ty).map (·.size)=some cs.size) :
  (results fn tmps).run P w=.ok (.tuple #[.agg cs,tmps.getD u undef]) w:=by
 rw [results_cell_tmp h,hp]
 simp [asAddr,run_loadVar_row w g t ty cs fr (.struct d) hg hu rfl hi]
end Go.Proofs.YtbnnlpjpnihheaaGreatDoor
namespace Go.CH
open Go.RowKit
open Go.ChangeMaps (setBlock)
section
variable {P:Program}
end
end Go.CH
namespace Go.CH.Pot
open Go.CH.Scr
end Go.CH.Pot
namespace Go.Proofs.YtbnnlpjpnihheaaGreatDoor
open Go.RowKit Go.CH Go.CH.Scr Go.CH.Pot
open Go.ChangeMaps (setBlock)
end Go.Proofs.YtbnnlpjpnihheaaGreatDoor
namespace Go.Proofs.YtbnnlpjpnihheaaGreatDoor
open Go.RowKit Go.CH Go.CH.Scr Go.CH.Pot
open Go.ChangeMaps (setBlock)
theorem src_lit {W:World} {cs:Array Value} {t:TypeId} (h:∀ u ∈ cs.toList,u.oneCell'=true):Src (W.alloc (.cells cs t)) (some ⟨W.heap.size,0,none⟩) 1 cs.size cs.toList:=by
 refine ⟨by simp,h,fun _=>⟨_,rfl,fun j u hu=>?_⟩⟩
 rw [Array.getElem?_toList] at hu
 have e:(⟨W.heap.size,0,none⟩:Addr).add j=⟨W.heap.size,j,none⟩:=by unfold Addr.add;split <;> simp_all
 rw [e]
 simp only [World.cell?,heap_alloc_new W _]
 rw [hu];rfl
end Go.Proofs.YtbnnlpjpnihheaaGreatDoor
namespace Go.Proofs.YtbnnlpjpnihheaaGreatDoor
open Go.RowKit Go.CH Go.CH.Scr Go.CH.Pot
open Go.ChangeMaps (setBlock)

structure RA where
 r:AR
 A:Option Addr
 c:Nat
def acells (x:RA):List Value:=[.int .i64 (x.r.ix:Nat),.int .i64 x.r.c,.slice x.A x.r.f.length x.c,.string (bs x.r.t)]
theorem acells_one (l:List RA):∀ u ∈ l.flatMap acells,u.oneCell'=true:=by
 intro u hu
 obtain ⟨x,-,hx⟩:=List.mem_flatMap.1 hu
 unfold acells at hx
 simp only [List.mem_cons,List.not_mem_nil,or_false] at hx
 rcases hx with rfl | rfl | rfl | rfl <;> rfl
def FromO:List RA→CH.Own
 | []=>emp
 | x :: l=>star (StrO x.A x.c x.r.f) (FromO l)
theorem from_ok:∀ {l:List RA},(FromO l).Ok
 | []=>emp_ok
 | _ :: _=>star_ok str_ok from_ok
theorem from_snoc (x:RA):∀ l:List RA,FromO (l ++ [x])=star (StrO x.A x.c x.r.f) (FromO l)
 | []=>rfl
 | y :: l=>by
  show star _ (FromO (l ++ [x]))=star _ (star _ (FromO l))
  rw [from_snoc x l];ac_rfl
def ArsO (A:Option Addr) (c:Nat) (l:List RA):CH.Own:=RowO 181 4 (.slice A l.length c) l.length (l.flatMap acells)
theorem ars_ok {A:Option Addr} {c:Nat} {l:List RA}:(ArsO A c l).Ok:=row_ok
abbrev ArsR (w:World) (A:Option Addr) (l:List RA):Prop:=Rst acells 4 w A l
theorem ars_of {w:World} {F:Nat→Prop} {A:Option Addr} {c:Nat} {l:List RA} (h:ArsO A c l w F):ArsR w A l:=row_src h (acells_one l)
theorem arsOk:SliceOk Tryz.prog 165 181 (.agg #[.int .i64 0,.int .i64 0,.slice none 0 0,.string ⟨#[]⟩]) 4 56:=⟨Tryz.underlying165,by kernel_rfl,by decide,by decide⟩
theorem ars_snoc {A:Option Addr} {c:Nat} {l:List RA} {x:RA}:RowO 181 4 (.slice A (l.length+1) c) (l.length+1) (l.flatMap acells ++ acells x)=ArsO A c (l ++ [x]):=by
 unfold ArsO
 rw [List.flatMap_append,List.length_append,List.length_singleton,List.flatMap_singleton]
theorem app_ars {F0:Nat→Prop} {w0 W:World} {Y:CH.Own} {ops:Array Oper} {rest:List Oper} {o:Oper} {a:Act} {Q:Exit→Act→World→Prop} (hgd:o.guard=none) (s x:Operand)
  (ho:o.op=.call { callee:=.builtin .append,args:=#[s,x],argTypes:=#[165,165] }) {A:Option Addr} {c n:Nat} {l:List RA} (p:RA) (hl:l.length=n) (hsv:a.eval s=.slice A n c) (hx:a.eval x=.slice (some ⟨W.heap.size,0,none⟩) 1 1) (hn:n≤1000000) (hY:Y.Ok)
  (h:Run F0 w0 (star (ArsO A c l) Y) W)
  (hK:∀ A' c' w',Run F0 w0 (star (ArsO A' c' (l ++ [p])) Y) w'→wpList Tryz.prog ops Q rest (a.put o.dst (.slice A' (n+1) c')) w'):wpList Tryz.prog ops Q (o :: rest) a (W.alloc (.cells #[.int .i64 (p.r.ix:Nat),.int .i64 p.r.c,.slice p.A p.r.f.length p.c,.string (bs p.r.t)] 181)):=by
 subst hl
 obtain ⟨F7,hR7,-,bk7⟩:=(h.below (star_ok ars_ok hY) ((Below.refl _ _).alloc (Nat.le_refl _) (.cells #[.int .i64 (p.r.ix:Nat),.int .i64 p.r.c,.slice p.A p.r.f.length p.c,.string (bs p.r.t)] 181))).take ars_ok hY
 refine wpList_appX hgd s x ho arsOk _ 0 (v:=.slice A l.length c) (n:=l.length) (xs:=l.flatMap acells) hsv hR7.1 (A:=some ⟨W.heap.size,0,none⟩) (m:=1) (c:=1) (news:=acells p) hx (src_lit (cs:=#[.int .i64 (p.r.ix:Nat),.int .i64 p.r.c,.slice p.A p.r.f.length p.c,.string (bs p.r.t)]) (fun u hu=>acells_one [p] u (by simpa [acells] using hu))) (by unfold maxLen;omega) (by omega) (Nat.zero_le _) ?_
 intro v8 w8 ho8 hg8 hv8
 have S8:=bk7 _ _ (row_app hR7 ho8 hg8 hv8)
 obtain ⟨A8,c8,rfl⟩:=own_form ho8
 rw [ars_snoc] at S8
 exact hK A8 c8 w8 S8

structure SA where
 L:Option Addr
 lc:Nat
 R:Option Addr
 rc:Nat
 q:List RA

def sideN (T:Tab) (k:Int) (x:Bs):List Bs × List AR:=if word k x then ((ltrs k (lower x)).1,sideR T.rs k) else ([],[])
def sideC (l:List Bs) (s:SA):Array Value:=#[.slice s.L l.length s.lc,.slice s.R s.q.length s.rc]
def SideO (l:List Bs) (s:SA):CH.Own:=star (StrO s.L s.lc l) (star (ArsO s.R s.rc s.q) (FromO s.q))
theorem side_ok {l:List Bs} {s:SA}:(SideO l s).Ok:=star_ok str_ok (star_ok ars_ok from_ok)

def SideRet (w:World) (T:Tab) (k:Int) (x:Bs) (e:Ending) (w':World):Prop :=
 ∃ s:SA,e=.returned (.tuple #[.agg (sideC (sideN T k x).1 s),.bool (word k x)])∧s.q.map (·.r)=(sideN T k x).2∧Post w (fun _=>False) (SideO (sideN T k x).1 s) w'
theorem run_set2 {F0:Nat→Prop} {w0 w:World} {g:Nat} {t:TypeId} {X:CH.Own} {a0 a1:Value} (h:Run F0 w0 (star (CellO g #[a0,a1] t) X) w) (hX:X.Ok) (b0 b1:Value) :
  Run F0 w0 (star (CellO g #[b0,b1] t) X) ((w.setCell ⟨g,0,none⟩ b0).setCell ⟨g,1,none⟩ b1):=by
 have h0:Run F0 w0 (star (CellO g #[b0,a1] t) X) _:=run_setc h hX 0 b0
 exact run_setc h0 hX 1 b1
theorem sr_step {rs:List Rule} {k:Int} {n:Nat} (hn:n < rs.length):(rs.zipIdx.take (n+1)).filterMap (arOf k)=(rs.zipIdx.take n).filterMap (arOf k) ++ (arOf k (rs[n],n)).toList:=by
 have e:rs.zipIdx.take (n+1)=rs.zipIdx.take n ++ [(rs[n],n)]:=by
  rw [List.take_succ_eq_append_getElem (by rw [List.length_zipIdx];exact hn)]
  simp
 rw [e,List.filterMap_append]
 cases h:arOf k (rs[n],n) <;> simp [h]
theorem sr_end {rs:List Rule} {k:Int} {n:Nat} (hn:rs.length≤n):(rs.zipIdx.take n).filterMap (arOf k)=sideR rs k:=by
 rw [List.take_of_length_le (by rw [List.length_zipIdx];exact hn)];rfl
end Go.Proofs.YtbnnlpjpnihheaaGreatDoor
namespace Go.Proofs.YtbnnlpjpnihheaaGreatDoor
open Go.RowKit Go.CH Go.CH.Scr Go.CH.Pot
open Go.ChangeMaps (setBlock)
set_option maxHeartbeats 6400000 in
set_option maxRecDepth 100000 in
theorem sideOf_any {w:World} {T:Tab} {a:TA} (hT:TabR w T a) (hz:LZ w) (k:Int) (x:Bs) (hx:x.length≤1000000) :
  Calls Tryz.prog 124 #[tabV T a,.int .i64 k,.string (bs x)] w (SideRet w T k x):=by
 have HT:=hide hT
 have HZ:=hide hz
 have HX:=hide hx
 have h1:Run (fun _=>False) w (star (CellO w.heap.size (tabC T a) 25) emp) _:=run_new (Run.begin w) emp_ok (tabC T a) 25
 have KF:=hide (fun W (hz:LZ W)=>fold_any k (bs x) W (by rw [bs_size];exact hx) hz)
 simp only [bl_bs] at KF
 unfold BelowRet at KF
 have H1:=hide h1
 clear hT hz hx h1
 unfold tabV tabC
 unfold tabC at H1
 go_enter Tryz.func124,Tryz.ntmps124
 have H2:=hide (show Run (fun _=>False) w (star (CellO (w.heap.size+1) #[.slice none 0 0,.slice none 0 0] 167) (star (CellO w.heap.size #[.slice a.A T.rs.length a.c,.slice a.D T.ds.length a.d,.slice a.E T.es.length a.e,.int .i64 T.drop,.int .i64 T.ord,.int .i64 T.ini] 25) emp)) _ from (by have h2:=run_new H1.out (star_ok cell_ok emp_ok) #[.slice none 0 0,.slice none 0 0] 167;rw [World.size_alloc] at h2;exact h2))
 go_wp2_with fail
 clear H1
 generalize hw1:(w.alloc (.cells #[.slice a.A T.rs.length a.c,.slice a.D T.ds.length a.d,.slice a.E T.es.length a.e,.int .i64 T.drop,.int .i64 T.ord,.int .i64 T.ini] 25)).alloc (.cells #[.slice none 0 0,.slice none 0 0] 167)=w1 at *
 clear hw1
 generalize w.heap.size+1=gr at *
 generalize w.heap.size=gt at *
 have OK2:=hide (show (star (CellO gr #[.slice none 0 0,.slice none 0 0] 167) (star (CellO gt #[.slice a.A T.rs.length a.c,.slice a.D T.ds.length a.d,.slice a.E T.es.length a.e,.int .i64 T.drop,.int .i64 T.ord,.int .i64 T.ini] 25) emp)).Ok from star_ok cell_ok (star_ok cell_ok emp_ok))
 have HZW:=hide (fun W O (h:Run (fun _=>False) w O W)=>HZ.out.below (h.mod.below (fun _ _ h=>h)))
 by_cases hw:word k x=true
 ·have e1:foldN k x=(lower x,0):=by unfold foldN;rw [if_pos hw]
  have e2:lettersN k (lower x)=((ltrs k (lower x)).1,0):=by unfold lettersN;rw [if_pos (fold_word hw)]
  have e3:sideN T k x=((ltrs k (lower x)).1,sideR T.rs k):=by unfold sideN;rw [if_pos hw]
  have hlo:(openN k x).1=(ltrs k (lower x)).1:=by unfold openN;rw [if_pos hw]
  have HLL:=hide (show (ltrs k (lower x)).1.length≤1000000 from by rw [←hlo];exact Nat.le_trans (openN_len k x) (by omega))
  have KL:=hide (fun W (hz:LZ W)=>Letters_any k (bs (lower x)) W (by rw [bs_size];unfold lower;rw [List.length_map];exact HX.out) hz)
  simp only [bl_bs] at KL
  unfold LtrsRet at KL
  simp only [e2] at KL
  simp only [e1] at KF
  have HSR:=hide (show ∀ (l:List Bs) (s:SA) W,l=(ltrs k (lower x)).1→s.q.map (·.r)=sideR T.rs k→Post w (fun _=>False) (SideO l s) W→SideRet w T k x (.returned (.tuple #[.agg (sideC l s),.bool true])) W from fun l s W hl hq hp=>by
   unfold SideRet
   rw [e3,hw]
   subst hl
   exact ⟨s,rfl,hq,hp⟩)
  obtain ⟨l,hl⟩:∃ l,l=(ltrs k (lower x)).1:=⟨_,rfl⟩
  have HL:=hide hl
  rw [←hl] at KL HLL
  clear e1 e2 e3 hw hlo hl
  refine (KF.out _ (HZW.out _ _ H2.out)).mono ?_
  rintro e9 w2 ⟨rfl,hb⟩
  have H3:=hide (H2.out.below OK2.out hb)
  have KL2:=hide (KL.out _ (HZW.out _ _ H3.out))
  clear KF KL H2 hb
  dsimp only
  go_wp2_with fail
  refine KL2.out.mono ?_
  rintro e9 w3 ⟨L,lc,rfl,hp⟩
  have H4:=hide (H3.out.fresh OK2.out hp)
  clear KL2 H3 hp
  dsimp only
  obtain ⟨n1,hn1⟩:∃ n,n=l.length:=⟨_,rfl⟩
  have HN1:=hide hn1
  rw [←hn1]
  clear hn1
  have HTW:=hide (HT.out.below (H4.out.mod.below (fun _ _ h=>h)))
  have H5:=hide (run_new H4.out (star_ok str_ok OK2.out) #[.slice L n1 lc,.slice none 0 0] 167)
  clear H4
  obtain ⟨fr,hfr⟩:=H5.out.drop.drop.drop.fst
  have c0:=cell_at (i:=0) hfr rfl
  clear hfr
  go_wp2_with fail
  clear c0
  generalize w3.alloc (.cells #[.slice L n1 lc,.slice none 0 0] 167)=w4 at *
  generalize w3.heap.size=gp at *
  obtain ⟨Z,hZ⟩:∃ Z,Z=star (StrO L lc l) (star (CellO gr #[.slice none 0 0,.slice none 0 0] 167) (star (CellO gt #[.slice a.A T.rs.length a.c,.slice a.D T.ds.length a.d,.slice a.E T.es.length a.e,.int .i64 T.drop,.int .i64 T.ord,.int .i64 T.ini] 25) emp)):=⟨_,rfl⟩
  have okZ:Z.Ok:=by rw [hZ];exact star_ok str_ok OK2.out
  have H6:=hide (((H5.out.fresh (star_ok cell_ok (star_ok str_ok OK2.out)) (⟨fun _=>False,row_nil _ _ _,Mod.refl _ _,fun i hi=>.inl hi⟩:Post _ (fun _=>False) (ArsO none 0 []) _)).perm (by rw [hZ];unfold FromO;rw [emp_star];ac_rfl:_=star (CellO gp #[.slice L n1 lc,.slice none 0 0] 167) (star (ArsO none 0 []) (star (FromO []) Z)))))
  have HZZ:=hide hZ
  have OKZ:=hide okZ
  obtain ⟨N,hN⟩:∃ N,N=T.rs.length:=⟨_,rfl⟩
  have HNB:=hide (show N≤1000000 from by rw [hN];exact HT.out.lr)
  clear H5 hZ okZ OK2 HTW
  rw [←hN]
  have HN:=hide hN
  clear hN
  go_loopw [39] (fun i wr=>∃ (n:Nat) (q:List RA) (A:Option Addr) (c:Nat),n≤N∧q.length≤n∧i=.int .i64 n∧q.map (·.r)=(T.rs.zipIdx.take n).filterMap (arOf k)∧Run (fun _=>False) w (star (CellO gp #[.slice L n1 lc,.slice A q.length c] 167) (star (ArsO A c q) (star (FromO q) Z))) wr) (fun i _=>N - (intOf i).toNat)
  case atStart=>exact ⟨0,[],none,0,Nat.zero_le _,Nat.zero_le _,rfl,rfl,H6.out⟩
  case round =>
   clear H6
   obtain ⟨n,q,A,c,hn,hql,rfl,hq,hR⟩:=hrel
   have HR:=hide hR
   have HQ:=hide hq
   have HQL:=hide hql
   clear hR hq hql
   by_cases hlt:n < N
   ·have hkn:n < T.rs.length:=by rw [←HN.out];exact hlt
    have HK1:=hide (show n+1≤N from hlt)
    have hkb:(n:Int) < 1000000:=by have:=HNB.out;omega
    obtain ⟨b,o,hA,hc⟩:=HT.out.rs.at (by omega)
    rw [hA]
    obtain ⟨r0,r1,r2,r3⟩:=hc wr (HR.out.mod.below (fun _ _ h=>h)) n hkn
    have HA:=hide hA
    have HSM:=hide (HT.out.sr _ (List.getElem_mem hkn))
    have HST:=hide (sr_step (k:=k) hkn)
    clear hc hA
    have HAR:∀ R,R=T.rs[n]→arOf k (R,n)=if R.k=k then (if word k R.f=true then some ⟨n,R.c,(ltrs k R.f).1,R.t⟩ else none) else none:=fun R _=>rfl
    have HAR:=hide (HAR _ rfl)
    rw [HAR.out] at HST
    clear HAR
    generalize T.rs[n]=R at *
    obtain ⟨Rk,Rf,Rt,Rc⟩:=R
    dsimp only at r0 r1 r2 r3 HSM HST
    have OKR:=hide (show (star (CellO gp #[.slice L n1 lc,.slice A q.length c] 167) (star (ArsO A c q) (star (FromO q) Z))).Ok from star_ok cell_ok (star_ok ars_ok (star_ok from_ok OKZ.out)))
    have H7:=hide (run_new HR.out OKR.out #[.int .i64 0,.string { data:=#[] },.string { data:=#[] },.int .i64 0] 113)
    go_upto_region 10 with (fail)
    iterate 13 (first | go_values | go_guarded | go_step)
    clear HR r0 r1 r2 r3
    generalize wr.alloc (.cells #[.int .i64 0,.string { data:=#[] },.string { data:=#[] },.int .i64 0] 113)=w5 at *
    generalize wr.heap.size=gq at *
    obtain ⟨r0,r1,r2,r3,rf⟩:=run_c4 H7.out
    go_upto_region 11 with (fail)
    have H8:=hide (run_setc (run_setc (run_setc (run_setc H7.out OKR.out 0 (.int .i64 Rk)) OKR.out 1 (.string (bs Rf))) OKR.out 2 (.string (bs Rt))) OKR.out 3 (.int .i64 Rc):Run (fun _=>False) w (star (CellO gq #[.int .i64 Rk,.string (bs Rf),.string (bs Rt),.int .i64 Rc] 113) (star (CellO gp #[.slice L n1 lc,.slice A q.length c] 167) (star (ArsO A c q) (star (FromO q) Z)))) _)
    clear H7 r0 r1 r2 r3 rf
    generalize (((w5.setCell ⟨gq,0,none⟩ (.int .i64 Rk)).setCell ⟨gq,1,none⟩ (.string (bs Rf))).setCell ⟨gq,2,none⟩ (.string (bs Rt))).setCell ⟨gq,3,none⟩ (.int .i64 Rc)=w6 at *
    obtain ⟨r0,r1,r2,r3,rf⟩:=run_c4 H8.out
    by_cases hkk:Rk=k
    ·have t1:(Rk != k)=false:=by simp [hkk]
     rw [if_pos hkk] at HST
     have KL:=hide (fun W (hz:LZ W)=>Letters_any k (bs Rf) W (by rw [bs_size];exact HSM.out.1) hz)
     simp only [bl_bs] at KL
     unfold LtrsRet at KL
     have KL2:=hide (KL.out _ (HZW.out _ _ H8.out))
     clear KL hkk
     cases hwf:word k Rf with
     | true =>
      have e2:lettersN k Rf=((ltrs k Rf).1,0):=by unfold lettersN;rw [if_pos hwf]
      rw [if_pos hwf] at HST
      simp only [e2] at KL2
      have HS2:=hide (show _=_ ++ [_] from HST.out)
      clear HST e2 hwf
      generalize (ltrs k Rf).1=f at *
      go_wp2_with fail
      refine KL2.out.mono ?_
      rintro e9 w7 ⟨F,fc,rfl,hp⟩
      have H9:=hide (H8.out.fresh (star_ok cell_ok OKR.out) hp)
      clear KL2 H8 hp r0 r1 r2 r3 rf t1
      dsimp only
      obtain ⟨r0,r1,r2,r3,rf⟩:=run_c4 H9.out.drop
      obtain ⟨fp,hfp⟩:=H9.out.drop.drop.fst
      have c1:=cell_at (i:=1) hfp rfl
      clear hfp
      have OKY:=hide (show (star (StrO F fc f) (star (CellO gq #[.int .i64 Rk,.string (bs Rf),.string (bs Rt),.int .i64 Rc] 113) (star (CellO gp #[.slice L n1 lc,.slice A q.length c] 167) (star (FromO q) Z)))).Ok from star_ok str_ok (star_ok cell_ok (star_ok cell_ok (star_ok from_ok OKZ.out))))
      have H10:=hide (H9.out.perm (by ac_rfl:_=star (ArsO A c q) (star (StrO F fc f) (star (CellO gq #[.int .i64 Rk,.string (bs Rf),.string (bs Rt),.int .i64 Rc] 113) (star (CellO gp #[.slice L n1 lc,.slice A q.length c] 167) (star (FromO q) Z))))))
      clear H9
      go_wp2_with (at_builtin;refine held ?_)
      refine Held.mk (app_ars rfl (.tmp 58) (.tmp 66) rfl ⟨⟨n,Rc,f,Rt⟩,F,fc⟩ rfl rfl (by rfl) (by have:=HQL.out;omega) OKY.out H10.out ?_)
      intro A' c' w8 hr8
      have H11:=hide (hr8.perm (by rw [from_snoc];ac_rfl:_=star (CellO gp #[.slice L n1 lc,.slice A q.length c] 167) (star (ArsO A' c' (q ++ [⟨⟨n,Rc,f,Rt⟩,F,fc⟩])) (star (FromO (q ++ [⟨⟨n,Rc,f,Rt⟩,F,fc⟩])) (star (CellO gq #[.int .i64 Rk,.string (bs Rf),.string (bs Rt),.int .i64 Rc] 113) Z)))))
      clear hr8 H10 c1 r0 r1 r2 r3 rf
      obtain ⟨fp,hfp⟩:=H11.out.fst
      have c1:=cell_at (i:=1) hfp rfl
      have cf:=cell_free hfp
      clear hfp
      go_upto_region 15 with (fail)
      have H12:=hide ((run_setc H11.out (star_ok ars_ok (star_ok from_ok (star_ok cell_ok OKZ.out))) 1 (.slice A' (q.length+1) c'):Run (fun _=>False) w (star (CellO gp #[.slice L n1 lc,.slice A' (q.length+1) c'] 167) _) _))
      clear H11 c1 cf
      generalize w8.setCell ⟨gp,1,none⟩ (.slice A' (q.length+1) c')=w9 at *
      go_wp2
      go_roundw
      case rel=>exact ⟨n+1,q ++ [⟨⟨n,Rc,f,Rt⟩,F,fc⟩],A',c',HK1.out,by have:=HQL.out;rw [List.length_append,List.length_singleton];omega,by go_num,by rw [HS2.out,List.map_append,HQ.out];rfl,by
       rw [List.length_append,List.length_singleton]
       exact (H12.out.perm (by ac_rfl:_=star (CellO gq #[.int .i64 Rk,.string (bs Rf),.string (bs Rt),.int .i64 Rc] 113) (star (CellO gp #[.slice L n1 lc,.slice A' (q.length+1) c'] 167) (star (ArsO A' c' (q ++ [⟨⟨n,Rc,f,Rt⟩,F,fc⟩])) (star (FromO (q ++ [⟨⟨n,Rc,f,Rt⟩,F,fc⟩])) Z))))).drop⟩
      case measure=>have:=HK1.out;simp [intOf];omega
     | false =>
      have e2:lettersN k Rf=([],1):=by unfold lettersN;rw [if_neg (by rw [hwf];decide)]
      rw [if_neg (by rw [hwf];decide)] at HST
      simp only [e2] at KL2
      have HS2:=hide (HST.out.trans (List.append_nil _))
      clear HST e2 hwf
      go_wp2_with fail
      refine KL2.out.mono ?_
      rintro e9 w7 ⟨F,fc,rfl,hp⟩
      have H9:=hide (H8.out.fresh (star_ok cell_ok OKR.out) hp)
      clear KL2 H8 hp r0 r1 r2 r3 rf t1
      dsimp only
      go_wp2
      go_roundw
      case rel=>exact ⟨n+1,q,A,c,HK1.out,by have:=HQL.out;omega,by go_num,by rw [HS2.out];exact HQ.out,H9.out.drop.drop⟩
      case measure=>have:=HK1.out;simp [intOf];omega
    ·have t1:(Rk != k)=true:=by simp [hkk]
     rw [if_neg hkk] at HST
     have HS2:=hide (HST.out.trans (List.append_nil _))
     clear HST hkk
     go_wp2
     go_roundw
     case rel=>exact ⟨n+1,q,A,c,HK1.out,by have:=HQL.out;omega,by go_num,by rw [HS2.out];exact HQ.out,H8.out.drop⟩
     case measure=>have:=HK1.out;simp [intOf];omega
   ·have HQE:=hide (HQ.out.trans (sr_end (by rw [←HN.out];omega)))
    have H7:=hide (HR.out.perm (by rw [HZZ.out];ac_rfl:_=star (CellO gr #[.slice none 0 0,.slice none 0 0] 167) (star (CellO gp #[.slice L n1 lc,.slice A q.length c] 167) (star (StrO L lc l) (star (ArsO A c q) (star (FromO q) (star (CellO gt #[.slice a.A T.rs.length a.c,.slice a.D T.ds.length a.d,.slice a.E T.es.length a.e,.int .i64 T.drop,.int .i64 T.ord,.int .i64 T.ini] 25) emp)))))))
    clear HR
    obtain ⟨fr,hfr⟩:=H7.out.fst
    have r0:=cell_at (i:=0) hfr rfl
    have r1:=cell_at (i:=1) hfr rfl
    have rf:=cell_free hfr
    obtain ⟨fp,hfp⟩:=H7.out.drop.fst
    have c0:=cell_at (i:=0) hfp rfl
    have c1:=cell_at (i:=1) hfp rfl
    clear hfr hfp
    go_wp2_with fail
    have H8:=hide (run_set2 H7.out (star_ok cell_ok (star_ok str_ok (star_ok ars_ok (star_ok from_ok (star_ok cell_ok emp_ok))))) (.slice L n1 lc) (.slice A q.length c))
    clear H7 r0 r1 rf c0 c1
    generalize (wr.setCell ⟨gr,0,none⟩ (.slice L n1 lc)).setCell ⟨gr,1,none⟩ (.slice A q.length c)=w9 at *
    obtain ⟨fr,hfr⟩:=H8.out.fst
    have hblk:=hfr.1
    clear hfr
    refine bodyPost_ret (res_cell_tmp rfl _ _ gr 167 #[.slice L n1 lc,.slice A q.length c] (0,0) rfl hblk Tryz.underlying167 (by kernel_rfl)) rfl ?_
    clear hblk
    have h9:Run (fun _=>False) w (star (SideO l ⟨L,lc,A,c,q⟩) (star (CellO gr #[.slice L n1 lc,.slice A q.length c] 167) (star (CellO gp #[.slice L n1 lc,.slice A q.length c] 167) (star (CellO gt #[.slice a.A T.rs.length a.c,.slice a.D T.ds.length a.d,.slice a.E T.es.length a.e,.int .i64 T.drop,.int .i64 T.ord,.int .i64 T.ini] 25) emp)))) w9:=H8.out.perm (by unfold SideO;ac_rfl)
    have h10:=HSR.out l ⟨L,lc,A,c,q⟩ w9 HL.out HQE.out ((h9.swap.drop).post side_ok)
    unfold sideC at h10
    rw [←HN1.out] at h10
    exact h10
 ·have e1:foldN k x=([],1):=by unfold foldN;rw [if_neg hw]
  have e2:sideN T k x=([],[]):=by unfold sideN;rw [if_neg hw]
  have e3:word k x=false:=Bool.eq_false_iff.2 hw
  simp only [e1] at KF
  have HFIN:=hide (show ∀ W,Run (fun _=>False) w (star (CellO gr #[.slice none 0 0,.slice none 0 0] 167) (star (CellO gt #[.slice a.A T.rs.length a.c,.slice a.D T.ds.length a.d,.slice a.E T.es.length a.e,.int .i64 T.drop,.int .i64 T.ord,.int .i64 T.ini] 25) emp)) W→SideRet w T k x (.returned (.tuple #[.agg #[.slice none 0 0,.slice none 0 0],.bool false])) W from fun W h=>by
   unfold SideRet
   rw [e2,e3]
   refine ⟨⟨none,0,none,0,[]⟩,rfl,rfl,?_⟩
   have h1:=(h.fresh (star_ok cell_ok (star_ok cell_ok emp_ok)) (⟨fun _=>False,row_nil _ _ _,Mod.refl _ _,fun i hi=>.inl hi⟩:Post _ (fun _=>False) (ArsO none 0 []) _)).fresh (star_ok ars_ok (star_ok cell_ok (star_ok cell_ok emp_ok))) (⟨fun _=>False,row_nil _ _ _,Mod.refl _ _,fun i hi=>.inl hi⟩:Post _ (fun _=>False) (StrO none 0 []) _)
   have h2:Run (fun _=>False) w (star (SideO [] ⟨none,0,none,0,[]⟩) (star (CellO gr #[.slice none 0 0,.slice none 0 0] 167) (star (CellO gt #[.slice a.A T.rs.length a.c,.slice a.D T.ds.length a.d,.slice a.E T.es.length a.e,.int .i64 T.drop,.int .i64 T.ord,.int .i64 T.ini] 25) emp))) W:=h1.perm (by unfold SideO FromO;simp only [star_emp_eq];ac_rfl)
   exact (h2.swap.drop).post side_ok)
  clear e1 e2 e3 hw
  refine (KF.out _ (HZW.out _ _ H2.out)).mono ?_
  rintro e9 w2 ⟨rfl,hb⟩
  have H3:=hide (H2.out.below OK2.out hb)
  clear KF H2 hb
  dsimp only
  obtain ⟨fr,hfr⟩:=H3.out.fst
  have r0:=cell_at (i:=0) hfr rfl
  have r1:=cell_at (i:=1) hfr rfl
  have rf:=cell_free hfr
  clear hfr
  go_wp2_with fail
  have H4:=hide (run_set2 H3.out (star_ok cell_ok emp_ok) (.slice none 0 0) (.slice none 0 0))
  clear H3 r0 r1 rf
  generalize (w2.setCell ⟨gr,0,none⟩ (.slice none 0 0)).setCell ⟨gr,1,none⟩ (.slice none 0 0)=w3 at *
  obtain ⟨fr,hfr⟩:=H4.out.fst
  have hblk:=hfr.1
  clear hfr
  refine bodyPost_ret (res_cell_tmp rfl _ _ gr 167 #[.slice none 0 0,.slice none 0 0] (0,0) rfl hblk Tryz.underlying167 (by kernel_rfl)) rfl ?_
  clear hblk
  exact HFIN.out _ H4.out
end Go.Proofs.YtbnnlpjpnihheaaGreatDoor
namespace Go.Proofs.YtbnnlpjpnihheaaGreatDoor
open Go.RowKit Go.CH Go.CH.Scr Go.CH.Pot
open Go.ChangeMaps (setBlock)
theorem ne_t (p q:Bs):(!(@BEq.beq (List UInt8) (@List.instBEq UInt8 instBEqOfDecidableEq) (bs p).toList (bs q).toList)) = !decide (p=q):=by
 rw [ByteArray.toList_eq,ByteArray.toList_eq]
 show (!(@BEq.beq (List UInt8) (@List.instBEq UInt8 instBEqOfDecidableEq) p q))=_
 by_cases h:p=q <;> simp [h]
set_option maxHeartbeats 3200000 in
set_option maxRecDepth 100000 in
theorem equal_any {w:World} {A B:Option Addr} {c d:Nat} {C D:List Bs} (hA:Vst w A C) (hB:Vst w B D) (hl:C.length≤4611686018427387904) (hl2:D.length≤4611686018427387904) :
  Calls Tryz.prog 50 #[.slice A C.length c,.slice B D.length d] w (BelowRet w (.bool (decide (C=D)))):=by
 have HA:=hide hA
 have HB:=hide hB
 obtain ⟨n,hn⟩:∃ n,n=C.length:=⟨_,rfl⟩
 obtain ⟨m,hm⟩:∃ m,m=D.length:=⟨_,rfl⟩
 rw [←hn] at hl ⊢
 rw [←hm] at hl2 ⊢
 have HN:=hide hn
 have HM:=hide hm
 clear hA hB hn hm
 by_cases hnm:n=m
 ·subst hnm
  obtain ⟨b,hb⟩:∃ b,b=decide (C=D):=⟨_,rfl⟩
  rw [←hb]
  have HV:=hide hb
  clear hb
  go_enter Tryz.func50,Tryz.ntmps50
  go_wp2_with fail
  go_loopw [13] (fun i wr=>∃ k:Nat,k≤n∧i=.int .i64 k∧C.take k=D.take k∧Below w.heap.size w wr) (fun i _=>n - (intOf i).toNat)
  case atStart=>exact ⟨0,Nat.zero_le _,rfl,by simp,Below.refl _ _⟩
  case round =>
   obtain ⟨k,hk,rfl,heq,hbel⟩:=hrel
   have HEQ:=hide heq
   have HBE:=hide hbel
   clear heq hbel
   by_cases hlt:k < n
   ·have hkc:k < C.length:=by rw [←HN.out];exact hlt
    have hkd:k < D.length:=by rw [←HM.out];exact hlt
    have HLT:=hide hlt
    obtain ⟨b1,o1,rfl,hc1⟩:=HA.out.at (by omega)
    obtain ⟨b2,o2,rfl,hc2⟩:=HB.out.at (by omega)
    have HST:=hide (show C[k]=D[k]→C.take (k+1)=D.take (k+1) from fun h=>by rw [List.take_succ_eq_append_getElem hkc,List.take_succ_eq_append_getElem hkd,HEQ.out,h])
    have HNO:=hide (show C[k]≠D[k]→b=false from fun h=>by rw [HV.out];exact decide_eq_false (fun e=>h (by simp only [e])))
    have HB3:=hide (below_drew HBE.out)
    have hS1:=And.intro (hc1 _ HB3.out k hkc) (hc2 _ HB3.out k hkd)
    clear hc1 hc2
    generalize C[k]=p at *
    generalize D[k]=q at *
    go_wp2_with fail
    refine wp_region_lex (fun W=>W.cell? ⟨b1,o1+k,none⟩=some (.string (bs p))∧W.cell? ⟨b2,o2+k,none⟩=some (.string (bs q))) (by rfl) (by kernel_rfl) hS1 ?_
    clear hS1
    (repeat ((first | refine lex_skip (by rfl) ?_ | (refine lex_read (v:=?_) (by rfl) ?_ ?_;rotate_left;(focus (intro w' hS';go_simp;(try with_reducible rfl);done))));try simp only [Act.put,List.setIfInBounds_toArray,List.set_cons_zero,List.set_cons_succ]))
    refine lex_nil ?_
    by_cases hpq:p=q
    ·have t:=(ne_t p q).trans (show _=false from by simp [hpq])
     have HTK:=hide (HST.out hpq)
     clear hpq
     rw [t]
     clear t
     go_wp2
     go_roundw
     case rel=>exact ⟨k+1,HLT.out,by go_num,HTK.out,HB3.out⟩
     case measure=>have:=HLT.out;simp [intOf];omega
    ·have t:=(ne_t p q).trans (show _=true from by simp [hpq])
     have HF:=hide (HNO.out hpq)
     clear hpq
     rw [t]
     clear t
     go_wp2
     go_ret
     exact bel_bool HF.out HB3.out
   ·have HF:=hide (show b=true from by
     rw [HV.out]
     have h:=HEQ.out
     have e:k=n:=by omega
     rw [List.take_of_length_le (by rw [←HN.out];omega),List.take_of_length_le (by rw [←HM.out];omega)] at h
     exact decide_eq_true h)
    clear HEQ
    go_wp2
    go_ret
    exact bel_bool HF.out HBE.out
 ·have t:((n:Int) != (m:Int))=true:=by simp;omega
  have hf:decide (C=D)=false:=decide_eq_false (fun e=>hnm (by rw [HN.out,HM.out,e]))
  rw [hf]
  clear hf hnm
  go_enter Tryz.func50,Tryz.ntmps50
  go_wp2
  go_ret
  exact ⟨rfl,Below.refl _ _⟩
end Go.Proofs.YtbnnlpjpnihheaaGreatDoor
namespace Go.CH.Asg

def sg:Nat→(Nat→Int)→Int
 | 0,_=>0
 | n+1,f=>sg n f+f n
section
variable {n m:Nat} {f g:Nat→Int}
theorem sg_zero0:sg 0 f=0:=rfl
theorem sg_succ:sg (n+1) f=sg n f+f n:=rfl
theorem sg_congr (h:∀ i,i < n→f i=g i):sg n f=sg n g:=by
 induction n with
 | zero=>rfl
 | succ n ih=>rw [sg_succ,sg_succ,ih (fun i hi=>h i (by omega)),h n (by omega)]
theorem sg_le (h:∀ i,i < n→f i≤g i):sg n f≤sg n g:=by
 induction n with
 | zero=>exact Int.le_refl _
 | succ n ih=>rw [sg_succ,sg_succ];have:=ih (fun i hi=>h i (by omega));have:=h n (by omega);omega
theorem sg_add (f g:Nat→Int):sg n (fun i=>f i+g i)=sg n f+sg n g:=by
 induction n with
 | zero=>rfl
 | succ n ih=>rw [sg_succ,sg_succ,sg_succ,ih];omega
theorem sg_sub (f g:Nat→Int):sg n (fun i=>f i - g i)=sg n f - sg n g:=by
 induction n with
 | zero=>rfl
 | succ n ih=>rw [sg_succ,sg_succ,sg_succ,ih];omega
theorem sg_nil (n:Nat):sg n (fun _=>0)=0:=by
 induction n with
 | zero=>rfl
 | succ n ih=>rw [sg_succ,ih];rfl
theorem sg_nonneg (h:∀ i,i < n→0≤f i):0≤sg n f:=by have:=sg_le (f:=fun _=>0) h;rw [sg_nil] at this;exact this
theorem sg_upd {k:Nat} (hk:k < n) (h:∀ i,i < n→i≠k→f i=g i):sg n f=sg n g+(f k - g k):=by
 induction n with
 | zero=>omega
 | succ n ih =>
  rw [sg_succ,sg_succ]
  by_cases e:k=n
  ·subst e;rw [sg_congr (g:=g) (fun i hi=>h i (by omega) (by omega))];omega
  ·rw [ih (by omega) (fun i hi hne=>h i (by omega) hne),h n (by omega) (by omega)];omega
theorem sg_ext {k:Nat}:sg (n+k) f=sg n f+sg k (fun i=>f (n+i)):=by
 induction k with
 | zero=>simp [sg]
 | succ k ih=>rw [←Nat.add_assoc,sg_succ,sg_succ,ih];omega
theorem sg_front:sg (n+1) f=f 0+sg n (fun i=>f (i+1)):=by
 rw [Nat.add_comm,sg_ext]
 simp only [sg_succ,sg_zero0,Int.zero_add]
 congr 1
 exact sg_congr (fun i _=>by rw [Nat.add_comm])
end

structure Asg (n m:Nat) (P:Nat→Nat):Prop where
 le:∀ i,i < n→P i≤m
 inj:∀ i j,i < n→j < n→P i=P j→P i < m→i=j
def used (P:Nat→Nat):Nat→Nat→Bool
 | 0,_=>false
 | n+1,j=>used P n j || P n == j
theorem used_iff {P:Nat→Nat} {n j:Nat}:used P n j=true↔∃ i,i < n∧P i=j:=by
 induction n with
 | zero=>simp [used]
 | succ n ih =>
  simp only [used,Bool.or_eq_true,beq_iff_eq,ih]
  constructor
  ·rintro (⟨i,h1,h2⟩ | h)
   ·exact ⟨i,by omega,h2⟩
   ·exact ⟨n,by omega,h⟩
  ·rintro ⟨i,h1,h2⟩
   by_cases e:i=n
   ·subst e;exact .inr h2
   ·exact .inl ⟨i,by omega,h2⟩
theorem used_not {P:Nat→Nat} {n j:Nat}:used P n j=false↔∀ i,i < n→P i≠j:=by
 rw [←Bool.not_eq_true,used_iff]
 exact ⟨fun h i hi e=>h ⟨i,hi,e⟩,fun h ⟨i,hi,e⟩=>h i hi e⟩
section
variable {n m:Nat} {P Q:Nat→Nat}
theorem Asg.low (h:Asg n m P) {k:Nat} (hk:k≤n):Asg k m P:=⟨fun i hi=>h.le i (by omega),fun i j hi hj=>h.inj i j (by omega) (by omega)⟩

theorem col (h:Asg n m P) (f:Nat→Int):sg n (fun i=>if P i < m then f (P i) else 0)=sg m (fun j=>if used P n j then f j else 0):=by
 induction n with
 | zero=>exact (sg_nil m).symm
 | succ n ih =>
  rw [sg_succ,ih (h.low (by omega))]
  by_cases hp:P n < m
  ·rw [if_pos hp]
   have hu:used P n (P n)=false:=used_not.2 fun i hi e=>by have:=h.inj i n (by omega) (by omega) e (by omega);omega
   rw [sg_upd (f:=fun j=>if used P (n+1) j then f j else 0) (g:=fun j=>if used P n j then f j else 0) hp ?_]
   ·simp only [used,hu,beq_self_eq_true,Bool.or_true];simp
   ·intro j _ hne
    have:(P n == j)=false:=by simp;omega
    simp only [used,this,Bool.or_false]
  ·rw [if_neg hp,Int.add_zero]
   refine sg_congr fun j hj=>?_
   have:(P n == j)=false:=by simp;omega
   simp only [used,this,Bool.or_false]
end

def cost (c:Nat→Nat→Int) (d e:Nat→Int) (n m:Nat) (P:Nat→Nat):Int :=
 sg n (fun i=>if P i < m then c i (P i) else d i)+sg m (fun j=>if used P n j then 0 else e j)

def wt (c:Nat→Nat→Int) (d e:Nat→Int) (m:Nat) (i k:Nat):Int:=if k < m then c i k - e k else d i
def tot (w:Nat→Nat→Int) (n:Nat) (P:Nat→Nat):Int:=sg n (fun i=>w i (P i))
section
variable {n m:Nat} {P Q:Nat→Nat} {c:Nat→Nat→Int} {d e:Nat→Int}
theorem cost_tot (h:Asg n m P):cost c d e n m P=sg m e+tot (wt c d e m) n P:=by
 have h1:=col h e
 have h2:sg m (fun j=>if used P n j then 0 else e j)=sg m e - sg m (fun j=>if used P n j then e j else 0):=by
  rw [←sg_sub];refine sg_congr fun j _=>?_;cases used P n j <;> simp
 have h3:tot (wt c d e m) n P=sg n (fun i=>if P i < m then c i (P i) else d i) - sg n (fun i=>if P i < m then e (P i) else 0):=by
  unfold tot;rw [←sg_sub];refine sg_congr fun i _=>?_;unfold wt;split <;> simp
 unfold cost
 rw [h2,h3,h1];omega

structure Opt (c:Nat→Nat→Int) (d e:Nat→Int) (n m:Nat) (v:Int):Prop where
 has:∃ P,Asg n m P∧cost c d e n m P=v
 low:∀ P,Asg n m P→v≤cost c d e n m P
end

def pv (n m:Nat) (P Q:Nat→Nat) (s:Nat):Option Nat:=if Q s < m then (List.range n).find? (fun r=>P r == Q s) else none

def orb (n m:Nat) (P Q:Nat→Nat):Nat→Option Nat
 | 0=>some n
 | k+1=>(orb n m P Q k).bind (pv n m P Q)
section
variable {n m:Nat} {P Q:Nat→Nat}
theorem pv_some {s r:Nat} (h:pv n m P Q s=some r):Q s < m∧r < n∧P r=Q s:=by
 unfold pv at h
 split at h
 ·rename_i h1
  have h2:=List.mem_of_find?_eq_some h
  have h3:=List.find?_some h
  exact ⟨h1,List.mem_range.1 h2,by simpa using h3⟩
 ·cases h
theorem pv_of (hP:Asg n m P) {s r:Nat} (h1:Q s < m) (h2:r < n) (h3:P r=Q s):pv n m P Q s=some r:=by
 cases e:pv n m P Q s with
 | none =>
  unfold pv at e;rw [if_pos h1,List.find?_eq_none] at e
  exact absurd h3 (by simpa using e r (List.mem_range.2 h2))
 | some r' =>
  obtain ⟨_,h5,h6⟩:=pv_some e
  rw [hP.inj r' r h5 h2 (h6.trans h3.symm) (by omega)]
theorem orb_prev {k s:Nat} (h:orb n m P Q k=some s) (hs:s≠n):∃ j r,k=j+1∧orb n m P Q j=some r∧Q r < m∧s < n∧P s=Q r:=by
 cases k with
 | zero=>injection h with h;exact absurd h.symm hs
 | succ j =>
  simp only [orb,Option.bind_eq_some_iff] at h
  obtain ⟨r,h1,h2⟩:=h
  exact ⟨j,r,rfl,h1,pv_some h2⟩
theorem orb_next (hP:Asg n m P) {k s r:Nat} (h:orb n m P Q k=some s) (h1:Q s < m) (h2:r < n) (h3:P r=Q s):orb n m P Q (k+1)=some r:=by
 simp only [orb,h];exact pv_of hP h1 h2 h3

theorem exch {w:Nat→Nat→Int} {i:Nat} (hi:i < n) (hw:∀ k,k≤m→w n k=w i k) (hP:Asg n m P) (hQ:Asg (n+1) m Q) (hO:∀ R,Asg n m R→tot w n P≤tot w n R) :
  ∃ R,Asg (n+1) m R∧R i=P i∧tot w (n+1) R≤tot w (n+1) Q:=by
 by_cases hA:∃ k,orb n m P Q k=some i
 ·-- the rows met come to i: the least such k
  have hL:∃ k,orb n m P Q k=some i∧∀ j,j < k→orb n m P Q j≠some i:=by
   obtain ⟨k,hk⟩:=hA
   induction k using Nat.strongRecOn with
   | _ k ih =>
    by_cases hj:∃ j,j < k∧orb n m P Q j=some i
    ·obtain ⟨j,h1,h2⟩:=hj;exact ih j h1 h2
    ·exact ⟨k,hk,fun j h1 h2=>hj ⟨j,h1,h2⟩⟩
  obtain ⟨k,hk,hmin⟩:=hL
  classical
  let S:Nat→Prop:=fun s=>∃ j,j≤k∧orb n m P Q j=some s
  have hSn:S n:=⟨0,by omega,rfl⟩
  have hSi:S i:=⟨k,by omega,hk⟩
  have hk0:0 < k:=by
   cases k with
   | zero=>injection hk with hk;omega
   | succ k=>omega
  have prev:∀ s,S s→s≠n→∃ r,S r∧r≠i∧Q r < m∧s < n∧P s=Q r:=by
   rintro s ⟨j,hj,hs⟩ hne
   obtain ⟨j',r,rfl,h1,h2,h3,h4⟩:=orb_prev hs hne
   exact ⟨r,⟨j',by omega,h1⟩,fun e=>hmin j' (by omega) (e ▸ h1),h2,h3,h4⟩
  have next:∀ s r,S s→s≠i→Q s < m→r < n→P r=Q s→S r:=by
   rintro s r ⟨j,hj,hs⟩ hne h1 h2 h3
   have:j≠k:=fun e=>by subst e;rw [hk] at hs;injection hs with hs;exact hne hs.symm
   exact ⟨j+1,by omega,orb_next hP hs h1 h2 h3⟩
  let P':Nat→Nat:=fun r=>if r=i then Q n else if S r then Q r else P r
  let Q':Nat→Nat:=fun r=>if r=n then Q i else if S r then P r else Q r
  have hP':Asg n m P':=by
   constructor
   ·intro r hr
    simp only [P']
    split
    ·exact hQ.le n (by omega)
    ·split
     ·exact hQ.le r (by omega)
     ·exact hP.le r hr
   ·-- two rows with one column
    have key:∀ a b,a < n→b < n→P' a=P' b→P' a < m→(a=i∨S a)→b=a:=by
     intro a b ha hb he hm hSa
     -- the row whose Q is meant
     have h1:∃ s,S s∧s≠i∧P' a=Q s∧(s=n↔a=i)∧(a≠i→s=a):=by
      by_cases e:a=i
      ·exact ⟨n,hSn,by omega,by simp [P',e],by simp [e],fun h=>absurd e h⟩
      ·have:S a:=hSa.resolve_left e
       exact ⟨a,this,e,by simp [P',e,this],by constructor <;> intro h <;> omega,fun _=>rfl⟩
     obtain ⟨s,h2,h3,h4,h5,h6⟩:=h1
     have hsn:s≤n:=by obtain ⟨j,_,hs⟩:=h2;by_cases e:s=n;omega;obtain ⟨_,_,_,_,_,h,_⟩:=orb_prev hs e;omega
     by_cases eb:b=i
     ·have h7:P' b=Q n:=by simp [P',eb]
      have:=hQ.inj s n (by omega) (by omega) (by omega) (by omega)
      rw [eb];exact (h5.1 this).symm
     ·by_cases hSb:S b
      ·have h7:P' b=Q b:=by simp [P',eb,hSb]
       have h8:=hQ.inj s b (by omega) (by omega) (by omega) (by omega)
       by_cases ea:a=i
       ·have:=h5.2 ea;omega
       ·rw [←h8,h6 ea]
      ·have h7:P' b=P b:=by simp [P',eb,hSb]
       exact absurd (next s b h2 h3 (by omega) hb (by omega)) hSb
    intro a b ha hb he hm
    by_cases hSa:a=i∨S a
    ·exact (key a b ha hb he hm hSa).symm
    ·by_cases hSb:b=i∨S b
     ·exact key b a hb ha he.symm (he ▸ hm) hSb
     ·have ea:P' a=P a:=by simp only [P',if_neg (fun h=>hSa (.inl h)),if_neg (fun h=>hSa (.inr h))]
      have eb:P' b=P b:=by simp only [P',if_neg (fun h=>hSb (.inl h)),if_neg (fun h=>hSb (.inr h))]
      exact hP.inj a b ha hb (by omega) (by omega)
  have hQ':Asg (n+1) m Q':=by
   constructor
   ·intro r hr
    simp only [Q']
    split
    ·exact hQ.le i (by omega)
    ·split
     ·rename_i h1 h2;exact hP.le r (by omega)
     ·exact hQ.le r hr
   ·-- each row of the set has the column of another one of the set
    have src:∀ a,a < n+1→(a=n∨S a)→∃ s,S s∧s < n+1∧Q' a=Q s∧(a=n↔s=i)∧(a≠n→P a=Q s):=by
     intro a ha h
     by_cases e:a=n
     ·exact ⟨i,hSi,by omega,by simp [Q',e],by simp [e],fun h=>absurd e h⟩
     ·have hS:S a:=h.resolve_left e
      obtain ⟨r,h1,h2,h3,h4,h5⟩:=prev a hS e
      have hrn:r≤n:=by obtain ⟨j,_,hs⟩:=h1;by_cases e:r=n;omega;obtain ⟨_,_,_,_,_,h,_⟩:=orb_prev hs e;omega
      exact ⟨r,h1,by omega,by simp [Q',e,hS,h5],by simp [e,h2],fun _=>h5⟩
    have key:∀ a b,a < n+1→b < n+1→Q' a=Q' b→Q' a < m→(a=n∨S a)→b=a:=by
     intro a b ha hb he hm hSa
     obtain ⟨s,h1,h2,h3,h4,h5⟩:=src a ha hSa
     by_cases hSb:b=n∨S b
     ·obtain ⟨t,g1,g2,g3,g4,g5⟩:=src b hb hSb
      have hst:=hQ.inj s t h2 g2 (by omega) (by omega)
      by_cases ea:a=n
      ·have:=g4.2 (by rw [←hst];exact h4.1 ea);omega
      ·by_cases eb:b=n
       ·have:=h4.2 (by rw [hst];exact g4.1 eb);omega
       ·exact (hP.inj a b (by omega) (by omega) (by rw [h5 ea,g5 eb,hst]) (by rw [h5 ea];omega)).symm
     ·have eb:Q' b=Q b:=by simp only [Q',if_neg (fun h=>hSb (.inl h)),if_neg (fun h=>hSb (.inr h))]
      have:=hQ.inj s b h2 hb (by omega) (by omega)
      exact absurd (this ▸ h1) (fun h=>hSb (.inr h))
    intro a b ha hb he hm
    by_cases hSa:a=n∨S a
    ·exact (key a b ha hb he hm hSa).symm
    ·by_cases hSb:b=n∨S b
     ·exact key b a hb ha he.symm (he ▸ hm) hSb
     ·have ea:Q' a=Q a:=by simp only [Q',if_neg (fun h=>hSa (.inl h)),if_neg (fun h=>hSa (.inr h))]
      have eb:Q' b=Q b:=by simp only [Q',if_neg (fun h=>hSb (.inl h)),if_neg (fun h=>hSb (.inr h))]
      exact hQ.inj a b ha hb (by omega) (by omega)
  refine ⟨Q',hQ',?_,?_⟩
  ·have:i≠n:=by omega
   simp [Q',this,hSi]
  ·have hsum:tot w n P'+tot w (n+1) Q'=tot w n P+tot w (n+1) Q:=by
    have e1:sg n (fun r=>w r (P' r)+w r (Q' r))=sg n (fun r=>w r (P r)+w r (Q r))+((w i (P' i)+w i (Q' i)) - (w i (P i)+w i (Q i))):=by
     refine sg_upd hi fun r hr hne=>?_
     have hn:r≠n:=by omega
     by_cases hS:S r
     ·simp only [P',Q',if_neg hne,if_neg hn,if_pos hS];omega
     ·simp only [P',Q',if_neg hne,if_neg hn,if_neg hS]
    rw [sg_add,sg_add] at e1
    have e2:P' i=Q n:=by simp [P']
    have e3:Q' i=P i:=by have:i≠n:=by omega
                         simp [Q',this,hSi]
    have e4:Q' n=Q i:=by simp [Q']
    have e5:=hw (Q n) (hQ.le n (by omega))
    have e6:=hw (Q i) (hQ.le i (by omega))
    unfold tot
    rw [sg_succ,sg_succ,e4]
    rw [e2,e3] at e1
    omega
   have:=hO P' hP'
   omega
 ·-- the rows met never come to i
  classical
  let S:Nat→Prop:=fun s=>∃ k,orb n m P Q k=some s
  have hSn:S n:=⟨0,rfl⟩
  have hSi:¬ S i:=hA
  have prev:∀ s,S s→s≠n→∃ r,S r∧Q r < m∧s < n∧P s=Q r:=by
   rintro s ⟨j,hs⟩ hne
   obtain ⟨j',r,rfl,h1,h2,h3,h4⟩:=orb_prev hs hne
   exact ⟨r,⟨j',h1⟩,h2,h3,h4⟩
  have next:∀ s r,S s→Q s < m→r < n→P r=Q s→S r:=by
   rintro s r ⟨j,hs⟩ h1 h2 h3
   exact ⟨j+1,orb_next hP hs h1 h2 h3⟩
  let R:Nat→Nat:=fun r=>if S r then Q r else P r
  let R':Nat→Nat:=fun r=>if S r then P r else Q r
  have hR:Asg (n+1) m R:=by
   constructor
   ·intro r hr
    simp only [R]
    split
    ·exact hQ.le r (by omega)
    ·rename_i h
     have:r≠n:=fun e=>h (e ▸ hSn)
     exact hP.le r (by omega)
   ·intro a b ha hb he hm
    by_cases ha':S a <;> by_cases hb':S b <;> simp only [R,ha',hb',if_true,if_false] at he hm
    ·exact hQ.inj a b ha hb he hm
    ·have:b≠n:=fun e=>hb' (e ▸ hSn)
     exact absurd (next a b ha' hm (by omega) he.symm) hb'
    ·have:a≠n:=fun e=>ha' (e ▸ hSn)
     exact absurd (next b a hb' (by omega) (by omega) he) ha'
    ·have:b≠n:=fun e=>hb' (e ▸ hSn)
     have:a≠n:=fun e=>ha' (e ▸ hSn)
     exact hP.inj a b (by omega) (by omega) he hm
  have hR':Asg n m R':=by
   constructor
   ·intro r hr
    simp only [R']
    split
    ·exact hP.le r hr
    ·exact hQ.le r (by omega)
   ·intro a b ha hb he hm
    by_cases ha':S a <;> by_cases hb':S b <;> simp only [R',ha',hb',if_true,if_false] at he hm
    ·exact hP.inj a b ha hb he hm
    ·obtain ⟨r,h1,h2,h3,h4⟩:=prev a ha' (by omega)
     have hrn:r≤n:=by obtain ⟨j,hs⟩:=h1;by_cases e:r=n;omega;obtain ⟨_,_,_,_,_,h,_⟩:=orb_prev hs e;omega
     have:=hQ.inj r b (by omega) (by omega) (by omega) h2
     exact absurd (this ▸ h1) hb'
    ·obtain ⟨r,h1,h2,h3,h4⟩:=prev b hb' (by omega)
     have hrn:r≤n:=by obtain ⟨j,hs⟩:=h1;by_cases e:r=n;omega;obtain ⟨_,_,_,_,_,h,_⟩:=orb_prev hs e;omega
     have:=hQ.inj r a (by omega) (by omega) (by omega) h2
     exact absurd (this ▸ h1) ha'
    ·exact hQ.inj a b (by omega) (by omega) he hm
  refine ⟨R,hR,by simp only [R,if_neg hSi],?_⟩
  have hsum:tot w n R'+tot w (n+1) R=tot w n P+tot w (n+1) Q:=by
   have e1:sg n (fun r=>w r (R' r)+w r (R r))=sg n (fun r=>w r (P r)+w r (Q r)):=by
    refine sg_congr fun r hr=>?_
    by_cases hS:S r
    ·simp only [R,R',if_pos hS]
    ·simp only [R,R',if_neg hS];omega
   rw [sg_add,sg_add] at e1
   have e2:R n=Q n:=by simp only [R,if_pos hSn]
   unfold tot
   rw [sg_succ,sg_succ,e2]
   omega
  have:=hO R' hR'
  omega
end

section
variable {n m:Nat} {P Q:Nat→Nat} {c:Nat→Nat→Int} {d e:Nat→Int} {u v:Nat→Int}

structure Feas (c:Nat→Nat→Int) (d e:Nat→Int) (n m:Nat) (u v:Nat→Int):Prop where
 c:∀ i,i < n→∀ j,j < m→u i+v j≤c i j
 d:∀ i,i < n→u i≤d i
 e:∀ j,j < m→v j≤e j
theorem weak (h:Feas c d e n m u v) (hP:Asg n m P):sg n u+sg m v≤cost c d e n m P:=by
 rw [cost_tot hP]
 have h1:=col hP (fun j=>v j - e j)
 have h2:sg m (fun j=>v j - e j)≤sg m (fun j=>if used P n j then v j - e j else 0):=sg_le fun j hj=>by
  have:=h.e j hj
  split <;> omega
 rw [sg_sub] at h2
 have h3:sg n (fun i=>u i+if P i < m then v (P i) - e (P i) else 0)≤tot (wt c d e m) n P:=sg_le fun i hi=>by
  show _≤wt c d e m i (P i)
  unfold wt
  split
  ·rename_i hp;have:=h.c i hi _ hp;omega
  ·have:=h.d i hi;omega
 rw [sg_add] at h3
 omega

def dupc (c:Nat→Nat→Int) (n i:Nat):Nat→Nat→Int:=fun r=>if r=n then c i else c r
def dupd (d:Nat→Int) (n i:Nat):Nat→Int:=fun r=>if r=n then d i else d r
theorem dup_wt {i:Nat} (hi:i < n) (k:Nat):wt (dupc c n i) (dupd d n i) e m n k=wt (dupc c n i) (dupd d n i) e m i k:=by
 have:i≠n:=by omega
 simp [wt,dupc,dupd,this]
theorem dup_wt' {i r:Nat} (hr:r < n) (k:Nat):wt (dupc c n i) (dupd d n i) e m r k=wt c d e m r k:=by
 have:r≠n:=by omega
 simp [wt,dupc,dupd,this]
theorem dup_tot (i:Nat) (P:Nat→Nat):tot (wt (dupc c n i) (dupd d n i) e m) n P=tot (wt c d e m) n P:=sg_congr fun r hr=>dup_wt' hr _
theorem Feas.dup (h:Feas c d e n m u v) {i:Nat} (hi:i < n):Feas (dupc c n i) (dupd d n i) e (n+1) m (fun r=>if r=n then u i else u r) v:=by
 refine ⟨fun r hr j hj=>?_,fun r hr=>?_,h.e⟩
 ·by_cases e:r=n
  ·simp only [dupc,if_pos e];exact h.c i hi j hj
  ·simp only [dupc,if_neg e];exact h.c r (by omega) j hj
 ·by_cases e:r=n
  ·simp only [dupd,if_pos e];exact h.d i hi
  ·simp only [dupd,if_neg e];exact h.d r (by omega)

def put (P:Nat→Nat) (n k:Nat):Nat→Nat:=fun r=>if r=n then k else P r
theorem put_asg (h:Asg n m P) {k:Nat} (hk:k≤m) (hu:k < m→used P n k=false):Asg (n+1) m (put P n k):=by
 refine ⟨fun i hi=>?_,fun i j hi hj he hm=>?_⟩
 ·unfold put;split;exact hk;exact h.le i (by omega)
 ·by_cases e1:i=n <;> by_cases e2:j=n <;> simp only [put,e1,e2,if_true,if_false] at he hm
  ·omega
  ·exact absurd he.symm (used_not.1 (hu hm) j (by omega))
  ·exact absurd he (used_not.1 (hu (by omega)) i (by omega))
  ·exact h.inj i j (by omega) (by omega) he hm
theorem put_tot (w:Nat→Nat→Int) (k:Nat):tot w (n+1) (put P n k)=tot w n P+w n k:=by
 unfold tot
 rw [sg_succ,sg_congr (g:=fun i=>w i (P i)) (fun i hi=>by have:i≠n:=by omega
                                                          simp [put,this])]
 simp [put]

def cut (P:Nat→Nat) (n i:Nat):Nat→Nat:=fun r=>if r=i then P n else P r
theorem cut_asg {i:Nat} (hi:i < n) (h:Asg (n+1) m P):Asg n m (cut P n i):=by
 refine ⟨fun r hr=>?_,fun a b ha hb he hm=>?_⟩
 ·unfold cut;split;exact h.le n (by omega);exact h.le r (by omega)
 ·by_cases e1:a=i <;> by_cases e2:b=i <;> simp only [cut,e1,e2,if_true,if_false] at he hm
  ·omega
  ·have:=h.inj n b (by omega) (by omega) he hm;omega
  ·have:=h.inj a n (by omega) (by omega) he hm;omega
  ·exact h.inj a b (by omega) (by omega) he hm
theorem cut_tot {w:Nat→Nat→Int} {i:Nat} (hi:i < n) (hw:∀ k,w n k=w i k):tot w n (cut P n i)+w i (P i)=tot w (n+1) P:=by
 unfold tot
 rw [sg_succ,sg_upd (g:=fun r=>w r (P r)) hi (fun r hr hne=>by simp [cut,hne])]
 simp [cut,hw];omega
theorem cut_unused {i:Nat} (hi:i < n) (h:Asg (n+1) m P) (hp:P i < m):used (cut P n i) n (P i)=false:=used_not.2 fun r hr he=>by
 by_cases e:r=i
 ·simp only [cut,if_pos e] at he;have:=h.inj n i (by omega) (by omega) he (by omega);omega
 ·simp only [cut,if_neg e] at he;have:=h.inj r i (by omega) (by omega) he (by omega);omega

structure Pot (c:Nat→Nat→Int) (d e:Nat→Int) (n m:Nat) (v:Int) (U V:Nat→Int):Prop where
 opt:Opt c d e n m v
 more:∀ i,i < n→Opt (dupc c n i) (dupd d n i) e (n+1) m (U i+v)
 ve:∀ j,j < m→V j≤e j
 vc:∀ j,j < m→∀ i,i < n→V j≤c i j - U i
 vis:∀ j,j < m→V j=e j∨∃ i,i < n∧V j=c i j - U i
theorem Pot.feas {v0:Int} {U V:Nat→Int} (h:Pot c d e n m v0 U V):Feas c d e n m U V:=by
 refine ⟨fun i hi j hj=>by have:=h.vc j hj i hi;omega,fun i hi=>?_,h.ve⟩
 obtain ⟨P,hP,hv⟩:=h.opt.has
 have h1:=(h.more i hi).low (put P n m) (put_asg hP (Nat.le_refl _) (fun h=>by omega))
 rw [cost_tot (put_asg hP (Nat.le_refl _) (fun h=>by omega)),put_tot,dup_tot] at h1
 rw [cost_tot hP] at hv
 have:wt (dupc c n i) (dupd d n i) e m n m=d i:=by simp [wt,dupd]
 omega

theorem Pot.at {v0:Int} {U V:Nat→Int} (h:Pot c d e n m v0 U V) {P:Nat→Nat} (hP:Asg n m P) (hv:cost c d e n m P=v0) {i:Nat} (hi:i < n) :
  ∃ R,Asg (n+1) m R∧R i=P i∧sg m e+tot (wt (dupc c n i) (dupd d n i) e m) (n+1) R=U i+v0:=by
 obtain ⟨Q,hQ,hq⟩:=(h.more i hi).has
 rw [cost_tot hQ] at hq
 obtain ⟨R,h1,h2,h3⟩:=exch (w:=wt (dupc c n i) (dupd d n i) e m) hi (fun k _=>dup_wt hi k) hP hQ (fun R hR=>by
  rw [dup_tot,dup_tot]
  have:=h.opt.low R hR
  rw [cost_tot hR] at this
  rw [cost_tot hP] at hv
  omega)
 have h4:=(h.more i hi).low R h1
 rw [cost_tot h1] at h4
 exact ⟨R,h1,h2,by omega⟩
theorem Pot.slack {v0:Int} {U V:Nat→Int} (h:Pot c d e n m v0 U V) {P:Nat→Nat} (hP:Asg n m P) (hv:cost c d e n m P=v0) :
  (∀ i,i < n→P i < m→U i+V (P i)=c i (P i))∧(∀ i,i < n→P i=m→U i=d i)∧∀ j,j < m→used P n j=false→V j=e j:=by
 have hF:=h.feas
 have hv':=hv
 rw [cost_tot hP] at hv'
 refine ⟨fun i hi hp=>?_,fun i hi hp=>?_,fun j hj hu=>?_⟩
 ·obtain ⟨R,h1,h2,h3⟩:=h.at hP hv hi
  have hR:=cut_asg hi h1
  have e1:=cut_tot (P:=R) (w:=wt (dupc c n i) (dupd d n i) e m) hi (fun k=>dup_wt hi k)
  have e2:wt (dupc c n i) (dupd d n i) e m i (R i)=c i (P i) - e (P i):=by rw [dup_wt' hi,h2,wt,if_pos hp]
  rw [dup_tot] at e1
  have hun:used (cut R n i) n (P i)=false:=h2 ▸ cut_unused hi h1 (by omega)
  -- the column is free without row i
  have hlow:=hF.c i hi _ hp
  rcases h.vis _ hp with hV | ⟨i',hi',hV⟩
  ·have:=h.opt.low _ hR
   rw [cost_tot hR] at this
   omega
  ·have hp':=put_asg hR (Nat.le_of_lt hp) (fun _=>hun)
   have:=(h.more i' hi').low _ hp'
   rw [cost_tot hp',put_tot,dup_tot] at this
   have e3:wt (dupc c n i') (dupd d n i') e m n (P i)=c i' (P i) - e (P i):=by simp [wt,dupc,hp]
   omega
 ·obtain ⟨R,h1,h2,h3⟩:=h.at hP hv hi
  have hR:=cut_asg hi h1
  have e1:=cut_tot (P:=R) (w:=wt (dupc c n i) (dupd d n i) e m) hi (fun k=>dup_wt hi k)
  have e2:wt (dupc c n i) (dupd d n i) e m i (R i)=d i:=by rw [dup_wt' hi,h2,wt,if_neg (by omega)]
  rw [dup_tot] at e1
  have:=h.opt.low _ hR
  rw [cost_tot hR] at this
  have:=hF.d i hi
  omega
 ·rcases h.vis j hj with hV | ⟨i,hi,hV⟩
  ·exact hV
  ·have hp':=put_asg hP (Nat.le_of_lt hj) (fun _=>hu)
   have:=(h.more i hi).low _ hp'
   rw [cost_tot hp',put_tot,dup_tot] at this
   have e3:wt (dupc c n i) (dupd d n i) e m n j=c i j - e j:=by simp [wt,dupc,hj]
   have:=h.ve j hj
   omega
theorem Pot.sum {v0:Int} {U V:Nat→Int} (h:Pot c d e n m v0 U V):sg n U+sg m V=v0:=by
 obtain ⟨P,hP,hv⟩:=h.opt.has
 obtain ⟨h1,h2,h3⟩:=h.slack hP hv
 have e1:=col hP (fun j=>V j - e j)
 have e2:sg m (fun j=>if used P n j then V j - e j else 0)=sg m (fun j=>V j - e j):=sg_congr fun j hj=>by
  cases hu:used P n j
  ·have:=h3 j hj hu;simp;omega
  ·simp
 have e3:sg n (fun i=>U i+if P i < m then V (P i) - e (P i) else 0)=tot (wt c d e m) n P:=sg_congr fun i hi=>by
  show _=wt c d e m i (P i)
  unfold wt
  split
  ·rename_i hp;have:=h1 i hi hp;omega
  ·have:=h2 i hi (by have:=hP.le i hi;omega);omega
 rw [sg_add] at e3
 rw [sg_sub] at e2
 rw [cost_tot hP] at hv
 omega

theorem Pot.most {v0:Int} {U V:Nat→Int} (h:Pot c d e n m v0 U V) {u v:Nat→Int} (hF:Feas c d e n m u v) (hs:sg n u+sg m v=v0) {i:Nat} (hi:i < n):u i≤U i:=by
 obtain ⟨P,hP,hv⟩:=(h.more i hi).has
 have:=weak (hF.dup hi) hP
 rw [sg_succ,sg_congr (g:=u) (fun r hr=>by have:r≠n:=by omega
                                           simp [this])] at this
 simp at this
 omega
theorem Opt.weak {v0:Int} (h:Opt c d e n m v0) {u v:Nat→Int} (hF:Feas c d e n m u v):sg n u+sg m v≤v0:=by
 obtain ⟨P,hP,hv⟩:=h.has
 rw [←hv];exact Asg.weak hF hP

theorem Pot.low {v0:Int} {U V:Nat→Int} {E:Int} (h:Pot c d e n m v0 U V) (hc:∀ i,i < n→∀ j,j < m→0≤c i j) (hd:∀ i,i < n→0≤d i) (he:∀ j,j < m→0≤e j∧e j≤E) (hE:0≤E) {i:Nat} (hi:i < n) : -E≤U i:=by
 obtain ⟨Q,hQ,hq⟩:=(h.more i hi).has
 rw [cost_tot hQ] at hq
 have hR:=cut_asg hi hQ
 have e1:=cut_tot (P:=Q) (w:=wt (dupc c n i) (dupd d n i) e m) hi (fun k=>dup_wt hi k)
 rw [dup_tot,dup_wt' hi] at e1
 have:=h.opt.low _ hR
 rw [cost_tot hR] at this
 have h5 : -E≤wt c d e m i (Q i):=by
  unfold wt
  split
  ·rename_i hp;have:=hc i hi _ hp;have:=he _ hp;omega
  ·have:=hd i hi;omega
 omega
end
end Go.CH.Asg
