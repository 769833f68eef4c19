import Derived.Test.YtbnnlpjpnihheaaGreatDoorMA4
import Derived.Test.YtbnnlpjpnihheaaGreatDoorMA2
import Derived.Test.YtbnnlpjpnihheaaGreatDoorMA3
import Derived.Deep.LoopGhost
set_option linter.unusedSimpArgs false
set_option linter.unusedVariables false
namespace Go.Proofs.YtbnnlpjpnihheaaGreatDoor
open Go.RowKit Go.CH Go.CH.Scr Go.CH.Pot
open Go.ChangeMaps (setBlock)
def keyC (x:Int × Bs × Bs):Array Value:=#[.int .i64 x.1,.string (bs x.2.1),.string (bs x.2.2)]
def keyV (x:Int × Bs × Bs):Value:=.agg (keyC x)
def keyF:List Field:=[⟨ "script",3,0,false, "", "customhouse/rewrite",0⟩,⟨ "from",9,1,false, "", "customhouse/rewrite",8⟩,⟨ "to",9,2,false, "", "customhouse/rewrite",24⟩]
theorem key_flats (x:Int × Bs × Bs):Flats Tryz.prog keyF (keyC x):=by
 intro f hf
 simp only [keyF,List.mem_cons,List.mem_nil_iff,or_false] at hf
 rcases hf with rfl | rfl | rfl
 ·exact ⟨by decide,_,rfl,.int Tryz.underlying3 _⟩
 ·exact ⟨by decide,_,rfl,.str Tryz.underlying9 _⟩
 ·exact ⟨by decide,_,rfl,.str Tryz.underlying9 _⟩
theorem key_same (a b:Int × Bs × Bs):sameF keyF (keyC a) (keyC b)=decide (a=b):=by
 have e:sameF keyF (keyC a) (keyC b)=((a.1 == b.1) && ((bs a.2.1 == bs b.2.1) && ((bs a.2.2 == bs b.2.2) && true))):=rfl
 rw [e,bs_beq,bs_beq]
 obtain ⟨i,x,y⟩:=a
 obtain ⟨i',x',y'⟩:=b
 by_cases h1:i=i' <;> by_cases h2:x=x' <;> by_cases h3:y=y' <;> simp [h1,h2,h3]
theorem keyOk_key:KeyOk Tryz.prog 146 keyV:=by
 refine keyOk_struct (cs:=keyC) (fs:=keyF.toArray) Tryz.underlying146 (by kernel_rfl) key_flats key_same (fun a=>?_)
 simp [keyC,Instr.sameBits,bs_beq]

def SetO (b:Nat) (l:List (Int × Bs × Bs)):CH.Own:=MapO keyV b (l.map fun x=>(x,.bool true))
theorem set_ok {b:Nat} {l:List (Int × Bs × Bs)}:(SetO b l).Ok:=map_ok
theorem set_get {b:Nat} {l:List (Int × Bs × Bs)} {w:World} {F:Nat→Prop} (h:SetO b l w F) (x:Int × Bs × Bs) :
  (Instr.lookup 144 (.map (some b)) (.agg #[.int .i64 x.1,.string (bs x.2.1),.string (bs x.2.2)]) false).run Tryz.prog w=.ok (.bool (decide (x ∈ l))) w:=by
 have h1:=mapO_get keyOk_key Tryz.underlying144 Tryz.zeroValue4 h x
 rw [mget_all] at h1
 refine h1.trans ?_
 by_cases hx:x ∈ l
 ·rw [if_pos hx,decide_eq_true hx];rfl
 ·rw [if_neg hx,decide_eq_false hx];rfl
theorem set_put {b:Nat} {l:List (Int × Bs × Bs)} {w:World} {F:Nat→Prop} (h:SetO b l w F) {x:Int × Bs × Bs} (hx:x ∉ l) :
  ∃ w',(Instr.mapUpdate 144 (.map (some b)) (.agg #[.int .i64 x.1,.string (bs x.2.1),.string (bs x.2.2)]) (.bool true)).run Tryz.prog w=.ok () w'∧Post w F (SetO b (l ++ [x])) w':=by
 obtain ⟨w',h1,h2⟩:=mapO_put keyOk_key Tryz.underlying144 h x (.bool true)
 refine ⟨w',h1,?_⟩
 have e:mput (l.map fun x=>(x,Value.bool true)) x (.bool true)=(l ++ [x]).map fun x=>(x,Value.bool true):=by
  rw [mput_new_ (by rw [List.map_map];simpa using hx),List.map_append];rfl
 rw [e] at h2
 exact h2
end Go.Proofs.YtbnnlpjpnihheaaGreatDoor
namespace Go.Proofs.YtbnnlpjpnihheaaGreatDoor
open Go.RowKit Go.CH Go.CH.Scr Go.CH.Pot
open Go.ChangeMaps (setBlock)
theorem drops_no {most:Nat} {l:List Drop} {k:Nat} (hk:k < l.length) (h:keyD l[k] ∈ (l.take k).map keyD∨dropN most l[k]=false):dropsN most l=false:=by
 rw [Bool.eq_false_iff]
 intro h2
 unfold dropsN at h2
 simp only [Bool.and_eq_true,decide_eq_true_eq] at h2
 rcases h with h | h
 ·obtain ⟨x,hx,e⟩:=List.mem_map.1 h
  obtain ⟨j,hj,rfl⟩:=List.mem_iff_getElem.1 hx
  have hj':j < k:=by rw [List.length_take] at hj;omega
  have h3:=List.pairwise_iff_getElem.1 h2.1 j k (by rw [List.length_map];omega) (by rw [List.length_map];omega) hj'
  rw [List.getElem_map,List.getElem_map] at h3
  rw [List.getElem_take] at e
  exact h3 e
 ·have:=List.all_eq_true.1 h2.2.1 l[k] (List.getElem_mem hk)
  rw [h] at this;cases this
theorem drops_end {most:Nat} {l:List Drop} (h1:(l.map keyD).Nodup) (h2:∀ d ∈ l,dropN most d=true):dropsN most l=decide (l.length≤40):=by
 unfold dropsN
 rw [decide_eq_true h1,List.all_eq_true.2 h2]
 simp
theorem keys_step {l:List Drop} {k:Nat} (hk:k < l.length) (h1:((l.take k).map keyD).Nodup) (h2:keyD l[k] ∉ (l.take k).map keyD):((l.take (k+1)).map keyD)=(l.take k).map keyD ++ [keyD l[k]]∧((l.take (k+1)).map keyD).Nodup:=by
 have e:((l.take (k+1)).map keyD)=(l.take k).map keyD ++ [keyD l[k]]:=by rw [List.take_succ_eq_append_getElem hk,List.map_append];rfl
 refine ⟨e,?_⟩
 rw [e,List.nodup_append]
 refine ⟨h1,by simp,fun a ha b hb e=>?_⟩
 rw [List.mem_singleton.1 hb] at e
 exact h2 (e ▸ ha)
theorem all_step {most:Nat} {l:List Drop} {k:Nat} (hk:k < l.length) (h1:∀ d ∈ l.take k,dropN most d=true) (h2:dropN most l[k]=true):∀ d ∈ l.take (k+1),dropN most d=true:=by
 intro d hd
 rw [List.take_succ_eq_append_getElem hk] at hd
 rcases List.mem_append.1 hd with hd | hd
 ·exact h1 d hd
 ·rw [List.mem_singleton.1 hd];exact h2
set_option maxHeartbeats 3200000 in
set_option maxRecDepth 100000 in
theorem checkDrops_any {w:World} {A:Option Addr} {c:Nat} {l:List Drop} {most:Nat} (hA:DropsR w A l) (hl:l.length≤1000000) (hs:∀ d ∈ l,d.w.length≤1000000) (hz:LZ w) :
  Calls Tryz.prog 84 #[.slice A l.length c,.int .i64 (most:Int)] w (BelowRet w (.bool (dropsN most l))):=by
 have HA:=hide hA
 have HZ:=hide hz
 have HS:=hide hs
 obtain ⟨N,hN⟩:∃ N,N=l.length:=⟨_,rfl⟩
 have HN:=hide hN
 rw [←hN] at hl ⊢
 have h0:=(Run.begin w).fresh emp_ok (map_new (kv:=keyV) w)
 have H0:=hide (show Run (fun _=>False) w (star (SetO w.heap.size ((l.take 0).map keyD)) emp) (w.alloc (.map #[] 0)) from h0)
 have hmk:∀ w:World,(Instr.makeMap 144 none).run Tryz.prog w=.ok (.map (some w.heap.size)) (w.alloc (.map #[] 0)):=fun w=>by kernel_rfl
 clear hA hz hs hN h0
 go_enter Tryz.func84,Tryz.ntmps84
 go_wp2
 clear hmk
 generalize w.alloc (.map #[] 0)=w1 at *
 generalize w.heap.size=bm at *
 go_loopw [12] (fun i wr=>∃ k:Nat,k≤N∧i=.int .i64 k∧(∀ d ∈ l.take k,dropN most d=true)∧((l.take k).map keyD).Nodup∧Run (fun _=>False) w (star (SetO bm ((l.take k).map keyD)) emp) wr) (fun i _=>N - (intOf i).toNat)
 case atStart=>exact ⟨0,Nat.zero_le _,rfl,by simp,by simp,H0.out⟩
 case round =>
  clear H0
  obtain ⟨k,hk,rfl,ha,hnd,hR⟩:=hrel
  have HAL:=hide ha
  have HND:=hide hnd
  have HR:=hide hR
  clear ha hnd hR
  by_cases hlt:k < N
  ·have hkn:k < l.length:=by rw [←HN.out];exact hlt
   have HK1:=hide (show k+1≤N from hlt)
   have hkb:(k:Int) < 1000000:=by omega
   obtain ⟨b,o,rfl,hc⟩:=HA.out.at (by omega)
   obtain ⟨r0,r1,r2⟩:=hc wr (HR.out.mod.below (fun _ _ h=>h)) k hkn
   have hwl:=HS.out _ (List.getElem_mem hkn)
   clear hc
   have h2:=run_new HR.out (star_ok set_ok emp_ok) #[.int .i64 l[k].k,.string (bs l[k].w),.int .i64 l[k].c] 104
   have h3:=run_new h2 (star_ok cell_ok (star_ok set_ok emp_ok)) #[.int .i64 l[k].k,.string (bs l[k].w),.string ⟨#[]⟩] 146
   rw [World.size_alloc] at h3
   obtain ⟨FS,hFS⟩:=h3.drop.drop.fst
   have hlk:=set_get hFS (keyD l[k])
   have hlk2:(Instr.lookup 144 (.map (some bm)) (.agg #[.int .i64 l[k].k,.string (bs l[k].w),.string ⟨#[]⟩]) false).run Tryz.prog ((wr.alloc (.cells #[.int .i64 l[k].k,.string (bs l[k].w),.int .i64 l[k].c] 104)).alloc (.cells #[.int .i64 l[k].k,.string (bs l[k].w),.string ⟨#[]⟩] 146))=.ok (.bool (decide (keyD l[k] ∈ (l.take k).map keyD))) _:=hlk
   have HNO:=hide (fun h=>drops_no (most:=most) hkn h)
   have HST:=hide (fun h=>keys_step hkn HND.out h)
   have HAS:=hide (fun h=>all_step (most:=most) hkn HAL.out h)
   have H3:=hide h3
   clear hlk h2 h3 hFS HR
   by_cases hin:keyD l[k] ∈ (l.take k).map keyD
   ·rw [decide_eq_true hin] at hlk2
    have HF:=hide (HNO.out (.inl hin))
    clear hin HNO HST HAS
    generalize l[k]=d at *
    have HB:=hide (H3.out.mod.below (fun _ _ h=>h))
    go_wp2
    go_ret
    exact bel_bool HF.out HB.out
   ·rw [decide_eq_false hin] at hlk2
    have HKS:=hide (HST.out hin)
    have HKN:=hide hin
    have KF:=hide (fun W (hz:LZ W)=>folded_any l[k].k (bs l[k].w) most W (by rw [bs_size];exact hwl) hz)
    clear hin HST
    simp only [bl_bs] at KF
    have KF2:=hide (KF.out _ (HZ.out.below (H3.out.mod.below (fun _ _ h=>h))))
    have KC:=hide (fun W=>isCost_any l[k].c W)
    have okA:(star (CellO (wr.heap.size+1) #[.int .i64 l[k].k,.string (bs l[k].w),.string ⟨#[]⟩] 146) (star (CellO wr.heap.size #[.int .i64 l[k].k,.string (bs l[k].w),.int .i64 l[k].c] 104) (star (SetO bm ((l.take k).map keyD)) emp))).Ok:=star_ok cell_ok (star_ok cell_ok (star_ok set_ok emp_ok))
    have OKA:=hide okA
    have hdn:dropN most l[k]=(foldedN l[k].k l[k].w most && costN l[k].c):=rfl
    have HDN:=hide hdn
    have hky:keyD l[k]=(l[k].k,l[k].w,[]):=rfl
    have HKY:=hide hky
    clear KF okA hdn hky
    go_wp2_with fail
    refine KF2.out.mono ?_
    rintro e9 w3 ⟨rfl,hb⟩
    have H4:=hide (H3.out.below OKA.out hb)
    clear KF2 H3 hb hlk2 r0 r1 r2
    generalize wr.heap.size+1=g2 at *
    generalize wr.heap.size=g1 at *
    obtain ⟨F1,hF1⟩:=H4.out.fst
    obtain ⟨F2,hF2⟩:=H4.out.drop.fst
    have y0:=cell_at (i:=0) hF1 rfl
    have y1:=cell_at (i:=1) hF1 rfl
    have y2:=cell_at (i:=2) hF1 rfl
    have x2:=cell_at (i:=2) hF2 rfl
    clear hF1 hF2
    dsimp only
    cases hfo:foldedN l[k].k l[k].w most with
    | false =>
     have HF:=hide (HNO.out (.inr (by rw [HDN.out,hfo];rfl)))
     have HB:=hide (H4.out.mod.below (fun _ _ h=>h))
     clear hfo
     go_wp2
     go_ret
     exact bel_bool HF.out HB.out
    | true =>
     cases hco:costN l[k].c with
     | false =>
      have HF:=hide (HNO.out (.inr (by rw [HDN.out,hfo,hco];rfl)))
      rw [hco] at KC
      clear hfo hco
      go_wp2_with fail
      refine (KC.out _).mono ?_
      rintro e9 w4 ⟨rfl,hb⟩
      have H5:=hide (H4.out.below OKA.out hb)
      have HB:=hide (H5.out.mod.below (fun _ _ h=>h))
      clear KC H4 hb
      dsimp only
      go_wp2
      go_ret
      exact bel_bool HF.out HB.out
     | true =>
      have HA2:=hide (HAS.out (by rw [HDN.out,hfo,hco];rfl))
      rw [hco] at KC
      clear hfo hco
      go_wp2_with fail
      refine (KC.out _).mono ?_
      rintro e9 w4 ⟨rfl,hb⟩
      have H5:=hide (H4.out.below OKA.out hb)
      clear KC H4 hb y0 y1 y2 x2
      dsimp only
      obtain ⟨F1,hF1⟩:=H5.out.fst
      have y0:=cell_at (i:=0) hF1 rfl
      have y1:=cell_at (i:=1) hF1 rfl
      have y2:=cell_at (i:=2) hF1 rfl
      obtain ⟨FM,hFM,-,bk⟩:=(H5.out.drop.drop).take set_ok emp_ok
      obtain ⟨w5,hup,hpost⟩:=set_put hFM HKN.out
      have h6:=bk _ _ hpost
      rw [←HKS.out.1] at h6
      have H6:=hide h6
      rw [HKY.out] at hup
      have hup2:(Instr.mapUpdate 144 (.map (some bm)) (.agg #[.int .i64 l[k].k,.string (bs l[k].w),.string ⟨#[]⟩]) (.bool true)).run Tryz.prog w4=.ok () w5:=hup
      clear hF1 hFM bk hup hpost h6
      go_wp2
      go_roundw
      case rel=>exact ⟨k+1,HK1.out,by go_num,HA2.out,HKS.out.2,H6.out⟩
      case measure=>have:=HK1.out;simp [intOf];omega
  ·obtain rfl:k=N:=by omega
   have HF:=hide (drops_end (most:=most) (l:=l) (by have:=HND.out;rw [HN.out,List.take_length] at this;exact this) (by have:=HAL.out;rw [HN.out,List.take_length] at this;exact this))
   rw [←HN.out] at HF
   have HB:=hide (HR.out.mod.below (fun _ _ h=>h))
   clear HND HAL
   by_cases h40:k≤40
   ·have h40':(k:Int)≤40:=by omega
    rw [decide_eq_true h40] at HF
    go_wp2
    go_ret
    exact bel_bool HF.out HB.out
   ·have h40':¬ (k:Int)≤40:=by omega
    rw [decide_eq_false h40] at HF
    go_wp2
    go_ret
    exact bel_bool HF.out HB.out
end Go.Proofs.YtbnnlpjpnihheaaGreatDoor
namespace Go.Proofs.YtbnnlpjpnihheaaGreatDoor
open Go.RowKit Go.CH Go.CH.Scr Go.CH.Pot
theorem rules_no {l:List Rule} {k:Nat} (hk:k < l.length) (h:keyR l[k] ∈ (l.take k).map keyR∨ruleN l[k]=false):rulesN l=false:=by
 rw [Bool.eq_false_iff]
 intro h2
 obtain ⟨h3,h4⟩:=rulesN_iff.1 h2
 rcases h with h | h
 ·obtain ⟨x,hx,e⟩:=List.mem_map.1 h
  obtain ⟨j,hj,rfl⟩:=List.mem_iff_getElem.1 hx
  have hj':j < k:=by rw [List.length_take] at hj;omega
  have h5:=List.pairwise_iff_getElem.1 h3 j k (by rw [List.length_map];omega) (by rw [List.length_map];omega) hj'
  rw [List.getElem_map,List.getElem_map] at h5
  rw [List.getElem_take] at e
  exact h5 e
 ·have:=h4 l[k] (List.getElem_mem hk)
  rw [h] at this;cases this
theorem rkeys_step {l:List Rule} {k:Nat} (hk:k < l.length) (h1:((l.take k).map keyR).Nodup) (h2:keyR l[k] ∉ (l.take k).map keyR):((l.take (k+1)).map keyR)=(l.take k).map keyR ++ [keyR l[k]]∧((l.take (k+1)).map keyR).Nodup:=by
 have e:((l.take (k+1)).map keyR)=(l.take k).map keyR ++ [keyR l[k]]:=by rw [List.take_succ_eq_append_getElem hk,List.map_append];rfl
 refine ⟨e,?_⟩
 rw [e,List.nodup_append]
 refine ⟨h1,by simp,fun a ha b hb e=>?_⟩
 rw [List.mem_singleton.1 hb] at e
 exact h2 (e ▸ ha)
theorem rall_step {l:List Rule} {k:Nat} (hk:k < l.length) (h1:∀ d ∈ l.take k,ruleN d=true) (h2:ruleN l[k]=true):∀ d ∈ l.take (k+1),ruleN d=true:=by
 intro d hd
 rw [List.take_succ_eq_append_getElem hk] at hd
 rcases List.mem_append.1 hd with hd | hd
 ·exact h1 d hd
 ·rw [List.mem_singleton.1 hd];exact h2

theorem valid_head {T:Tab} (h:T.rs=[]∨80 < T.rs.length∨costN T.drop=false∨costN T.ord=false∨costN T.ini=false):validT T=false:=by
 rw [Bool.eq_false_iff]
 intro h2
 obtain ⟨⟨g1,g2,g3,g4,g5⟩,-⟩:=validT_iff.1 h2
 rcases h with h | h | h | h | h
 ·exact g1 h
 ·omega
 ·rw [h] at g3;cases g3
 ·rw [h] at g4;cases g4
 ·rw [h] at g5;cases g5
theorem valid_rules {T:Tab} (h:rulesN T.rs=false):validT T=false:=by
 rw [Bool.eq_false_iff]
 intro h2
 have:=(validT_iff.1 h2).2.1
 rw [h] at this;cases this
theorem valid_tail {T:Tab} (h:T.rs≠[]∧T.rs.length≤80∧costN T.drop=true∧costN T.ord=true∧costN T.ini=true) (h2:rulesN T.rs=true):validT T=(dropsN 12 T.ds && dropsN 4 T.es):=by
 rw [Bool.eq_iff_iff,validT_iff,Bool.and_eq_true]
 exact ⟨fun g=>g.2.2,fun g=>⟨h,h2,g⟩⟩
end Go.Proofs.YtbnnlpjpnihheaaGreatDoor
namespace Go.Proofs.YtbnnlpjpnihheaaGreatDoor
open Go.RowKit Go.CH Go.CH.Scr Go.CH.Pot
open Go.ChangeMaps (setBlock)
set_option maxHeartbeats 6400000 in
set_option maxRecDepth 100000 in
theorem tvalid_any {w:World} {T:Tab} {a:TA} (hT:TabR w T a) (hz:LZ w):Calls Tryz.prog 47 #[tabV T a] w (BelowRet w (.bool (validT T))):=by
 obtain ⟨A,ac,D,dc,E,ec⟩:=a
 have HT:=hide hT
 have HZ:=hide hz
 have HC:=hide (fun n W=>isCost_any n W)
 have h1:Run (fun _=>False) w (star (CellO w.heap.size (tabC T ⟨A,ac,D,dc,E,ec⟩) 25) emp) _:=run_new (Run.begin w) emp_ok (tabC T ⟨A,ac,D,dc,E,ec⟩) 25
 have H1:=hide h1
 obtain ⟨N,hN⟩:∃ N,N=T.rs.length:=⟨_,rfl⟩
 have HN:=hide hN
 unfold tabV tabC
 dsimp only
 unfold tabC at H1
 dsimp only at H1
 rw [←hN] at H1 ⊢
 clear hT hz h1 hN
 go_enter Tryz.func47,Tryz.ntmps47
 iterate 12 (first | go_values | go_guarded | go_step)
 have hcells:∀ W,Run (fun _=>False) w (star (CellO w.heap.size #[.slice A N ac,.slice D T.ds.length dc,.slice E T.es.length ec,.int .i64 T.drop,.int .i64 T.ord,.int .i64 T.ini] 25) emp) W →
   W.cell? ⟨w.heap.size,0,none⟩=some (.slice A N ac)∧W.cell? ⟨w.heap.size,1,none⟩=some (.slice D T.ds.length dc)∧W.cell? ⟨w.heap.size,2,none⟩=some (.slice E T.es.length ec)∧W.cell? ⟨w.heap.size,3,none⟩=some (.int .i64 T.drop)∧W.cell? ⟨w.heap.size,4,none⟩=some (.int .i64 T.ord)∧W.cell? ⟨w.heap.size,5,none⟩=some (.int .i64 T.ini):=fun W h=>by
  obtain ⟨F,hF⟩:=h.fst
  exact ⟨cell_at hF rfl,cell_at hF rfl,cell_at hF rfl,cell_at hF rfl,cell_at hF rfl,cell_at hF rfl⟩
 have HCE:=hide hcells
 clear hcells
 generalize w.alloc (.cells #[.slice A N ac,.slice D T.ds.length dc,.slice E T.es.length ec,.int .i64 T.drop,.int .i64 T.ord,.int .i64 T.ini] 25)=w1 at *
 obtain ⟨c0,c1,c2,c3,c4,c5⟩:=HCE.out _ H1.out
 have HB:=hide (H1.out.mod.below (fun _ _ h=>h))
 by_cases hn0:N=0
 ·have t1:((N:Int) == 0)=true:=by simp [hn0]
  have HF:=hide (valid_head (T:=T) (.inl (by rw [←List.length_eq_zero_iff,←HN.out];exact hn0)))
  clear hn0
  go_wp2
  go_ret
  exact bel_bool HF.out HB.out
 ·have t1:((N:Int) == 0)=false:=by simp [hn0]
  by_cases h80:80 < N
  ·have t2:(80:Int) < (N:Int):=by omega
   have HF:=hide (valid_head (T:=T) (.inr (.inl (by rw [←HN.out];exact h80))))
   clear hn0 h80
   go_wp2
   go_ret
   exact bel_bool HF.out HB.out
  ·have t2:¬ (80:Int) < (N:Int):=by omega
   have K1:=hide (HC.out T.drop)
   have K2:=hide (HC.out T.ord)
   have K3:=hide (HC.out T.ini)
   have HNE:=hide (show T.rs≠[]∧T.rs.length≤80 from ⟨by rw [ne_eq,←List.length_eq_zero_iff,←HN.out];exact hn0,by rw [←HN.out];omega⟩)
   clear HC hn0
   cases h3:costN T.drop with
   | false =>
    have HF:=hide (valid_head (T:=T) (.inr (.inr (.inl h3))))
    simp only [h3] at K1
    clear h3
    go_wp2_with fail
    refine (K1.out _).mono ?_
    rintro e9 w2 ⟨rfl,hb⟩
    have HB2:=hide (bel_trans HB.out hb)
    clear K1 K2 K3 hb
    dsimp only
    go_wp2
    go_ret
    exact bel_bool HF.out HB2.out
   | true =>
    simp only [h3] at K1
    go_wp2_with fail
    refine (K1.out _).mono ?_
    rintro e9 w2 ⟨rfl,hb⟩
    have H2:=hide (H1.out.below (star_ok cell_ok emp_ok) hb)
    have HB2:=hide (bel_trans HB.out hb)
    clear K1 hb c0 c1 c2 c3 c4 c5 H1 HB
    obtain ⟨c0,c1,c2,c3,c4,c5⟩:=HCE.out _ H2.out
    dsimp only
    cases h4:costN T.ord with
    | false =>
     have HF:=hide (valid_head (T:=T) (.inr (.inr (.inr (.inl h4)))))
     simp only [h4] at K2
     clear h3 h4
     go_wp2_with fail
     refine (K2.out _).mono ?_
     rintro e9 w3 ⟨rfl,hb⟩
     have HB3:=hide (bel_trans HB2.out hb)
     clear K2 K3 hb
     dsimp only
     go_wp2
     go_ret
     exact bel_bool HF.out HB3.out
    | true =>
     simp only [h4] at K2
     go_wp2_with fail
     refine (K2.out _).mono ?_
     rintro e9 w3 ⟨rfl,hb⟩
     have H3:=hide (H2.out.below (star_ok cell_ok emp_ok) hb)
     have HB3:=hide (bel_trans HB2.out hb)
     clear K2 hb c0 c1 c2 c3 c4 c5 H2 HB2
     obtain ⟨c0,c1,c2,c3,c4,c5⟩:=HCE.out _ H3.out
     dsimp only
     cases h5:costN T.ini with
     | false =>
      have HF:=hide (valid_head (T:=T) (.inr (.inr (.inr (.inr h5)))))
      simp only [h5] at K3
      clear h3 h4 h5
      go_wp2_with fail
      refine (K3.out _).mono ?_
      rintro e9 w4 ⟨rfl,hb⟩
      have HB4:=hide (bel_trans HB3.out hb)
      clear K3 hb
      dsimp only
      go_wp2
      go_ret
      exact bel_bool HF.out HB4.out
     | true =>
      have HHD:=hide (show T.rs≠[]∧T.rs.length≤80∧costN T.drop=true∧costN T.ord=true∧costN T.ini=true from ⟨HNE.out.1,HNE.out.2,h3,h4,h5⟩)
      simp only [h5] at K3
      clear h3 h4 h5
      go_wp2_with fail
      refine (K3.out _).mono ?_
      rintro e9 w4 ⟨rfl,hb⟩
      have H4:=hide (H3.out.below (star_ok cell_ok emp_ok) hb)
      have HB4:=hide (bel_trans HB3.out hb)
      clear K3 hb c0 c1 c2 c3 c4 c5 H3 HB3
      obtain ⟨c0,c1,c2,c3,c4,c5⟩:=HCE.out _ H4.out
      dsimp only
      have hmk:∀ w:World,(Instr.makeMap 144 none).run Tryz.prog w=.ok (.map (some w.heap.size)) (w.alloc (.map #[] 0)):=fun w=>by kernel_rfl
      have H5:=hide (show Run (fun _=>False) w (star (SetO w4.heap.size ((T.rs.take 0).map keyR)) _) (w4.alloc (.map #[] 0)) from H4.out.fresh (star_ok cell_ok emp_ok) (map_new (kv:=keyV) w4))
      have hbx:∀ W O,Run (fun _=>False) w (star O (star (CellO w.heap.size #[.slice A N ac,.slice D T.ds.length dc,.slice E T.es.length ec,.int .i64 T.drop,.int .i64 T.ord,.int .i64 T.ini] 25) emp)) W→W.cell? ⟨w.heap.size,0,none⟩=some (.slice A N ac):=fun W O h=>(HCE.out _ h.drop).1
      have hc0:=hbx _ _ H5.out
      clear hbx c0 c1 c2 c3 c4 c5 H4 HB4
      go_wp2
      clear hmk hc0
      generalize w4.alloc (.map #[] 0)=w5 at *
      generalize w4.heap.size=bm at *
      generalize w.heap.size=gt at *
      have HB0:=hide (show ∀ wr O,Run (fun _=>False) w O wr→Below w.heap.size w wr from fun wr O h=>h.mod.below (fun _ _ h=>h))
      go_loopw [39] (fun i wr=>∃ k:Nat,k≤N∧i=.int .i64 k∧(∀ d ∈ T.rs.take k,ruleN d=true)∧((T.rs.take k).map keyR).Nodup∧Run (fun _=>False) w (star (SetO bm ((T.rs.take k).map keyR)) (star (CellO gt #[.slice A N ac,.slice D T.ds.length dc,.slice E T.es.length ec,.int .i64 T.drop,.int .i64 T.ord,.int .i64 T.ini] 25) emp)) wr) (fun i _=>N - (intOf i).toNat)
      case atStart=>exact ⟨0,Nat.zero_le _,rfl,by simp,by simp,H5.out⟩
      case round =>
       clear H5 HB0
       obtain ⟨k,hk,rfl,ha,hnd,hR⟩:=hrel
       have HAL:=hide ha
       have HND:=hide hnd
       have HR:=hide hR
       clear ha hnd hR
       by_cases hlt:k < N
       ·have hkn:k < T.rs.length:=by rw [←HN.out];exact hlt
        have HK1:=hide (show k+1≤N from hlt)
        have hkb:(k:Int) < 1000000:=by have:=HNE.out.2;omega
        obtain ⟨b,o,rfl,hc⟩:=RulesR.at HT.out.rs (by omega)
        obtain ⟨r0,r1,r2,r3⟩:=hc wr (HR.out.mod.below (fun _ _ h=>h)) k hkn
        have hsr:=HT.out.sr _ (List.getElem_mem hkn)
        clear hc
        have okB:(star (SetO bm ((T.rs.take k).map keyR)) (star (CellO gt #[.slice (some ⟨b,o,none⟩) N ac,.slice D T.ds.length dc,.slice E T.es.length ec,.int .i64 T.drop,.int .i64 T.ord,.int .i64 T.ini] 25) emp)).Ok:=star_ok set_ok (star_ok cell_ok emp_ok)
        have h2:=run_new HR.out okB #[.int .i64 T.rs[k].k,.string (bs T.rs[k].f),.string (bs T.rs[k].t),.int .i64 T.rs[k].c] 113
        have h3:=run_new h2 (star_ok cell_ok okB) #[.int .i64 T.rs[k].k,.string (bs T.rs[k].f),.string (bs T.rs[k].t)] 146
        rw [World.size_alloc] at h3
        obtain ⟨FS,hFS⟩:=h3.drop.drop.fst
        have hlk:=set_get hFS (keyR T.rs[k])
        have hlk2:(Instr.lookup 144 (.map (some bm)) (.agg #[.int .i64 T.rs[k].k,.string (bs T.rs[k].f),.string (bs T.rs[k].t)]) false).run Tryz.prog ((wr.alloc (.cells #[.int .i64 T.rs[k].k,.string (bs T.rs[k].f),.string (bs T.rs[k].t),.int .i64 T.rs[k].c] 113)).alloc (.cells #[.int .i64 T.rs[k].k,.string (bs T.rs[k].f),.string (bs T.rs[k].t)] 146))=.ok (.bool (decide (keyR T.rs[k] ∈ (T.rs.take k).map keyR))) _:=hlk
        have HNO:=hide (fun h=>valid_rules (rules_no hkn h))
        have HST:=hide (fun h=>rkeys_step hkn HND.out h)
        have HAS:=hide (fun h=>rall_step hkn HAL.out h)
        have H3:=hide h3
        clear hlk h2 h3 hFS HR
        by_cases hin:keyR T.rs[k] ∈ (T.rs.take k).map keyR
        ·rw [decide_eq_true hin] at hlk2
         have HF:=hide (HNO.out (.inl hin))
         clear hin HNO HST HAS
         generalize T.rs[k]=d at *
         have HB:=hide (H3.out.mod.below (fun _ _ h=>h))
         go_wp2
         go_ret
         exact bel_bool HF.out HB.out
        ·rw [decide_eq_false hin] at hlk2
         have HKS:=hide (HST.out hin)
         have HKN:=hide hin
         have KF:=hide (fun W (hz:LZ W)=>folded_any T.rs[k].k (bs T.rs[k].f) 3 W (by rw [bs_size];exact hsr.1) hz)
         have KG:=hide (fun W=>isForm_any (bs T.rs[k].t) W (by rw [bs_size];exact hsr.2))
         clear hin HST
         simp only [bl_bs] at KF KG
         have KF2:=hide (KF.out _ (HZ.out.below (H3.out.mod.below (fun _ _ h=>h))))
         have KC:=hide (fun W=>isCost_any T.rs[k].c W)
         have okA:(star (CellO (wr.heap.size+1) #[.int .i64 T.rs[k].k,.string (bs T.rs[k].f),.string (bs T.rs[k].t)] 146) (star (CellO wr.heap.size #[.int .i64 T.rs[k].k,.string (bs T.rs[k].f),.string (bs T.rs[k].t),.int .i64 T.rs[k].c] 113) (star (SetO bm ((T.rs.take k).map keyR)) (star (CellO gt #[.slice (some ⟨b,o,none⟩) N ac,.slice D T.ds.length dc,.slice E T.es.length ec,.int .i64 T.drop,.int .i64 T.ord,.int .i64 T.ini] 25) emp)))).Ok:=star_ok cell_ok (star_ok cell_ok okB)
         have OKA:=hide okA
         have OKB:=hide okB
         have HDN:=hide (show ruleN T.rs[k]=(foldedN T.rs[k].k T.rs[k].f 3 && (formN T.rs[k].t && costN T.rs[k].c)) from rfl)
         have HKY:=hide (show keyR T.rs[k]=(T.rs[k].k,T.rs[k].f,T.rs[k].t) from rfl)
         clear KF okA okB
         go_wp2_with fail
         refine KF2.out.mono ?_
         rintro e9 w6 ⟨rfl,hb⟩
         have H4:=hide (H3.out.below OKA.out hb)
         clear KF2 H3 hb hlk2 r0 r1 r2 r3
         generalize wr.heap.size+1=g2 at *
         generalize wr.heap.size=g1 at *
         obtain ⟨F1,hF1⟩:=H4.out.fst
         have y0:=cell_at (i:=0) hF1 rfl
         have y1:=cell_at (i:=1) hF1 rfl
         have y2:=cell_at (i:=2) hF1 rfl
         obtain ⟨F2,hF2⟩:=H4.out.drop.fst
         have x0:=cell_at (i:=0) hF2 rfl
         have x1:=cell_at (i:=1) hF2 rfl
         have x2:=cell_at (i:=2) hF2 rfl
         have x3:=cell_at (i:=3) hF2 rfl
         clear hF1 hF2
         dsimp only
         cases hfo:foldedN T.rs[k].k T.rs[k].f 3 with
         | false =>
          have HF:=hide (HNO.out (.inr (by rw [HDN.out,hfo];rfl)))
          have HB:=hide (H4.out.mod.below (fun _ _ h=>h))
          clear hfo
          go_wp2
          go_ret
          exact bel_bool HF.out HB.out
         | true =>
          cases hfm:formN T.rs[k].t with
          | false =>
           have HF:=hide (HNO.out (.inr (by rw [HDN.out,hfo,hfm];rfl)))
           simp only [hfm] at KG
           clear hfo hfm
           go_wp2_with fail
           refine (KG.out _).mono ?_
           rintro e9 w7 ⟨rfl,hb⟩
           have H5:=hide (H4.out.below OKA.out hb)
           have HB:=hide (H5.out.mod.below (fun _ _ h=>h))
           clear KG H4 hb
           dsimp only
           go_wp2
           go_ret
           exact bel_bool HF.out HB.out
          | true =>
           simp only [hfm] at KG
           go_wp2_with fail
           refine (KG.out _).mono ?_
           rintro e9 w7 ⟨rfl,hb⟩
           have H5:=hide (H4.out.below OKA.out hb)
           clear KG H4 hb y0 y1 y2 x0 x1 x2 x3
           obtain ⟨F1,hF1⟩:=H5.out.fst
           have y0:=cell_at (i:=0) hF1 rfl
           have y1:=cell_at (i:=1) hF1 rfl
           have y2:=cell_at (i:=2) hF1 rfl
           obtain ⟨F2,hF2⟩:=H5.out.drop.fst
           have x0:=cell_at (i:=0) hF2 rfl
           have x1:=cell_at (i:=1) hF2 rfl
           have x2:=cell_at (i:=2) hF2 rfl
           have x3:=cell_at (i:=3) hF2 rfl
           clear hF1 hF2
           dsimp only
           cases hco:costN T.rs[k].c with
           | false =>
            have HF:=hide (HNO.out (.inr (by rw [HDN.out,hfo,hfm,hco];rfl)))
            simp only [hco] at KC
            clear hfo hfm hco
            go_wp2_with fail
            refine (KC.out _).mono ?_
            rintro e9 w8 ⟨rfl,hb⟩
            have H6:=hide (H5.out.below OKA.out hb)
            have HB:=hide (H6.out.mod.below (fun _ _ h=>h))
            clear KC H5 hb
            dsimp only
            go_wp2
            go_ret
            exact bel_bool HF.out HB.out
           | true =>
            have HA2:=hide (HAS.out (by rw [HDN.out,hfo,hfm,hco];rfl))
            simp only [hco] at KC
            clear hfo hfm hco
            go_wp2_with fail
            refine (KC.out _).mono ?_
            rintro e9 w8 ⟨rfl,hb⟩
            have H6:=hide (H5.out.below OKA.out hb)
            clear KC H5 hb y0 y1 y2 x0 x1 x2 x3
            dsimp only
            obtain ⟨F1,hF1⟩:=H6.out.fst
            have y0:=cell_at (i:=0) hF1 rfl
            have y1:=cell_at (i:=1) hF1 rfl
            have y2:=cell_at (i:=2) hF1 rfl
            clear hF1
            obtain ⟨FM,hFM,-,bk⟩:=(H6.out.drop.drop).take set_ok (star_ok cell_ok emp_ok)
            obtain ⟨w9,hup,hpost⟩:=set_put hFM HKN.out
            have h6:=bk _ _ hpost
            rw [←HKS.out.1] at h6
            have H7:=hide h6
            rw [HKY.out] at hup
            have hup2:(Instr.mapUpdate 144 (.map (some bm)) (.agg #[.int .i64 T.rs[k].k,.string (bs T.rs[k].f),.string (bs T.rs[k].t)]) (.bool true)).run Tryz.prog w8=.ok () w9:=hup
            clear hFM bk hup hpost h6
            go_wp2
            go_roundw
            case rel=>exact ⟨k+1,HK1.out,by go_num,HA2.out,HKS.out.2,H7.out⟩
            case measure=>have:=HK1.out;simp [intOf];omega
       ·obtain rfl:k=N:=by omega
        have hrl:rulesN T.rs=true:=rulesN_iff.2 ⟨by have:=HND.out;rw [HN.out,List.take_length] at this;exact this,by have:=HAL.out;rw [HN.out,List.take_length] at this;exact this⟩
        have HVT:=hide (valid_tail HHD.out hrl)
        clear HND HAL hrl
        obtain ⟨FT,hFT⟩:=HR.out.drop.fst
        have c1:=cell_at (i:=1) hFT rfl
        have c2:=cell_at (i:=2) hFT rfl
        clear hFT
        have okC:(star (SetO bm ((T.rs.take k).map keyR)) (star (CellO gt #[.slice A k ac,.slice D T.ds.length dc,.slice E T.es.length ec,.int .i64 T.drop,.int .i64 T.ord,.int .i64 T.ini] 25) emp)).Ok:=star_ok set_ok (star_ok cell_ok emp_ok)
        have HBW:=hide (HR.out.mod.below (fun _ _ h=>h))
        have KD:=hide (checkDrops_any (most:=12) (c:=dc) (HT.out.ds.below HBW.out) HT.out.ld HT.out.sd (HZ.out.below HBW.out))
        have KE:=hide (fun W (hb:Below w.heap.size w W)=>checkDrops_any (w:=W) (most:=4) (c:=ec) (HT.out.es.below hb) HT.out.le HT.out.se (HZ.out.below hb))
        go_wp2_with fail
        refine KD.out.mono ?_
        rintro e9 w6 ⟨rfl,hb⟩
        have H4:=hide (HR.out.below okC hb)
        have HB:=hide (bel_trans HBW.out hb)
        clear KD hb c1 c2 okC HR HBW
        obtain ⟨FT,hFT⟩:=H4.out.drop.fst
        have c2:=cell_at (i:=2) hFT rfl
        clear hFT H4
        dsimp only
        cases hd1:dropsN 12 T.ds with
        | false =>
         have HF:=hide (show validT T=false by rw [HVT.out,hd1];rfl)
         clear hd1 KE
         go_wp2
         go_ret
         exact bel_bool HF.out HB.out
        | true =>
         have HF:=hide (show validT T=dropsN 4 T.es by rw [HVT.out,hd1];rfl)
         have KE2:=hide (KE.out w6 HB.out)
         clear hd1 KE
         go_wp2_with fail
         refine KE2.out.mono ?_
         rintro e9 w7 ⟨rfl,hb⟩
         have HB2:=hide (bel_trans HB.out hb)
         clear KE2 hb
         dsimp only
         go_wp2
         go_ret
         exact bel_bool HF.out HB2.out
end Go.Proofs.YtbnnlpjpnihheaaGreatDoor
namespace Go.Proofs.YtbnnlpjpnihheaaGreatDoor
open Go.RowKit Go.CH Go.CH.Scr Go.CH.Pot
open Go.ChangeMaps (setBlock)
end Go.Proofs.YtbnnlpjpnihheaaGreatDoor
namespace Go.Proofs.YtbnnlpjpnihheaaGreatDoor
open Go.RowKit Go.CH Go.CH.Scr Go.CH.Pot
open Go.ChangeMaps (setBlock)

def ofW (T:Tab) (k:Int) (x:Bs) (k2:Int) (y:Bs):Wd:=⟨k,k2,(openN k x).1,(openN k2 y).1,T.rs⟩
theorem ofW_ok {T:Tab} {k k2:Int} {x y:Bs} (h:okW T k x k2 y=true):ofW T k x k2 y=wdOf T k x k2 y:=by
 obtain ⟨h1,h2,-⟩:=okW_iff.1 h
 unfold ofW wdOf openN
 rw [if_pos h1,if_pos h2]
theorem openN_len (k:Int) (x:Bs):(openN k x).1.length≤12:=by
 unfold openN
 split
 ·rename_i h;exact (word_iff.1 (fold_word h)).2.2
 ·exact Nat.zero_le _
theorem res_cell_tmp {fn:Func} {p u:Tmp} {ty:TypeId} (h:fn.results=#[.cell p ty,.tmp u]) {P:Program} (tmps:Array Value) (w:World) (g:Nat) (t:TypeId) (cs:Array Value) (fr:Nat × Nat) {d:Array Field}
  (hp:tmps.getD p undef=.pointer (some ⟨g,0,none⟩)) (hg:w.heap[g]?=some (.cells cs t fr))
  (hu:P.underlying ty=some (.struct d)) (hi:(P.info? ty).map (·.size)=some cs.size) :
  (results fn tmps).run P w=.ok (.tuple #[.agg cs,tmps.getD u undef]) w:=by
 rw [results_cell_tmp h,hp]
 simp [asAddr,run_loadVar_row w g t ty cs fr (.struct d) hg hu rfl hi]
end Go.Proofs.YtbnnlpjpnihheaaGreatDoor
namespace Go.CH
open Go.RowKit
open Go.ChangeMaps (setBlock)
section
variable {P:Program}
end
end Go.CH
namespace Go.CH.Pot
open Go.CH.Scr
end Go.CH.Pot
namespace Go.Proofs.YtbnnlpjpnihheaaGreatDoor
open Go.RowKit Go.CH Go.CH.Scr Go.CH.Pot
open Go.ChangeMaps (setBlock)
end Go.Proofs.YtbnnlpjpnihheaaGreatDoor
namespace Go.Proofs.YtbnnlpjpnihheaaGreatDoor
open Go.RowKit Go.CH Go.CH.Scr Go.CH.Pot
open Go.ChangeMaps (setBlock)
theorem src_lit {W:World} {cs:Array Value} {t:TypeId} (h:∀ u ∈ cs.toList,u.oneCell'=true):Src (W.alloc (.cells cs t)) (some ⟨W.heap.size,0,none⟩) 1 cs.size cs.toList:=by
 refine ⟨by simp,h,fun _=>⟨_,rfl,fun j u hu=>?_⟩⟩
 rw [Array.getElem?_toList] at hu
 have e:(⟨W.heap.size,0,none⟩:Addr).add j=⟨W.heap.size,j,none⟩:=by unfold Addr.add;split <;> simp_all
 rw [e]
 simp only [World.cell?,heap_alloc_new W _]
 rw [hu];rfl
end Go.Proofs.YtbnnlpjpnihheaaGreatDoor
namespace Go.Proofs.YtbnnlpjpnihheaaGreatDoor
open Go.RowKit Go.CH Go.CH.Scr Go.CH.Pot
open Go.ChangeMaps (setBlock)

structure RA where
 r:AR
 A:Option Addr
 c:Nat
def acells (x:RA):List Value:=[.int .i64 (x.r.ix:Nat),.int .i64 x.r.c,.slice x.A x.r.f.length x.c,.string (bs x.r.t)]
theorem acells_one (l:List RA):∀ u ∈ l.flatMap acells,u.oneCell'=true:=by
 intro u hu
 obtain ⟨x,-,hx⟩:=List.mem_flatMap.1 hu
 unfold acells at hx
 simp only [List.mem_cons,List.not_mem_nil,or_false] at hx
 rcases hx with rfl | rfl | rfl | rfl <;> rfl
def FromO:List RA→CH.Own
 | []=>emp
 | x :: l=>star (StrO x.A x.c x.r.f) (FromO l)
theorem from_ok:∀ {l:List RA},(FromO l).Ok
 | []=>emp_ok
 | _ :: _=>star_ok str_ok from_ok
theorem from_snoc (x:RA):∀ l:List RA,FromO (l ++ [x])=star (StrO x.A x.c x.r.f) (FromO l)
 | []=>rfl
 | y :: l=>by
  show star _ (FromO (l ++ [x]))=star _ (star _ (FromO l))
  rw [from_snoc x l];ac_rfl
def ArsO (A:Option Addr) (c:Nat) (l:List RA):CH.Own:=RowO 181 4 (.slice A l.length c) l.length (l.flatMap acells)
theorem ars_ok {A:Option Addr} {c:Nat} {l:List RA}:(ArsO A c l).Ok:=row_ok
abbrev ArsR (w:World) (A:Option Addr) (l:List RA):Prop:=Rst acells 4 w A l
theorem ars_of {w:World} {F:Nat→Prop} {A:Option Addr} {c:Nat} {l:List RA} (h:ArsO A c l w F):ArsR w A l:=row_src h (acells_one l)
theorem arsOk:SliceOk Tryz.prog 165 181 (.agg #[.int .i64 0,.int .i64 0,.slice none 0 0,.string ⟨#[]⟩]) 4 56:=⟨Tryz.underlying165,by kernel_rfl,by decide,by decide⟩
theorem ars_snoc {A:Option Addr} {c:Nat} {l:List RA} {x:RA}:RowO 181 4 (.slice A (l.length+1) c) (l.length+1) (l.flatMap acells ++ acells x)=ArsO A c (l ++ [x]):=by
 unfold ArsO
 rw [List.flatMap_append,List.length_append,List.length_singleton,List.flatMap_singleton]
theorem app_ars {F0:Nat→Prop} {w0 W:World} {Y:CH.Own} {ops:Array Oper} {rest:List Oper} {o:Oper} {a:Act} {Q:Exit→Act→World→Prop} (hgd:o.guard=none) (s x:Operand)
  (ho:o.op=.call { callee:=.builtin .append,args:=#[s,x],argTypes:=#[165,165] }) {A:Option Addr} {c n:Nat} {l:List RA} (p:RA) (hl:l.length=n) (hsv:a.eval s=.slice A n c) (hx:a.eval x=.slice (some ⟨W.heap.size,0,none⟩) 1 1) (hn:n≤1000000) (hY:Y.Ok)
  (h:Run F0 w0 (star (ArsO A c l) Y) W)
  (hK:∀ A' c' w',Run F0 w0 (star (ArsO A' c' (l ++ [p])) Y) w'→wpList Tryz.prog ops Q rest (a.put o.dst (.slice A' (n+1) c')) w'):wpList Tryz.prog ops Q (o :: rest) a (W.alloc (.cells #[.int .i64 (p.r.ix:Nat),.int .i64 p.r.c,.slice p.A p.r.f.length p.c,.string (bs p.r.t)] 181)):=by
 subst hl
 obtain ⟨F7,hR7,-,bk7⟩:=(h.below (star_ok ars_ok hY) ((Below.refl _ _).alloc (Nat.le_refl _) (.cells #[.int .i64 (p.r.ix:Nat),.int .i64 p.r.c,.slice p.A p.r.f.length p.c,.string (bs p.r.t)] 181))).take ars_ok hY
 refine wpList_appX hgd s x ho arsOk _ 0 (v:=.slice A l.length c) (n:=l.length) (xs:=l.flatMap acells) hsv hR7.1 (A:=some ⟨W.heap.size,0,none⟩) (m:=1) (c:=1) (news:=acells p) hx (src_lit (cs:=#[.int .i64 (p.r.ix:Nat),.int .i64 p.r.c,.slice p.A p.r.f.length p.c,.string (bs p.r.t)]) (fun u hu=>acells_one [p] u (by simpa [acells] using hu))) (by unfold maxLen;omega) (by omega) (Nat.zero_le _) ?_
 intro v8 w8 ho8 hg8 hv8
 have S8:=bk7 _ _ (row_app hR7 ho8 hg8 hv8)
 obtain ⟨A8,c8,rfl⟩:=own_form ho8
 rw [ars_snoc] at S8
 exact hK A8 c8 w8 S8

structure SA where
 L:Option Addr
 lc:Nat
 R:Option Addr
 rc:Nat
 q:List RA

def sideN (T:Tab) (k:Int) (x:Bs):List Bs × List AR:=if word k x then ((ltrs k (lower x)).1,sideR T.rs k) else ([],[])
def sideC (l:List Bs) (s:SA):Array Value:=#[.slice s.L l.length s.lc,.slice s.R s.q.length s.rc]
def SideO (l:List Bs) (s:SA):CH.Own:=star (StrO s.L s.lc l) (star (ArsO s.R s.rc s.q) (FromO s.q))
theorem side_ok {l:List Bs} {s:SA}:(SideO l s).Ok:=star_ok str_ok (star_ok ars_ok from_ok)

def SideRet (w:World) (T:Tab) (k:Int) (x:Bs) (e:Ending) (w':World):Prop :=
 ∃ s:SA,e=.returned (.tuple #[.agg (sideC (sideN T k x).1 s),.bool (word k x)])∧s.q.map (·.r)=(sideN T k x).2∧Post w (fun _=>False) (SideO (sideN T k x).1 s) w'
theorem run_set2 {F0:Nat→Prop} {w0 w:World} {g:Nat} {t:TypeId} {X:CH.Own} {a0 a1:Value} (h:Run F0 w0 (star (CellO g #[a0,a1] t) X) w) (hX:X.Ok) (b0 b1:Value) :
  Run F0 w0 (star (CellO g #[b0,b1] t) X) ((w.setCell ⟨g,0,none⟩ b0).setCell ⟨g,1,none⟩ b1):=by
 have h0:Run F0 w0 (star (CellO g #[b0,a1] t) X) _:=run_setc h hX 0 b0
 exact run_setc h0 hX 1 b1
theorem sr_step {rs:List Rule} {k:Int} {n:Nat} (hn:n < rs.length):(rs.zipIdx.take (n+1)).filterMap (arOf k)=(rs.zipIdx.take n).filterMap (arOf k) ++ (arOf k (rs[n],n)).toList:=by
 have e:rs.zipIdx.take (n+1)=rs.zipIdx.take n ++ [(rs[n],n)]:=by
  rw [List.take_succ_eq_append_getElem (by rw [List.length_zipIdx];exact hn)]
  simp
 rw [e,List.filterMap_append]
 cases h:arOf k (rs[n],n) <;> simp [h]
theorem sr_end {rs:List Rule} {k:Int} {n:Nat} (hn:rs.length≤n):(rs.zipIdx.take n).filterMap (arOf k)=sideR rs k:=by
 rw [List.take_of_length_le (by rw [List.length_zipIdx];exact hn)];rfl
end Go.Proofs.YtbnnlpjpnihheaaGreatDoor
namespace Go.Proofs.YtbnnlpjpnihheaaGreatDoor
open Go.RowKit Go.CH Go.CH.Scr Go.CH.Pot
open Go.ChangeMaps (setBlock)
set_option maxHeartbeats 6400000 in
set_option maxRecDepth 100000 in
theorem sideOf_any {w:World} {T:Tab} {a:TA} (hT:TabR w T a) (hz:LZ w) (k:Int) (x:Bs) (hx:x.length≤1000000) :
  Calls Tryz.prog 124 #[tabV T a,.int .i64 k,.string (bs x)] w (SideRet w T k x):=by
 have HT:=hide hT
 have HZ:=hide hz
 have HX:=hide hx
 have h1:Run (fun _=>False) w (star (CellO w.heap.size (tabC T a) 25) emp) _:=run_new (Run.begin w) emp_ok (tabC T a) 25
 have KF:=hide (fun W (hz:LZ W)=>fold_any k (bs x) W (by rw [bs_size];exact hx) hz)
 simp only [bl_bs] at KF
 unfold BelowRet at KF
 have H1:=hide h1
 clear hT hz hx h1
 unfold tabV tabC
 unfold tabC at H1
 go_enter Tryz.func124,Tryz.ntmps124
 have H2:=hide (show Run (fun _=>False) w (star (CellO (w.heap.size+1) #[.slice none 0 0,.slice none 0 0] 167) (star (CellO w.heap.size #[.slice a.A T.rs.length a.c,.slice a.D T.ds.length a.d,.slice a.E T.es.length a.e,.int .i64 T.drop,.int .i64 T.ord,.int .i64 T.ini] 25) emp)) _ from (by have h2:=run_new H1.out (star_ok cell_ok emp_ok) #[.slice none 0 0,.slice none 0 0] 167;rw [World.size_alloc] at h2;exact h2))
 go_wp2_with fail
 clear H1
 generalize hw1:(w.alloc (.cells #[.slice a.A T.rs.length a.c,.slice a.D T.ds.length a.d,.slice a.E T.es.length a.e,.int .i64 T.drop,.int .i64 T.ord,.int .i64 T.ini] 25)).alloc (.cells #[.slice none 0 0,.slice none 0 0] 167)=w1 at *
 clear hw1
 generalize w.heap.size+1=gr at *
 generalize w.heap.size=gt at *
 have OK2:=hide (show (star (CellO gr #[.slice none 0 0,.slice none 0 0] 167) (star (CellO gt #[.slice a.A T.rs.length a.c,.slice a.D T.ds.length a.d,.slice a.E T.es.length a.e,.int .i64 T.drop,.int .i64 T.ord,.int .i64 T.ini] 25) emp)).Ok from star_ok cell_ok (star_ok cell_ok emp_ok))
 have HZW:=hide (fun W O (h:Run (fun _=>False) w O W)=>HZ.out.below (h.mod.below (fun _ _ h=>h)))
 by_cases hw:word k x=true
 ·have e1:foldN k x=(lower x,0):=by unfold foldN;rw [if_pos hw]
  have e2:lettersN k (lower x)=((ltrs k (lower x)).1,0):=by unfold lettersN;rw [if_pos (fold_word hw)]
  have e3:sideN T k x=((ltrs k (lower x)).1,sideR T.rs k):=by unfold sideN;rw [if_pos hw]
  have hlo:(openN k x).1=(ltrs k (lower x)).1:=by unfold openN;rw [if_pos hw]
  have HLL:=hide (show (ltrs k (lower x)).1.length≤1000000 from by rw [←hlo];exact Nat.le_trans (openN_len k x) (by omega))
  have KL:=hide (fun W (hz:LZ W)=>Letters_any k (bs (lower x)) W (by rw [bs_size];unfold lower;rw [List.length_map];exact HX.out) hz)
  simp only [bl_bs] at KL
  unfold LtrsRet at KL
  simp only [e2] at KL
  simp only [e1] at KF
  have HSR:=hide (show ∀ (l:List Bs) (s:SA) W,l=(ltrs k (lower x)).1→s.q.map (·.r)=sideR T.rs k→Post w (fun _=>False) (SideO l s) W→SideRet w T k x (.returned (.tuple #[.agg (sideC l s),.bool true])) W from fun l s W hl hq hp=>by
   unfold SideRet
   rw [e3,hw]
   subst hl
   exact ⟨s,rfl,hq,hp⟩)
  obtain ⟨l,hl⟩:∃ l,l=(ltrs k (lower x)).1:=⟨_,rfl⟩
  have HL:=hide hl
  rw [←hl] at KL HLL
  clear e1 e2 e3 hw hlo hl
  refine (KF.out _ (HZW.out _ _ H2.out)).mono ?_
  rintro e9 w2 ⟨rfl,hb⟩
  have H3:=hide (H2.out.below OK2.out hb)
  have KL2:=hide (KL.out _ (HZW.out _ _ H3.out))
  clear KF KL H2 hb
  dsimp only
  go_wp2_with fail
  refine KL2.out.mono ?_
  rintro e9 w3 ⟨L,lc,rfl,hp⟩
  have H4:=hide (H3.out.fresh OK2.out hp)
  clear KL2 H3 hp
  dsimp only
  obtain ⟨n1,hn1⟩:∃ n,n=l.length:=⟨_,rfl⟩
  have HN1:=hide hn1
  rw [←hn1]
  clear hn1
  have HTW:=hide (HT.out.below (H4.out.mod.below (fun _ _ h=>h)))
  have H5:=hide (run_new H4.out (star_ok str_ok OK2.out) #[.slice L n1 lc,.slice none 0 0] 167)
  clear H4
  obtain ⟨fr,hfr⟩:=H5.out.drop.drop.drop.fst
  have c0:=cell_at (i:=0) hfr rfl
  clear hfr
  go_wp2_with fail
  clear c0
  generalize w3.alloc (.cells #[.slice L n1 lc,.slice none 0 0] 167)=w4 at *
  generalize w3.heap.size=gp at *
  obtain ⟨Z,hZ⟩:∃ Z,Z=star (StrO L lc l) (star (CellO gr #[.slice none 0 0,.slice none 0 0] 167) (star (CellO gt #[.slice a.A T.rs.length a.c,.slice a.D T.ds.length a.d,.slice a.E T.es.length a.e,.int .i64 T.drop,.int .i64 T.ord,.int .i64 T.ini] 25) emp)):=⟨_,rfl⟩
  have okZ:Z.Ok:=by rw [hZ];exact star_ok str_ok OK2.out
  have H6:=hide (((H5.out.fresh (star_ok cell_ok (star_ok str_ok OK2.out)) (⟨fun _=>False,row_nil _ _ _,Mod.refl _ _,fun i hi=>.inl hi⟩:Post _ (fun _=>False) (ArsO none 0 []) _)).perm (by rw [hZ];unfold FromO;rw [emp_star];ac_rfl:_=star (CellO gp #[.slice L n1 lc,.slice none 0 0] 167) (star (ArsO none 0 []) (star (FromO []) Z)))))
  have HZZ:=hide hZ
  have OKZ:=hide okZ
  obtain ⟨N,hN⟩:∃ N,N=T.rs.length:=⟨_,rfl⟩
  have HNB:=hide (show N≤1000000 from by rw [hN];exact HT.out.lr)
  clear H5 hZ okZ OK2 HTW
  rw [←hN]
  have HN:=hide hN
  clear hN
  go_loopw [39] (fun i wr=>∃ (n:Nat) (q:List RA) (A:Option Addr) (c:Nat),n≤N∧q.length≤n∧i=.int .i64 n∧q.map (·.r)=(T.rs.zipIdx.take n).filterMap (arOf k)∧Run (fun _=>False) w (star (CellO gp #[.slice L n1 lc,.slice A q.length c] 167) (star (ArsO A c q) (star (FromO q) Z))) wr) (fun i _=>N - (intOf i).toNat)
  case atStart=>exact ⟨0,[],none,0,Nat.zero_le _,Nat.zero_le _,rfl,rfl,H6.out⟩
  case round =>
   clear H6
   obtain ⟨n,q,A,c,hn,hql,rfl,hq,hR⟩:=hrel
   have HR:=hide hR
   have HQ:=hide hq
   have HQL:=hide hql
   clear hR hq hql
   by_cases hlt:n < N
   ·have hkn:n < T.rs.length:=by rw [←HN.out];exact hlt
    have HK1:=hide (show n+1≤N from hlt)
    have hkb:(n:Int) < 1000000:=by have:=HNB.out;omega
    obtain ⟨b,o,hA,hc⟩:=HT.out.rs.at (by omega)
    rw [hA]
    obtain ⟨r0,r1,r2,r3⟩:=hc wr (HR.out.mod.below (fun _ _ h=>h)) n hkn
    have HA:=hide hA
    have HSM:=hide (HT.out.sr _ (List.getElem_mem hkn))
    have HST:=hide (sr_step (k:=k) hkn)
    clear hc hA
    have HAR:∀ R,R=T.rs[n]→arOf k (R,n)=if R.k=k then (if word k R.f=true then some ⟨n,R.c,(ltrs k R.f).1,R.t⟩ else none) else none:=fun R _=>rfl
    have HAR:=hide (HAR _ rfl)
    rw [HAR.out] at HST
    clear HAR
    generalize T.rs[n]=R at *
    obtain ⟨Rk,Rf,Rt,Rc⟩:=R
    dsimp only at r0 r1 r2 r3 HSM HST
    have OKR:=hide (show (star (CellO gp #[.slice L n1 lc,.slice A q.length c] 167) (star (ArsO A c q) (star (FromO q) Z))).Ok from star_ok cell_ok (star_ok ars_ok (star_ok from_ok OKZ.out)))
    have H7:=hide (run_new HR.out OKR.out #[.int .i64 0,.string { data:=#[] },.string { data:=#[] },.int .i64 0] 113)
    go_upto_region 10 with (fail)
    iterate 13 (first | go_values | go_guarded | go_step)
    clear HR r0 r1 r2 r3
    generalize wr.alloc (.cells #[.int .i64 0,.string { data:=#[] },.string { data:=#[] },.int .i64 0] 113)=w5 at *
    generalize wr.heap.size=gq at *
    obtain ⟨r0,r1,r2,r3,rf⟩:=run_c4 H7.out
    go_upto_region 11 with (fail)
    have H8:=hide (run_setc (run_setc (run_setc (run_setc H7.out OKR.out 0 (.int .i64 Rk)) OKR.out 1 (.string (bs Rf))) OKR.out 2 (.string (bs Rt))) OKR.out 3 (.int .i64 Rc):Run (fun _=>False) w (star (CellO gq #[.int .i64 Rk,.string (bs Rf),.string (bs Rt),.int .i64 Rc] 113) (star (CellO gp #[.slice L n1 lc,.slice A q.length c] 167) (star (ArsO A c q) (star (FromO q) Z)))) _)
    clear H7 r0 r1 r2 r3 rf
    generalize (((w5.setCell ⟨gq,0,none⟩ (.int .i64 Rk)).setCell ⟨gq,1,none⟩ (.string (bs Rf))).setCell ⟨gq,2,none⟩ (.string (bs Rt))).setCell ⟨gq,3,none⟩ (.int .i64 Rc)=w6 at *
    obtain ⟨r0,r1,r2,r3,rf⟩:=run_c4 H8.out
    by_cases hkk:Rk=k
    ·have t1:(Rk != k)=false:=by simp [hkk]
     rw [if_pos hkk] at HST
     have KL:=hide (fun W (hz:LZ W)=>Letters_any k (bs Rf) W (by rw [bs_size];exact HSM.out.1) hz)
     simp only [bl_bs] at KL
     unfold LtrsRet at KL
     have KL2:=hide (KL.out _ (HZW.out _ _ H8.out))
     clear KL hkk
     cases hwf:word k Rf with
     | true =>
      have e2:lettersN k Rf=((ltrs k Rf).1,0):=by unfold lettersN;rw [if_pos hwf]
      rw [if_pos hwf] at HST
      simp only [e2] at KL2
      have HS2:=hide (show _=_ ++ [_] from HST.out)
      clear HST e2 hwf
      generalize (ltrs k Rf).1=f at *
      go_wp2_with fail
      refine KL2.out.mono ?_
      rintro e9 w7 ⟨F,fc,rfl,hp⟩
      have H9:=hide (H8.out.fresh (star_ok cell_ok OKR.out) hp)
      clear KL2 H8 hp r0 r1 r2 r3 rf t1
      dsimp only
      obtain ⟨r0,r1,r2,r3,rf⟩:=run_c4 H9.out.drop
      obtain ⟨fp,hfp⟩:=H9.out.drop.drop.fst
      have c1:=cell_at (i:=1) hfp rfl
      clear hfp
      have OKY:=hide (show (star (StrO F fc f) (star (CellO gq #[.int .i64 Rk,.string (bs Rf),.string (bs Rt),.int .i64 Rc] 113) (star (CellO gp #[.slice L n1 lc,.slice A q.length c] 167) (star (FromO q) Z)))).Ok from star_ok str_ok (star_ok cell_ok (star_ok cell_ok (star_ok from_ok OKZ.out))))
      have H10:=hide (H9.out.perm (by ac_rfl:_=star (ArsO A c q) (star (StrO F fc f) (star (CellO gq #[.int .i64 Rk,.string (bs Rf),.string (bs Rt),.int .i64 Rc] 113) (star (CellO gp #[.slice L n1 lc,.slice A q.length c] 167) (star (FromO q) Z))))))
      clear H9
      go_wp2_with (at_builtin;refine held ?_)
      refine Held.mk (app_ars rfl (.tmp 58) (.tmp 66) rfl ⟨⟨n,Rc,f,Rt⟩,F,fc⟩ rfl rfl (by rfl) (by have:=HQL.out;omega) OKY.out H10.out ?_)
      intro A' c' w8 hr8
      have H11:=hide (hr8.perm (by rw [from_snoc];ac_rfl:_=star (CellO gp #[.slice L n1 lc,.slice A q.length c] 167) (star (ArsO A' c' (q ++ [⟨⟨n,Rc,f,Rt⟩,F,fc⟩])) (star (FromO (q ++ [⟨⟨n,Rc,f,Rt⟩,F,fc⟩])) (star (CellO gq #[.int .i64 Rk,.string (bs Rf),.string (bs Rt),.int .i64 Rc] 113) Z)))))
      clear hr8 H10 c1 r0 r1 r2 r3 rf
      obtain ⟨fp,hfp⟩:=H11.out.fst
      have c1:=cell_at (i:=1) hfp rfl
      have cf:=cell_free hfp
      clear hfp
      go_upto_region 15 with (fail)
      have H12:=hide ((run_setc H11.out (star_ok ars_ok (star_ok from_ok (star_ok cell_ok OKZ.out))) 1 (.slice A' (q.length+1) c'):Run (fun _=>False) w (star (CellO gp #[.slice L n1 lc,.slice A' (q.length+1) c'] 167) _) _))
      clear H11 c1 cf
      generalize w8.setCell ⟨gp,1,none⟩ (.slice A' (q.length+1) c')=w9 at *
      go_wp2
      go_roundw
      case rel=>exact ⟨n+1,q ++ [⟨⟨n,Rc,f,Rt⟩,F,fc⟩],A',c',HK1.out,by have:=HQL.out;rw [List.length_append,List.length_singleton];omega,by go_num,by rw [HS2.out,List.map_append,HQ.out];rfl,by
       rw [List.length_append,List.length_singleton]
       exact (H12.out.perm (by ac_rfl:_=star (CellO gq #[.int .i64 Rk,.string (bs Rf),.string (bs Rt),.int .i64 Rc] 113) (star (CellO gp #[.slice L n1 lc,.slice A' (q.length+1) c'] 167) (star (ArsO A' c' (q ++ [⟨⟨n,Rc,f,Rt⟩,F,fc⟩])) (star (FromO (q ++ [⟨⟨n,Rc,f,Rt⟩,F,fc⟩])) Z))))).drop⟩
      case measure=>have:=HK1.out;simp [intOf];omega
     | false =>
      have e2:lettersN k Rf=([],1):=by unfold lettersN;rw [if_neg (by rw [hwf];decide)]
      rw [if_neg (by rw [hwf];decide)] at HST
      simp only [e2] at KL2
      have HS2:=hide (HST.out.trans (List.append_nil _))
      clear HST e2 hwf
      go_wp2_with fail
      refine KL2.out.mono ?_
      rintro e9 w7 ⟨F,fc,rfl,hp⟩
      have H9:=hide (H8.out.fresh (star_ok cell_ok OKR.out) hp)
      clear KL2 H8 hp r0 r1 r2 r3 rf t1
      dsimp only
      go_wp2
      go_roundw
      case rel=>exact ⟨n+1,q,A,c,HK1.out,by have:=HQL.out;omega,by go_num,by rw [HS2.out];exact HQ.out,H9.out.drop.drop⟩
      case measure=>have:=HK1.out;simp [intOf];omega
    ·have t1:(Rk != k)=true:=by simp [hkk]
     rw [if_neg hkk] at HST
     have HS2:=hide (HST.out.trans (List.append_nil _))
     clear HST hkk
     go_wp2
     go_roundw
     case rel=>exact ⟨n+1,q,A,c,HK1.out,by have:=HQL.out;omega,by go_num,by rw [HS2.out];exact HQ.out,H8.out.drop⟩
     case measure=>have:=HK1.out;simp [intOf];omega
   ·have HQE:=hide (HQ.out.trans (sr_end (by rw [←HN.out];omega)))
    have H7:=hide (HR.out.perm (by rw [HZZ.out];ac_rfl:_=star (CellO gr #[.slice none 0 0,.slice none 0 0] 167) (star (CellO gp #[.slice L n1 lc,.slice A q.length c] 167) (star (StrO L lc l) (star (ArsO A c q) (star (FromO q) (star (CellO gt #[.slice a.A T.rs.length a.c,.slice a.D T.ds.length a.d,.slice a.E T.es.length a.e,.int .i64 T.drop,.int .i64 T.ord,.int .i64 T.ini] 25) emp)))))))
    clear HR
    obtain ⟨fr,hfr⟩:=H7.out.fst
    have r0:=cell_at (i:=0) hfr rfl
    have r1:=cell_at (i:=1) hfr rfl
    have rf:=cell_free hfr
    obtain ⟨fp,hfp⟩:=H7.out.drop.fst
    have c0:=cell_at (i:=0) hfp rfl
    have c1:=cell_at (i:=1) hfp rfl
    clear hfr hfp
    go_wp2_with fail
    have H8:=hide (run_set2 H7.out (star_ok cell_ok (star_ok str_ok (star_ok ars_ok (star_ok from_ok (star_ok cell_ok emp_ok))))) (.slice L n1 lc) (.slice A q.length c))
    clear H7 r0 r1 rf c0 c1
    generalize (wr.setCell ⟨gr,0,none⟩ (.slice L n1 lc)).setCell ⟨gr,1,none⟩ (.slice A q.length c)=w9 at *
    obtain ⟨fr,hfr⟩:=H8.out.fst
    have hblk:=hfr.1
    clear hfr
    refine bodyPost_ret (res_cell_tmp rfl _ _ gr 167 #[.slice L n1 lc,.slice A q.length c] (0,0) rfl hblk Tryz.underlying167 (by kernel_rfl)) rfl ?_
    clear hblk
    have h9:Run (fun _=>False) w (star (SideO l ⟨L,lc,A,c,q⟩) (star (CellO gr #[.slice L n1 lc,.slice A q.length c] 167) (star (CellO gp #[.slice L n1 lc,.slice A q.length c] 167) (star (CellO gt #[.slice a.A T.rs.length a.c,.slice a.D T.ds.length a.d,.slice a.E T.es.length a.e,.int .i64 T.drop,.int .i64 T.ord,.int .i64 T.ini] 25) emp)))) w9:=H8.out.perm (by unfold SideO;ac_rfl)
    have h10:=HSR.out l ⟨L,lc,A,c,q⟩ w9 HL.out HQE.out ((h9.swap.drop).post side_ok)
    unfold sideC at h10
    rw [←HN1.out] at h10
    exact h10
 ·have e1:foldN k x=([],1):=by unfold foldN;rw [if_neg hw]
  have e2:sideN T k x=([],[]):=by unfold sideN;rw [if_neg hw]
  have e3:word k x=false:=Bool.eq_false_iff.2 hw
  simp only [e1] at KF
  have HFIN:=hide (show ∀ W,Run (fun _=>False) w (star (CellO gr #[.slice none 0 0,.slice none 0 0] 167) (star (CellO gt #[.slice a.A T.rs.length a.c,.slice a.D T.ds.length a.d,.slice a.E T.es.length a.e,.int .i64 T.drop,.int .i64 T.ord,.int .i64 T.ini] 25) emp)) W→SideRet w T k x (.returned (.tuple #[.agg #[.slice none 0 0,.slice none 0 0],.bool false])) W from fun W h=>by
   unfold SideRet
   rw [e2,e3]
   refine ⟨⟨none,0,none,0,[]⟩,rfl,rfl,?_⟩
   have h1:=(h.fresh (star_ok cell_ok (star_ok cell_ok emp_ok)) (⟨fun _=>False,row_nil _ _ _,Mod.refl _ _,fun i hi=>.inl hi⟩:Post _ (fun _=>False) (ArsO none 0 []) _)).fresh (star_ok ars_ok (star_ok cell_ok (star_ok cell_ok emp_ok))) (⟨fun _=>False,row_nil _ _ _,Mod.refl _ _,fun i hi=>.inl hi⟩:Post _ (fun _=>False) (StrO none 0 []) _)
   have h2:Run (fun _=>False) w (star (SideO [] ⟨none,0,none,0,[]⟩) (star (CellO gr #[.slice none 0 0,.slice none 0 0] 167) (star (CellO gt #[.slice a.A T.rs.length a.c,.slice a.D T.ds.length a.d,.slice a.E T.es.length a.e,.int .i64 T.drop,.int .i64 T.ord,.int .i64 T.ini] 25) emp))) W:=h1.perm (by unfold SideO FromO;simp only [star_emp_eq];ac_rfl)
   exact (h2.swap.drop).post side_ok)
  clear e1 e2 e3 hw
  refine (KF.out _ (HZW.out _ _ H2.out)).mono ?_
  rintro e9 w2 ⟨rfl,hb⟩
  have H3:=hide (H2.out.below OK2.out hb)
  clear KF H2 hb
  dsimp only
  obtain ⟨fr,hfr⟩:=H3.out.fst
  have r0:=cell_at (i:=0) hfr rfl
  have r1:=cell_at (i:=1) hfr rfl
  have rf:=cell_free hfr
  clear hfr
  go_wp2_with fail
  have H4:=hide (run_set2 H3.out (star_ok cell_ok emp_ok) (.slice none 0 0) (.slice none 0 0))
  clear H3 r0 r1 rf
  generalize (w2.setCell ⟨gr,0,none⟩ (.slice none 0 0)).setCell ⟨gr,1,none⟩ (.slice none 0 0)=w3 at *
  obtain ⟨fr,hfr⟩:=H4.out.fst
  have hblk:=hfr.1
  clear hfr
  refine bodyPost_ret (res_cell_tmp rfl _ _ gr 167 #[.slice none 0 0,.slice none 0 0] (0,0) rfl hblk Tryz.underlying167 (by kernel_rfl)) rfl ?_
  clear hblk
  exact HFIN.out _ H4.out
end Go.Proofs.YtbnnlpjpnihheaaGreatDoor
namespace Go.Proofs.YtbnnlpjpnihheaaGreatDoor
open Go.RowKit Go.CH Go.CH.Scr Go.CH.Pot
open Go.ChangeMaps (setBlock)
theorem ne_t (p q:Bs):(!(@BEq.beq (List UInt8) (@List.instBEq UInt8 instBEqOfDecidableEq) (bs p).toList (bs q).toList)) = !decide (p=q):=by
 rw [ByteArray.toList_eq,ByteArray.toList_eq]
 show (!(@BEq.beq (List UInt8) (@List.instBEq UInt8 instBEqOfDecidableEq) p q))=_
 by_cases h:p=q <;> simp [h]
set_option maxHeartbeats 3200000 in
set_option maxRecDepth 100000 in
theorem equal_any {w:World} {A B:Option Addr} {c d:Nat} {C D:List Bs} (hA:Vst w A C) (hB:Vst w B D) (hl:C.length≤4611686018427387904) (hl2:D.length≤4611686018427387904) :
  Calls Tryz.prog 50 #[.slice A C.length c,.slice B D.length d] w (BelowRet w (.bool (decide (C=D)))):=by
 have HA:=hide hA
 have HB:=hide hB
 obtain ⟨n,hn⟩:∃ n,n=C.length:=⟨_,rfl⟩
 obtain ⟨m,hm⟩:∃ m,m=D.length:=⟨_,rfl⟩
 rw [←hn] at hl ⊢
 rw [←hm] at hl2 ⊢
 have HN:=hide hn
 have HM:=hide hm
 clear hA hB hn hm
 by_cases hnm:n=m
 ·subst hnm
  obtain ⟨b,hb⟩:∃ b,b=decide (C=D):=⟨_,rfl⟩
  rw [←hb]
  have HV:=hide hb
  clear hb
  go_enter Tryz.func50,Tryz.ntmps50
  go_wp2_with fail
  go_loopw [13] (fun i wr=>∃ k:Nat,k≤n∧i=.int .i64 k∧C.take k=D.take k∧Below w.heap.size w wr) (fun i _=>n - (intOf i).toNat)
  case atStart=>exact ⟨0,Nat.zero_le _,rfl,by simp,Below.refl _ _⟩
  case round =>
   obtain ⟨k,hk,rfl,heq,hbel⟩:=hrel
   have HEQ:=hide heq
   have HBE:=hide hbel
   clear heq hbel
   by_cases hlt:k < n
   ·have hkc:k < C.length:=by rw [←HN.out];exact hlt
    have hkd:k < D.length:=by rw [←HM.out];exact hlt
    have HLT:=hide hlt
    obtain ⟨b1,o1,rfl,hc1⟩:=HA.out.at (by omega)
    obtain ⟨b2,o2,rfl,hc2⟩:=HB.out.at (by omega)
    have HST:=hide (show C[k]=D[k]→C.take (k+1)=D.take (k+1) from fun h=>by rw [List.take_succ_eq_append_getElem hkc,List.take_succ_eq_append_getElem hkd,HEQ.out,h])
    have HNO:=hide (show C[k]≠D[k]→b=false from fun h=>by rw [HV.out];exact decide_eq_false (fun e=>h (by simp only [e])))
    have HB3:=hide (below_drew HBE.out)
    have hS1:=And.intro (hc1 _ HB3.out k hkc) (hc2 _ HB3.out k hkd)
    clear hc1 hc2
    generalize C[k]=p at *
    generalize D[k]=q at *
    go_wp2_with fail
    refine wp_region_lex (fun W=>W.cell? ⟨b1,o1+k,none⟩=some (.string (bs p))∧W.cell? ⟨b2,o2+k,none⟩=some (.string (bs q))) (by rfl) (by kernel_rfl) hS1 ?_
    clear hS1
    (repeat ((first | refine lex_skip (by rfl) ?_ | (refine lex_read (v:=?_) (by rfl) ?_ ?_;rotate_left;(focus (intro w' hS';go_simp;(try with_reducible rfl);done))));try simp only [Act.put,List.setIfInBounds_toArray,List.set_cons_zero,List.set_cons_succ]))
    refine lex_nil ?_
    by_cases hpq:p=q
    ·have t:=(ne_t p q).trans (show _=false from by simp [hpq])
     have HTK:=hide (HST.out hpq)
     clear hpq
     rw [t]
     clear t
     go_wp2
     go_roundw
     case rel=>exact ⟨k+1,HLT.out,by go_num,HTK.out,HB3.out⟩
     case measure=>have:=HLT.out;simp [intOf];omega
    ·have t:=(ne_t p q).trans (show _=true from by simp [hpq])
     have HF:=hide (HNO.out hpq)
     clear hpq
     rw [t]
     clear t
     go_wp2
     go_ret
     exact bel_bool HF.out HB3.out
   ·have HF:=hide (show b=true from by
     rw [HV.out]
     have h:=HEQ.out
     have e:k=n:=by omega
     rw [List.take_of_length_le (by rw [←HN.out];omega),List.take_of_length_le (by rw [←HM.out];omega)] at h
     exact decide_eq_true h)
    clear HEQ
    go_wp2
    go_ret
    exact bel_bool HF.out HBE.out
 ·have t:((n:Int) != (m:Int))=true:=by simp;omega
  have hf:decide (C=D)=false:=decide_eq_false (fun e=>hnm (by rw [HN.out,HM.out,e]))
  rw [hf]
  clear hf hnm
  go_enter Tryz.func50,Tryz.ntmps50
  go_wp2
  go_ret
  exact ⟨rfl,Below.refl _ _⟩
end Go.Proofs.YtbnnlpjpnihheaaGreatDoor
