/- A part of the proof: lemmas. -/
import Derived.Test.YtbnnlpjpnihheaaGreatDoorME14
import Derived.Deep.LoopGhost
import Derived.WalkMore
set_option maxHeartbeats 16000000
set_option maxRecDepth 100000
set_option linter.unusedSimpArgs false
set_option linter.unusedVariables false
namespace Go.Proofs.YtbnnlpjpnihheaaGreatDoor.Asn
open Go.RowKit Go.CH Go.CH.aY
open Go.ChangeMaps (setBlock)
theorem Nn {w0 W:World} {X:CH.Own} {g N:Nat} {f:Nat→Int} (h:Run (fun _=>False) w0 (star X (jh g N f)) W) {k:Nat} (hk:k < N*64):W.cell? ⟨g,k,none⟩=some (.int .i64 (f k)):=by
 obtain ⟨F,hF⟩:=h.swap.fst;exact rF hF hk
theorem Iq (c:Nat→Nat→Int) (d e:Nat→Int) (n m:Nat):TB c d e n m 0 0=kr c d e n m:=by unfold TB kr;rw [Nat.sub_zero,IB]
theorem xJ {w:World} {A B G:Option Addr} {V:List (Option Addr × Nat)} {c d e:Nat} {C:List (List Int)} {D E:List Int} (h:Ad w A C V) (hl:C.length≤maxLen) (hD:Vec w B D) (hE:Vec w G E) (hdc:D.length≤d) :
  Calls Tryz.prog 33 #[.slice A C.length c,.slice B D.length d,.slice G E.length e] w (lH w C D E):=by
 have hb0:Below w.heap.size w (w.alloc (.cells iL 85)):=(Below.refl _ _).alloc (Nat.le_refl _) _;have KV:=hide (pE (c:=c) (d:=d) (e:=e) (h.below hb0) hl (hD.below hb0) (hE.below hb0));have HP:=hide (fun hv=>Nt (w:=w) (C:=C) (D:=D) (E:=E) hv h hD hE);have R0:Hid (Run (fun _=>False) w (au w.heap.size iL 85) _):=hide (((Run.begin w).fresh aB (dJ w iL 85)).imp fun _ _ h=>iM h);unfold iL at KV R0;clear h hD hE hb0 hl;cases hv:vV C D E with
 | false =>
  have HR:=hide (show ∀ w':World,Below w.heap.size w w'→lH w C D E (.returned (.tuple #[.agg #[.int .i64 0,.slice none 0 0,.slice none 0 0,.slice none 0 0],.int .i64 1])) w' from fun w' hb=>⟨_,by rw [hv];rfl,hb,by rw [hv];exact ⟨none,none,none,0,0,0,rfl,Src.none_,Src.none_,Src.none_⟩⟩);rw [hv] at KV;obtain ⟨g6,HG6⟩:∃ g6,Hid (w.heap.size=g6):=⟨_,hide rfl⟩;clear HP hv hdc
  go_enter Tryz.func33,Tryz.ntmps33
  go_wp2
  go_step3
  go_wp2_with fail;refine KV.out.mono ?_;rintro e9 w1 ⟨rfl,hb1⟩;have R1:=hide (R0.out.below av hb1);obtain ⟨F,hC⟩:=R1.out.get;have z0:=ay hC (i:=0) rfl;have z1:=ay hC (i:=1) rfl;have z2:=ay hC (i:=2) rfl;have z3:=ay hC (i:=3) rfl;have f0:=aJ hC 0;have f1:=aJ hC 1;have f2:=aJ hC 2;have f3:=aJ hC 3;have R2:=hide (Nk R1.out);rw [HG6.out] at HR R2 z0 z1 z2 z3 f0 f1 f2 f3 ⊢;clear hC hb1 KV R1 R0;go_wp2
  try rw [Exit.noGoto_ret]
  refine bodyPost_ret_by (bZ rfl _ _ g6 85 #[.int .i64 0,.slice none 0 0,.slice none 0 0,.slice none 0 0] (0,0) rfl ?_ Tryz.underlying85 (by kernel_rfl)) rfl ?_
  ·obtain ⟨F,hC⟩:=R2.out.get;exact hC.1
  ·exact HR.out _ (by have:=R2.out.bI;rwa [HG6.out] at this)
 | true =>
  rw [hv] at KV;have hP:=HP.out hv;have hn6:=hP.n6;have hm6:=hP.m6;obtain ⟨nc,hnc⟩:∃ n,n=C.length:=⟨_,rfl⟩;obtain ⟨n,hn⟩:∃ n,n=D.length:=⟨_,rfl⟩;obtain ⟨m,hm⟩:∃ n,n=E.length:=⟨_,rfl⟩;have hnn:nc=n:=by rw [hnc,hn];exact hP.hn
  have HRET:=hide (show ∀ (v:Value) (w':World),Below w.heap.size w w'→SF w' v (gH C D E)→lH w C D E (.returned (.tuple #[v,.int .i64 0])) w' from fun v w' hb ha=>⟨v,by rw [hv];rfl,hb,by rw [hv];exact ha⟩);have HBM:=hide (show gH C D E=⟨kr (cF C) (lF D) (lF E) n m,OA (cF C) (lF D) (lF E) n m,UE (cF C) (lF D) (lF E) n m,UF (cF C) (lF D) (lF E) n m⟩ by rw [hn,hm];rfl);rw [←hn,←hm] at hP;rw [←hn] at hn6;have hdn:n≤d:=by rw [hn];exact hdc
  clear hdc;rw [←hm] at hm6;have HQ:=hide hP.q;rw [←hnc,←hn,←hm] at KV;rw [←hnc,←hn,←hm];subst hnn;clear HP hv hP hnc hn hm;generalize cF C=cc at *
  generalize lF D=dd at *
  generalize lF E=ee at *
  have hKb:=Ak HQ.out (Nat.le_refl nc) uD;have HK0:=hide (show kr cc dd ee nc m=L cc dd ee nc m nc uD from rfl);rw [←HK0.out] at hKb;obtain ⟨K,hK⟩:∃ K,K=kr cc dd ee nc m:=⟨_,rfl⟩;rw [←hK] at hKb HK0;have HKK:=hide hK;have hM:=Nc hm6;have hM1:0 < 1 <<< m:=by rw [Nat.one_shiftLeft];exact Nat.pow_pos (by decide)
  have HPW:=hide (fun s j hs hj=>Nb (m:=m) (s:=s) (j:=j) hm6 hs hj);clear hK
  go_enter Tryz.func33,Tryz.ntmps33
  go_wp2
  go_step3
  go_wp2_with fail;refine KV.out.mono ?_;rintro e9 w1 ⟨rfl,hb1⟩;have R1:=hide (R0.out.below av hb1);have KT:=hide (Af (HQ.out.below R1.out.bI) c d e);clear hb1 R0 KV;go_wp2_with fail;refine KT.out.mono ?_;rintro e9 w2 ⟨gt,rfl,hP2⟩;have R2:=R1.out.fresh av hP2;obtain ⟨M,HMe⟩:∃ M,Hid (1 <<< m=M):=⟨_,hide rfl⟩;rw [HMe.out] at hM hM1 HPW R2;obtain ⟨F,hF⟩:=R2.fst;have c00:=rF hF (k:=0) (by omega);rw [show (0:Nat)=0*64+0 from rfl,qd hM hM1 (.inr ⟨rfl,hM1⟩),Iq,←HKK.out] at c00;simp only [Nat.zero_mul,Nat.add_zero] at c00;have R3:=(R2.fresh (aj iV av) (dJ w2 #[.int .i64 K,.slice none 0 0,.slice none 0 0,.slice none 0 0] 85))
  have R4:=hide (show Run (fun _=>False) w (star (fD w.heap.size w2.heap.size K none none none 0 0 0 [] [] []) (jh gt (nc+1) (iF cc dd ee nc m M 0 M))) _ from
   (R3.perm (by ac_rfl:_=star (star (au w2.heap.size #[.int .i64 K,.slice none 0 0,.slice none 0 0,.slice none 0 0] 85) (au w.heap.size #[.int .i64 0,.slice none 0 0,.slice none 0 0,.slice none 0 0] 85)) (jh gt (nc+1) (iF cc dd ee nc m M 0 M)))).imp fun W F hh=>bF hh (fun F hh=>by
   unfold fD
   exact ⟨fun _=>False,F,sW W,⟨fun _=>False,F,sW W,⟨fun _=>False,F,sW W,hh,fun _ h=>h.elim,fun i=>by simp⟩,fun _ h=>h.elim,fun i=>by simp⟩,fun _ h=>h.elim,fun i=>by simp⟩) (fun _ h=>h))
  obtain ⟨g6,HG6⟩:∃ g6,Hid (w.heap.size=g6):=⟨_,hide rfl⟩;have tn0:(0:Int) < (nc:Int)+1:=by omega
  clear hP2 R2 R3 hF KT R1;go_wp2_with fail;rw [HG6.out] at HRET R4 ⊢;generalize w2.heap.size=ga at *
  clear c00 tn0;go_wp2
  go_step3
  go_wp2
  go_loopg [10,38] nc (fun g1 s i wr=>∃ (k set:Nat) (A1:Option Addr) (c1:Nat) (ps:List Int),k+g1=nc∧s=.int .i64 set∧set < M∧i=.int .i64 k∧ps.length=k∧OA cc dd ee nc m=ps ++ gr cc dd ee nc m (nc - k) (bt set)∧Run (fun _=>False) w (star (fD g6 ga K A1 none none c1 0 0 ps [] []) (jh gt (nc+1) (iF cc dd ee nc m M 0 M))) wr)
  case atStart=>exact ⟨0,0,none,0,[],Nat.zero_add _,rfl,hM1,rfl,rfl,by rw [IB];rfl,R4.out⟩
  case round =>
   obtain ⟨k,set,A1,c1,ps,hg1,rfl,hset,rfl,hpl,hg,hR⟩:=hrel;have HR:=hide hR;have HPL:=hide hpl;have HG:=hide hg;clear hR hpl hg R4;cases gk with
   | succ g1 =>
    have hlt:k < nc:=by omega
    obtain ⟨a,ha⟩:∃ a,nc=a+1+k:=⟨nc - k - 1,by omega⟩;have hnk:nc - k=a+1:=by omega
    have hna:nc - (a+1)=k:=by omega
    have HNK:=hide (show nc - (k+1)=a by omega);have ha6:a≤6:=by omega
    rw [hnk] at HG;have HHIT:=hide (fun (j:Nat) hj hp hb=>RL (c:=cc) (d:=dd) (e:=ee) (n:=nc) (m:=m) (a:=a) (j:=j) (U:=bt set) hj hp hb);have HMISS:=hide (fun hb=>OX (c:=cc) (d:=dd) (e:=ee) (n:=nc) (m:=m) (a:=a) (U:=bt set) hb)
    have HTST:=hide (fun j=>show tst cc dd ee nc m a (bt set) j=(!bt set j && decide (cc k j+TB cc dd ee nc m (k+1) (set ||| 1 <<< j)=TB cc dd ee nc m k set)) by
     unfold tst TB;rw [hna,hnk,show nc - (k+1)=a by omega,Nw])
    have HLB:=hide (fun s=>show 0≤TB cc dd ee nc m (k+1) s∧TB cc dd ee nc m (k+1) s≤200000 by
     have:=Ak HQ.out (show nc - (k+1)≤nc by omega) (bt s);unfold TB;omega)
    clear hnk hna ha;obtain ⟨ba,oa,RR,cR,rfl,hca,hrow⟩:=HQ.out.R k hlt;have HROWS:=hide hrow;have c0:=hca _ HR.out.bI;clear hca hrow;go_wp2
    go_loopg [10,45] m (fun g2 s x wr=>∃ j:Nat,j+g2=m∧s=.int .i64 set∧x=.int .i64 j∧(∀ t,t < j→tst cc dd ee nc m a (bt set) t=false)∧Run (fun _=>False) w (star (fD g6 ga K A1 none none c1 0 0 ps [] []) (jh gt (nc+1) (iF cc dd ee nc m M 0 M))) wr)
    case atStart=>exact ⟨0,Nat.zero_add _,rfl,rfl,fun t ht=>absurd ht (Nat.not_lt_zero t),HR.out⟩
    case round =>
     obtain ⟨j,hg2,rfl,rfl,hno,hR⟩:=hrel;have HNO:=hide hno;have HRI:=hide hR;clear HR hR hno c0;cases gk with
     | succ g2 =>
      have hjt:j < m:=by omega
      obtain ⟨b',o',rfl,hcc⟩:=HROWS.out j hjt;have hcb:=HQ.out.cb k hlt j hjt;have HCC:=hide hcc;have c5:=hcc _ HRI.out.bI;have HT1:=hide (HTST.out j);obtain ⟨q,hq1,hq2⟩:=Gs set j (by omega);have hlb:=HLB.out (set ||| 1 <<< j);have HRD:=hide (HRI.out.drew (aj iR iV));clear hcc;cases hu:bt set j with
      | true =>
       rw [hu] at hq2 HT1;simp only [if_true] at hq2
       have HNO2:=hide (show ∀ t,t < j+1→tst cc dd ee nc m a (bt set) t=false from fun t ht=>by
        by_cases e:t=j
        ·subst e;rw [HT1.out];rfl
        ·exact HNO.out t (by omega))
       clear hu HT1 HNO HRI;go_wp2_with fail;refine aI (fun w'=>w'=wr.drew) (by kernel_rfl) (by kernel_rfl) rfl ?_;generalize wr.drew=wd at *
       (repeat ((first | refine aK (by rfl) ?_ | (refine aL (v:=?_) (by rfl) ?_ ?_;rotate_left;(focus (intro w' hS';go_simp;(try with_reducible rfl);done))));try simp only [Act.put,List.setIfInBounds_toArray,List.set_cons_zero,List.set_cons_succ]))
       refine lex_nil ?_;clear hq1 hq2 c5;go_wp2
       go_roundg g2
       case measure=>omega
       case rel=>exact ⟨j+1,by omega,rfl,by go_num,HNO2.out,HRD.out⟩
      | false =>
       rw [hu] at hq2 HT1;simp only [Bool.false_eq_true,if_false] at hq2;obtain ⟨p,hp1,hp2,hp3⟩:=Rq set j (by omega) (by omega);have hlt2:=HPW.out set j hset hjt;have k1:=Nn HRD.out (k:=(k+1)*64+(set ||| 1 <<< j)) (by omega);rw [qd hM hlt2 (.inl (by omega))] at k1;have k2:=Nn HRD.out (k:=k*64+set) (by omega);rw [qd hM hset (by omega)] at k2;have HBO:=hide (Nw set j);generalize set ||| 1 <<< j=so at *
       have HTX:=hide (show ∃ x,x=TB cc dd ee nc m (k+1) so from ⟨_,rfl⟩);obtain ⟨T1,hT1⟩:=HTX.out;rw [←hT1] at k1 HT1 hlb;generalize TB cc dd ee nc m k set=T0 at *
       have t1:IntKind.i64.wrap ((k:Int)+1)=((k+1:Nat):Int):=by rw [IntWalk.i64_in _ (by omega)];omega
       have t2:IntKind.i64.wrap (cc k j+T1)=cc k j+T1:=IntWalk.i64_in _ (by omega);have ti:(0:Int)≤(k:Int)+1:=by omega
       have ti2:(k:Int) < (nc:Int)+1:=by omega
       have ts:(so:Int) < 64:=by omega
       have ts2:(set:Int) < 64:=by omega
       clear hu hT1 HTX HRI;by_cases heq:cc k j+T1=T0
       ·have HH:=HHIT.out j hjt (by rw [HT1.out];simp [heq]) HNO.out;have HG2:=hide (DL (qs:=[]) HG.out HH.1);rw [←HBO.out] at HG2;have t3:(cc k j+T1 == T0)=true:=by simpa using heq
        have t4:IntKind.i64.wrap T0=T0:=IntWalk.i64_in _ (by omega);clear HH HT1 hlb;go_wp2_with fail;refine aI (fun w'=>w'=wr.drew) (by kernel_rfl) (by kernel_rfl) rfl ?_;generalize wr.drew=wx at *
        (repeat ((first | refine aK (by rfl) ?_ | (refine aL (v:=?_) (by rfl) ?_ ?_;rotate_left;(focus (intro w' hS';go_simp;(try with_reducible rfl);done))));try simp only [Act.put,List.setIfInBounds_toArray,List.set_cons_zero,List.set_cons_succ]))
        refine lex_nil ?_;have HRB:=hide HRD.out;obtain ⟨b0,b1,b2,b3,bf⟩:=jK HRB.out;have bf1:=bf 1;clear t1 t2 t3 t4 ti ti2 ts ts2 k1 k2 heq hq1 hq2 c5 b0 b2 b3 bf HRD HNO HBO;go_wp2_with (at_builtin;refine held ?_);obtain ⟨F7,hR7,-,bk7⟩:=(Im (HRB.out.below (aj iR iV) ((Below.refl _ _).alloc (Nat.le_refl _) (.cells #[.int .i64 j] 3)))).take bL (Ng bL bL av av iV);refine Held.mk (gX rfl (.tmp 77) (.tmp 79) rfl kX _ 0 (v:=.slice A1 ps.length c1) (n:=ps.length) (xs:=ints ps) rfl hR7.1 (A:=some ⟨wx.heap.size,0,none⟩) (m:=1) (c:=1) (news:=[.int .i64 j]) rfl (lD wx j) (by rw [HPL.out];omega) (by decide) (Nat.zero_le _) ?_);intro v8 w8 ho8 hg8 hv8;have S8:=bk7 _ _ (iA hR7 ho8 hg8 hv8);obtain ⟨A8,c8,rfl⟩:=gy ho8;obtain ⟨FC,hC⟩:=(S8.perm (by ac_rfl:_=star (au ga #[.int .i64 K,.slice A1 ps.length c1,.slice none 0 0,.slice none 0 0] 85) (star (aS 3 1 (.slice A8 (ps.length+1) c8) (ps.length+1) (ints ps ++ [.int .i64 j])) (star (bD none 0 []) (star (bD none 0 []) (star (au g6 iL 85) (jh gt (nc+1) (iF cc dd ee nc m M 0 M)))))))).fst;have x1:=ay hC (i:=1) rfl;have f1:=aJ hC 1;have S9:=hide (Il iV S8);clear ho8 hg8 hv8 bk7 hR7 HRB S8 hC;go_wp2
        go_roundg g1
        case measure=>omega
        case rel=>exact ⟨k+1,so,A8,c8,ps ++ [((j:Nat):Int)],by omega,by go_num,hlt2,by go_num,by rw [List.length_append,HPL.out];rfl,by rw [HNK.out];exact HG2.out,S9.out⟩
       ·have HNO2:=hide (show ∀ t,t < j+1→tst cc dd ee nc m a (bt set) t=false from fun t ht=>by
         by_cases e:t=j
         ·subst e;rw [HT1.out];simp [heq]
         ·exact HNO.out t (by omega))
        have t3:(cc k j+T1 == T0)=false:=by simpa using heq
        clear HT1 hlb HNO heq;go_wp2_with fail;refine aI (fun w'=>w'=wr.drew) (by kernel_rfl) (by kernel_rfl) rfl ?_;generalize wr.drew=wd at *
        (repeat ((first | refine aK (by rfl) ?_ | (refine aL (v:=?_) (by rfl) ?_ ?_;rotate_left;(focus (intro w' hS';go_simp;(try with_reducible rfl);done))));try simp only [Act.put,List.setIfInBounds_toArray,List.set_cons_zero,List.set_cons_succ]))
        refine lex_nil ?_;clear t1 t2 t3 ti ti2 ts ts2 k1 k2 hq1 hq2 c5 hp1 hp2 hp3;go_wp2
        go_roundg g2
        case measure=>omega
        case rel=>exact ⟨j+1,by omega,rfl,by go_num,HNO2.out,HRD.out⟩
     | zero =>
      obtain rfl:j=m:=by omega
      have HM:=HMISS.out HNO.out;have HG2:=hide (DL (qs:=[]) HG.out HM.1);have HRB:=hide HRI.out;obtain ⟨b0,b1,b2,b3,bf⟩:=jK HRB.out;have bf1:=bf 1;generalize wr=wx at *
      clear HM bf b0 b2 b3 HRI HNO;go_wp2_with (at_builtin;refine held ?_);obtain ⟨F7,hR7,-,bk7⟩:=(Im (HRB.out.below (aj iR iV) ((Below.refl _ _).alloc (Nat.le_refl _) (.cells #[.int .i64 j] 3)))).take bL (Ng bL bL av av iV);refine Held.mk (gX rfl (.tmp 88) (.tmp 91) rfl kX _ 0 (v:=.slice A1 ps.length c1) (n:=ps.length) (xs:=ints ps) rfl hR7.1 (A:=some ⟨wx.heap.size,0,none⟩) (m:=1) (c:=1) (news:=[.int .i64 j]) rfl (lD wx j) (by rw [HPL.out];omega) (by decide) (Nat.zero_le _) ?_);intro v8 w8 ho8 hg8 hv8;have S8:=bk7 _ _ (iA hR7 ho8 hg8 hv8);obtain ⟨A8,c8,rfl⟩:=gy ho8;obtain ⟨FC,hC⟩:=(S8.perm (by ac_rfl:_=star (au ga #[.int .i64 K,.slice A1 ps.length c1,.slice none 0 0,.slice none 0 0] 85) (star (aS 3 1 (.slice A8 (ps.length+1) c8) (ps.length+1) (ints ps ++ [.int .i64 j])) (star (bD none 0 []) (star (bD none 0 []) (star (au g6 iL 85) (jh gt (nc+1) (iF cc dd ee nc j M 0 M)))))))).fst;have x1:=ay hC (i:=1) rfl;have f1:=aJ hC 1;have S9:=hide (Il iV S8);clear ho8 hg8 hv8 bk7 hR7 HRB S8 hC;go_wp2
      go_roundg g1
      case measure=>omega
      case rel=>exact ⟨k+1,set,A8,c8,ps ++ [((j:Nat):Int)],by omega,by go_num,hset,by go_num,by rw [List.length_append,HPL.out];rfl,by rw [HNK.out];exact HG2.out,S9.out⟩
   | zero =>
    obtain rfl:k=nc:=by omega
    have HPS:=hide (show OA cc dd ee k m=ps by rw [HG.out,Nat.sub_self];exact List.append_nil ps);clear HG hg1;obtain ⟨X,hX⟩:∃ X,X=jh gt (k+1) (iF cc dd ee k m M 0 M):=⟨_,rfl⟩;rw [←hX] at HR;have HXO:=hide (show X.Ok by rw [hX];exact iV);obtain ⟨RV,hRV,hrow⟩:=HQ.out.rows;have HRV:=hide hRV;have HROW:=hide hrow;have HRL:=hide (show RV.length=k by have:=hRV.1;omega);have HDS:=hide HQ.out.ds;have hvg:Vec wr G ((List.range m).map ee):=by
     unfold Vec;have e1:ints ((List.range m).map ee)=fv m (fun j=>.int .i64 (ee j)):=by simp [ints,fv]
     rw [e1,List.length_map,List.length_range];exact aR HQ.out.es HR.out.bI
    have KC:=hide (Kk (c:=e) hvg (by simp;omega));rw [List.length_map,List.length_range] at KC;have hM8:M≤64:=hM;clear hX hRV hrow hvg HPW;go_wp2_with fail;refine KC.out.mono ?_;rintro e9 w3 ⟨A3,c3,rfl,hP3⟩;have R5:=HR.out.fresh (aj iR HXO.out) hP3;have HVS:=hide (show ∃ vs:List Int,vs=(List.range m).map ee∧vs.length=m from ⟨_,rfl,by simp⟩);obtain ⟨vs,hvs,hvl⟩:=HVS.out;rw [←hvs] at R5;have R6:Run (fun _=>False) w (star (bD A3 c3 vs) (star (fD g6 ga K A1 none none c1 0 0 ps [] []) X)) w3:=by
     have e1:aS 3 1 (.slice A3 m c3) m (ints vs)=bD A3 c3 vs:=by unfold bD;rw [hvl]
     rw [←e1];exact R5
    obtain ⟨b0,b1,b2,b3,bf⟩:=jK R6.drop;have bf3:=bf 3;have R7:=hide (Qg HXO.out R6);rw [hvl] at R7;have HVL:=hide hvl;have HVE:=hide hvs;clear hP3 R5 R6 HVS hvs hvl KC HR b0 b1 b2 bf;go_wp2;clear b3 bf3
    go_loopg [100] k (fun g1 i wr=>∃ (j:Nat) (A2:Option Addr) (c2:Nat) (us vs:List Int),j+g1=k∧i=.int .i64 j∧us.length=j∧us=(List.range j).map (zG cc dd ee k m)∧vs.length=m∧vs=(List.range m).map (fun y=>qz uD (fun i=>cc i y - zG cc dd ee k m i) (ee y) j)∧Run (fun _=>False) w (star (fD g6 ga K A1 A2 A3 c1 c2 c3 ps us vs) X) wr)
    case atStart=>exact ⟨0,none,0,[],vs,Nat.zero_add _,rfl,rfl,rfl,HVL.out,HVE.out,R7.out⟩
    case round =>
     obtain ⟨j,A2,c2,us,vs2,hg1,rfl,hul,hue,hvl2,hve2,hR⟩:=hrel;have HRB:=hide hR;have HUL:=hide hul;have HUE:=hide hue;have HVL2:=hide hvl2;have HVE2:=hide hve2;clear hR hul hue hvl2 hve2 R7 HVL HVE;cases gk with
     | succ g1 =>
      have hjt:j < k:=by omega
      have HRD:=hide (HRB.out.drew (aj iR HXO.out));obtain ⟨ba,oa,RR,cR,rfl,hca,hrr⟩:=HQ.out.R j hjt;have HRR:=hide hrr
      have HXV:=hide (show RV[j]?=some (.slice RR m cR) by
       obtain ⟨R9,cp9,e9,-⟩:=HROW.out j hjt;obtain ⟨b9,o9,e8,e7⟩:=tK HRV.out hjt e9;have h1:=e7 w (Below.refl _ _);injection e8 with e8;injection e8 with e81 e82
       subst e81 e82;rw [hca w (Below.refl _ _)] at h1
       rw [e9,←Option.some.inj h1])
      have c0:=hca _ HRB.out.bI;obtain ⟨bd,od,rfl,hcd⟩:=HQ.out.D j hjt
      have HD1:=hide (show ∀ W',Below w.heap.size w W'→Src W' (some ⟨bd,od+j,none⟩) 1 1 [.int .i64 (dd j)] from fun W' hb=>⟨rfl,by simp [Value.oneCell'],fun _=>⟨_,rfl,fun q u hq=>by
       have hq0:q=0:=by
        rcases q with _ | q
        ·rfl
        ·simp at hq
       subst hq0;simp at hq;subst hq;simp [Addr.add]
       exact hcd W' hb⟩⟩)
      have hcut:=Nl bd od k d j hjt hdn;have t1:IntKind.i64.wrap ((j:Int)+1)=(j:Int)+1:=IntWalk.i64_in _ (by omega);clear hca hrr hcd;go_wp2_with fail;refine wp_region_held (S:=fun w'=>Below w.heap.size w w') (by kernel_rfl) (show wpAnyH _ _ _ _ _ _ _ _ wr.drew from ?_);refine wpAnyH_take (i:=0) (v:=.slice (some ⟨ba,oa,none⟩) k c) rfl (by kernel_rfl) (by kernel_rfl) (by kernel_rfl) (fun _ _ _ h=>h) (.inl ⟨rfl,fun w' hS'=>?_⟩) HRD.out.bI ?_
      ·go_simp
      try simp only [Act.put,List.getElem_toArray,List.getElem_cons_succ,List.getElem_cons_zero,List.setIfInBounds_toArray,List.set_cons_zero,List.set_cons_succ]
      refine wpAnyH_take (i:=1) (v:=.slice RR m cR) rfl (by kernel_rfl) (by kernel_rfl) (by kernel_rfl) (fun _ _ _ h=>h) (.inl ⟨rfl,fun w' hS'=>?_⟩) HRD.out.bI ?_
      ·go_simp
      try simp only [Act.put,List.getElem_toArray,List.getElem_cons_succ,List.getElem_cons_zero,List.setIfInBounds_toArray,List.set_cons_zero,List.set_cons_succ]
      refine wpAnyH_take (i:=5) (v:=.slice (some ⟨bd,od,none⟩) k d) rfl (by kernel_rfl) (by kernel_rfl) (by kernel_rfl) (fun _ _ _ h=>h) (.inl ⟨rfl,fun w' hS'=>?_⟩) HRD.out.bI ?_
      ·go_simp
      try simp only [Act.put,List.getElem_toArray,List.getElem_cons_succ,List.getElem_cons_zero,List.setIfInBounds_toArray,List.set_cons_zero,List.set_cons_succ]
      refine wpAnyH_take (i:=6) (v:=.slice (some ⟨bd,od,none⟩) k d) rfl (by kernel_rfl) (by kernel_rfl) (by kernel_rfl) (fun _ _ _ h=>h) (.inl ⟨rfl,fun w' hS'=>?_⟩) HRD.out.bI ?_
      ·go_simp
      try simp only [Act.put,List.getElem_toArray,List.getElem_cons_succ,List.getElem_cons_zero,List.setIfInBounds_toArray,List.set_cons_zero,List.set_cons_succ]
      refine wpAnyH_take (i:=7) (v:=.int .i64 (j:Int)) rfl (by kernel_rfl) (by kernel_rfl) (by kernel_rfl) (fun _ _ _ h=>h) (.inl ⟨rfl,fun w' hS'=>?_⟩) HRD.out.bI ?_
      ·go_simp
      try simp only [Act.put,List.getElem_toArray,List.getElem_cons_succ,List.getElem_cons_zero,List.setIfInBounds_toArray,List.set_cons_zero,List.set_cons_succ]
      refine wpAnyH_take (i:=8) (v:=.int .i64 (j:Int)) rfl (by kernel_rfl) (by kernel_rfl) (by kernel_rfl) (fun _ _ _ h=>h) (.inl ⟨rfl,fun w' hS'=>?_⟩) HRD.out.bI ?_
      ·go_simp
      try simp only [Act.put,List.getElem_toArray,List.getElem_cons_succ,List.getElem_cons_zero,List.setIfInBounds_toArray,List.set_cons_zero,List.set_cons_succ]
      refine wpAnyH_take (i:=9) (v:=.int .i64 ((j:Int)+1)) rfl (by kernel_rfl) (by kernel_rfl) (by kernel_rfl) (fun _ _ _ h=>h) (.inl ⟨rfl,fun w' hS'=>?_⟩) HRD.out.bI ?_
      ·go_simp
      try simp only [Act.put,List.getElem_toArray,List.getElem_cons_succ,List.getElem_cons_zero,List.setIfInBounds_toArray,List.set_cons_zero,List.set_cons_succ]
      refine wpAnyH_take (i:=10) (v:=(.slice (some ⟨bd,od+j,none⟩) 1 (d - j))) rfl (by kernel_rfl) (by kernel_rfl) (by kernel_rfl) (fun _ _ _ h=>h) (.inl ⟨rfl,fun w' hS'=>?_⟩) HRD.out.bI ?_
      ·go_simp
      try simp only [Act.put,List.getElem_toArray,List.getElem_cons_succ,List.getElem_cons_zero,List.setIfInBounds_toArray,List.set_cons_zero,List.set_cons_succ]
      refine wpAnyH_take (i:=13) (v:=.slice G m e) rfl (by kernel_rfl) (by kernel_rfl) (by kernel_rfl) (fun _ _ _ h=>h) (.inl ⟨rfl,fun w' hS'=>?_⟩) HRD.out.bI ?_
      ·go_simp
      try simp only [Act.put,List.getElem_toArray,List.getElem_cons_succ,List.getElem_cons_zero,List.setIfInBounds_toArray,List.set_cons_zero,List.set_cons_succ]
      refine Gu [2,3,4] [11,12] (Bw (some ⟨ba,oa,none⟩) k c RV (.slice RR m cR)) (Gh (some ⟨bd,od,none⟩) k d (fv k fun i=>.int .i64 (dd i)) (.int .i64 (dd j)) (.slice (some ⟨bd,od+j,none⟩) 1 (d - j))) 2 (by kernel_rfl) Qd Qe (aj iR HXO.out) (fun O W h=>h.bI) ?_ ?_ ?_ (Qc HRD.out)
      ·intro i o vs us hi ho hu Z W hZ hR;rcases vs with _ | ⟨v1,_ | ⟨v2,_ | ⟨v3,vs⟩⟩⟩
       ·obtain rfl:2=i:=by simpa using hi
        simp only [List.getElem?_toArray,List.getElem?_cons_succ,List.getElem?_cons_zero,Option.some.injEq] at ho;subst ho;exact SH rfl (by show (puts (puts _ [107,108,109] _) [116,117] _).eval (.tmp 106)=_;rw [bQ 106 [116,117] _ _ (by decide),bQ 106 [107,108,109] _ _ (by decide)];rfl) (DK RR m cR) hZ hR
       ·obtain rfl:3=i:=by simpa using hi
        simp only [List.getElem?_toArray,List.getElem?_cons_succ,List.getElem?_cons_zero,Option.some.injEq] at ho;subst ho;exact SI rfl (by show (puts (puts _ [107,108,109] _) [116,117] _).eval (.tmp 105)=_;rw [bQ 105 [116,117] _ _ (by decide),bQ 105 [107,108,109] _ _ (by decide)];rfl) (by show (puts (puts _ [107,108,109] _) [116,117] _).eval (.tmp 107)=_;rw [bQ 107 [116,117] _ _ (by decide)];rfl) hZ hR
       ·obtain rfl:4=i:=by simpa using hi
        simp only [List.getElem?_toArray,List.getElem?_cons_succ,List.getElem?_cons_zero,Option.some.injEq] at ho;subst ho;exact SK rfl (by show (puts (puts _ [107,108,109] _) [116,117] _).eval (.tmp 108)=_;rw [bQ 108 [116,117] _ _ (by decide)];rfl) rfl (by omega) (aR HRV.out hR.bI) hZ hR
       ·simp at hi
      ·intro i o vs us hi ho hv Z W hZ hR;rcases us with _ | ⟨v1,_ | ⟨v2,us⟩⟩
       ·obtain rfl:11=i:=by simpa using hi
        simp only [List.getElem?_toArray,List.getElem?_cons_succ,List.getElem?_cons_zero,Option.some.injEq] at ho;subst ho;exact SL rfl (by show (puts (puts _ [107,108,109] _) [116,117] _).eval (.tmp 110)=_;rw [bQ 110 [116,117] _ _ (by decide),bQ 110 [107,108,109] _ _ (by decide)];rfl) (by show (puts (puts _ [107,108,109] _) [116,117] _).eval (.tmp 115)=_;rw [bQ 115 [116,117] _ _ (by decide),bQ 115 [107,108,109] _ _ (by decide)];rfl) hZ hR
       ·obtain rfl:12=i:=by simpa using hi
        simp only [List.getElem?_toArray,List.getElem?_cons_succ,List.getElem?_cons_zero,Option.some.injEq] at ho;subst ho;have e16:∀ (a:Act) (v:Value),116 < a.tmps.size→(puts (puts a [107,108,109] vs) [116,117] [v]).eval (.tmp 116)=v:=fun a v h=>tC v (by rw [mE];exact h);exact SN rfl (e16 _ _ (show 116 < 156 by decide)) (by omega) (aR HDS.out hR.bI) (HD1.out _ hR.bI) hZ hR
       ·simp at hi
      intro vs us W hv hu hR;obtain ⟨v1,v2,v3,rfl⟩:=SG hv;obtain ⟨u1,u2,rfl⟩:=len2 hu;obtain ⟨A5,c5,B5,d5,rfl,rfl,hRE⟩:=Qf hR;have HRE:=hide hRE;clear hR hv hu;simp only [bS,List.map_cons,List.map_nil,List.getElem?_toArray,List.getElem?_cons_succ,List.getElem?_cons_zero,Option.bind_some,Option.getD_some,puts,Act.put,List.setIfInBounds_toArray,List.set_cons_zero,List.set_cons_succ];obtain ⟨F1,hO1⟩:=hRE.fst;obtain ⟨F2,hO2⟩:=hRE.mh.fst
      have hsr1:=iT hO1 (fun u hu=>by
       rcases List.mem_append.1 hu with h | h
       ·exact HRV.out.2.1 u h
       ·obtain rfl:u=_:=by simpa using h
        rfl)
      have hsr2:=iT hO2 (fun u hu=>by
       rcases List.mem_append.1 hu with h | h
       ·obtain ⟨r,_,rfl⟩:=List.mem_map.1 h;rfl
       ·obtain rfl:u=_:=by simpa using h
        rfl)
      have hq7:=HQ.out.dup hn6 HROW.out HRL.out hjt HXV.out hRE.bI hsr1 hsr2;have KL:=hide (Af hq7 c5 d5 e);have hLb:=Ak hq7 (Nat.le_refl _) uD;have HBU:=hide (show zG cc dd ee k m j=kr (iH cc k j) (iI dd k j) ee (k+1) m - K by unfold zG;rw [←HKK.out];rfl);have HL7:=hide (show kr (iH cc k j) (iI dd k j) ee (k+1) m=L (iH cc k j) (iI dd k j) ee (k+1) m (k+1) uD from rfl);rw [←HL7.out] at hLb;clear hO1 hO2 hsr1 hsr2 hq7 hRE;refine wpAnyH_all (rs:=[14]) (by kernel_rfl) (by decide) (fun i hi=>?_);obtain rfl:i=14:=by simpa using hi
      refine aO rfl rfl ?_;go_wp2_with fail;refine KL.out.mono ?_;rintro e9 w7 ⟨g7,rfl,hP7⟩;have HR9:=hide ((HRE.out.drop.drop).fresh (aj iR HXO.out) hP7);refine ⟨HR9.out.bI,?_⟩;clear KL hP7 HRE HRD;refine wpAnyH_all (rs:=[15]) (by kernel_rfl) (by decide) (fun i hi=>?_);obtain rfl:i=15:=by simpa using hi
      refine aO rfl rfl ?_;refine Kl rfl (by rfl) ⟨HR9.out.bI,?_⟩;refine wpAnyH_done (by kernel_rfl) ?_ _
      try simp only [Act.put,List.getElem_toArray,List.getElem_cons_succ,List.getElem_cons_zero,List.setIfInBounds_toArray,List.set_cons_zero,List.set_cons_succ]
      have hR10:=HR9.out.drew (aj iV (aj iR HXO.out));obtain ⟨F7,hF7⟩:=hR10.fst;have c70:=rF hF7 (k:=0) (by omega);have hM1:0 < M:=by omega
      have hMM:M≤64:=hM8;rw [show (0:Nat)=0*64+0 from rfl,qd (by rw [HMe.out];exact hM8) (by rw [HMe.out];exact hM1) (.inr ⟨rfl,by rw [HMe.out];exact hM1⟩),Iq] at c70;simp only [Nat.zero_mul,Nat.add_zero] at c70;have hR11:=hR10.drop;have HR11:=hide hR11;obtain ⟨b0,b1,b2,b3,bf⟩:=jK hR11;generalize kr (iH cc k j) (iI dd k j) ee (k+1) m=Bd at *
      have t2:IntKind.i64.wrap (Bd - K)=Bd - K:=IntWalk.i64_in _ (by omega);have tn0:(0:Int) < ((k:Int)+1)+1:=by omega
      have tn1:(0:Int)≤((k:Int)+1):=by omega
      have bf2:=bf 2;clear hcut t1 hLb HL7 HR9 hR10 hF7 hR11 b1 b3 bf HD1 HXV HRB c0;go_wp2_with fail;refine aI (fun w'=>w'=w7.drew) (by kernel_rfl) (by kernel_rfl) rfl ?_;generalize w7.drew=wx at *
      (repeat ((first | refine aK (by rfl) ?_ | (refine aL (v:=?_) (by rfl) ?_ ?_;rotate_left;(focus (intro w' hS';go_simp;(try with_reducible rfl);done))));try simp only [Act.put,List.setIfInBounds_toArray,List.set_cons_zero,List.set_cons_succ]))
      refine lex_nil ?_;generalize hu9:Bd - K=u at *
      have HU9:=hide hu9;clear t2 tn0 tn1 c70 b0 hu9;go_wp2_with (at_builtin;refine held ?_);obtain ⟨F7,hR7,-,bk7⟩:=(Qa (HR11.out.below (aj iR HXO.out) ((Below.refl _ _).alloc (Nat.le_refl _) (.cells #[.int .i64 u] 3)))).take bL (Ng bL bL av av HXO.out);refine Held.mk (gX rfl (.tmp 128) (.tmp 130) rfl kX _ 0 (v:=.slice A2 us.length c2) (n:=us.length) (xs:=ints us) rfl hR7.1 (A:=some ⟨wx.heap.size,0,none⟩) (m:=1) (c:=1) (news:=[.int .i64 u]) rfl (lD wx u) (by rw [HUL.out];omega) (by decide) (Nat.zero_le _) ?_);intro v8 w8 ho8 hg8 hv8;have S8:=bk7 _ _ (iA hR7 ho8 hg8 hv8);obtain ⟨A8,c8,rfl⟩:=gy ho8;obtain ⟨FC,hC⟩:=(S8.perm (by ac_rfl:_=star (au ga #[.int .i64 K,.slice A1 ps.length c1,.slice A2 us.length c2,.slice A3 vs2.length c3] 85) (star (aS 3 1 (.slice A8 (us.length+1) c8) (us.length+1) (ints us ++ [.int .i64 u])) (star (bD A1 c1 ps) (star (bD A3 c3 vs2) (star (au g6 iL 85) X)))))).fst;have x2:=ay hC (i:=2) rfl;have f2:=aJ hC 2;have S9:=hide (P9 HXO.out S8);have HBJ:=hide (show u=zG cc dd ee k m j from HBU.out.symm);have hubd : -10000≤u∧u≤10000:=by
       rw [HBJ.out];have h1:=(wP (c:=cc) (d:=dd) (e:=ee) (n:=k) (m:=m)).low (E:=10000) (fun i hi k hk=>(HQ.out.cb i hi k hk).1) (fun i hi=>(HQ.out.db i hi).1) HQ.out.eb (by omega) hjt;have h2:=(wP (c:=cc) (d:=dd) (e:=ee) (n:=k) (m:=m)).RF.d j hjt;have:=HQ.out.db j hjt;omega
      have HVB:=hide (show ∀ y,y < m → -10000≤qz uD (fun i=>cc i y - zG cc dd ee k m i) (ee y) j∧qz uD (fun i=>cc i y - zG cc dd ee k m i) (ee y) j≤10000 by
       intro y hy;have h1:=nR (U:=uD) (f:=fun i=>cc i y - zG cc dd ee k m i) (a:=ee y) (m:=j);have h3:=HQ.out.eb y hy;refine ⟨?_,by omega⟩;rcases wL (U:=uD) (f:=fun i=>cc i y - zG cc dd ee k m i) (a:=ee y) (m:=j) with h | ⟨q,h1,_,h2⟩
       ·omega
       ·have h4:=(wP (c:=cc) (d:=dd) (e:=ee) (n:=k) (m:=m)).RF.d q (by omega);have:=HQ.out.db q (by omega);have:=HQ.out.cb q (by omega) y hy
        omega)
      obtain ⟨fo,HFO⟩:∃ fo:Nat→Int,Hid (∀ t,fo t=qz uD (fun i=>cc i t - zG cc dd ee k m i) (ee t) j):=⟨_,hide fun _=>rfl⟩;obtain ⟨fn,HFN⟩:∃ fn:Nat→Int,Hid (∀ t,fn t=qz uD (fun i=>cc i t - zG cc dd ee k m i) (ee t) (j+1)):=⟨_,hide fun _=>rfl⟩;have HVB2:=hide (show ∀ y,y < m → -10000≤fo y∧fo y≤10000 by intro y hy;rw [HFO.out];exact HVB.out y hy);have HVS2:=hide (show ∀ y,fn y=min (fo y) (cc j y - u) by intro y;rw [HFO.out,HFN.out,HBJ.out];rfl);have HUE2:=hide (show us ++ [u]=(List.range (j+1)).map (zG cc dd ee k m) by rw [List.range_succ,List.map_append,←HUE.out,HBJ.out];rfl)
      have HVI2:=hide (show vs2=(List.range m).map (fun t=>if t < 0 then fn t else fo t) by
       rw [HVE2.out];exact List.map_congr_left fun t _=>by rw [if_neg (Nat.not_lt_zero t),HFO.out])
      have HULN:=hide (show (us ++ [u]).length=j+1 by rw [List.length_append,HUL.out];rfl)
      have HFIN2:=hide (show ∀ l:List Int,l=(List.range m).map (fun t=>if t < m then fn t else fo t)→l=(List.range m).map (fun y=>qz uD (fun i=>cc i y - zG cc dd ee k m i) (ee y) (j+1)) from fun l h=>by
       rw [h];exact List.map_congr_left fun t ht=>by rw [if_pos (List.mem_range.1 ht),HFN.out])
      obtain ⟨us9,hus9⟩:∃ us9,us9=us ++ [u]:=⟨_,rfl⟩;rw [←hus9] at S9 HUE2 HULN;clear ho8 hg8 hv8 bk7 hR7 S8 hC b2 bf2 HR11 HBU HU9 HBJ HVB HFO HFN hus9 HVE2;have e9:us.length+1=us9.length:=by rw [HULN.out,HUL.out]
      rw [e9] at S9 ⊢;clear e9 HUE HUL;go_wp2;clear x2 f2
      go_loopg [135] m (fun g2 x wr=>∃ (y:Nat) (vs:List Int),y+g2=m∧x=.int .i64 y∧vs.length=m∧vs=(List.range m).map (fun t=>if t < y then fn t else fo t)∧Run (fun _=>False) w (star (fD g6 ga K A1 A8 A3 c1 c8 c3 ps us9 vs) X) wr)
      case atStart=>exact ⟨0,vs2,Nat.zero_add _,rfl,HVL2.out,HVI2.out,S9.out⟩
      case round =>
       obtain ⟨y,vs,hg2,rfl,hvl,hve,hR⟩:=hrel;have HRE:=hide hR;have HVL:=hide hvl;have HVE:=hide hve;clear hR hvl hve S9 HVL2 HVI2;cases gk with
       | succ g2 =>
        have hym:y < m:=by omega
        obtain ⟨b',o',rfl,hcc⟩:=HRR.out y hym;have hcb:=HQ.out.cb j hjt y hym;have HRD:=hide (HRE.out.drew (aj iR HXO.out));have c5:=hcc _ HRE.out.bI;obtain ⟨b0,b1,b2,b3,bf⟩:=jK HRD.out;have hP3:=Qb HRD.out;obtain ⟨F3,hV3⟩:=hP3.fst;obtain ⟨g3,rfl⟩:=ND hV3 (by rw [HVL.out];omega);have hyv:y < vs.length:=by rw [HVL.out];exact hym
        have c6:=kY hV3 (i:=y) (yh hyv);have f6:=mG hV3 y (by rw [HVL.out];omega);have hval:vs[y]=fo y:=by
         have h1:vs[y]?=some (fo y):=by rw [HVE.out];simp [hym]
         exact (List.getElem?_eq_some_iff.1 h1).2
        rw [hval] at c6;have hvb:=HVB2.out y hym;have hvs:=HVS2.out y;have R12:=Qh (x:=fn y) (Ng bL bL av av HXO.out) hyv hP3;have HVE3:=hide (show vs.set y (fn y)=(List.range m).map (fun t=>if t < y+1 then fn t else fo t) by rw [HVE.out];exact Qi fo fn hym);have HVL3:=hide (show (vs.set y (fn y)).length=m by rw [List.length_set];exact HVL.out);have R13:=Qj (show vs.length=(vs.set y (fn y)).length from List.length_set.symm) R12;rw [hvs] at R13;have HR13:=hide R13;have t5:IntKind.i64.wrap (cc j y - u)=cc j y - u:=IntWalk.i64_in _ (by omega);rw [←hvs] at HR13;generalize hfy:fo y=q at *
        generalize hz:cc j y=z at *
        have HMIN:=hide (show fn y=if z - u < q then z - u else q by rw [hvs];omega);rw [HMIN.out] at HR13 HVE3 HVL3;clear b0 b1 b2 bf hP3 hV3 hval R12 R13 hvs hcc HRD hfy hz HMIN HVE HVL;by_cases hmin:z - u < q
        case pos =>
         rw [if_pos hmin] at HR13 HVE3 HVL3;go_wp2_with fail;refine fJ (fun w'=>w'=wr.drew) (by kernel_rfl) (by kernel_rfl) (by kernel_rfl) rfl ?_;generalize wr.drew=wd at *
         (repeat ((first | refine jU (by rfl) ?_ | (refine jV (v:=?_) (by rfl) ?_ ?_;rotate_left;(focus (intro w' hS';go_simp;(try with_reducible rfl);done))));try simp only [Act.put,List.setIfInBounds_toArray,List.set_cons_zero,List.set_cons_succ]))
         refine kV rfl (by rfl) (fun KK hK=>?_);go_wp2_with fail;refine hK.out _ _ ?_;clear hK c6 f6 t5 b3 c5;go_wp2
         go_roundg g2
         case measure=>omega
         case rel=>exact ⟨y+1,_,by omega,by go_num,HVL3.out,HVE3.out,by first | exact HR13.out | (rw [show min q (z - u)=z - u by omega];exact HR13.out)⟩
        case neg =>
         rw [if_neg hmin] at HR13 HVE3 HVL3;go_wp2_with fail;refine fJ (fun w'=>w'=wr.drew) (by kernel_rfl) (by kernel_rfl) (by kernel_rfl) rfl ?_;generalize wr.drew=wd at *
         (repeat ((first | refine jU (by rfl) ?_ | (refine jV (v:=?_) (by rfl) ?_ ?_;rotate_left;(focus (intro w' hS';go_simp;(try with_reducible rfl);done))));try simp only [Act.put,List.setIfInBounds_toArray,List.set_cons_zero,List.set_cons_succ]))
         refine kV rfl (by rfl) (fun KK hK=>?_);go_wp2_with fail;refine hK.out _ _ ?_;clear hK c6 f6 t5 b3 c5;go_wp2
         go_roundg g2
         case measure=>omega
         case rel=>exact ⟨y+1,_,by omega,by go_num,HVL3.out,HVE3.out,by first | exact HR13.out | (rw [show min q (z - u)=q by omega];exact HR13.out)⟩
       | zero =>
        obtain rfl:y=m:=by omega
        have HV9:=hide (HFIN2.out vs HVE.out);go_wp2
        go_roundg g1
        case measure=>omega
        case rel=>exact ⟨j+1,A8,c8,us9,vs,by omega,by go_num,HULN.out,HUE2.out,HVL.out,HV9.out,HRE.out⟩
     | zero =>
      obtain rfl:j=k:=by omega
      obtain ⟨b0,b1,b2,b3,-⟩:=jK HRB.out;obtain ⟨z0,z1,z2,z3,zf⟩:=Nh HRB.out;have f0:=zf 0;have f1:=zf 1;have f2:=zf 2;have f3:=zf 3;have HRF:=hide (Ni HXO.out HRB.out);have HUS:=hide (show us=UE cc dd ee j m from HUE.out);have HBV:=hide (show vs2=UF cc dd ee j m from HVE2.out);clear zf HUE HVE2 HRB;go_wp2
      try rw [Exit.noGoto_ret]
      refine bodyPost_ret_by (bZ rfl _ _ g6 85 #[.int .i64 K,.slice A1 ps.length c1,.slice A2 us.length c2,.slice A3 vs2.length c3] (0,0) rfl ?_ Tryz.underlying85 (by kernel_rfl)) rfl ?_
      ·obtain ⟨F,hC⟩:=HRF.out.fst;exact hC.1
      ·refine HRET.out _ _ (by have:=HRF.out.bI;rwa [HG6.out] at this) ?_;rw [HBM.out,←HKK.out,HPS.out,←HUS.out,←HBV.out];exact Nj HRF.out
end Go.Proofs.YtbnnlpjpnihheaaGreatDoor.Asn
namespace Go.Proofs.YtbnnlpjpnihheaaGreatDoor.Asn
open Go.RowKit Go.CH Go.CH.aY
open Go.ChangeMaps (setBlock)

def fC (pg gg:Nat) (rb:Nat→Nat) (f:Nat→Nat→Int) (i n m:Nat):CH.Own :=
 star (au pg #[.slice (some ⟨gg,0,none⟩) (n+1) (n+1)] 75)
  (star (aS 40 1 (.slice (some ⟨gg,0,none⟩) (n+1) (n+1)) (n+1) (fv (n+1) fun r=>if i≤r then .slice (some ⟨rb r,0,none⟩) (m+1) (m+1) else .slice none 0 0))
   (kg (List.range' i (n+1 - i)) fun r=>ji (rb r) (m+1) (f r)))
theorem gJ {pg gg:Nat} {rb:Nat→Nat} {f:Nat→Nat→Int} {i n m:Nat}:(fC pg gg rb f i n m).Ok:=aj av (aj bA (BG fun _=>yF))
section
variable {w0 W:World} {X:CH.Own} {pg gg:Nat} {rb:Nat→Nat} {f:Nat→Nat→Int} {i n m:Nat}
theorem tF (h:Run (fun _=>False) w0 (star (fC pg gg rb f i n m) X) W):W.cell? ⟨pg,0,none⟩=some (.slice (some ⟨gg,0,none⟩) (n+1) (n+1)):=by
 unfold fC at h;obtain ⟨F,hC⟩:=h.assoc.fst;exact ay hC rfl
theorem tH (h:Run (fun _=>False) w0 (star (fC pg gg rb f i n m) X) W) {r:Nat} (hr:i≤r) (hr2:r≤n):W.cell? ⟨gg,r,none⟩=some (.slice (some ⟨rb r,0,none⟩) (m+1) (m+1)):=by
 unfold fC at h;obtain ⟨F,hC⟩:=h.assoc.mh.assoc.fst;have:=kY hC (ng (fun r=>if i≤r then Value.slice (some ⟨rb r,0,none⟩) (m+1) (m+1) else .slice none 0 0) (show r < n+1 by omega));rw [if_pos hr] at this;exact this
theorem yC (h:Run (fun _=>False) w0 (star (fC pg gg rb f i n m) X) W) {r:Nat} (hr:i≤r) (hr2:r≤n) :
  Run (fun _=>False) w0 (star (ji (rb r) (m+1) (f r)) (star (kg ((List.range' i (n+1 - i)).erase r) fun r=>ji (rb r) (m+1) (f r)) (star (au pg #[.slice (some ⟨gg,0,none⟩) (n+1) (n+1)] 75)
  (star (aS 40 1 (.slice (some ⟨gg,0,none⟩) (n+1) (n+1)) (n+1) (fv (n+1) fun r=>if i≤r then .slice (some ⟨rb r,0,none⟩) (m+1) (m+1) else .slice none 0 0)) X)))) W:=by
 unfold fC at h
 have h1:=h.perm (by ac_rfl:_=star (kg (List.range' i (n+1 - i)) fun r=>ji (rb r) (m+1) (f r)) (star (au pg #[.slice (some ⟨gg,0,none⟩) (n+1) (n+1)] 75)
  (star (aS 40 1 (.slice (some ⟨gg,0,none⟩) (n+1) (n+1)) (n+1) (fv (n+1) fun r=>if i≤r then .slice (some ⟨rb r,0,none⟩) (m+1) (m+1) else .slice none 0 0)) X)))
 have hm:r ∈ List.range' i (n+1 - i):=by rw [List.mem_range'_1];omega
 exact (h1.imp fun w F hh=>bF hh (fun F h=>Eb hm h) (fun _ h=>h)).assoc
theorem tJ (h:Run (fun _=>False) w0 (star (fC pg gg rb f i n m) X) W) {r y:Nat} (hr:i≤r) (hr2:r≤n) (hy:y≤m):W.cell? ⟨rb r,y,none⟩=some (.int .i64 (f r y)):=by
 obtain ⟨F,hN⟩:=(yC h hr hr2).fst;exact SX hN (by omega)
theorem Km (h:Run (fun _=>False) w0 (star (fC pg gg rb f i n m) X) W) {r:Nat} (hr:i≤r) (hr2:r≤n) (y:Nat):W.frozen? ⟨rb r,y,none⟩=false:=by
 obtain ⟨F,hN⟩:=(yC h hr hr2).fst;exact Nu hN y (by omega)

theorem DW (hX:X.Ok) (h:Run (fun _=>False) w0 (star (fC pg gg rb f i n m) X) W) {r y:Nat} (hr:i≤r) (hr2:r≤n) (hy:y≤m) (x:Int) {f':Nat→Nat→Int} (hf:∀ a b,f' a b=if a=r∧b=y then x else f a b) :
  Run (fun _=>False) w0 (star (fC pg gg rb f' i n m) X) (W.setCell ⟨rb r,y,none⟩ (.int .i64 x)):=by
 have h1:=yC h hr hr2
 have oY:(star (kg ((List.range' i (n+1 - i)).erase r) fun r=>ji (rb r) (m+1) (f r)) (star (au pg #[.slice (some ⟨gg,0,none⟩) (n+1) (n+1)] 75)
  (star (aS 40 1 (.slice (some ⟨gg,0,none⟩) (n+1) (n+1)) (n+1) (fv (n+1) fun r=>if i≤r then .slice (some ⟨rb r,0,none⟩) (m+1) (m+1) else .slice none 0 0)) X))).Ok:=aj (BG fun _=>yF) (aj av (aj bA hX))
 obtain ⟨F,hN,-,bk⟩:=h1.take yF oY;have h2:=bk _ _ (Qr hN (k:=y) (by omega) x (T:=f' r) (fun j _=>by rw [hf];simp));have hnd:(List.range' i (n+1 - i)).Nodup:=List.nodup_range';have hb:kg ((List.range' i (n+1 - i)).erase r) (fun r=>ji (rb r) (m+1) (f r))=kg ((List.range' i (n+1 - i)).erase r) (fun r=>ji (rb r) (m+1) (f' r)):=yJ fun a ha=>by
  have hne:a≠r:=by
   intro e;subst e;exact (List.Nodup.not_mem_erase hnd) ha
  have:f' a=f a:=by funext b;rw [hf];simp [hne]
  rw [this]
 rw [hb] at h2;have hm:r ∈ List.range' i (n+1 - i):=by rw [List.mem_range'_1];omega
 have h3:Run (fun _=>False) w0 (star (kg (List.range' i (n+1 - i)) fun r=>ji (rb r) (m+1) (f' r)) (star (au pg #[.slice (some ⟨gg,0,none⟩) (n+1) (n+1)] 75)
  (star (aS 40 1 (.slice (some ⟨gg,0,none⟩) (n+1) (n+1)) (n+1) (fv (n+1) fun r=>if i≤r then .slice (some ⟨rb r,0,none⟩) (m+1) (m+1) else .slice none 0 0)) X))) _ :=
  (h2.perm (by ac_rfl:_=star (star (ji (rb r) (m+1) (f' r)) (kg ((List.range' i (n+1 - i)).erase r) fun r=>ji (rb r) (m+1) (f' r))) (star (au pg #[.slice (some ⟨gg,0,none⟩) (n+1) (n+1)] 75)
  (star (aS 40 1 (.slice (some ⟨gg,0,none⟩) (n+1) (n+1)) (n+1) (fv (n+1) fun r=>if i≤r then .slice (some ⟨rb r,0,none⟩) (m+1) (m+1) else .slice none 0 0)) X)))).imp fun w F hh=>bF hh (fun F h=>Ec hm h) (fun _ h=>h)
 unfold fC;exact h3.perm (by ac_rfl)
end
end Go.Proofs.YtbnnlpjpnihheaaGreatDoor.Asn
namespace Go.Proofs.YtbnnlpjpnihheaaGreatDoor.Asn
open Go.RowKit Go.CH Go.CH.aY
open Go.ChangeMaps (setBlock)

def DX (b v:Int):Int:=if b < 0 then v else if v < b then v else b
section
variable {w0 W:World} {X:CH.Own} {pg gg pb:Nat} {rb:Nat→Nat} {f:Nat→Nat→Int} {i n m:Nat}

def Ko (pg gg pb:Nat) (rb:Nat→Nat) (f:Nat→Nat→Int) (i n m:Nat) (b:Int) (X:CH.Own):CH.Own:=star (fC pg gg rb f i n m) (star (au pb #[.int .i64 b] 3) X)
def Ro (w0:World) (pg gg pb:Nat) (rb:Nat→Nat) (f:Nat→Nat→Int) (i n m:Nat) (b:Int) (X:CH.Own) (e:Ending) (w':World):Prop:=e=.returned (.tuple #[])∧Run (fun _=>False) w0 (Ko pg gg pb rb f i n m b X) w'
theorem Ue {b:Int} (hX:X.Ok):(Ko pg gg pb rb f i n m b X).Ok:=aj gJ (aj av hX)
theorem Ir {b:Int} (h:Run (fun _=>False) w0 (Ko pg gg pb rb f i n m b X) W):W.cell? ⟨pb,0,none⟩=some (.int .i64 b)∧W.frozen? ⟨pb,0,none⟩=false:=by
 unfold Ko at h;obtain ⟨F,hC⟩:=h.mh.fst;exact ⟨ay hC rfl,aJ hC 0⟩
theorem SQ {b:Int} (hX:X.Ok) (h:Run (fun _=>False) w0 (Ko pg gg pb rb f i n m b X) W) (v:Int):Run (fun _=>False) w0 (Ko pg gg pb rb f i n m v X) (W.setCell ⟨pb,0,none⟩ (.int .i64 v)):=by
 unfold Ko at *
 exact (gI (aj gJ hX) h.mh 0 (.int .i64 v) rfl).mh
theorem Gi {b q:Int} {x y:Nat} (hX:X.Ok) (h:Run (fun _=>False) w0 (Ko pg gg pb rb f i n m b X) W) (hx:i≤x) (hx2:x≤n) (hy:y≤m) (hn:n≤100) (hm:m≤100) (hq:0≤q∧q≤100000) (hf:0≤f x y∧f x y≤10000000) :
  Calls Tryz.prog 101 #[.int .i64 (x:Int),.int .i64 (y:Int),.int .i64 q,.pointer (some ⟨pg,0,none⟩),.pointer (some ⟨pb,0,none⟩)] W (Ro w0 pg gg pb rb f i n m (DX b (q+f x y)) X):=by
 have HR:=hide h;have c0:=tF (show Run (fun _=>False) w0 (star (fC pg gg rb f i n m) (star (au pb #[.int .i64 b] 3) X)) W from h);have c1:=tH (show Run (fun _=>False) w0 (star (fC pg gg rb f i n m) (star (au pb #[.int .i64 b] 3) X)) W from h) hx hx2;have c2:=tJ (show Run (fun _=>False) w0 (star (fC pg gg rb f i n m) (star (au pb #[.int .i64 b] 3) X)) W from h) hx hx2 hy;obtain ⟨c3,f3⟩:=Ir h;have HP:=hide (SQ hX h (q+f x y));have hxn:(x:Int) < (n:Int)+1:=by omega
 have hym:(y:Int) < (m:Int)+1:=by omega
 generalize f x y=z at *
 clear h;by_cases hb:b < 0
 ·have HS:=hide (show DX b (q+z)=q+z by simp [DX,hb])
  go_enter Tryz.func101,Tryz.ntmps101
  go_wp2
  go_end0
  exact ⟨rfl,by rw [HS.out];exact HP.out⟩
 ·by_cases hv:q+z < b
  ·have HS:=hide (show DX b (q+z)=q+z by simp [DX,hb,hv])
   go_enter Tryz.func101,Tryz.ntmps101
   go_wp2
   go_end0
   exact ⟨rfl,by rw [HS.out];exact HP.out⟩
  ·have HS:=hide (show DX b (q+z)=b by simp [DX,hb,hv])
   go_enter Tryz.func101,Tryz.ntmps101
   go_wp2
   go_end0
   exact ⟨rfl,by rw [HS.out];exact HR.out⟩
end
section
variable {w0 W:World} {X:CH.Own} {pg gg pb:Nat} {rb:Nat→Nat} {f:Nat→Nat→Int} {A B G:Option Addr} {c:Nat→Nat→Int} {d e:Nat→Int} {n m:Nat}

def Ah (d:Nat→Int) (f:Nat→Nat→Int) (n i j:Nat) (b:Int):Int:=if i < n then DX b (d i+f (i+1) j) else b
def Bz (e:Nat→Int) (f:Nat→Nat→Int) (m i j:Nat) (b:Int):Int:=if j < m then DX b (e j+f i (j+1)) else b
def EK (c:Nat→Nat→Int) (f:Nat→Nat→Int) (n m i j:Nat) (b:Int):Int:=if i < n∧j < m then DX b (c i j+f (i+1) (j+1)) else b
theorem Qk {b:Int} {i j:Nat} (hq:BF w0 A B G c d e n m) (hX:X.Ok) (h:Run (fun _=>False) w0 (Ko pg gg pb rb f i n m b X) W) (hi:i≤n) (hj:j≤m) (hf:∀ r y,i≤r→r≤n→y≤m→0≤f r y∧f r y≤10000000) (ca cb cg:Nat) :
  Calls Tryz.prog 100 #[.slice A n ca,.slice B n cb,.slice G m cg,.int .i64 (i:Int),.int .i64 (j:Int),.func (.func 101) #[] #[.pointer (some ⟨pg,0,none⟩),.pointer (some ⟨pb,0,none⟩)]] W (Ro w0 pg gg pb rb f i n m (EK c f n m i j (Bz e f m i j (Ah d f n i j b))) X):=by
 have HQ:=hide hq;have HR:=hide h;have hn7:=hq.n7;have hm6:=hq.m6;have HV:=hide (fun (b q:Int) (x y:Nat) (W:World) (h:Run (fun _=>False) w0 (Ko pg gg pb rb f i n m b X) W) (hx:i≤x) (hx2:x≤n) (hy:y≤m) (hq:0≤q∧q≤100000)=>Gi hX h hx hx2 hy (by omega) (by omega) hq (hf x y hx hx2 hy));clear h hq;by_cases hin:i < n
 ·obtain ⟨bd,od,rfl,hcd⟩:=HQ.out.D i hin;have hdb:=HQ.out.db i hin;have c0:=hcd _ HR.out.bI;have K1:=hide (HV.out b (d i) (i+1) j W HR.out (by omega) (by omega) hj (by omega));rw [show ((i+1:Nat):Int)=(i:Int)+1 by omega] at K1;have H1:=hide (show Ah d f n i j b=DX b (d i+f (i+1) j) by simp [Ah,hin]);rw [←H1.out] at K1;clear hcd H1;by_cases hjm:j < m
  ·have heb:=HQ.out.eb j hjm;have K2:=hide (fun W h=>HV.out (Ah d f n i j b) (e j) i (j+1) W h (by omega) (by omega) (by omega) (by omega));rw [show ((j+1:Nat):Int)=(j:Int)+1 by omega] at K2;have H2:=hide (show Bz e f m i j (Ah d f n i j b)=DX (Ah d f n i j b) (e j+f i (j+1)) by simp [Bz,hjm]);rw [←H2.out] at K2;have hcb:=HQ.out.cb i hin j hjm;have K3:=hide (fun W h=>HV.out (Bz e f m i j (Ah d f n i j b)) (c i j) (i+1) (j+1) W h (by omega) (by omega) (by omega) (by omega));rw [show ((j+1:Nat):Int)=(j:Int)+1 by omega,show ((i+1:Nat):Int)=(i:Int)+1 by omega] at K3;have H3:=hide (show EK c f n m i j (Bz e f m i j (Ah d f n i j b))=DX (Bz e f m i j (Ah d f n i j b)) (c i j+f (i+1) (j+1)) by simp [EK,hin,hjm]);rw [←H3.out] at K3;clear H2 H3 HV;obtain ⟨be,oe,rfl,hce⟩:=HQ.out.E j hjm;obtain ⟨ba,oa,RR,cR,rfl,hca,hrow⟩:=HQ.out.R i hin;obtain ⟨b',o',rfl,hcc⟩:=hrow j hjm;have HCE:=hide hce;have HCA:=hide hca;have HCC:=hide hcc;clear hce hca hrow hcc
   go_enter Tryz.func100,Tryz.ntmps100
   go_wp2_with fail;refine K1.out.mono ?_;rintro e9 w1 ⟨rfl,h1⟩;have c1:=HCE.out _ h1.bI;have K2':=hide (K2.out _ h1);clear K1 K2 h1 c0;go_wp2_with fail;refine K2'.out.mono ?_;rintro e9 w2 ⟨rfl,h2⟩;have c2:=HCA.out _ h2.bI;have c3:=HCC.out _ h2.bI;have K3':=hide (K3.out _ h2);clear K2' K3 h2 c1;go_wp2_with fail;refine K3'.out.mono ?_;rintro e9 w3 ⟨rfl,h3⟩;have HR3:=hide h3;clear K3' h3 c2 c3;go_wp2
   go_end0
   exact ⟨rfl,HR3.out⟩
  ·have H2:=hide (show EK c f n m i j (Bz e f m i j (Ah d f n i j b))=Ah d f n i j b by simp [EK,Bz,hjm]);rw [H2.out];clear H2 HV
   go_enter Tryz.func100,Tryz.ntmps100
   go_wp2_with fail;refine K1.out.mono ?_;rintro e9 w1 ⟨rfl,h1⟩;have HR3:=hide h1;clear K1 h1 c0;go_wp2
   go_end0
   exact ⟨rfl,HR3.out⟩
 ·have H1:=hide (show Ah d f n i j b=b by simp [Ah,hin]);rw [H1.out];by_cases hjm:j < m
  ·have heb:=HQ.out.eb j hjm;have K2:=hide (HV.out b (e j) i (j+1) W HR.out (by omega) (by omega) (by omega) (by omega));rw [show ((j+1:Nat):Int)=(j:Int)+1 by omega] at K2;have H2:=hide (show EK c f n m i j (Bz e f m i j b)=DX b (e j+f i (j+1)) by simp [EK,Bz,hin,hjm]);rw [H2.out];obtain ⟨be,oe,rfl,hce⟩:=HQ.out.E j hjm;have c1:=hce _ HR.out.bI;clear H2 HV hce H1
   go_enter Tryz.func100,Tryz.ntmps100
   go_wp2_with fail;refine K2.out.mono ?_;rintro e9 w1 ⟨rfl,h1⟩;have HR3:=hide h1;clear K2 h1 c1;go_wp2
   go_end0
   exact ⟨rfl,HR3.out⟩
  ·have H2:=hide (show EK c f n m i j (Bz e f m i j b)=b by simp [EK,Bz,hin,hjm]);rw [H2.out];clear H2 HV H1
   go_enter Tryz.func100,Tryz.ntmps100
   go_wp2
   go_end0
   exact ⟨rfl,HR.out⟩
end
end Go.Proofs.YtbnnlpjpnihheaaGreatDoor.Asn
namespace Go.Proofs.YtbnnlpjpnihheaaGreatDoor.Asn
open Go.RowKit Go.CH Go.CH.aY
open Go.ChangeMaps (setBlock)

section
variable {c:Nat→Nat→Int} {d e:Nat→Int} {n m:Nat}
theorem oM {w:World} {A B G:Option Addr} (h:BF w A B G c d e n m) {a b:Nat} (ha:a≤n) (hb:b≤m):0≤GR c d e n m a b∧GR c d e n m a b≤(a:Int)*10000+(b:Int)*10000:=by
 induction a generalizing b with
 | zero =>
  induction b with
  | zero=>show 0≤(0:Int)∧_;exact ⟨by omega,by show (0:Int)≤_;omega⟩
  | succ b ih =>
   have h1:=ih (by omega);have h2:=h.eb (m - (b+1)) (by omega);have h3:GR c d e n m 0 (b+1)=e (m - (b+1))+GR c d e n m 0 b:=rfl;rw [h3];omega
 | succ a iha =>
  have h5:=h.db (n - (a+1)) (by omega)
  induction b with
  | zero =>
   have h1:=iha (by omega) (b:=0) (by omega);have h3:GR c d e n m (a+1) 0=d (n - (a+1))+GR c d e n m a 0:=rfl;rw [h3];omega
  | succ b ihb =>
   have h1:=iha (by omega) (b:=b+1) hb;have h2:=ihb (by omega);have h6:=iha (by omega) (b:=b) (by omega);have h7:=h.eb (m - (b+1)) (by omega);have h8:=h.cb (n - (a+1)) (by omega) (m - (b+1)) (by omega);have h3:GR c d e n m (a+1) (b+1)=min (min (d (n - (a+1))+GR c d e n m a (b+1)) (e (m - (b+1))+GR c d e n m (a+1) b)) (c (n - (a+1)) (m - (b+1))+GR c d e n m a b):=rfl;rw [h3];omega

theorem SS {w:World} {A B G:Option Addr} (h:BF w A B G c d e n m) {f:Nat→Nat→Int} {i j:Nat} (hi:i≤n) (hj:j≤m) (h1:i < n→f (i+1) j=GR c d e n m (n - (i+1)) (m - j)) (h2:j < m→f i (j+1)=GR c d e n m (n - i) (m - (j+1)))
  (h3:i < n→j < m→f (i+1) (j+1)=GR c d e n m (n - (i+1)) (m - (j+1))) :
  (if EK c f n m i j (Bz e f m i j (Ah d f n i j (-1))) < 0 then 0 else EK c f n m i j (Bz e f m i j (Ah d f n i j (-1))))=GR c d e n m (n - i) (m - j):=by
 by_cases hin:i < n
 ·have e1:=h1 hin;have b1:=oM h (a:=n - (i+1)) (b:=m - j) (by omega) (by omega);have hd:=h.db i hin;obtain ⟨a,ha⟩:∃ a,n - i=a+1:=⟨n - i - 1,by omega⟩;have ha1:n - (i+1)=a:=by omega
  have ha2:n - (a+1)=i:=by omega
  rw [ha1] at e1 b1;by_cases hjm:j < m
  ·have e2:=h2 hjm;have e3:=h3 hin hjm;have he:=h.eb j hjm;have hc:=h.cb i hin j hjm;obtain ⟨b,hb⟩:∃ b,m - j=b+1:=⟨m - j - 1,by omega⟩;have hb1:m - (j+1)=b:=by omega
   have hb2:m - (b+1)=j:=by omega
   have b2:=oM h (a:=n - i) (b:=m - (j+1)) (by omega) (by omega);have b3:=oM h (a:=n - (i+1)) (b:=m - (j+1)) (by omega) (by omega);rw [ha,hb1] at e2 b2;rw [ha1,hb1] at e3 b3;rw [ha,hb];rw [hb] at e1 b1;have h9:GR c d e n m (a+1) (b+1)=min (min (d (n - (a+1))+GR c d e n m a (b+1)) (e (m - (b+1))+GR c d e n m (a+1) b)) (c (n - (a+1)) (m - (b+1))+GR c d e n m a b):=rfl;rw [ha2,hb2] at h9;rw [h9];simp only [EK,Bz,Ah,hin,hjm,if_true,and_self,e1,e2,e3,DX];simp only [show ((-1:Int) < 0) from by omega,if_true];rw [if_neg (show ¬ d i+GR c d e n m a (b+1) < 0 by omega)];by_cases g1:e j+GR c d e n m (a+1) b < d i+GR c d e n m a (b+1)
   ·rw [if_pos g1,if_neg (show ¬ e j+GR c d e n m (a+1) b < 0 by omega)];by_cases g2:c i j+GR c d e n m a b < e j+GR c d e n m (a+1) b
    ·rw [if_pos g2,if_neg (by omega)];omega
    ·rw [if_neg g2,if_neg (by omega)];omega
   ·rw [if_neg g1,if_neg (show ¬ d i+GR c d e n m a (b+1) < 0 by omega)];by_cases g2:c i j+GR c d e n m a b < d i+GR c d e n m a (b+1)
    ·rw [if_pos g2,if_neg (by omega)];omega
    ·rw [if_neg g2,if_neg (by omega)];omega
  ·obtain rfl:j=m:=by omega
   rw [ha,Nat.sub_self];rw [Nat.sub_self] at e1 b1;have h9:GR c d e n j (a+1) 0=d (n - (a+1))+GR c d e n j a 0:=rfl;rw [ha2] at h9;rw [h9];simp only [EK,Bz,Ah,hin,Nat.lt_irrefl,if_true,if_false,and_false,e1,DX];simp only [show ((-1:Int) < 0) from by omega,if_true];rw [if_neg (by omega)]
 ·obtain rfl:i=n:=by omega
  rw [Nat.sub_self];by_cases hjm:j < m
  ·have e2:=h2 hjm;have he:=h.eb j hjm;obtain ⟨b,hb⟩:∃ b,m - j=b+1:=⟨m - j - 1,by omega⟩;have hb1:m - (j+1)=b:=by omega
   have hb2:m - (b+1)=j:=by omega
   have b2:=oM h (a:=0) (b:=b) (by omega) (by omega);rw [Nat.sub_self,hb1] at e2;rw [hb];have h9:GR c d e i m 0 (b+1)=e (m - (b+1))+GR c d e i m 0 b:=rfl;rw [hb2] at h9;rw [h9];simp only [EK,Bz,Ah,hjm,Nat.lt_irrefl,if_true,if_false,false_and,e2,DX];simp only [show ((-1:Int) < 0) from by omega,if_true];rw [if_neg (by omega)]
  ·obtain rfl:j=m:=by omega
   rw [Nat.sub_self];simp only [EK,Bz,Ah,Nat.lt_irrefl,if_false,false_and];rfl
end
section
variable {w0 W:World} {X:CH.Own} {pg gg:Nat} {rb:Nat→Nat} {f:Nat→Nat→Int} {i n m:Nat}
theorem Gj {i n:Nat} (h:i≤n):List.range' i (n+1 - i)=i :: List.range' (i+1) (n+1 - (i+1)):=by
 have e:n+1 - i=(n+1 - (i+1))+1:=by omega
 rw [e,List.range'_succ]

theorem Np (hX:X.Ok) (hi:i≤n) {r:Nat} (h:Run (fun _=>False) w0 (star (ji r (m+1) (fun _=>0)) (star (fC pg gg rb f (i+1) n m) X)) W) :
  Run (fun _=>False) w0 (star (fC pg gg (fun a=>if a=i then r else rb a) (fun a b=>if a=i then 0 else f a b) i n m) X) (W.setCell ⟨gg,i,none⟩ (.slice (some ⟨r,0,none⟩) (m+1) (m+1))):=by
 unfold fC at h;have oY:(star (ji r (m+1) (fun _=>0)) (star (au pg #[.slice (some ⟨gg,0,none⟩) (n+1) (n+1)] 75) (star (kg (List.range' (i+1) (n+1 - (i+1))) fun r=>ji (rb r) (m+1) (f r)) X))).Ok:=aj yF (aj av (aj (BG fun _=>yF) hX));obtain ⟨F,hR,-,bk⟩:=(h.perm (by ac_rfl:_=star (aS 40 1 (.slice (some ⟨gg,0,none⟩) (n+1) (n+1)) (n+1) (fv (n+1) fun r=>if i+1≤r then .slice (some ⟨rb r,0,none⟩) (m+1) (m+1) else .slice none 0 0)) (star (ji r (m+1) (fun _=>0)) (star (au pg #[.slice (some ⟨gg,0,none⟩) (n+1) (n+1)] 75) (star (kg (List.range' (i+1) (n+1 - (i+1))) fun r=>ji (rb r) (m+1) (f r)) X))))).take bA oY;have h1:=bk _ _ (tN hR (i:=i) (by omega) (.slice (some ⟨r,0,none⟩) (m+1) (m+1)));rw [Gq] at h1
 rw [oN (g:=fun a=>if i≤a then Value.slice (some ⟨(if a=i then r else rb a),0,none⟩) (m+1) (m+1) else .slice none 0 0) (fun a ha=>by
  unfold Rp;by_cases e:a=i
  ·subst e;simp
  ·rw [if_neg e]
   show (if i+1≤a then Value.slice (some ⟨rb a,0,none⟩) (m+1) (m+1) else .slice none 0 0)=_
   by_cases h2:i+1≤a
   ·rw [if_pos h2,if_pos (by omega),if_neg e]
   ·rw [if_neg h2,if_neg (by omega)])] at h1
 unfold fC;rw [Gj hi];have hb:kg (List.range' (i+1) (n+1 - (i+1))) (fun r=>ji (rb r) (m+1) (f r))=kg (List.range' (i+1) (n+1 - (i+1))) (fun a=>ji (if a=i then r else rb a) (m+1) (fun b=>if a=i then 0 else f a b)):=yJ fun a ha=>by
  have:a≠i:=by rw [List.mem_range'_1] at ha;omega
  simp [this]
 rw [hb] at h1;have hk:kg (i :: List.range' (i+1) (n+1 - (i+1))) (fun a=>ji (if a=i then r else rb a) (m+1) (fun b=>if a=i then 0 else f a b))=star (ji r (m+1) (fun _=>0)) (kg (List.range' (i+1) (n+1 - (i+1))) (fun a=>ji (if a=i then r else rb a) (m+1) (fun b=>if a=i then 0 else f a b))):=by
  show star (ji (if i=i then r else rb i) (m+1) (fun b=>if i=i then 0 else f i b)) (kg (List.range' (i+1) (n+1 - (i+1))) (fun a=>ji (if a=i then r else rb a) (m+1) (fun b=>if a=i then 0 else f a b)))=_
  rw [if_pos rfl];have e:(fun b:Nat=>if i=i then (0:Int) else f i b)=fun _=>0:=by funext b;rw [if_pos rfl]
  rw [e]
 rw [hk];exact h1.perm (by ac_rfl)
end
def Iu (w:World) (c:Nat→Nat→Int) (d e:Nat→Int) (n m:Nat) (en:Ending) (w':World):Prop :=
 ∃ pg gg rb f,en=.returned (.slice (some ⟨gg,0,none⟩) (n+1) (n+1))∧Run (fun _=>False) w (star (fC pg gg rb f 0 n m) emp) w'∧∀ r y,r≤n→y≤m→f r y=GR c d e n m (n - r) (m - y)
end Go.Proofs.YtbnnlpjpnihheaaGreatDoor.Asn
namespace Go.Proofs.YtbnnlpjpnihheaaGreatDoor.Asn
open Go.RowKit Go.CH Go.CH.aY
open Go.ChangeMaps (setBlock)

theorem Ql {o:Oper} {a:Act} {w:World} {K:Act→World→Prop} {Q:Exit→Act→World→Prop} (l:Operand) (hop:o.op=Op.makeSlice 40 l l) (n:Nat) (hn:n≤1000) (hl:a.eval l=.int .i64 (n:Int))
  (hK:∀ w',Post w (fun _=>False) (ji w.heap.size n (fun _=>0)) w'→K (a.put o.dst (.slice (some ⟨w.heap.size,0,none⟩) n n)) w'):o.wp Tryz.prog a w K Q :=
 Iy kX (by decide) l hop n hn hl rfl fun w' h=>hK w' (by unfold ji;rw [←show List.replicate n (Value.int .i64 0)=fv n (fun _=>.int .i64 0) from yE n _];exact h)
theorem vL {ops:Array Oper} {rest:List Oper} {o:Oper} {a:Act} {w:World} {Q:Exit→Act→World→Prop} (hg:o.guard=none) (l:Operand) (hop:o.op=Op.makeSlice 75 l l) (n:Nat) (hn:n≤1000) (hl:a.eval l=.int .i64 (n:Int))
  (hK:∀ w',Post w (fun _=>False) (aS 40 1 (.slice (some ⟨w.heap.size,0,none⟩) n n) n (fv n fun _=>.slice none 0 0)) w'→wpList Tryz.prog ops Q rest (a.put o.dst (.slice (some ⟨w.heap.size,0,none⟩) n n)) w'):wpList Tryz.prog ops Q (o :: rest) a w :=
 DZ hg Gp (by decide) l hop n hn hl rfl fun w' h=>hK w' (by rw [←yE n _];exact h)
section
variable {w:World} {A B G:Option Addr} {c:Nat→Nat→Int} {d e:Nat→Int} {n m:Nat}
theorem Nq (hq:BF w A B G c d e n m) (ca cb cg:Nat):Calls Tryz.prog 58 #[.slice A n ca,.slice B n cb,.slice G m cg] w (Iu w c d e n m):=by
 have HQ:=hide hq;have hn7:=hq.n7;have hm6:=hq.m6;clear hq;have HRET:=hide (show ∀ (pg gg:Nat) (rb:Nat→Nat) (f:Nat→Nat→Int) w',Run (fun _=>False) w (star (fC pg gg rb f 0 n m) emp) w'→(∀ r y,r≤n→y≤m→f r y=GR c d e n m (n - r) (m - y))→Iu w c d e n m (.returned (.slice (some ⟨gg,0,none⟩) (n+1) (n+1))) w' from fun pg gg rb f w' h1 h2=>⟨pg,gg,rb,f,rfl,h1,h2⟩)
 go_enter Tryz.func58,Tryz.ntmps58
 go_wp2_with (refine vL rfl (.tmp 13) rfl (n+1) (by omega) (by simp [Act.eval]) ?_;refine held ?_);refine Held.mk fun w1 hP1=>?_;have R1:=((Run.begin w).fresh aB hP1);have R2:=R1.fresh (aj bA aB) (dJ w1 #[.slice (some ⟨w.heap.size,0,none⟩) (n+1) (n+1)] 75)
 have R3:Hid (Run (fun _=>False) w (star (fC w1.heap.size w.heap.size (fun _=>0) (fun _ _=>0) (n+1) n m) emp) _):=hide (by
  have e1:fC w1.heap.size w.heap.size (fun _=>0) (fun _ _=>0) (n+1) n m=star (au w1.heap.size #[.slice (some ⟨w.heap.size,0,none⟩) (n+1) (n+1)] 75) (star (aS 40 1 (.slice (some ⟨w.heap.size,0,none⟩) (n+1) (n+1)) (n+1) (fv (n+1) fun _=>.slice none 0 0)) emp):=by
   unfold fC;rw [Nat.sub_self];rw [oN (g:=fun _=>Value.slice none 0 0) (fun r hr=>by rw [if_neg (by omega)])];rfl
  rw [e1]
  exact R2.one)
 clear hP1 R1 R2;go_wp2_with fail;generalize w1.heap.size=pg at *
 generalize w.heap.size=gg at *
 go_wp2
 go_loopg [8] (n+1) (fun g s8 wr=>∃ (x0:Int) (rb:Nat→Nat) (f:Nat→Nat→Int),s8=.int .i64 x0∧x0=(g:Int) - 1∧g≤n+1∧Run (fun _=>False) w (star (fC pg gg rb f g n m) emp) wr∧∀ r y,g≤r→r≤n→y≤m→f r y=GR c d e n m (n - r) (m - y))
 case atStart=>exact ⟨(n:Int),_,_,rfl,by omega,Nat.le_refl _,R3.out,fun r y h1 h2=>by omega⟩
 case round =>
  obtain ⟨x0,rb,f,rfl,hx0,hg,hR,hf⟩:=hrel;have HR:=hide hR;have HF:=hide hf;clear hf R3;cases gk with
  | zero =>
   have tx:¬ 0≤x0:=by omega
   have c0:=tF hR;have HFF:=hide (fun r y h1 h2=>HF.out r y (Nat.zero_le _) h1 h2);clear hx0 hR;go_wp2;go_ret;exact HRET.out _ _ _ _ _ HR.out HFF.out
  | succ i =>
   obtain rfl:x0=(i:Int):=by omega
   have hi:i≤n:=by omega
   have hR2:=hR.drew (aj gJ aB);have HR2:=hide hR2;have c0:=tF hR2;have hin:(i:Int) < (n:Int)+1:=by omega
   have tm:IntKind.i64.wrap ((m:Int)+1)=(m:Int)+1:=IntWalk.i64_in _ (by omega);clear hx0 hR hR2 HR;go_wp2_with fail;refine fJ (fun w'=>w'.cell? ⟨pg,0,none⟩=some (.slice (some ⟨gg,0,none⟩) (n+1) (n+1))) (by kernel_rfl) (by kernel_rfl) (by kernel_rfl) c0 ?_
   (repeat ((first | refine jU (by rfl) ?_ | (refine jV (v:=?_) (by rfl) ?_ ?_;rotate_left;(focus (intro w' hS';go_simp;(try with_reducible rfl);done))));try simp only [Act.put,List.setIfInBounds_toArray,List.set_cons_zero,List.set_cons_succ]))
   refine JW rfl (by rfl) (fun KK hK=>?_);obtain ⟨ri,hri⟩:∃ ri,ri=wr.drew.heap.size:=⟨_,rfl⟩;refine Ql (.tmp 25) rfl (m+1) (by omega) (by simp [Act.eval,tm]) ?_;intro w2 hP2;rw [←hri] at hP2 ⊢;clear hri;have R4:=HR2.out.fresh (aj gJ aB) hP2;have c1:=tF R4.drop;have R5:=Np aB hi R4;have HR5:=hide R5;have hrow0:w2.cell? ⟨gg,i,none⟩=some (.slice none 0 0)∧w2.frozen? ⟨gg,i,none⟩=false:=by
    have h9:=R4.drop;unfold fC at h9;obtain ⟨F,hC⟩:=h9.assoc.mh.assoc.fst;refine ⟨?_,mG hC i (by omega)⟩;have:=kY hC (ng (fun r=>if i+1≤r then Value.slice (some ⟨rb r,0,none⟩) (m+1) (m+1) else .slice none 0 0) (show i < n+1 by omega))
    rwa [if_neg (by omega)] at this
   obtain ⟨z0,z1⟩:=hrow0;refine hK.out _ _ c1 ?_;clear hK hP2 R4 R5 c0 c1 HR2
   (repeat ((first | refine jU (by rfl) ?_ | (refine jV (v:=?_) (by rfl) ?_ ?_;rotate_left;(focus (intro w' hS';go_simp;(try with_reducible rfl);done))));try simp only [Act.put,List.setIfInBounds_toArray,List.set_cons_zero,List.set_cons_succ]))
   refine kV rfl (by rfl) (fun KK hK=>?_);go_wp2_with fail;refine hK.out _ _ ?_;clear hK z0 z1 tm;have HF2:=hide (show ∀ r y,i < r→r≤n→y≤m→(if r=i then 0 else f r y)=GR c d e n m (n - r) (m - y) from fun r y h1 h2 h3=>by rw [if_neg (by omega)];exact HF.out r y (by omega) h2 h3);clear HF;go_wp2
   go_loopg [9] (m+1) (fun g2 s9 wr=>∃ (x0:Int) (f:Nat→Nat→Int),s9=.int .i64 x0∧x0=(g2:Int) - 1∧g2≤m+1∧Run (fun _=>False) w (star (fC pg gg (fun a=>if a=i then ri else rb a) f i n m) emp) wr∧(∀ r y,i < r→r≤n→y≤m→f r y=GR c d e n m (n - r) (m - y))∧(∀ y,g2≤y→y≤m→f i y=GR c d e n m (n - i) (m - y))∧∀ y,y < g2→f i y=0)
   case atStart=>exact ⟨(m:Int),_,rfl,by omega,Nat.le_refl _,HR5.out,HF2.out,fun y h1 h2=>by omega,fun y _=>by simp⟩
   case round =>
    obtain ⟨x0,f2,rfl,hx0,hg2,hR,hf1,hf2,hf3⟩:=hrel;have HF1:=hide hf1;have HF3:=hide hf2;have HF4:=hide hf3;clear hf1 hf2 hf3 HR5 HF2;cases gk with
    | zero =>
     have tx:¬ 0≤x0:=by omega
     have HRZ:=hide hR
     have HFZ:=hide (show ∀ r y,i≤r→r≤n→y≤m→f2 r y=GR c d e n m (n - r) (m - y) from fun r y h1 h2 h3=>by
      by_cases e:r=i
      ·subst e;exact HF3.out y (Nat.zero_le _) h3
      ·exact HF1.out r y (by omega) h2 h3)
     clear hx0 hR;go_wp2
     go_roundg i
     case measure=>omega
     case rel=>exact ⟨(i:Int) - 1,_,f2,by go_num,rfl,by omega,HRZ.out,HFZ.out⟩
    | succ j =>
     obtain rfl:x0=(j:Int):=by omega
     have hj:j≤m:=by omega
     have R6:Run (fun _=>False) w (Ko pg gg wr.heap.size (fun a=>if a=i then ri else rb a) f2 i n m (-1) emp) (wr.alloc (.cells #[.int .i64 (-1)] 3)):=by
      unfold Ko;exact (hR.fresh (aj gJ aB) (dJ wr #[.int .i64 (-1)] 3)).mh
     have HFB:=hide (show ∀ r y,i≤r→r≤n→y≤m→0≤f2 r y∧f2 r y≤10000000 from fun r y h1 h2 h3=>by
      by_cases e:r=i
      ·subst e;by_cases h4:y < j+1
       ·rw [HF4.out y h4];omega
       ·rw [HF3.out y (by omega) h3];have:=oM HQ.out (a:=n - r) (b:=m - y) (by omega) (by omega);omega
      ·rw [HF1.out r y (by omega) h2 h3];have:=oM HQ.out (a:=n - r) (b:=m - y) (by omega) (by omega);omega)
     have KN:=hide (Qk HQ.out aB R6 hi hj HFB.out ca cb cg);have HVAL:=hide (SS HQ.out (f:=f2) (i:=i) (j:=j) hi hj (fun h=>HF1.out (i+1) j (by omega) (by omega) hj) (fun h=>HF3.out (j+1) (by omega) (by omega)) (fun h1 h2=>HF1.out (i+1) (j+1) (by omega) (by omega) (by omega)));generalize EK c f2 n m i j (Bz e f2 m i j (Ah d f2 n i j (-1)))=val at *
     clear hx0 hR R6;go_wp2_with fail;refine KN.out.mono ?_;rintro e9 w4 ⟨rfl,hR4⟩;have hR5:=hR4.drew (Ue aB);obtain ⟨c3,-⟩:=Ir hR5;unfold Ko at hR5;have c1:=tF hR5;have c2:=tH hR5 (Nat.le_refl i) hi;have c4:=tJ hR5 (Nat.le_refl i) hi hj;have f4:=Km hR5 (Nat.le_refl i) hi j;simp only [if_true] at c2 c4 f4;have hR6:=hR5.mh.drop;have hin:(i:Int) < (n:Int)+1:=by omega
     have hjm:(j:Int) < (m:Int)+1:=by omega
     generalize wr.heap.size=pb at *
     by_cases hv:val < 0
     ·rw [if_pos hv] at HVAL;have HR7:=hide (DW aB hR6 (Nat.le_refl i) hi hj 0 (f':=fun a b=>if a=i∧b=j then 0 else f2 a b) (fun _ _=>rfl));simp only [if_true] at HR7;have HG1:=hide (show ∀ r y,i < r→r≤n→y≤m→(if r=i∧y=j then 0 else f2 r y)=GR c d e n m (n - r) (m - y) from fun r y h1 h2 h3=>by rw [if_neg (by omega)];exact HF1.out r y h1 h2 h3)
      have HG2:=hide (show ∀ y,j≤y→y≤m→(if i=i∧y=j then 0 else f2 i y)=GR c d e n m (n - i) (m - y) from fun y h1 h2=>by
       by_cases e:y=j
       ·subst e;rw [if_pos ⟨rfl,rfl⟩];exact HVAL.out
       ·rw [if_neg (by omega)];exact HF3.out y (by omega) h2)
      have HG3:=hide (show ∀ y,y < j→(if i=i∧y=j then 0 else f2 i y)=0 from fun y h1=>by rw [if_neg (by omega)];exact HF4.out y (by omega));clear hR4 hR5 hR6 HVAL HF1 HF3 HF4 HFB KN;go_wp2_with fail;refine fJ (fun w'=>w'=w4.drew) (by kernel_rfl) (by kernel_rfl) (by kernel_rfl) rfl ?_;generalize w4.drew=wd at *
      (repeat ((first | refine jU (by rfl) ?_ | (refine jV (v:=?_) (by rfl) ?_ ?_;rotate_left;(focus (intro w' hS';go_simp;(try with_reducible rfl);done))));try simp only [Act.put,List.setIfInBounds_toArray,List.set_cons_zero,List.set_cons_succ]))
      refine kV rfl (by rfl) (fun KK hK=>?_);go_wp2_with fail;refine hK.out _ _ ?_;clear hK c1 c2 c3 c4 f4;go_wp2
      go_roundg j
      case measure=>omega
      case rel=>exact ⟨(j:Int) - 1,_,by go_num,rfl,by omega,by first | exact HR7.out | (rw [show max val 0=0 by omega];exact HR7.out),HG1.out,fun y h1 h2=>by have:=HG2.out y h1 h2;simpa using this,fun y h1=>by have:=HG3.out y h1;simpa using this⟩
     ·rw [if_neg hv] at HVAL;have HR7:=hide (DW aB hR6 (Nat.le_refl i) hi hj val (f':=fun a b=>if a=i∧b=j then val else f2 a b) (fun _ _=>rfl));simp only [if_true] at HR7;have HG1:=hide (show ∀ r y,i < r→r≤n→y≤m→(if r=i∧y=j then val else f2 r y)=GR c d e n m (n - r) (m - y) from fun r y h1 h2 h3=>by rw [if_neg (by omega)];exact HF1.out r y h1 h2 h3)
      have HG2:=hide (show ∀ y,j≤y→y≤m→(if i=i∧y=j then val else f2 i y)=GR c d e n m (n - i) (m - y) from fun y h1 h2=>by
       by_cases e:y=j
       ·subst e;rw [if_pos ⟨rfl,rfl⟩];exact HVAL.out
       ·rw [if_neg (by omega)];exact HF3.out y (by omega) h2)
      have HG3:=hide (show ∀ y,y < j→(if i=i∧y=j then val else f2 i y)=0 from fun y h1=>by rw [if_neg (by omega)];exact HF4.out y (by omega));clear hR4 hR5 hR6 HVAL HF1 HF3 HF4 HFB KN;go_wp2_with fail;refine fJ (fun w'=>w'=w4.drew) (by kernel_rfl) (by kernel_rfl) (by kernel_rfl) rfl ?_;generalize w4.drew=wd at *
      (repeat ((first | refine jU (by rfl) ?_ | (refine jV (v:=?_) (by rfl) ?_ ?_;rotate_left;(focus (intro w' hS';go_simp;(try with_reducible rfl);done))));try simp only [Act.put,List.setIfInBounds_toArray,List.set_cons_zero,List.set_cons_succ]))
      refine kV rfl (by rfl) (fun KK hK=>?_);go_wp2_with fail;refine hK.out _ _ ?_;clear hK c1 c2 c3 c4 f4;go_wp2
      go_roundg j
      case measure=>omega
      case rel=>exact ⟨(j:Int) - 1,_,by go_num,rfl,by omega,by first | exact HR7.out | (rw [show max val 0=val by omega];exact HR7.out),HG1.out,fun y h1 h2=>by have:=HG2.out y h1 h2;simpa using this,fun y h1=>by have:=HG3.out y h1;simpa using this⟩
end
end Go.Proofs.YtbnnlpjpnihheaaGreatDoor.Asn
namespace Go.CH.aY
section
variable {c:Nat→Nat→Int} {d e:Nat→Int} {n m:Nat}

def Gl (c:Nat→Nat→Int) (d e:Nat→Int) (n m a b t:Nat):Bool:=decide (sg t (fun x=>e (m - b+x))+c (n - (a+1)) (m - b+t)+GR c d e n m a (b - (t+1))=GR c d e n m (a+1) b)
theorem Qm {a b t:Nat} (ht:t < b) (hp:Gl c d e n m a b t=true) (hb:∀ u,u < t→Gl c d e n m a b u=false):rM c d e n m (a+1) b=((m - b+t:Nat):Int) :: rM c d e n m a (b - (t+1)):=by
 rw [rM];have:=Cg (p:=fun t=>decide (sg t (fun x=>e (m - b+x))+c (n - (a+1)) (m - b+t)+GR c d e n m a (b - (t+1))=GR c d e n m (a+1) b)) ht hp hb;rw [this]
theorem Nr {a b:Nat} (hb:∀ u,u < b→Gl c d e n m a b u=false):rM c d e n m (a+1) b=(m:Int) :: rM c d e n m a b:=by
 rw [rM];have:=zH (m:=b) (p:=fun t=>decide (sg t (fun x=>e (m - b+x))+c (n - (a+1)) (m - b+t)+GR c d e n m a (b - (t+1))=GR c d e n m (a+1) b)) hb;rw [this]
end
end Go.CH.aY
namespace Go.Proofs.YtbnnlpjpnihheaaGreatDoor.Asn
open Go.RowKit Go.CH Go.CH.aY
open Go.ChangeMaps (setBlock)

def Uf (w:World) (v:Value) (l:List Int):Prop:=∃ A c,v=.slice A l.length c∧Vec w A l
def qF (C:List (List Int)) (D E:List Int):List Int:=if vV C D E then rM (cF C) (lF D) (lF E) D.length E.length D.length E.length else []
def lS (C:List (List Int)) (D E:List Int):Int:=if vV C D E then GR (cF C) (lF D) (lF E) D.length E.length D.length E.length else 0
def Qn (C:List (List Int)) (D E:List Int):Int:=if vV C D E then 0 else 1
def Gm (w:World) (C:List (List Int)) (D E:List Int) (e:Ending) (w':World):Prop :=
 ∃ v,e=.returned (.tuple #[v,.int .i64 (lS C D E),.int .i64 (Qn C D E)])∧Below w.heap.size w w'∧Uf w' v (qF C D E)
theorem Ai {w0 W:World} {Y:CH.Own} {A:Option Addr} {c:Nat} {l:List Int} {x:Int} (h:Run (fun _=>False) w0 (star (aS 3 1 (.slice A (l.length+1) c) (l.length+1) (ints l ++ [.int .i64 x])) Y) W):Run (fun _=>False) w0 (star (bD A c (l ++ [x])) Y) W:=by
 rw [sV] at h;exact h
theorem Aj {c:Nat→Nat→Int} {d e:Nat→Int} {n m a b b':Nat} {x:Int} {ps L:List Int} (h:L=ps ++ rM c d e n m (a+1) b) (hg:rM c d e n m (a+1) b=x :: rM c d e n m a b'):L=(ps ++ [x]) ++ rM c d e n m a b':=by
 rw [h,hg];simp
end Go.Proofs.YtbnnlpjpnihheaaGreatDoor.Asn
