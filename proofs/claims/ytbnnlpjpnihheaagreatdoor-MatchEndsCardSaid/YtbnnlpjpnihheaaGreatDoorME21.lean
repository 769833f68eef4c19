/- A part of the proof: lemmas. -/
import Derived.Test.YtbnnlpjpnihheaaGreatDoorME20
import Derived.Test.YtbnnlpjpnihheaaGreatDoorME3
set_option maxHeartbeats 16000000
set_option maxRecDepth 100000
set_option linter.unusedSimpArgs false
set_option linter.unusedVariables false
namespace Go.Proofs.YtbnnlpjpnihheaaGreatDoor
open Go.RowKit Go.CH Go.CH.Scr Go.CH.dK Go.CH.Mtc
open Go.ChangeMaps (setBlock)

theorem EB {m:Nat}:∀ l:List Bs,(∀ z ∈ l,z.length≤m)→l.flatten.length≤l.length*m
 | [],_=>by simp
 | a :: l,h=>by
  have h1:=EB l fun z hz=>h z (List.mem_cons_of_mem _ hz);have h2:=h a List.mem_cons_self;rw [List.flatten_cons,List.length_append,List.length_cons,Nat.add_mul];omega
theorem wH {T:Tab} {k:Int} {x:Bs} (hw:word k x=true) (hx:x.length≤30) {v:Vr} (h:v ∈ bV T k x):v.w.length≤1000000:=by
 have h0:=(dI hw).2;have key:∀ n,((aW k x).take n).flatten.length≤1000000:=fun n=>by
  have h1:=EB (m:=30) ((aW k x).take n) fun z hz=>Nat.le_trans (vo z (List.mem_of_mem_take hz)) hx;rw [List.length_take] at h1;have h2:min n (aW k x).length*30≤12*30:=Nat.mul_le_mul_right _ (by omega);omega
 unfold bV at h;rcases List.mem_cons.1 h with rfl | h
 ·have:=key (aW k x).length;rw [List.take_length] at this;exact this
 ·obtain ⟨p,-,he⟩:=List.mem_filterMap.1 h;unfold iC at he;split at he
  ·injection he with he
   rw [←he];exact key _
  ·cases he
theorem AA {w:World} {T:Tab} {k:Int} {x:Bs} {e:Ending} {w':World} (h:nC w T k x e w') :
  ∃ A c,e=.returned (.tuple #[.slice A (je T k x).1.length c,.int .i64 (je T k x).2])∧BP w' A (je T k x).1∧Below w.heap.size w w':=by
 obtain ⟨A,c,h1,F,h4,h5,-⟩:=h;exact ⟨A,c,h1,Od h4,h5.below (fun _ _ h=>h)⟩
theorem K5 {w:World} {T:Tab} {k:Int} {x:Bs} {e:Ending} {w':World} (h:nC w T k x e w') (hw:(word k x && aX T)=false) :
  ∃ A c,e=.returned (.tuple #[.slice A 0 c,.int .i64 1])∧Below w.heap.size w w':=by
 obtain ⟨A,c,h1,-,h2⟩:=AA h;have h3:je T k x=([],1):=by unfold je;rw [hw];rfl
 rw [h3] at h1;exact ⟨A,c,h1,h2⟩
theorem K6 {w:World} {T:Tab} {k:Int} {x:Bs} {e:Ending} {w':World} (h:nC w T k x e w') (hw:(word k x && aX T)=true) :
  ∃ b o c,e=.returned (.tuple #[.slice (some ⟨b,o,none⟩) (bV T k x).length c,.int .i64 0])∧BP w' (some ⟨b,o,none⟩) (bV T k x)∧Below w.heap.size w w':=by
 obtain ⟨A,c,h1,h4,h2⟩:=AA h;have h3:je T k x=(bV T k x,0):=by unfold je;rw [hw];rfl
 rw [h3] at h1 h4;obtain ⟨b,o,rfl,-⟩:=BP.at h4 (by unfold bV;simp);exact ⟨b,o,c,h1,h4,h2⟩
theorem GL {w:World} {T:Tab} {k:Int} {x:Bs} {k2:Int} {y:Bs} {e:Ending} {w':World} (h:wI w T k x k2 y e w') :
  ∃ p er A ac B bc,e=.returned (.tuple #[.agg (lX p A ac B bc),.int .i64 er])∧jv T k x k2 y p er∧Below w.heap.size w w':=by
 obtain ⟨p,er,A,ac,B,bc,h1,h2,F,h4,h5,-⟩:=h;exact ⟨p,er,A,ac,B,bc,h1,h2,h5.below (fun _ _ h=>h)⟩

theorem BQ {w:World} {T:Tab} {a:TA} (hT:yZ w T a) (hz:LZ w) (k:Int) (s:Bs) :
  Calls Tryz.prog 9 #[eZ T a,.int .i64 k,.string (bs s)] w (aP w (.bool true)):=by
 have h1:=aG (Run.begin w) aB #[.slice a.A T.rs.length a.c,.slice a.D T.ds.length a.d,.slice a.E T.es.length a.e,.int .i64 T.drop,.int .i64 T.ord,.int .i64 T.ini] 25;have HB0:=hide h1.bI;obtain ⟨b0_0,b0_1,b0_2,b0_3,b0_4,b0_5⟩:=bW h1;have HC:=hide (fun W (h:Below (w.alloc (.cells #[.slice a.A T.rs.length a.c,.slice a.D T.ds.length a.d,.slice a.E T.es.length a.e,.int .i64 T.drop,.int .i64 T.ord,.int .i64 T.ini] 25)).heap.size (w.alloc (.cells #[.slice a.A T.rs.length a.c,.slice a.D T.ds.length a.d,.slice a.E T.es.length a.e,.int .i64 T.drop,.int .i64 T.ord,.int .i64 T.ini] 25)) W)=>(show W.cell? ⟨w.heap.size,0,none⟩=some (.slice a.A T.rs.length a.c)∧W.cell? ⟨w.heap.size,1,none⟩=some (.slice a.D T.ds.length a.d)∧W.cell? ⟨w.heap.size,2,none⟩=some (.slice a.E T.es.length a.e)∧W.cell? ⟨w.heap.size,3,none⟩=some (.int .i64 T.drop)∧W.cell? ⟨w.heap.size,4,none⟩=some (.int .i64 T.ord)∧W.cell? ⟨w.heap.size,5,none⟩=some (.int .i64 T.ini) from ⟨aF b0_0 h,aF b0_1 h,aF b0_2 h,aF b0_3 h,aF b0_4 h,aF b0_5 h⟩));have HTZ:=hide hT;have HZ:=hide hz;clear hT hz   h1 b0_0 b0_1 b0_2 b0_3 b0_4 b0_5;have KF:=hide (fun W (hb:Below w.heap.size w W) (B:Option Addr) (c:Nat) (mz:EC) (hl:GN W B [mz])=>QW (c:=c) (HTZ.out.below hb) hl (by simp));have KVf:=hide (fun (hwv:(word k s && aX T)=false) (mz:EC) (hf:zq T [mz]=true) W (hb:Below w.heap.size w W) (hs:s.length≤1000000)=>(nD ((BR hf).1 (HTZ.out.below hb)) (HZ.out.below hb) k s hs).mono fun e w' h=>K5 h hwv);have KVt:=hide (fun (hwv:(word k s && aX T)=true) (mz:EC) (hf:zq T [mz]=true) W (hb:Below w.heap.size w W) (hs:s.length≤1000000)=>(nD ((BR hf).1 (HTZ.out.below hb)) (HZ.out.below hb) k s hs).mono fun e w' h=>K6 h hwv);have KW:=hide (fun (mz:EC) (hf:zq T [mz]=true) W (hb:Below w.heap.size w W) (x y:Bs) (hx:x.length≤1000000) (hy:y.length≤1000000)=>(yY ((BR hf).1 (HTZ.out.below hb)) (HZ.out.below hb) k x k y hx hy).mono fun e w' h=>GL h);have KO:=hide (fun W (hb:Below w.heap.size w W) (hs:s.length≤1000000)=>BJ k s W hs (HZ.out.below hb));have KL:=hide (fun W (hb:Below w.heap.size w W) (x:Bs) (hx:x.length≤1000000)=>uG k (bs x) W (by rw [bX];exact hx) (HZ.out.below hb));have KH:=hide (fun W (hb:Below w.heap.size w W)=>Oz W (HZ.out.below hb));unfold eZ at *
 unfold dA at *
 generalize T.rs.length=n1 at *
 generalize T.ds.length=n2 at *
 generalize T.es.length=n3 at *
 go_enter Tryz.func9,Tryz.ntmps9
 go_upto_region 1 with (fail);generalize w.alloc (.cells #[.slice a.A n1 a.c,.slice a.D n2 a.d,.slice a.E n3 a.e,.int .i64 T.drop,.int .i64 T.ord,.int .i64 T.ini] 25)=w0 at *
 generalize hgt:w.heap.size=gt at HC ⊢;clear hgt;have HBW:=hide (fun W (h:Below w0.heap.size w0 W)=>HB0.out.trans (h.mono HB0.out.size));have HD0:=hide (Below.refl w0.heap.size w0);have K:=hide (KH.out w0 (HBW.out _ HD0.out));go_wp2_with fail;refine K.out.mono ?_;rintro e9 w1 ⟨rfl,hb⟩;have HD1:=hide (aC HD0.out hb);clear K HD0 hb
 try dsimp only
 go_upto_region 2 with (fail);obtain ⟨b0_0,b0_1,b0_2,b0_3,b0_4,b0_5⟩:=HC.out w1 HD1.out;have hv:=(CK w1 (.string (bs s)) 9 rfl:Src (w1.alloc (.cells #[.string (bs s)] 9)) (some ⟨w1.heap.size,0,none⟩) 1 1 [.string (bs s)]);obtain ⟨mz,hmn,hmA,hmc⟩:∃ mz:EC,mz.n=⟨0,[s]⟩∧mz.A=some ⟨w1.heap.size,0,none⟩∧mz.c=1:=⟨⟨⟨0,[s]⟩,some ⟨w1.heap.size,0,none⟩,1⟩,rfl,rfl,rfl⟩
 have hl:=K9 (W:=w1.alloc (.cells #[.string (bs s)] 9)) (cs:=#[.int .i64 0,.slice (some ⟨w1.heap.size,0,none⟩) 1 1]) [mz] (by
  show ([Value.int .i64 mz.n.k,.slice mz.A mz.n.ws.length mz.c]:List Value).toArray=_
  rw [hmn,hmA,hmc];rfl) (fun z hz=>by
  simp only [List.mem_cons,List.not_mem_nil,or_false] at hz;rcases hz with rfl;rw [hmA,hmn]
  exact hv)
 have hb1:=aC HD1.out (cZ w1 (.cells #[.string (bs s)] 9));have hb2:=aC hb1 (cZ (w1.alloc (.cells #[.string (bs s)] 9)) (.cells #[.int .i64 0,.slice (some ⟨w1.heap.size,0,none⟩) 1 1] 28));have K0:=KF.out _ (HBW.out _ hb2) _ 1 mz hl;rw [World.size_alloc] at K0;have K:=hide K0;clear K0;have HD2:=hide hb2;have HMN:=hide hmn;clear hl hv hb1 hb2 HD1 hmn hmA hmc;cases hf:zq T [mz] with
 | false =>
  rw [hf] at K;have HF:=hide hf;clear hf;go_wp2_with fail;refine K.out.mono ?_;rintro e9 w4 ⟨rfl,hb⟩;have HD4:=hide (aC HD2.out hb);clear K hb HD2;clear b0_0 b0_1 b0_2 b0_3 b0_4 b0_5
  try dsimp only
  obtain ⟨b0_0,b0_1,b0_2,b0_3,b0_4,b0_5⟩:=HC.out w4 HD4.out;have HE:=hide (HBW.out _ HD4.out);go_wp2;go_ret;exact aQ rfl HE.out
 | true =>
  rw [hf] at K;have HF:=hide hf;clear hf;go_wp2_with fail;refine K.out.mono ?_;rintro e9 w4 ⟨rfl,hb⟩;have HD4:=hide (aC HD2.out hb);clear K hb HD2;clear b0_0 b0_1 b0_2 b0_3 b0_4 b0_5
  try dsimp only
  have HSL:=hide (show s.length≤30 from ((BR HF.out).2 mz (by simp)).2 s (by rw [HMN.out];simp));have HSM:=hide (show s.length≤1000000 by have:=HSL.out;omega);cases hwv:(word k s && aX T) with
  | false =>
   have K:=hide (KVf.out hwv mz HF.out w4 (HBW.out _ HD4.out) HSM.out);obtain ⟨b0_0,b0_1,b0_2,b0_3,b0_4,b0_5⟩:=HC.out w4 HD4.out;go_wp2_with fail;refine K.out.mono ?_;rintro e9 w5 ⟨VA,vc,rfl,hb⟩;have HD5:=hide (aC HD4.out hb);clear K HD4 hb;clear b0_0 b0_1 b0_2 b0_3 b0_4 b0_5
   try dsimp only
   have K:=hide (KO.out w5 (HBW.out _ HD5.out) HSM.out);obtain ⟨b0_0,b0_1,b0_2,b0_3,b0_4,b0_5⟩:=HC.out w5 HD5.out;go_wp2_with fail;refine K.out.mono ?_;rintro e9 w6 ⟨rfl,hb⟩;have HD6:=hide (aC HD5.out hb);clear K HD5 hb;clear b0_0 b0_1 b0_2 b0_3 b0_4 b0_5
   try dsimp only
   obtain ⟨b0_0,b0_1,b0_2,b0_3,b0_4,b0_5⟩:=HC.out w6 HD6.out;have HE:=hide (HBW.out _ HD6.out);go_wp2;go_ret;exact aQ rfl HE.out
  | true =>
   have K:=hide (KVt.out hwv mz HF.out w4 (HBW.out _ HD4.out) HSM.out);obtain ⟨b0_0,b0_1,b0_2,b0_3,b0_4,b0_5⟩:=HC.out w4 HD4.out;go_wp2_with fail;refine K.out.mono ?_;rintro e9 w5 ⟨b,o,vc,rfl,hvr,hb⟩;have HD5:=hide (aC HD4.out hb);have HVR:=hide hvr;clear hvr;clear K HD4 hb;clear b0_0 b0_1 b0_2 b0_3 b0_4 b0_5
   try dsimp only
   have hw2:=hwv;rw [Bool.and_eq_true] at hw2;have HWD:=hide hw2.1;have HVT:=hide hw2.2;clear hw2 hwv;have hfo:fO k s=(lower s,0):=by unfold fO;rw [if_pos HWD.out]
   have K1:=KO.out w5 (HBW.out _ HD5.out) HSM.out;rw [hfo] at K1;dsimp only at K1;have K:=hide (K1);obtain ⟨b0_0,b0_1,b0_2,b0_3,b0_4,b0_5⟩:=HC.out w5 HD5.out;go_wp2_with fail;refine K.out.mono ?_;rintro e9 w6 ⟨rfl,hb⟩;have HD6:=hide (aC HD5.out hb);have HVR_6:=hide (aR HVR.out hb);clear HVR;clear K HD5 hb K1;clear b0_0 b0_1 b0_2 b0_3 b0_4 b0_5
   try dsimp only
   clear hfo KO KVf KVt KF;generalize hnv:(bV T k s).length=nv at *
   have HNV:=hide hnv;clear hnv;have hvl:=Ez (T:=T) (k:=k) (x:=s) (n:=T.es.length);rw [Ey (Nat.le_refl _),HNV.out] at hvl;have HNB:=hide (show nv≤41 from by have:=((o8.1 (uz.1 HF.out).1).1).2.2;omega)
   have HCV:=hide (fun V (hb:Below w6.heap.size w6 V) (j:Nat) (hj:j < (bV T k s).length)=>(show V.cell? ⟨b,o+j*3,none⟩=some (.string (bs (bV T k s)[j].w))∧V.cell? ⟨b,o+j*3+2,none⟩=some (.int .i64 (bV T k s)[j].c) from by
    have hvr2:BP w6 (some ⟨b,o,none⟩) (bV T k s):=by
     show Src _ _ (bV T k s).length 3 _
     rw [HNV.out];exact HVR_6.out
    obtain ⟨b',o',e,hc⟩:=BP.at hvr2 (by omega);injection e with e
    injection e with e1 e2
    subst e1 e2;have:=hc V hb j hj
    exact ⟨this.1,this.2.2⟩))
   have HDL:=hide (fun V (h:Below w6.heap.size w6 V)=>aC HD6.out h);clear hvl HVR_6;obtain ⟨b0_0,b0_1,b0_2,b0_3,b0_4,b0_5⟩:=HC.out w6 HD6.out;go_wp2_with fail;clear b0_0 b0_1 b0_2 b0_3 b0_4 b0_5;go_loopw [12] (fun i wr=>∃ j:Nat,j≤nv∧i=.int .i64 j∧Below w6.heap.size w6 wr) (fun i _=>nv - (intOf i).toNat)
   case atStart=>exact ⟨0,Nat.zero_le _,rfl,Below.refl _ _⟩
   case round =>
    obtain ⟨j,hj,rfl,hR⟩:=hrel;have HR:=hide hR;clear hR;by_cases hjn:j < nv
    case pos =>
     have hjn':(j:Int) < (nv:Int):=by omega
     have hn3:(nv:Int)≤41:=by have:=HNB.out;omega
     have hjx:j < (bV T k s).length:=by rw [HNV.out];exact hjn
     have HCJ:=hide (fun V (h:Below wr.heap.size wr V)=>HCV.out V (aC HR.out h) j hjx);have HVM:=hide (List.getElem_mem hjx:(bV T k s)[j] ∈ bV T k s);generalize (bV T k s)[j]=v at *
     have HVL:=hide (wH HWD.out HSL.out HVM.out);have HD99:=hide (HDL.out _ HR.out);have HEJ:=hide (Below.refl wr.heap.size wr);clear hjx;obtain ⟨b0_0,b0_1,b0_2,b0_3,b0_4,b0_5⟩:=HC.out wr HD99.out;go_upto_region 11 with (fail);clear b0_0 b0_1 b0_2 b0_3 b0_4 b0_5;go_upto_region 11 with (fail)
     have okN:=hide (fun V (O:CH.Own) (h:Run (fun _=>False) wr O V)=>(show V.cell? ⟨gt,0,none⟩=some (.slice a.A n1 a.c)∧V.cell? ⟨gt,1,none⟩=some (.slice a.D n2 a.d)∧V.cell? ⟨gt,2,none⟩=some (.slice a.E n3 a.e)∧V.cell? ⟨gt,3,none⟩=some (.int .i64 T.drop)∧V.cell? ⟨gt,4,none⟩=some (.int .i64 T.ord)∧V.cell? ⟨gt,5,none⟩=some (.int .i64 T.ini)∧V.cell? ⟨b,o+j*3,none⟩=some (.string (bs v.w)) from by
      obtain ⟨b0_0,b0_1,b0_2,b0_3,b0_4,b0_5⟩:=HC.out V (aC HD99.out h.bI)
      exact ⟨b0_0,b0_1,b0_2,b0_3,b0_4,b0_5,(HCJ.out V (aC HEJ.out h.bI)).1⟩))
     have HR0:=hide ((Run.begin wr).drew aB);have hSN:=okN.out _ _ HR0.out;refine wp_region_held (S:=fun w'=>w'.cell? ⟨gt,0,none⟩=some (.slice a.A n1 a.c)∧w'.cell? ⟨gt,1,none⟩=some (.slice a.D n2 a.d)∧w'.cell? ⟨gt,2,none⟩=some (.slice a.E n3 a.e)∧w'.cell? ⟨gt,3,none⟩=some (.int .i64 T.drop)∧w'.cell? ⟨gt,4,none⟩=some (.int .i64 T.ord)∧w'.cell? ⟨gt,5,none⟩=some (.int .i64 T.ini)∧w'.cell? ⟨b,o+j*3,none⟩=some (.string (bs v.w))) (by kernel_rfl) (show wpAnyH _ _ _ _ _ _ _ _ wr.drew from ?_);generalize wr.drew=V0 at *
     refine wpAnyH_take (i:=0) (v:=.agg #[.slice a.A n1 a.c,.slice a.D n2 a.d,.slice a.E n3 a.e,.int .i64 T.drop,.int .i64 T.ord,.int .i64 T.ini]) rfl (by kernel_rfl) (by kernel_rfl) (by kernel_rfl) (fun _ _ _ h=>h) (.inl ⟨rfl,fun w' hS'=>?_⟩) hSN ?_
     ·obtain ⟨s0,s1,s2,s3,s4,s5,s6⟩:=hS';go_simp
     try simp only [Act.put,d9,sg1,sg2,eu,eD,eG]
     refine wpAnyH_take (i:=1) (v:=.int .i64 k) rfl (by kernel_rfl) (by kernel_rfl) (by kernel_rfl) (fun _ _ _ h=>h) (.inl ⟨rfl,fun w' hS'=>?_⟩) hSN ?_
     ·obtain ⟨s0,s1,s2,s3,s4,s5,s6⟩:=hS';go_simp
     try simp only [Act.put,d9,sg1,sg2,eu,eD,eG]
     refine wpAnyH_take (i:=2) (v:=.slice (some ⟨b,o,none⟩) nv vc) rfl (by kernel_rfl) (by kernel_rfl) (by kernel_rfl) (fun _ _ _ h=>h) (.inl ⟨rfl,fun w' hS'=>?_⟩) hSN ?_
     ·obtain ⟨s0,s1,s2,s3,s4,s5,s6⟩:=hS';go_simp
     try simp only [Act.put,d9,sg1,sg2,eu,eD,eG]
     refine wpAnyH_take (i:=3) (v:=.int .i64 (j:Int)) rfl (by kernel_rfl) (by kernel_rfl) (by kernel_rfl) (fun _ _ _ h=>h) (.inl ⟨rfl,fun w' hS'=>?_⟩) hSN ?_
     ·obtain ⟨s0,s1,s2,s3,s4,s5,s6⟩:=hS';go_simp
     try simp only [Act.put,d9,sg1,sg2,eu,eD,eG]
     refine wpAnyH_take (i:=4) (v:=.pointer (some ⟨b,o+j*3,none⟩)) rfl (by kernel_rfl) (by kernel_rfl) (by kernel_rfl) (fun _ _ _ h=>h) (.inl ⟨rfl,fun w' hS'=>?_⟩) hSN ?_
     ·obtain ⟨s0,s1,s2,s3,s4,s5,s6⟩:=hS';go_simp
     try simp only [Act.put,d9,sg1,sg2,eu,eD,eG]
     refine wpAnyH_take (i:=5) (v:=.pointer (some ⟨b,o+j*3,none⟩)) rfl (by kernel_rfl) (by kernel_rfl) (by kernel_rfl) (fun _ _ _ h=>h) (.inl ⟨rfl,fun w' hS'=>?_⟩) hSN ?_
     ·obtain ⟨s0,s1,s2,s3,s4,s5,s6⟩:=hS';go_simp
     try simp only [Act.put,d9,sg1,sg2,eu,eD,eG]
     refine wpAnyH_take (i:=6) (v:=.string (bs v.w)) rfl (by kernel_rfl) (by kernel_rfl) (by kernel_rfl) (fun _ _ _ h=>h) (.inl ⟨rfl,fun w' hS'=>?_⟩) hSN ?_
     ·obtain ⟨s0,s1,s2,s3,s4,s5,s6⟩:=hS';go_simp
     try simp only [Act.put,d9,sg1,sg2,eu,eD,eG]
     refine wpAnyH_take (i:=7) (v:=.int .i64 k) rfl (by kernel_rfl) (by kernel_rfl) (by kernel_rfl) (fun _ _ _ h=>h) (.inl ⟨rfl,fun w' hS'=>?_⟩) hSN ?_
     ·obtain ⟨s0,s1,s2,s3,s4,s5,s6⟩:=hS';go_simp
     try simp only [Act.put,d9,sg1,sg2,eu,eD,eG]
     refine wpAnyH_take (i:=8) (v:=.slice (some ⟨b,o,none⟩) nv vc) rfl (by kernel_rfl) (by kernel_rfl) (by kernel_rfl) (fun _ _ _ h=>h) (.inl ⟨rfl,fun w' hS'=>?_⟩) hSN ?_
     ·obtain ⟨s0,s1,s2,s3,s4,s5,s6⟩:=hS';go_simp
     try simp only [Act.put,d9,sg1,sg2,eu,eD,eG]
     refine wpAnyH_take (i:=9) (v:=.int .i64 (j:Int)) rfl (by kernel_rfl) (by kernel_rfl) (by kernel_rfl) (fun _ _ _ h=>h) (.inl ⟨rfl,fun w' hS'=>?_⟩) hSN ?_
     ·obtain ⟨s0,s1,s2,s3,s4,s5,s6⟩:=hS';go_simp
     try simp only [Act.put,d9,sg1,sg2,eu,eD,eG]
     refine wpAnyH_take (i:=10) (v:=.pointer (some ⟨b,o+j*3,none⟩)) rfl (by kernel_rfl) (by kernel_rfl) (by kernel_rfl) (fun _ _ _ h=>h) (.inl ⟨rfl,fun w' hS'=>?_⟩) hSN ?_
     ·obtain ⟨s0,s1,s2,s3,s4,s5,s6⟩:=hS';go_simp
     try simp only [Act.put,d9,sg1,sg2,eu,eD,eG]
     refine wpAnyH_take (i:=11) (v:=.pointer (some ⟨b,o+j*3,none⟩)) rfl (by kernel_rfl) (by kernel_rfl) (by kernel_rfl) (fun _ _ _ h=>h) (.inl ⟨rfl,fun w' hS'=>?_⟩) hSN ?_
     ·obtain ⟨s0,s1,s2,s3,s4,s5,s6⟩:=hS';go_simp
     try simp only [Act.put,d9,sg1,sg2,eu,eD,eG]
     refine wpAnyH_take (i:=12) (v:=.string (bs v.w)) rfl (by kernel_rfl) (by kernel_rfl) (by kernel_rfl) (fun _ _ _ h=>h) (.inl ⟨rfl,fun w' hS'=>?_⟩) hSN ?_
     ·obtain ⟨s0,s1,s2,s3,s4,s5,s6⟩:=hS';go_simp
     try simp only [Act.put,d9,sg1,sg2,eu,eD,eG]
     clear hSN;refine wJ (fuel2:=2) (ls2:=#[true,true,true,true,true,true,true,true,true,true,true,true,true,true,true,true,true,true,false,false]) (fun a0 W' a'=>∃ (p:Pr) (pe:Int) (pA:Option Addr) (pac:Nat) (pB:Option Addr) (pbc:Nat) (g:Nat),a'=(((((a0.put (some 72) (.tuple #[.agg #[.int .i64 p.i,.int .i64 p.j,.int .i64 p.kd,.int .i64 p.l,.int .i64 p.r,.int .i64 p.c,.int .i64 p.d.c,.slice pA p.d.L.length pac,.slice pB p.d.M.length pbc,.string (bs p.d.F)],.int .i64 pe])).put (some 58) (.tuple #[.agg #[.int .i64 p.i,.int .i64 p.j,.int .i64 p.kd,.int .i64 p.l,.int .i64 p.r,.int .i64 p.c,.int .i64 p.d.c,.slice pA p.d.L.length pac,.slice pB p.d.M.length pbc,.string (bs p.d.F)],.int .i64 pe])).put (some 73) (.agg #[.int .i64 p.i,.int .i64 p.j,.int .i64 p.kd,.int .i64 p.l,.int .i64 p.r,.int .i64 p.c,.int .i64 p.d.c,.slice pA p.d.L.length pac,.slice pB p.d.M.length pbc,.string (bs p.d.F)])).put (some 74) (.int .i64 pe)).put (some 13) (.pointer (some ⟨g,0,none⟩)))∧Hid (jv T k v.w k v.w p pe∧Run (fun _=>False) wr (star (au g #[.int .i64 0,.int .i64 0,.int .i64 0,.int .i64 0,.int .i64 0,.int .i64 0,.int .i64 0,.slice none 0 0,.slice none 0 0,.string ⟨#[]⟩] 44) emp) W')) ?_ (fun TAIL=>?_);rotate_left;refine wpAnyH_all (rs:=[13,17]) (by kernel_rfl) (by decide) (fun i hi=>?_);simp only [List.mem_cons,List.not_mem_nil,or_false] at hi;rcases hi with rfl | rfl
     ·refine aO rfl rfl ?_;go_wp2_with fail;refine (KW.out mz HF.out V0 (HBW.out _ (aC HD99.out HR0.out.bI)) v.w v.w HVL.out HVL.out).mono ?_;rintro e9 V2 ⟨p,pe,pA,pac,pB,pbc,rfl,hwp,hb⟩;unfold lX;have HR2:=hide (HR0.out.below aB hb);have HWP:=hide hwp;clear hwp hb
      try simp only [Act.put,d9,sg1,sg2,eu,eD,eG]
      refine ⟨okN.out _ _ HR2.out,?_⟩;have hSN:=okN.out _ _ HR2.out;refine wpAnyH_take (i:=14) (v:=.tuple #[.agg #[.int .i64 p.i,.int .i64 p.j,.int .i64 p.kd,.int .i64 p.l,.int .i64 p.r,.int .i64 p.c,.int .i64 p.d.c,.slice pA p.d.L.length pac,.slice pB p.d.M.length pbc,.string (bs p.d.F)],.int .i64 pe]) rfl (by kernel_rfl) (by kernel_rfl) (by kernel_rfl) (fun _ _ _ h=>h) (.inl ⟨rfl,fun w' hS'=>by go_simp⟩) hSN ?_
      try simp only [Act.put,d9,sg1,sg2,eu,eD,eG]
      refine wpAnyH_take (i:=15) (v:=.agg #[.int .i64 p.i,.int .i64 p.j,.int .i64 p.kd,.int .i64 p.l,.int .i64 p.r,.int .i64 p.c,.int .i64 p.d.c,.slice pA p.d.L.length pac,.slice pB p.d.M.length pbc,.string (bs p.d.F)]) rfl (by kernel_rfl) (by kernel_rfl) (by kernel_rfl) (fun _ _ _ h=>h) (.inl ⟨rfl,fun w' hS'=>by go_simp⟩) hSN ?_
      try simp only [Act.put,d9,sg1,sg2,eu,eD,eG]
      refine wpAnyH_take (i:=16) (v:=.int .i64 pe) rfl (by kernel_rfl) (by kernel_rfl) (by kernel_rfl) (fun _ _ _ h=>h) (.inl ⟨rfl,fun w' hS'=>by go_simp⟩) hSN ?_
      try simp only [Act.put,d9,sg1,sg2,eu,eD,eG]
      clear hSN;refine wpAnyH_all (rs:=[17]) (by kernel_rfl) (by decide) (fun i hi=>?_);simp only [List.mem_cons,List.not_mem_nil,or_false] at hi;subst hi;refine aO rfl rfl ?_;go_wp2_with fail;have HR3:=hide (aG HR2.out aB #[.int .i64 0,.int .i64 0,.int .i64 0,.int .i64 0,.int .i64 0,.int .i64 0,.int .i64 0,.slice none 0 0,.slice none 0 0,.string ⟨#[]⟩] 44)
      try simp only [Act.put,d9,sg1,sg2,eu,eD,eG]
      refine ⟨okN.out _ _ HR3.out,?_⟩;refine TAIL _ _ ⟨p,pe,pA,pac,pB,pbc,V2.heap.size,?_,hide ⟨HWP.out,HR3.out⟩⟩;simp only [Act.put,d9,sg1,sg2,eu,eD,eG]
     ·refine aO rfl rfl ?_;go_wp2_with fail;have HR1:=hide (aG HR0.out aB #[.int .i64 0,.int .i64 0,.int .i64 0,.int .i64 0,.int .i64 0,.int .i64 0,.int .i64 0,.slice none 0 0,.slice none 0 0,.string ⟨#[]⟩] 44)
      try simp only [Act.put,d9,sg1,sg2,eu,eD,eG]
      refine ⟨okN.out _ _ HR1.out,?_⟩;generalize V0.alloc (.cells #[.int .i64 0,.int .i64 0,.int .i64 0,.int .i64 0,.int .i64 0,.int .i64 0,.int .i64 0,.slice none 0 0,.slice none 0 0,.string ⟨#[]⟩] 44)=V1 at *
      generalize V0.heap.size=g at *
      refine wpAnyH_all (rs:=[13]) (by kernel_rfl) (by decide) (fun i hi=>?_);simp only [List.mem_cons,List.not_mem_nil,or_false] at hi;subst hi;refine aO rfl rfl ?_;go_wp2_with fail;refine (KW.out mz HF.out V1 (HBW.out _ (aC HD99.out HR1.out.bI)) v.w v.w HVL.out HVL.out).mono ?_;rintro e9 V2 ⟨p,pe,pA,pac,pB,pbc,rfl,hwp,hb⟩;unfold lX;have HR2:=hide (HR1.out.below (aj av aB) hb);have HWP:=hide hwp;clear hwp hb
      try simp only [Act.put,d9,sg1,sg2,eu,eD,eG]
      refine ⟨okN.out _ _ HR2.out,?_⟩;have hSN:=okN.out _ _ HR2.out;refine wpAnyH_take (i:=14) (v:=.tuple #[.agg #[.int .i64 p.i,.int .i64 p.j,.int .i64 p.kd,.int .i64 p.l,.int .i64 p.r,.int .i64 p.c,.int .i64 p.d.c,.slice pA p.d.L.length pac,.slice pB p.d.M.length pbc,.string (bs p.d.F)],.int .i64 pe]) rfl (by kernel_rfl) (by kernel_rfl) (by kernel_rfl) (fun _ _ _ h=>h) (.inl ⟨rfl,fun w' hS'=>by go_simp⟩) hSN ?_
      try simp only [Act.put,d9,sg1,sg2,eu,eD,eG]
      refine wpAnyH_take (i:=15) (v:=.agg #[.int .i64 p.i,.int .i64 p.j,.int .i64 p.kd,.int .i64 p.l,.int .i64 p.r,.int .i64 p.c,.int .i64 p.d.c,.slice pA p.d.L.length pac,.slice pB p.d.M.length pbc,.string (bs p.d.F)]) rfl (by kernel_rfl) (by kernel_rfl) (by kernel_rfl) (fun _ _ _ h=>h) (.inl ⟨rfl,fun w' hS'=>by go_simp⟩) hSN ?_
      try simp only [Act.put,d9,sg1,sg2,eu,eD,eG]
      refine wpAnyH_take (i:=16) (v:=.int .i64 pe) rfl (by kernel_rfl) (by kernel_rfl) (by kernel_rfl) (fun _ _ _ h=>h) (.inl ⟨rfl,fun w' hS'=>by go_simp⟩) hSN ?_
      try simp only [Act.put,d9,sg1,sg2,eu,eD,eG]
      clear hSN;refine TAIL _ _ ⟨p,pe,pA,pac,pB,pbc,g,?_,hide ⟨HWP.out,HR2.out⟩⟩;simp only [Act.put,d9,sg1,sg2,eu,eD,eG]
     rintro V a9 ⟨p,pe,pA,pac,pB,pbc,gp,rfl,hH⟩;obtain ⟨hwp,h9⟩:=hH.out;have HWp:=hide hwp;obtain ⟨⟨z0,z1,z2,z3,z4⟩,⟨z5,z6,z7,z8,z9⟩,zf⟩:=bg h9;have H10:=hide (gP h9 aB (.int .i64 p.i) (.int .i64 p.j) (.int .i64 p.kd) (.int .i64 p.l) (.int .i64 p.r) (.int .i64 p.c) (.int .i64 p.d.c) (.slice pA p.d.L.length pac) (.slice pB p.d.M.length pbc) (.string (bs p.d.F)));clear hH hwp h9
     try simp only [Act.put,d9,sg1,sg2,eu,eD,eG]
     have hSN:=okN.out _ _ H10.out;refine wpAnyH_all (rs:=[18]) (by kernel_rfl) (by decide) (fun i hi=>?_);simp only [List.mem_cons,List.not_mem_nil,or_false] at hi;subst hi;refine aO rfl rfl ?_;go_wp2_with fail;generalize (((((((((V.setCell ⟨gp,0,none⟩ (.int .i64 p.i)).setCell ⟨gp,1,none⟩ (.int .i64 p.j)).setCell ⟨gp,2,none⟩ (.int .i64 p.kd)).setCell ⟨gp,3,none⟩ (.int .i64 p.l)).setCell ⟨gp,4,none⟩ (.int .i64 p.r)).setCell ⟨gp,5,none⟩ (.int .i64 p.c)).setCell ⟨gp,6,none⟩ (.int .i64 p.d.c)).setCell ⟨gp,7,none⟩ (.slice pA p.d.L.length pac)).setCell ⟨gp,8,none⟩ (.slice pB p.d.M.length pbc)).setCell ⟨gp,9,none⟩ (.string (bs p.d.F))=w20 at *
     clear z0 z1 z2 z3 z4 z5 z6 z7 z8 z9 zf
     try simp only [Act.put,d9,sg1,sg2,eu,eD,eG]
     refine wpAnyH_take (i:=19) (v:=.int .i64 pe) rfl (by kernel_rfl) (by kernel_rfl) (by kernel_rfl) (fun _ _ _ h=>h) (.inl ⟨rfl,fun w' hS'=>by go_simp⟩) hSN ?_
     try simp only [Act.put,d9,sg1,sg2,eu,eD,eG]
     refine wpAnyH_done (by kernel_rfl) ?_ _;clear hSN
     try dsimp only
     obtain ⟨⟨q0,q1,q2,q3,q4⟩,⟨q5,q6,q7,q8,q9⟩,-⟩:=bg H10.out;have HPp:=hide (fun W (h:Below w20.heap.size w20 W)=>(show W.cell? ⟨gp,2,none⟩=some (.int .i64 p.kd)∧W.cell? ⟨gp,3,none⟩=some (.int .i64 p.l)∧W.cell? ⟨gp,4,none⟩=some (.int .i64 p.r)∧W.cell? ⟨gp,5,none⟩=some (.int .i64 p.c) from ⟨aF q2 h,aF q3 h,aF q4 h,aF q5 h⟩));have HEp:=hide (Below.refl w20.heap.size w20);have HEJ_100:=hide (aC HEJ.out H10.out.bI);clear HEJ;have HD100:=hide (aC HD99.out H10.out.bI);clear q0 q1 q2 q3 q4 q5 q6 q7 q8 q9 H10 okN HR0 HD99;obtain ⟨b0_0,b0_1,b0_2,b0_3,b0_4,b0_5⟩:=HC.out w20 HD100.out;go_upto_region 12 with (fail);clear b0_0 b0_1 b0_2 b0_3 b0_4 b0_5;go_upto_region 12 with (fail)
     have okN:=hide (fun V (O:CH.Own) (h:Run (fun _=>False) w20 O V)=>(show V.cell? ⟨gt,0,none⟩=some (.slice a.A n1 a.c)∧V.cell? ⟨gt,1,none⟩=some (.slice a.D n2 a.d)∧V.cell? ⟨gt,2,none⟩=some (.slice a.E n3 a.e)∧V.cell? ⟨gt,3,none⟩=some (.int .i64 T.drop)∧V.cell? ⟨gt,4,none⟩=some (.int .i64 T.ord)∧V.cell? ⟨gt,5,none⟩=some (.int .i64 T.ini)∧V.cell? ⟨b,o+j*3,none⟩=some (.string (bs v.w)) from by
      obtain ⟨b0_0,b0_1,b0_2,b0_3,b0_4,b0_5⟩:=HC.out V (aC HD100.out h.bI)
      exact ⟨b0_0,b0_1,b0_2,b0_3,b0_4,b0_5,(HCJ.out V (aC HEJ_100.out h.bI)).1⟩))
     have HR0:=hide ((Run.begin w20).drew aB);have hSN:=okN.out _ _ HR0.out;refine wp_region_held (S:=fun w'=>w'.cell? ⟨gt,0,none⟩=some (.slice a.A n1 a.c)∧w'.cell? ⟨gt,1,none⟩=some (.slice a.D n2 a.d)∧w'.cell? ⟨gt,2,none⟩=some (.slice a.E n3 a.e)∧w'.cell? ⟨gt,3,none⟩=some (.int .i64 T.drop)∧w'.cell? ⟨gt,4,none⟩=some (.int .i64 T.ord)∧w'.cell? ⟨gt,5,none⟩=some (.int .i64 T.ini)∧w'.cell? ⟨b,o+j*3,none⟩=some (.string (bs v.w))) (by kernel_rfl) (show wpAnyH _ _ _ _ _ _ _ _ w20.drew from ?_);generalize w20.drew=V0 at *
     refine wpAnyH_take (i:=0) (v:=.agg #[.slice a.A n1 a.c,.slice a.D n2 a.d,.slice a.E n3 a.e,.int .i64 T.drop,.int .i64 T.ord,.int .i64 T.ini]) rfl (by kernel_rfl) (by kernel_rfl) (by kernel_rfl) (fun _ _ _ h=>h) (.inl ⟨rfl,fun w' hS'=>?_⟩) hSN ?_
     ·obtain ⟨s0,s1,s2,s3,s4,s5,s6⟩:=hS';go_simp
     try simp only [Act.put,d9,sg1,sg2,eu,eD,eG]
     refine wpAnyH_take (i:=1) (v:=.int .i64 k) rfl (by kernel_rfl) (by kernel_rfl) (by kernel_rfl) (fun _ _ _ h=>h) (.inl ⟨rfl,fun w' hS'=>?_⟩) hSN ?_
     ·obtain ⟨s0,s1,s2,s3,s4,s5,s6⟩:=hS';go_simp
     try simp only [Act.put,d9,sg1,sg2,eu,eD,eG]
     refine wpAnyH_take (i:=2) (v:=.string (bs s)) rfl (by kernel_rfl) (by kernel_rfl) (by kernel_rfl) (fun _ _ _ h=>h) (.inl ⟨rfl,fun w' hS'=>?_⟩) hSN ?_
     ·obtain ⟨s0,s1,s2,s3,s4,s5,s6⟩:=hS';go_simp
     try simp only [Act.put,d9,sg1,sg2,eu,eD,eG]
     refine wpAnyH_take (i:=3) (v:=.int .i64 k) rfl (by kernel_rfl) (by kernel_rfl) (by kernel_rfl) (fun _ _ _ h=>h) (.inl ⟨rfl,fun w' hS'=>?_⟩) hSN ?_
     ·obtain ⟨s0,s1,s2,s3,s4,s5,s6⟩:=hS';go_simp
     try simp only [Act.put,d9,sg1,sg2,eu,eD,eG]
     refine wpAnyH_take (i:=4) (v:=.slice (some ⟨b,o,none⟩) nv vc) rfl (by kernel_rfl) (by kernel_rfl) (by kernel_rfl) (fun _ _ _ h=>h) (.inl ⟨rfl,fun w' hS'=>?_⟩) hSN ?_
     ·obtain ⟨s0,s1,s2,s3,s4,s5,s6⟩:=hS';go_simp
     try simp only [Act.put,d9,sg1,sg2,eu,eD,eG]
     refine wpAnyH_take (i:=5) (v:=.int .i64 (j:Int)) rfl (by kernel_rfl) (by kernel_rfl) (by kernel_rfl) (fun _ _ _ h=>h) (.inl ⟨rfl,fun w' hS'=>?_⟩) hSN ?_
     ·obtain ⟨s0,s1,s2,s3,s4,s5,s6⟩:=hS';go_simp
     try simp only [Act.put,d9,sg1,sg2,eu,eD,eG]
     refine wpAnyH_take (i:=6) (v:=.pointer (some ⟨b,o+j*3,none⟩)) rfl (by kernel_rfl) (by kernel_rfl) (by kernel_rfl) (fun _ _ _ h=>h) (.inl ⟨rfl,fun w' hS'=>?_⟩) hSN ?_
     ·obtain ⟨s0,s1,s2,s3,s4,s5,s6⟩:=hS';go_simp
     try simp only [Act.put,d9,sg1,sg2,eu,eD,eG]
     refine wpAnyH_take (i:=7) (v:=.pointer (some ⟨b,o+j*3,none⟩)) rfl (by kernel_rfl) (by kernel_rfl) (by kernel_rfl) (fun _ _ _ h=>h) (.inl ⟨rfl,fun w' hS'=>?_⟩) hSN ?_
     ·obtain ⟨s0,s1,s2,s3,s4,s5,s6⟩:=hS';go_simp
     try simp only [Act.put,d9,sg1,sg2,eu,eD,eG]
     refine wpAnyH_take (i:=8) (v:=.string (bs v.w)) rfl (by kernel_rfl) (by kernel_rfl) (by kernel_rfl) (fun _ _ _ h=>h) (.inl ⟨rfl,fun w' hS'=>?_⟩) hSN ?_
     ·obtain ⟨s0,s1,s2,s3,s4,s5,s6⟩:=hS';go_simp
     try simp only [Act.put,d9,sg1,sg2,eu,eD,eG]
     clear hSN;refine wJ (fuel2:=2) (ls2:=#[true,true,true,true,true,true,true,true,true,true,true,true,true,true,false,false]) (fun a0 W' a'=>∃ (q:Pr) (qe:Int) (qA:Option Addr) (qac:Nat) (qB:Option Addr) (qbc:Nat) (g:Nat),a'=(((((a0.put (some 85) (.tuple #[.agg #[.int .i64 q.i,.int .i64 q.j,.int .i64 q.kd,.int .i64 q.l,.int .i64 q.r,.int .i64 q.c,.int .i64 q.d.c,.slice qA q.d.L.length qac,.slice qB q.d.M.length qbc,.string (bs q.d.F)],.int .i64 qe])).put (some 75) (.tuple #[.agg #[.int .i64 q.i,.int .i64 q.j,.int .i64 q.kd,.int .i64 q.l,.int .i64 q.r,.int .i64 q.c,.int .i64 q.d.c,.slice qA q.d.L.length qac,.slice qB q.d.M.length qbc,.string (bs q.d.F)],.int .i64 qe])).put (some 86) (.agg #[.int .i64 q.i,.int .i64 q.j,.int .i64 q.kd,.int .i64 q.l,.int .i64 q.r,.int .i64 q.c,.int .i64 q.d.c,.slice qA q.d.L.length qac,.slice qB q.d.M.length qbc,.string (bs q.d.F)])).put (some 87) (.int .i64 qe)).put (some 15) (.pointer (some ⟨g,0,none⟩)))∧Hid (jv T k s k v.w q qe∧Run (fun _=>False) w20 (star (au g #[.int .i64 0,.int .i64 0,.int .i64 0,.int .i64 0,.int .i64 0,.int .i64 0,.int .i64 0,.slice none 0 0,.slice none 0 0,.string ⟨#[]⟩] 44) emp) W')) ?_ (fun TAIL=>?_);rotate_left;refine wpAnyH_all (rs:=[9,13]) (by kernel_rfl) (by decide) (fun i hi=>?_);simp only [List.mem_cons,List.not_mem_nil,or_false] at hi;rcases hi with rfl | rfl
     ·refine aO rfl rfl ?_;go_wp2_with fail;refine (KW.out mz HF.out V0 (HBW.out _ (aC HD100.out HR0.out.bI)) s v.w HSM.out HVL.out).mono ?_;rintro e9 V2 ⟨q,qe,qA,qac,qB,qbc,rfl,hwp,hb⟩;unfold lX;have HR2:=hide (HR0.out.below aB hb);have HWP:=hide hwp;clear hwp hb
      try simp only [Act.put,d9,sg1,sg2,eu,eD,eG]
      refine ⟨okN.out _ _ HR2.out,?_⟩;have hSN:=okN.out _ _ HR2.out;refine wpAnyH_take (i:=10) (v:=.tuple #[.agg #[.int .i64 q.i,.int .i64 q.j,.int .i64 q.kd,.int .i64 q.l,.int .i64 q.r,.int .i64 q.c,.int .i64 q.d.c,.slice qA q.d.L.length qac,.slice qB q.d.M.length qbc,.string (bs q.d.F)],.int .i64 qe]) rfl (by kernel_rfl) (by kernel_rfl) (by kernel_rfl) (fun _ _ _ h=>h) (.inl ⟨rfl,fun w' hS'=>by go_simp⟩) hSN ?_
      try simp only [Act.put,d9,sg1,sg2,eu,eD,eG]
      refine wpAnyH_take (i:=11) (v:=.agg #[.int .i64 q.i,.int .i64 q.j,.int .i64 q.kd,.int .i64 q.l,.int .i64 q.r,.int .i64 q.c,.int .i64 q.d.c,.slice qA q.d.L.length qac,.slice qB q.d.M.length qbc,.string (bs q.d.F)]) rfl (by kernel_rfl) (by kernel_rfl) (by kernel_rfl) (fun _ _ _ h=>h) (.inl ⟨rfl,fun w' hS'=>by go_simp⟩) hSN ?_
      try simp only [Act.put,d9,sg1,sg2,eu,eD,eG]
      refine wpAnyH_take (i:=12) (v:=.int .i64 qe) rfl (by kernel_rfl) (by kernel_rfl) (by kernel_rfl) (fun _ _ _ h=>h) (.inl ⟨rfl,fun w' hS'=>by go_simp⟩) hSN ?_
      try simp only [Act.put,d9,sg1,sg2,eu,eD,eG]
      clear hSN;refine wpAnyH_all (rs:=[13]) (by kernel_rfl) (by decide) (fun i hi=>?_);simp only [List.mem_cons,List.not_mem_nil,or_false] at hi;subst hi;refine aO rfl rfl ?_;go_wp2_with fail;have HR3:=hide (aG HR2.out aB #[.int .i64 0,.int .i64 0,.int .i64 0,.int .i64 0,.int .i64 0,.int .i64 0,.int .i64 0,.slice none 0 0,.slice none 0 0,.string ⟨#[]⟩] 44)
      try simp only [Act.put,d9,sg1,sg2,eu,eD,eG]
      refine ⟨okN.out _ _ HR3.out,?_⟩;refine TAIL _ _ ⟨q,qe,qA,qac,qB,qbc,V2.heap.size,?_,hide ⟨HWP.out,HR3.out⟩⟩;simp only [Act.put,d9,sg1,sg2,eu,eD,eG]
     ·refine aO rfl rfl ?_;go_wp2_with fail;have HR1:=hide (aG HR0.out aB #[.int .i64 0,.int .i64 0,.int .i64 0,.int .i64 0,.int .i64 0,.int .i64 0,.int .i64 0,.slice none 0 0,.slice none 0 0,.string ⟨#[]⟩] 44)
      try simp only [Act.put,d9,sg1,sg2,eu,eD,eG]
      refine ⟨okN.out _ _ HR1.out,?_⟩;generalize V0.alloc (.cells #[.int .i64 0,.int .i64 0,.int .i64 0,.int .i64 0,.int .i64 0,.int .i64 0,.int .i64 0,.slice none 0 0,.slice none 0 0,.string ⟨#[]⟩] 44)=V1 at *
      generalize V0.heap.size=g at *
      refine wpAnyH_all (rs:=[9]) (by kernel_rfl) (by decide) (fun i hi=>?_);simp only [List.mem_cons,List.not_mem_nil,or_false] at hi;subst hi;refine aO rfl rfl ?_;go_wp2_with fail;refine (KW.out mz HF.out V1 (HBW.out _ (aC HD100.out HR1.out.bI)) s v.w HSM.out HVL.out).mono ?_;rintro e9 V2 ⟨q,qe,qA,qac,qB,qbc,rfl,hwp,hb⟩;unfold lX;have HR2:=hide (HR1.out.below (aj av aB) hb);have HWP:=hide hwp;clear hwp hb
      try simp only [Act.put,d9,sg1,sg2,eu,eD,eG]
      refine ⟨okN.out _ _ HR2.out,?_⟩;have hSN:=okN.out _ _ HR2.out;refine wpAnyH_take (i:=10) (v:=.tuple #[.agg #[.int .i64 q.i,.int .i64 q.j,.int .i64 q.kd,.int .i64 q.l,.int .i64 q.r,.int .i64 q.c,.int .i64 q.d.c,.slice qA q.d.L.length qac,.slice qB q.d.M.length qbc,.string (bs q.d.F)],.int .i64 qe]) rfl (by kernel_rfl) (by kernel_rfl) (by kernel_rfl) (fun _ _ _ h=>h) (.inl ⟨rfl,fun w' hS'=>by go_simp⟩) hSN ?_
      try simp only [Act.put,d9,sg1,sg2,eu,eD,eG]
      refine wpAnyH_take (i:=11) (v:=.agg #[.int .i64 q.i,.int .i64 q.j,.int .i64 q.kd,.int .i64 q.l,.int .i64 q.r,.int .i64 q.c,.int .i64 q.d.c,.slice qA q.d.L.length qac,.slice qB q.d.M.length qbc,.string (bs q.d.F)]) rfl (by kernel_rfl) (by kernel_rfl) (by kernel_rfl) (fun _ _ _ h=>h) (.inl ⟨rfl,fun w' hS'=>by go_simp⟩) hSN ?_
      try simp only [Act.put,d9,sg1,sg2,eu,eD,eG]
      refine wpAnyH_take (i:=12) (v:=.int .i64 qe) rfl (by kernel_rfl) (by kernel_rfl) (by kernel_rfl) (fun _ _ _ h=>h) (.inl ⟨rfl,fun w' hS'=>by go_simp⟩) hSN ?_
      try simp only [Act.put,d9,sg1,sg2,eu,eD,eG]
      clear hSN;refine TAIL _ _ ⟨q,qe,qA,qac,qB,qbc,g,?_,hide ⟨HWP.out,HR2.out⟩⟩;simp only [Act.put,d9,sg1,sg2,eu,eD,eG]
     rintro V a9 ⟨q,qe,qA,qac,qB,qbc,gq,rfl,hH⟩;obtain ⟨hwp,h9⟩:=hH.out;have HWq:=hide hwp;obtain ⟨⟨z0,z1,z2,z3,z4⟩,⟨z5,z6,z7,z8,z9⟩,zf⟩:=bg h9;have H10:=hide (gP h9 aB (.int .i64 q.i) (.int .i64 q.j) (.int .i64 q.kd) (.int .i64 q.l) (.int .i64 q.r) (.int .i64 q.c) (.int .i64 q.d.c) (.slice qA q.d.L.length qac) (.slice qB q.d.M.length qbc) (.string (bs q.d.F)));clear hH hwp h9
     try simp only [Act.put,d9,sg1,sg2,eu,eD,eG]
     have hSN:=okN.out _ _ H10.out;refine wpAnyH_all (rs:=[14]) (by kernel_rfl) (by decide) (fun i hi=>?_);simp only [List.mem_cons,List.not_mem_nil,or_false] at hi;subst hi;refine aO rfl rfl ?_;go_wp2_with fail;generalize (((((((((V.setCell ⟨gq,0,none⟩ (.int .i64 q.i)).setCell ⟨gq,1,none⟩ (.int .i64 q.j)).setCell ⟨gq,2,none⟩ (.int .i64 q.kd)).setCell ⟨gq,3,none⟩ (.int .i64 q.l)).setCell ⟨gq,4,none⟩ (.int .i64 q.r)).setCell ⟨gq,5,none⟩ (.int .i64 q.c)).setCell ⟨gq,6,none⟩ (.int .i64 q.d.c)).setCell ⟨gq,7,none⟩ (.slice qA q.d.L.length qac)).setCell ⟨gq,8,none⟩ (.slice qB q.d.M.length qbc)).setCell ⟨gq,9,none⟩ (.string (bs q.d.F))=w21 at *
     clear z0 z1 z2 z3 z4 z5 z6 z7 z8 z9 zf
     try simp only [Act.put,d9,sg1,sg2,eu,eD,eG]
     refine wpAnyH_take (i:=15) (v:=.int .i64 qe) rfl (by kernel_rfl) (by kernel_rfl) (by kernel_rfl) (fun _ _ _ h=>h) (.inl ⟨rfl,fun w' hS'=>by go_simp⟩) hSN ?_
     try simp only [Act.put,d9,sg1,sg2,eu,eD,eG]
     refine wpAnyH_done (by kernel_rfl) ?_ _;clear hSN
     try dsimp only
     obtain ⟨⟨q0,q1,q2,q3,q4⟩,⟨q5,q6,q7,q8,q9⟩,-⟩:=bg H10.out;have HPq:=hide (fun W (h:Below w21.heap.size w21 W)=>(show W.cell? ⟨gq,2,none⟩=some (.int .i64 q.kd)∧W.cell? ⟨gq,3,none⟩=some (.int .i64 q.l)∧W.cell? ⟨gq,4,none⟩=some (.int .i64 q.r)∧W.cell? ⟨gq,5,none⟩=some (.int .i64 q.c) from ⟨aF q2 h,aF q3 h,aF q4 h,aF q5 h⟩));have HEq:=hide (Below.refl w21.heap.size w21);have HEJ_101:=hide (aC HEJ_100.out H10.out.bI);clear HEJ_100;have HEp_101:=hide (aC HEp.out H10.out.bI);clear HEp;have HD101:=hide (aC HD100.out H10.out.bI);clear q0 q1 q2 q3 q4 q5 q6 q7 q8 q9 H10 okN HR0 HD100;go_upto_region 13 with (fail);by_cases ht0:pe=0
     case neg =>
      have tf:(pe == 0)=false:=by simpa using ht0
      clear ht0;have hc2:=(HCJ.out w21.drew (aC HEJ_101.out (aV (Below.refl _ _)))).2;obtain ⟨p2,p3,p4,p5⟩:=HPp.out w21.drew (aC HEp_101.out (aV (Below.refl _ _)));obtain ⟨-,-,-,q5⟩:=HPq.out w21.drew (aC HEq.out (aV (Below.refl _ _)));refine aI (fun w'=>w'.cell? ⟨gp,2,none⟩=some (.int .i64 p.kd)∧w'.cell? ⟨gp,3,none⟩=some (.int .i64 p.l)∧w'.cell? ⟨gp,4,none⟩=some (.int .i64 p.r)∧w'.cell? ⟨gp,5,none⟩=some (.int .i64 p.c)∧w'.cell? ⟨gq,5,none⟩=some (.int .i64 q.c)∧w'.cell? ⟨b,o+j*3+2,none⟩=some (.int .i64 v.c)) (by kernel_rfl) (by kernel_rfl) (by exact ⟨p2,p3,p4,p5,q5,hc2⟩) ?_;clear p2 p3 p4 p5 q5 hc2
      (repeat ((first | refine aK (by rfl) ?_ | (refine aL (v:=?_) (by rfl) ?_ ?_;rotate_left;(focus (intro w' hS';go_simp;(try with_reducible rfl);done))));try simp only [Act.put,List.setIfInBounds_toArray,List.set_cons_zero,List.set_cons_succ]))
      refine lex_nil ?_;go_wp2_with fail
      go_roundw
      case rel=>exact ⟨j+1,by omega,by go_num,(aC HR.out HEJ_101.out).drew⟩
      case measure=>(simp [intOf] <;> omega)
     case pos =>
      have te0:(pe == 0)=true:=by simpa using ht0
      have HT0:=hide ht0;clear ht0;by_cases ht1:p.kd=1
      case neg =>
       have tf:(p.kd == 1)=false:=by simpa using ht1
       clear ht1;have hc2:=(HCJ.out w21.drew (aC HEJ_101.out (aV (Below.refl _ _)))).2;obtain ⟨p2,p3,p4,p5⟩:=HPp.out w21.drew (aC HEp_101.out (aV (Below.refl _ _)));obtain ⟨-,-,-,q5⟩:=HPq.out w21.drew (aC HEq.out (aV (Below.refl _ _)));refine aI (fun w'=>w'.cell? ⟨gp,2,none⟩=some (.int .i64 p.kd)∧w'.cell? ⟨gp,3,none⟩=some (.int .i64 p.l)∧w'.cell? ⟨gp,4,none⟩=some (.int .i64 p.r)∧w'.cell? ⟨gp,5,none⟩=some (.int .i64 p.c)∧w'.cell? ⟨gq,5,none⟩=some (.int .i64 q.c)∧w'.cell? ⟨b,o+j*3+2,none⟩=some (.int .i64 v.c)) (by kernel_rfl) (by kernel_rfl) (by exact ⟨p2,p3,p4,p5,q5,hc2⟩) ?_;clear p2 p3 p4 p5 q5 hc2
       (repeat ((first | refine aK (by rfl) ?_ | (refine aL (v:=?_) (by rfl) ?_ ?_;rotate_left;(focus (intro w' hS';go_simp;(try with_reducible rfl);done))));try simp only [Act.put,List.setIfInBounds_toArray,List.set_cons_zero,List.set_cons_succ]))
       refine lex_nil ?_;go_wp2_with fail
       go_roundw
       case rel=>exact ⟨j+1,by omega,by go_num,(aC HR.out HEJ_101.out).drew⟩
       case measure=>(simp [intOf] <;> omega)
      case pos =>
       have te1:(p.kd == 1)=true:=by simpa using ht1
       have HT1:=hide ht1;clear ht1;by_cases ht2:p.l = -1
       case neg =>
        have tf:(p.l == -1)=false:=by simpa using ht2
        clear ht2;have hc2:=(HCJ.out w21.drew (aC HEJ_101.out (aV (Below.refl _ _)))).2;obtain ⟨p2,p3,p4,p5⟩:=HPp.out w21.drew (aC HEp_101.out (aV (Below.refl _ _)));obtain ⟨-,-,-,q5⟩:=HPq.out w21.drew (aC HEq.out (aV (Below.refl _ _)));refine aI (fun w'=>w'.cell? ⟨gp,2,none⟩=some (.int .i64 p.kd)∧w'.cell? ⟨gp,3,none⟩=some (.int .i64 p.l)∧w'.cell? ⟨gp,4,none⟩=some (.int .i64 p.r)∧w'.cell? ⟨gp,5,none⟩=some (.int .i64 p.c)∧w'.cell? ⟨gq,5,none⟩=some (.int .i64 q.c)∧w'.cell? ⟨b,o+j*3+2,none⟩=some (.int .i64 v.c)) (by kernel_rfl) (by kernel_rfl) (by exact ⟨p2,p3,p4,p5,q5,hc2⟩) ?_;clear p2 p3 p4 p5 q5 hc2
        (repeat ((first | refine aK (by rfl) ?_ | (refine aL (v:=?_) (by rfl) ?_ ?_;rotate_left;(focus (intro w' hS';go_simp;(try with_reducible rfl);done))));try simp only [Act.put,List.setIfInBounds_toArray,List.set_cons_zero,List.set_cons_succ]))
        refine lex_nil ?_;go_wp2_with fail
        go_roundw
        case rel=>exact ⟨j+1,by omega,by go_num,(aC HR.out HEJ_101.out).drew⟩
        case measure=>(simp [intOf] <;> omega)
       case pos =>
        have te2:(p.l == -1)=true:=by simpa using ht2
        have HT2:=hide ht2;clear ht2;by_cases ht3:p.r = -1
        case neg =>
         have tf:(p.r == -1)=false:=by simpa using ht3
         clear ht3;have hc2:=(HCJ.out w21.drew (aC HEJ_101.out (aV (Below.refl _ _)))).2;obtain ⟨p2,p3,p4,p5⟩:=HPp.out w21.drew (aC HEp_101.out (aV (Below.refl _ _)));obtain ⟨-,-,-,q5⟩:=HPq.out w21.drew (aC HEq.out (aV (Below.refl _ _)));refine aI (fun w'=>w'.cell? ⟨gp,2,none⟩=some (.int .i64 p.kd)∧w'.cell? ⟨gp,3,none⟩=some (.int .i64 p.l)∧w'.cell? ⟨gp,4,none⟩=some (.int .i64 p.r)∧w'.cell? ⟨gp,5,none⟩=some (.int .i64 p.c)∧w'.cell? ⟨gq,5,none⟩=some (.int .i64 q.c)∧w'.cell? ⟨b,o+j*3+2,none⟩=some (.int .i64 v.c)) (by kernel_rfl) (by kernel_rfl) (by exact ⟨p2,p3,p4,p5,q5,hc2⟩) ?_;clear p2 p3 p4 p5 q5 hc2
         (repeat ((first | refine aK (by rfl) ?_ | (refine aL (v:=?_) (by rfl) ?_ ?_;rotate_left;(focus (intro w' hS';go_simp;(try with_reducible rfl);done))));try simp only [Act.put,List.setIfInBounds_toArray,List.set_cons_zero,List.set_cons_succ]))
         refine lex_nil ?_;go_wp2_with fail
         go_roundw
         case rel=>exact ⟨j+1,by omega,by go_num,(aC HR.out HEJ_101.out).drew⟩
         case measure=>(simp [intOf] <;> omega)
        case pos =>
         have te3:(p.r == -1)=true:=by simpa using ht3
         have HT3:=hide ht3;clear ht3;obtain ⟨hq0,hqc⟩:=Br HVT.out HWD.out HVM.out HWp.out HWq.out HT0.out HT1.out HT2.out HT3.out;have hvb:=jZ HVT.out HVM.out;have hpb:=pW HVT.out (sU (show jv T k v.w k v.w p 0 from by rw [←HT0.out];exact HWp.out)).2;have tq:(qe != 0)=false:=by simp [hq0]
         have tw:IntKind.i64.wrap (v.c+p.c)=v.c+p.c:=IntWalk.i64_in _ (by omega);have tg:¬ (v.c+p.c < q.c):=by omega
         clear hq0 hvb hpb hqc;have hc2:=(HCJ.out w21.drew (aC HEJ_101.out (aV (Below.refl _ _)))).2;obtain ⟨p2,p3,p4,p5⟩:=HPp.out w21.drew (aC HEp_101.out (aV (Below.refl _ _)));obtain ⟨-,-,-,q5⟩:=HPq.out w21.drew (aC HEq.out (aV (Below.refl _ _)));refine aI (fun w'=>w'.cell? ⟨gp,2,none⟩=some (.int .i64 p.kd)∧w'.cell? ⟨gp,3,none⟩=some (.int .i64 p.l)∧w'.cell? ⟨gp,4,none⟩=some (.int .i64 p.r)∧w'.cell? ⟨gp,5,none⟩=some (.int .i64 p.c)∧w'.cell? ⟨gq,5,none⟩=some (.int .i64 q.c)∧w'.cell? ⟨b,o+j*3+2,none⟩=some (.int .i64 v.c)) (by kernel_rfl) (by kernel_rfl) (by exact ⟨p2,p3,p4,p5,q5,hc2⟩) ?_;clear p2 p3 p4 p5 q5 hc2
         (repeat ((first | refine aK (by rfl) ?_ | (refine aL (v:=?_) (by rfl) ?_ ?_;rotate_left;(focus (intro w' hS';go_simp;(try with_reducible rfl);done))));try simp only [Act.put,List.setIfInBounds_toArray,List.set_cons_zero,List.set_cons_succ]))
         refine lex_nil ?_;go_wp2_with fail
         go_roundw
         case rel=>exact ⟨j+1,by omega,by go_num,(aC HR.out HEJ_101.out).drew⟩
         case measure=>(simp [intOf] <;> omega)
    case neg =>
     have hjn2:¬ (j:Int) < (nv:Int):=by omega
     have HD200:=hide (HDL.out _ HR.out);have hlt:aT k (lower s)=(aW k s,0):=by
      unfold aT aW;rw [if_pos (fU HWD.out),if_pos HWD.out]
     have K2:=hide ((KL.out wr (HBW.out _ HD200.out) (lower s) (by unfold lower;rw [List.length_map];exact HSM.out)).mono (fun e w' h=>(show ∃ b o c,e=.returned (.tuple #[.slice (some ⟨b,o,none⟩) (aW k s).length c,.int .i64 0])∧fF w' (some ⟨b,o,none⟩) (aW k s)∧Below wr.heap.size wr w' from by
      obtain ⟨A,c,h1,h2,h3⟩:=h;rw [gQ,hlt] at h1 h3;obtain ⟨b,o,rfl,-⟩:=fF.at h3 (by have:=(dI HWD.out).1;exact this)
      exact ⟨b,o,c,h1,h3,h2⟩)))
     clear hlt HR HDL HCV hjn hj KL;have K:=hide (K2.out);obtain ⟨b0_0,b0_1,b0_2,b0_3,b0_4,b0_5⟩:=HC.out wr HD200.out;go_wp2_with fail;refine K.out.mono ?_;rintro e9 w201 ⟨b2,o2,lc,rfl,hl2,hb⟩;have HD201:=hide (aC HD200.out hb);have HLT:=hide hl2;clear hl2;clear K HD200 hb K2;clear b0_0 b0_1 b0_2 b0_3 b0_4 b0_5
     try dsimp only
     have HFC:=hide (fun V (hb:Below w201.heap.size w201 V)=>(show V.cell? ⟨b2,o2,none⟩=some (.string (bs (hd0 (aW k s)))) from by
      have h0:=(dI HWD.out).1;obtain ⟨b',o',e,hc⟩:=fF.at HLT.out h0;injection e with e
      injection e with e1 e2
      subst e1 e2;have:=hc V hb 0 h0;rw [Nat.add_zero] at this
      rw [this,GJ h0]))
     have HFL:=hide (show (hd0 (aW k s)).length≤1000000 from by
      unfold hd0;cases hq:aW k s with
      | nil=>simp
      | cons x l =>
       have:=vo (k:=k) (x:=s) x (by rw [hq];exact List.mem_cons_self);have:=HSM.out
       simp;omega)
     have hnl0:=(dI HWD.out).1;generalize hnl:(aW k s).length=nl at *
     clear hnl HLT;generalize hfq:hd0 (aW k s)=f0 at *
     have HFQ:=hide hfq;clear hfq;have hnl1:(0:Int) < (nl:Int):=by omega
     have tnl:((nl:Int) == 0)=false:=by simp;omega
     have HEJ:=hide (Below.refl w201.heap.size w201);obtain ⟨b0_0,b0_1,b0_2,b0_3,b0_4,b0_5⟩:=HC.out w201 HD201.out;go_upto_region 18 with (fail);clear b0_0 b0_1 b0_2 b0_3 b0_4 b0_5;go_upto_region 18 with (fail)
     have okN:=hide (fun V (O:CH.Own) (h:Run (fun _=>False) w201 O V)=>(show V.cell? ⟨gt,0,none⟩=some (.slice a.A n1 a.c)∧V.cell? ⟨gt,1,none⟩=some (.slice a.D n2 a.d)∧V.cell? ⟨gt,2,none⟩=some (.slice a.E n3 a.e)∧V.cell? ⟨gt,3,none⟩=some (.int .i64 T.drop)∧V.cell? ⟨gt,4,none⟩=some (.int .i64 T.ord)∧V.cell? ⟨gt,5,none⟩=some (.int .i64 T.ini)∧V.cell? ⟨b2,o2,none⟩=some (.string (bs f0)) from by
      obtain ⟨b0_0,b0_1,b0_2,b0_3,b0_4,b0_5⟩:=HC.out V (aC HD201.out h.bI)
      exact ⟨b0_0,b0_1,b0_2,b0_3,b0_4,b0_5,HFC.out V (aC HEJ.out h.bI)⟩))
     have HR0:=hide ((Run.begin w201).drew aB);have hSN:=okN.out _ _ HR0.out;refine wp_region_held (S:=fun w'=>w'.cell? ⟨gt,0,none⟩=some (.slice a.A n1 a.c)∧w'.cell? ⟨gt,1,none⟩=some (.slice a.D n2 a.d)∧w'.cell? ⟨gt,2,none⟩=some (.slice a.E n3 a.e)∧w'.cell? ⟨gt,3,none⟩=some (.int .i64 T.drop)∧w'.cell? ⟨gt,4,none⟩=some (.int .i64 T.ord)∧w'.cell? ⟨gt,5,none⟩=some (.int .i64 T.ini)∧w'.cell? ⟨b2,o2,none⟩=some (.string (bs f0))) (by kernel_rfl) (show wpAnyH _ _ _ _ _ _ _ _ w201.drew from ?_);generalize w201.drew=V0 at *
     refine wpAnyH_take (i:=0) (v:=.agg #[.slice a.A n1 a.c,.slice a.D n2 a.d,.slice a.E n3 a.e,.int .i64 T.drop,.int .i64 T.ord,.int .i64 T.ini]) rfl (by kernel_rfl) (by kernel_rfl) (by kernel_rfl) (fun _ _ _ h=>h) (.inl ⟨rfl,fun w' hS'=>?_⟩) hSN ?_
     ·obtain ⟨s0,s1,s2,s3,s4,s5,s6⟩:=hS';go_simp
     try simp only [Act.put,d9,sg1,sg2,eu,eD,eG]
     refine wpAnyH_take (i:=1) (v:=.int .i64 k) rfl (by kernel_rfl) (by kernel_rfl) (by kernel_rfl) (fun _ _ _ h=>h) (.inl ⟨rfl,fun w' hS'=>?_⟩) hSN ?_
     ·obtain ⟨s0,s1,s2,s3,s4,s5,s6⟩:=hS';go_simp
     try simp only [Act.put,d9,sg1,sg2,eu,eD,eG]
     refine wpAnyH_take (i:=2) (v:=.slice (some ⟨b2,o2,none⟩) nl lc) rfl (by kernel_rfl) (by kernel_rfl) (by kernel_rfl) (fun _ _ _ h=>h) (.inl ⟨rfl,fun w' hS'=>?_⟩) hSN ?_
     ·obtain ⟨s0,s1,s2,s3,s4,s5,s6⟩:=hS';go_simp
     try simp only [Act.put,d9,sg1,sg2,eu,eD,eG]
     refine wpAnyH_take (i:=3) (v:=.pointer (some ⟨b2,o2,none⟩)) rfl (by kernel_rfl) (by kernel_rfl) (by kernel_rfl) (fun _ _ _ h=>h) (.inl ⟨rfl,fun w' hS'=>?_⟩) hSN ?_
     ·obtain ⟨s0,s1,s2,s3,s4,s5,s6⟩:=hS';go_simp
      (try (intro h;omega))
     try simp only [Act.put,d9,sg1,sg2,eu,eD,eG]
     refine wpAnyH_take (i:=4) (v:=.string (bs f0)) rfl (by kernel_rfl) (by kernel_rfl) (by kernel_rfl) (fun _ _ _ h=>h) (.inl ⟨rfl,fun w' hS'=>?_⟩) hSN ?_
     ·obtain ⟨s0,s1,s2,s3,s4,s5,s6⟩:=hS';go_simp
     try simp only [Act.put,d9,sg1,sg2,eu,eD,eG]
     refine wpAnyH_take (i:=5) (v:=.int .i64 k) rfl (by kernel_rfl) (by kernel_rfl) (by kernel_rfl) (fun _ _ _ h=>h) (.inl ⟨rfl,fun w' hS'=>?_⟩) hSN ?_
     ·obtain ⟨s0,s1,s2,s3,s4,s5,s6⟩:=hS';go_simp
     try simp only [Act.put,d9,sg1,sg2,eu,eD,eG]
     refine wpAnyH_take (i:=6) (v:=.slice (some ⟨b2,o2,none⟩) nl lc) rfl (by kernel_rfl) (by kernel_rfl) (by kernel_rfl) (fun _ _ _ h=>h) (.inl ⟨rfl,fun w' hS'=>?_⟩) hSN ?_
     ·obtain ⟨s0,s1,s2,s3,s4,s5,s6⟩:=hS';go_simp
     try simp only [Act.put,d9,sg1,sg2,eu,eD,eG]
     refine wpAnyH_take (i:=7) (v:=.pointer (some ⟨b2,o2,none⟩)) rfl (by kernel_rfl) (by kernel_rfl) (by kernel_rfl) (fun _ _ _ h=>h) (.inl ⟨rfl,fun w' hS'=>?_⟩) hSN ?_
     ·obtain ⟨s0,s1,s2,s3,s4,s5,s6⟩:=hS';go_simp
      (try (intro h;omega))
     try simp only [Act.put,d9,sg1,sg2,eu,eD,eG]
     refine wpAnyH_take (i:=8) (v:=.string (bs f0)) rfl (by kernel_rfl) (by kernel_rfl) (by kernel_rfl) (fun _ _ _ h=>h) (.inl ⟨rfl,fun w' hS'=>?_⟩) hSN ?_
     ·obtain ⟨s0,s1,s2,s3,s4,s5,s6⟩:=hS';go_simp
     try simp only [Act.put,d9,sg1,sg2,eu,eD,eG]
     clear hSN;refine wJ (fuel2:=2) (ls2:=#[true,true,true,true,true,true,true,true,true,true,true,true,true,true,false,false]) (fun a0 W' a'=>∃ (p:Pr) (pe:Int) (pA:Option Addr) (pac:Nat) (pB:Option Addr) (pbc:Nat) (g:Nat),a'=(((((a0.put (some 145) (.tuple #[.agg #[.int .i64 p.i,.int .i64 p.j,.int .i64 p.kd,.int .i64 p.l,.int .i64 p.r,.int .i64 p.c,.int .i64 p.d.c,.slice pA p.d.L.length pac,.slice pB p.d.M.length pbc,.string (bs p.d.F)],.int .i64 pe])).put (some 135) (.tuple #[.agg #[.int .i64 p.i,.int .i64 p.j,.int .i64 p.kd,.int .i64 p.l,.int .i64 p.r,.int .i64 p.c,.int .i64 p.d.c,.slice pA p.d.L.length pac,.slice pB p.d.M.length pbc,.string (bs p.d.F)],.int .i64 pe])).put (some 146) (.agg #[.int .i64 p.i,.int .i64 p.j,.int .i64 p.kd,.int .i64 p.l,.int .i64 p.r,.int .i64 p.c,.int .i64 p.d.c,.slice pA p.d.L.length pac,.slice pB p.d.M.length pbc,.string (bs p.d.F)])).put (some 147) (.int .i64 pe)).put (some 19) (.pointer (some ⟨g,0,none⟩)))∧Hid (jv T k f0 k f0 p pe∧Run (fun _=>False) w201 (star (au g #[.int .i64 0,.int .i64 0,.int .i64 0,.int .i64 0,.int .i64 0,.int .i64 0,.int .i64 0,.slice none 0 0,.slice none 0 0,.string ⟨#[]⟩] 44) emp) W')) ?_ (fun TAIL=>?_);rotate_left;refine wpAnyH_all (rs:=[9,13]) (by kernel_rfl) (by decide) (fun i hi=>?_);simp only [List.mem_cons,List.not_mem_nil,or_false] at hi;rcases hi with rfl | rfl
     ·refine aO rfl rfl ?_;go_wp2_with fail;refine (KW.out mz HF.out V0 (HBW.out _ (aC HD201.out HR0.out.bI)) f0 f0 HFL.out HFL.out).mono ?_;rintro e9 V2 ⟨p,pe,pA,pac,pB,pbc,rfl,hwp,hb⟩;unfold lX;have HR2:=hide (HR0.out.below aB hb);have HWP:=hide hwp;clear hwp hb
      try simp only [Act.put,d9,sg1,sg2,eu,eD,eG]
      refine ⟨okN.out _ _ HR2.out,?_⟩;have hSN:=okN.out _ _ HR2.out;refine wpAnyH_take (i:=10) (v:=.tuple #[.agg #[.int .i64 p.i,.int .i64 p.j,.int .i64 p.kd,.int .i64 p.l,.int .i64 p.r,.int .i64 p.c,.int .i64 p.d.c,.slice pA p.d.L.length pac,.slice pB p.d.M.length pbc,.string (bs p.d.F)],.int .i64 pe]) rfl (by kernel_rfl) (by kernel_rfl) (by kernel_rfl) (fun _ _ _ h=>h) (.inl ⟨rfl,fun w' hS'=>by go_simp⟩) hSN ?_
      try simp only [Act.put,d9,sg1,sg2,eu,eD,eG]
      refine wpAnyH_take (i:=11) (v:=.agg #[.int .i64 p.i,.int .i64 p.j,.int .i64 p.kd,.int .i64 p.l,.int .i64 p.r,.int .i64 p.c,.int .i64 p.d.c,.slice pA p.d.L.length pac,.slice pB p.d.M.length pbc,.string (bs p.d.F)]) rfl (by kernel_rfl) (by kernel_rfl) (by kernel_rfl) (fun _ _ _ h=>h) (.inl ⟨rfl,fun w' hS'=>by go_simp⟩) hSN ?_
      try simp only [Act.put,d9,sg1,sg2,eu,eD,eG]
      refine wpAnyH_take (i:=12) (v:=.int .i64 pe) rfl (by kernel_rfl) (by kernel_rfl) (by kernel_rfl) (fun _ _ _ h=>h) (.inl ⟨rfl,fun w' hS'=>by go_simp⟩) hSN ?_
      try simp only [Act.put,d9,sg1,sg2,eu,eD,eG]
      clear hSN;refine wpAnyH_all (rs:=[13]) (by kernel_rfl) (by decide) (fun i hi=>?_);simp only [List.mem_cons,List.not_mem_nil,or_false] at hi;subst hi;refine aO rfl rfl ?_;go_wp2_with fail;have HR3:=hide (aG HR2.out aB #[.int .i64 0,.int .i64 0,.int .i64 0,.int .i64 0,.int .i64 0,.int .i64 0,.int .i64 0,.slice none 0 0,.slice none 0 0,.string ⟨#[]⟩] 44)
      try simp only [Act.put,d9,sg1,sg2,eu,eD,eG]
      refine ⟨okN.out _ _ HR3.out,?_⟩;refine TAIL _ _ ⟨p,pe,pA,pac,pB,pbc,V2.heap.size,?_,hide ⟨HWP.out,HR3.out⟩⟩;simp only [Act.put,d9,sg1,sg2,eu,eD,eG]
     ·refine aO rfl rfl ?_;go_wp2_with fail;have HR1:=hide (aG HR0.out aB #[.int .i64 0,.int .i64 0,.int .i64 0,.int .i64 0,.int .i64 0,.int .i64 0,.int .i64 0,.slice none 0 0,.slice none 0 0,.string ⟨#[]⟩] 44)
      try simp only [Act.put,d9,sg1,sg2,eu,eD,eG]
      refine ⟨okN.out _ _ HR1.out,?_⟩;generalize V0.alloc (.cells #[.int .i64 0,.int .i64 0,.int .i64 0,.int .i64 0,.int .i64 0,.int .i64 0,.int .i64 0,.slice none 0 0,.slice none 0 0,.string ⟨#[]⟩] 44)=V1 at *
      generalize V0.heap.size=g at *
      refine wpAnyH_all (rs:=[9]) (by kernel_rfl) (by decide) (fun i hi=>?_);simp only [List.mem_cons,List.not_mem_nil,or_false] at hi;subst hi;refine aO rfl rfl ?_;go_wp2_with fail;refine (KW.out mz HF.out V1 (HBW.out _ (aC HD201.out HR1.out.bI)) f0 f0 HFL.out HFL.out).mono ?_;rintro e9 V2 ⟨p,pe,pA,pac,pB,pbc,rfl,hwp,hb⟩;unfold lX;have HR2:=hide (HR1.out.below (aj av aB) hb);have HWP:=hide hwp;clear hwp hb
      try simp only [Act.put,d9,sg1,sg2,eu,eD,eG]
      refine ⟨okN.out _ _ HR2.out,?_⟩;have hSN:=okN.out _ _ HR2.out;refine wpAnyH_take (i:=10) (v:=.tuple #[.agg #[.int .i64 p.i,.int .i64 p.j,.int .i64 p.kd,.int .i64 p.l,.int .i64 p.r,.int .i64 p.c,.int .i64 p.d.c,.slice pA p.d.L.length pac,.slice pB p.d.M.length pbc,.string (bs p.d.F)],.int .i64 pe]) rfl (by kernel_rfl) (by kernel_rfl) (by kernel_rfl) (fun _ _ _ h=>h) (.inl ⟨rfl,fun w' hS'=>by go_simp⟩) hSN ?_
      try simp only [Act.put,d9,sg1,sg2,eu,eD,eG]
      refine wpAnyH_take (i:=11) (v:=.agg #[.int .i64 p.i,.int .i64 p.j,.int .i64 p.kd,.int .i64 p.l,.int .i64 p.r,.int .i64 p.c,.int .i64 p.d.c,.slice pA p.d.L.length pac,.slice pB p.d.M.length pbc,.string (bs p.d.F)]) rfl (by kernel_rfl) (by kernel_rfl) (by kernel_rfl) (fun _ _ _ h=>h) (.inl ⟨rfl,fun w' hS'=>by go_simp⟩) hSN ?_
      try simp only [Act.put,d9,sg1,sg2,eu,eD,eG]
      refine wpAnyH_take (i:=12) (v:=.int .i64 pe) rfl (by kernel_rfl) (by kernel_rfl) (by kernel_rfl) (fun _ _ _ h=>h) (.inl ⟨rfl,fun w' hS'=>by go_simp⟩) hSN ?_
      try simp only [Act.put,d9,sg1,sg2,eu,eD,eG]
      clear hSN;refine TAIL _ _ ⟨p,pe,pA,pac,pB,pbc,g,?_,hide ⟨HWP.out,HR2.out⟩⟩;simp only [Act.put,d9,sg1,sg2,eu,eD,eG]
     rintro V a9 ⟨p,pe,pA,pac,pB,pbc,gp,rfl,hH⟩;obtain ⟨hwp,h9⟩:=hH.out;have HWp:=hide hwp;obtain ⟨⟨z0,z1,z2,z3,z4⟩,⟨z5,z6,z7,z8,z9⟩,zf⟩:=bg h9;have H10:=hide (gP h9 aB (.int .i64 p.i) (.int .i64 p.j) (.int .i64 p.kd) (.int .i64 p.l) (.int .i64 p.r) (.int .i64 p.c) (.int .i64 p.d.c) (.slice pA p.d.L.length pac) (.slice pB p.d.M.length pbc) (.string (bs p.d.F)));clear hH hwp h9
     try simp only [Act.put,d9,sg1,sg2,eu,eD,eG]
     have hSN:=okN.out _ _ H10.out;refine wpAnyH_all (rs:=[14]) (by kernel_rfl) (by decide) (fun i hi=>?_);simp only [List.mem_cons,List.not_mem_nil,or_false] at hi;subst hi;refine aO rfl rfl ?_;go_wp2_with fail;generalize (((((((((V.setCell ⟨gp,0,none⟩ (.int .i64 p.i)).setCell ⟨gp,1,none⟩ (.int .i64 p.j)).setCell ⟨gp,2,none⟩ (.int .i64 p.kd)).setCell ⟨gp,3,none⟩ (.int .i64 p.l)).setCell ⟨gp,4,none⟩ (.int .i64 p.r)).setCell ⟨gp,5,none⟩ (.int .i64 p.c)).setCell ⟨gp,6,none⟩ (.int .i64 p.d.c)).setCell ⟨gp,7,none⟩ (.slice pA p.d.L.length pac)).setCell ⟨gp,8,none⟩ (.slice pB p.d.M.length pbc)).setCell ⟨gp,9,none⟩ (.string (bs p.d.F))=w22 at *
     clear z0 z1 z2 z3 z4 z5 z6 z7 z8 z9 zf
     try simp only [Act.put,d9,sg1,sg2,eu,eD,eG]
     refine wpAnyH_take (i:=15) (v:=.int .i64 pe) rfl (by kernel_rfl) (by kernel_rfl) (by kernel_rfl) (fun _ _ _ h=>h) (.inl ⟨rfl,fun w' hS'=>by go_simp⟩) hSN ?_
     try simp only [Act.put,d9,sg1,sg2,eu,eD,eG]
     refine wpAnyH_done (by kernel_rfl) ?_ _;clear hSN
     try dsimp only
     obtain ⟨⟨q0,q1,q2,q3,q4⟩,⟨q5,q6,q7,q8,q9⟩,-⟩:=bg H10.out;have HPp:=hide (fun W (h:Below w22.heap.size w22 W)=>(show W.cell? ⟨gp,2,none⟩=some (.int .i64 p.kd)∧W.cell? ⟨gp,3,none⟩=some (.int .i64 p.l)∧W.cell? ⟨gp,4,none⟩=some (.int .i64 p.r)∧W.cell? ⟨gp,5,none⟩=some (.int .i64 p.c) from ⟨aF q2 h,aF q3 h,aF q4 h,aF q5 h⟩));have HEp:=hide (Below.refl w22.heap.size w22);have HEJ_202:=hide (aC HEJ.out H10.out.bI);clear HEJ;have HD202:=hide (aC HD201.out H10.out.bI);clear q0 q1 q2 q3 q4 q5 q6 q7 q8 q9 H10 okN HR0 HD201;obtain ⟨b0_0,b0_1,b0_2,b0_3,b0_4,b0_5⟩:=HC.out w22 HD202.out;go_upto_region 19 with (fail);clear b0_0 b0_1 b0_2 b0_3 b0_4 b0_5;go_upto_region 19 with (fail)
     have okN:=hide (fun V (O:CH.Own) (h:Run (fun _=>False) w22 O V)=>(show V.cell? ⟨gt,0,none⟩=some (.slice a.A n1 a.c)∧V.cell? ⟨gt,1,none⟩=some (.slice a.D n2 a.d)∧V.cell? ⟨gt,2,none⟩=some (.slice a.E n3 a.e)∧V.cell? ⟨gt,3,none⟩=some (.int .i64 T.drop)∧V.cell? ⟨gt,4,none⟩=some (.int .i64 T.ord)∧V.cell? ⟨gt,5,none⟩=some (.int .i64 T.ini)∧V.cell? ⟨b2,o2,none⟩=some (.string (bs f0)) from by
      obtain ⟨b0_0,b0_1,b0_2,b0_3,b0_4,b0_5⟩:=HC.out V (aC HD202.out h.bI)
      exact ⟨b0_0,b0_1,b0_2,b0_3,b0_4,b0_5,HFC.out V (aC HEJ_202.out h.bI)⟩))
     have HR0:=hide ((Run.begin w22).drew aB);have hSN:=okN.out _ _ HR0.out;refine wp_region_held (S:=fun w'=>w'.cell? ⟨gt,0,none⟩=some (.slice a.A n1 a.c)∧w'.cell? ⟨gt,1,none⟩=some (.slice a.D n2 a.d)∧w'.cell? ⟨gt,2,none⟩=some (.slice a.E n3 a.e)∧w'.cell? ⟨gt,3,none⟩=some (.int .i64 T.drop)∧w'.cell? ⟨gt,4,none⟩=some (.int .i64 T.ord)∧w'.cell? ⟨gt,5,none⟩=some (.int .i64 T.ini)∧w'.cell? ⟨b2,o2,none⟩=some (.string (bs f0))) (by kernel_rfl) (show wpAnyH _ _ _ _ _ _ _ _ w22.drew from ?_);generalize w22.drew=V0 at *
     refine wpAnyH_take (i:=0) (v:=.agg #[.slice a.A n1 a.c,.slice a.D n2 a.d,.slice a.E n3 a.e,.int .i64 T.drop,.int .i64 T.ord,.int .i64 T.ini]) rfl (by kernel_rfl) (by kernel_rfl) (by kernel_rfl) (fun _ _ _ h=>h) (.inl ⟨rfl,fun w' hS'=>?_⟩) hSN ?_
     ·obtain ⟨s0,s1,s2,s3,s4,s5,s6⟩:=hS';go_simp
     try simp only [Act.put,d9,sg1,sg2,eu,eD,eG]
     refine wpAnyH_take (i:=1) (v:=.int .i64 k) rfl (by kernel_rfl) (by kernel_rfl) (by kernel_rfl) (fun _ _ _ h=>h) (.inl ⟨rfl,fun w' hS'=>?_⟩) hSN ?_
     ·obtain ⟨s0,s1,s2,s3,s4,s5,s6⟩:=hS';go_simp
     try simp only [Act.put,d9,sg1,sg2,eu,eD,eG]
     refine wpAnyH_take (i:=2) (v:=.slice (some ⟨b2,o2,none⟩) nl lc) rfl (by kernel_rfl) (by kernel_rfl) (by kernel_rfl) (fun _ _ _ h=>h) (.inl ⟨rfl,fun w' hS'=>?_⟩) hSN ?_
     ·obtain ⟨s0,s1,s2,s3,s4,s5,s6⟩:=hS';go_simp
     try simp only [Act.put,d9,sg1,sg2,eu,eD,eG]
     refine wpAnyH_take (i:=3) (v:=.pointer (some ⟨b2,o2,none⟩)) rfl (by kernel_rfl) (by kernel_rfl) (by kernel_rfl) (fun _ _ _ h=>h) (.inl ⟨rfl,fun w' hS'=>?_⟩) hSN ?_
     ·obtain ⟨s0,s1,s2,s3,s4,s5,s6⟩:=hS';go_simp
      (try (intro h;omega))
     try simp only [Act.put,d9,sg1,sg2,eu,eD,eG]
     refine wpAnyH_take (i:=4) (v:=.string (bs f0)) rfl (by kernel_rfl) (by kernel_rfl) (by kernel_rfl) (fun _ _ _ h=>h) (.inl ⟨rfl,fun w' hS'=>?_⟩) hSN ?_
     ·obtain ⟨s0,s1,s2,s3,s4,s5,s6⟩:=hS';go_simp
     try simp only [Act.put,d9,sg1,sg2,eu,eD,eG]
     refine wpAnyH_take (i:=5) (v:=.int .i64 k) rfl (by kernel_rfl) (by kernel_rfl) (by kernel_rfl) (fun _ _ _ h=>h) (.inl ⟨rfl,fun w' hS'=>?_⟩) hSN ?_
     ·obtain ⟨s0,s1,s2,s3,s4,s5,s6⟩:=hS';go_simp
     try simp only [Act.put,d9,sg1,sg2,eu,eD,eG]
     refine wpAnyH_take (i:=6) (v:=.string (bs s)) rfl (by kernel_rfl) (by kernel_rfl) (by kernel_rfl) (fun _ _ _ h=>h) (.inl ⟨rfl,fun w' hS'=>?_⟩) hSN ?_
     ·obtain ⟨s0,s1,s2,s3,s4,s5,s6⟩:=hS';go_simp
     try simp only [Act.put,d9,sg1,sg2,eu,eD,eG]
     clear hSN;refine wJ (fuel2:=2) (ls2:=#[true,true,true,true,true,true,true,true,true,true,true,true,false,false]) (fun a0 W' a'=>∃ (q:Pr) (qe:Int) (qA:Option Addr) (qac:Nat) (qB:Option Addr) (qbc:Nat) (g:Nat),a'=(((((a0.put (some 156) (.tuple #[.agg #[.int .i64 q.i,.int .i64 q.j,.int .i64 q.kd,.int .i64 q.l,.int .i64 q.r,.int .i64 q.c,.int .i64 q.d.c,.slice qA q.d.L.length qac,.slice qB q.d.M.length qbc,.string (bs q.d.F)],.int .i64 qe])).put (some 148) (.tuple #[.agg #[.int .i64 q.i,.int .i64 q.j,.int .i64 q.kd,.int .i64 q.l,.int .i64 q.r,.int .i64 q.c,.int .i64 q.d.c,.slice qA q.d.L.length qac,.slice qB q.d.M.length qbc,.string (bs q.d.F)],.int .i64 qe])).put (some 157) (.agg #[.int .i64 q.i,.int .i64 q.j,.int .i64 q.kd,.int .i64 q.l,.int .i64 q.r,.int .i64 q.c,.int .i64 q.d.c,.slice qA q.d.L.length qac,.slice qB q.d.M.length qbc,.string (bs q.d.F)])).put (some 158) (.int .i64 qe)).put (some 21) (.pointer (some ⟨g,0,none⟩)))∧Hid (jv T k f0 k s q qe∧Run (fun _=>False) w22 (star (au g #[.int .i64 0,.int .i64 0,.int .i64 0,.int .i64 0,.int .i64 0,.int .i64 0,.int .i64 0,.slice none 0 0,.slice none 0 0,.string ⟨#[]⟩] 44) emp) W')) ?_ (fun TAIL=>?_);rotate_left;refine wpAnyH_all (rs:=[7,11]) (by kernel_rfl) (by decide) (fun i hi=>?_);simp only [List.mem_cons,List.not_mem_nil,or_false] at hi;rcases hi with rfl | rfl
     ·refine aO rfl rfl ?_;go_wp2_with fail;refine (KW.out mz HF.out V0 (HBW.out _ (aC HD202.out HR0.out.bI)) f0 s HFL.out HSM.out).mono ?_;rintro e9 V2 ⟨q,qe,qA,qac,qB,qbc,rfl,hwp,hb⟩;unfold lX;have HR2:=hide (HR0.out.below aB hb);have HWP:=hide hwp;clear hwp hb
      try simp only [Act.put,d9,sg1,sg2,eu,eD,eG]
      refine ⟨okN.out _ _ HR2.out,?_⟩;have hSN:=okN.out _ _ HR2.out;refine wpAnyH_take (i:=8) (v:=.tuple #[.agg #[.int .i64 q.i,.int .i64 q.j,.int .i64 q.kd,.int .i64 q.l,.int .i64 q.r,.int .i64 q.c,.int .i64 q.d.c,.slice qA q.d.L.length qac,.slice qB q.d.M.length qbc,.string (bs q.d.F)],.int .i64 qe]) rfl (by kernel_rfl) (by kernel_rfl) (by kernel_rfl) (fun _ _ _ h=>h) (.inl ⟨rfl,fun w' hS'=>by go_simp⟩) hSN ?_
      try simp only [Act.put,d9,sg1,sg2,eu,eD,eG]
      refine wpAnyH_take (i:=9) (v:=.agg #[.int .i64 q.i,.int .i64 q.j,.int .i64 q.kd,.int .i64 q.l,.int .i64 q.r,.int .i64 q.c,.int .i64 q.d.c,.slice qA q.d.L.length qac,.slice qB q.d.M.length qbc,.string (bs q.d.F)]) rfl (by kernel_rfl) (by kernel_rfl) (by kernel_rfl) (fun _ _ _ h=>h) (.inl ⟨rfl,fun w' hS'=>by go_simp⟩) hSN ?_
      try simp only [Act.put,d9,sg1,sg2,eu,eD,eG]
      refine wpAnyH_take (i:=10) (v:=.int .i64 qe) rfl (by kernel_rfl) (by kernel_rfl) (by kernel_rfl) (fun _ _ _ h=>h) (.inl ⟨rfl,fun w' hS'=>by go_simp⟩) hSN ?_
      try simp only [Act.put,d9,sg1,sg2,eu,eD,eG]
      clear hSN;refine wpAnyH_all (rs:=[11]) (by kernel_rfl) (by decide) (fun i hi=>?_);simp only [List.mem_cons,List.not_mem_nil,or_false] at hi;subst hi;refine aO rfl rfl ?_;go_wp2_with fail;have HR3:=hide (aG HR2.out aB #[.int .i64 0,.int .i64 0,.int .i64 0,.int .i64 0,.int .i64 0,.int .i64 0,.int .i64 0,.slice none 0 0,.slice none 0 0,.string ⟨#[]⟩] 44)
      try simp only [Act.put,d9,sg1,sg2,eu,eD,eG]
      refine ⟨okN.out _ _ HR3.out,?_⟩;refine TAIL _ _ ⟨q,qe,qA,qac,qB,qbc,V2.heap.size,?_,hide ⟨HWP.out,HR3.out⟩⟩;simp only [Act.put,d9,sg1,sg2,eu,eD,eG]
     ·refine aO rfl rfl ?_;go_wp2_with fail;have HR1:=hide (aG HR0.out aB #[.int .i64 0,.int .i64 0,.int .i64 0,.int .i64 0,.int .i64 0,.int .i64 0,.int .i64 0,.slice none 0 0,.slice none 0 0,.string ⟨#[]⟩] 44)
      try simp only [Act.put,d9,sg1,sg2,eu,eD,eG]
      refine ⟨okN.out _ _ HR1.out,?_⟩;generalize V0.alloc (.cells #[.int .i64 0,.int .i64 0,.int .i64 0,.int .i64 0,.int .i64 0,.int .i64 0,.int .i64 0,.slice none 0 0,.slice none 0 0,.string ⟨#[]⟩] 44)=V1 at *
      generalize V0.heap.size=g at *
      refine wpAnyH_all (rs:=[7]) (by kernel_rfl) (by decide) (fun i hi=>?_);simp only [List.mem_cons,List.not_mem_nil,or_false] at hi;subst hi;refine aO rfl rfl ?_;go_wp2_with fail;refine (KW.out mz HF.out V1 (HBW.out _ (aC HD202.out HR1.out.bI)) f0 s HFL.out HSM.out).mono ?_;rintro e9 V2 ⟨q,qe,qA,qac,qB,qbc,rfl,hwp,hb⟩;unfold lX;have HR2:=hide (HR1.out.below (aj av aB) hb);have HWP:=hide hwp;clear hwp hb
      try simp only [Act.put,d9,sg1,sg2,eu,eD,eG]
      refine ⟨okN.out _ _ HR2.out,?_⟩;have hSN:=okN.out _ _ HR2.out;refine wpAnyH_take (i:=8) (v:=.tuple #[.agg #[.int .i64 q.i,.int .i64 q.j,.int .i64 q.kd,.int .i64 q.l,.int .i64 q.r,.int .i64 q.c,.int .i64 q.d.c,.slice qA q.d.L.length qac,.slice qB q.d.M.length qbc,.string (bs q.d.F)],.int .i64 qe]) rfl (by kernel_rfl) (by kernel_rfl) (by kernel_rfl) (fun _ _ _ h=>h) (.inl ⟨rfl,fun w' hS'=>by go_simp⟩) hSN ?_
      try simp only [Act.put,d9,sg1,sg2,eu,eD,eG]
      refine wpAnyH_take (i:=9) (v:=.agg #[.int .i64 q.i,.int .i64 q.j,.int .i64 q.kd,.int .i64 q.l,.int .i64 q.r,.int .i64 q.c,.int .i64 q.d.c,.slice qA q.d.L.length qac,.slice qB q.d.M.length qbc,.string (bs q.d.F)]) rfl (by kernel_rfl) (by kernel_rfl) (by kernel_rfl) (fun _ _ _ h=>h) (.inl ⟨rfl,fun w' hS'=>by go_simp⟩) hSN ?_
      try simp only [Act.put,d9,sg1,sg2,eu,eD,eG]
      refine wpAnyH_take (i:=10) (v:=.int .i64 qe) rfl (by kernel_rfl) (by kernel_rfl) (by kernel_rfl) (fun _ _ _ h=>h) (.inl ⟨rfl,fun w' hS'=>by go_simp⟩) hSN ?_
      try simp only [Act.put,d9,sg1,sg2,eu,eD,eG]
      clear hSN;refine TAIL _ _ ⟨q,qe,qA,qac,qB,qbc,g,?_,hide ⟨HWP.out,HR2.out⟩⟩;simp only [Act.put,d9,sg1,sg2,eu,eD,eG]
     rintro V a9 ⟨q,qe,qA,qac,qB,qbc,gq,rfl,hH⟩;obtain ⟨hwp,h9⟩:=hH.out;have HWq:=hide hwp;obtain ⟨⟨z0,z1,z2,z3,z4⟩,⟨z5,z6,z7,z8,z9⟩,zf⟩:=bg h9;have H10:=hide (gP h9 aB (.int .i64 q.i) (.int .i64 q.j) (.int .i64 q.kd) (.int .i64 q.l) (.int .i64 q.r) (.int .i64 q.c) (.int .i64 q.d.c) (.slice qA q.d.L.length qac) (.slice qB q.d.M.length qbc) (.string (bs q.d.F)));clear hH hwp h9
     try simp only [Act.put,d9,sg1,sg2,eu,eD,eG]
     have hSN:=okN.out _ _ H10.out;refine wpAnyH_all (rs:=[12]) (by kernel_rfl) (by decide) (fun i hi=>?_);simp only [List.mem_cons,List.not_mem_nil,or_false] at hi;subst hi;refine aO rfl rfl ?_;go_wp2_with fail;generalize (((((((((V.setCell ⟨gq,0,none⟩ (.int .i64 q.i)).setCell ⟨gq,1,none⟩ (.int .i64 q.j)).setCell ⟨gq,2,none⟩ (.int .i64 q.kd)).setCell ⟨gq,3,none⟩ (.int .i64 q.l)).setCell ⟨gq,4,none⟩ (.int .i64 q.r)).setCell ⟨gq,5,none⟩ (.int .i64 q.c)).setCell ⟨gq,6,none⟩ (.int .i64 q.d.c)).setCell ⟨gq,7,none⟩ (.slice qA q.d.L.length qac)).setCell ⟨gq,8,none⟩ (.slice qB q.d.M.length qbc)).setCell ⟨gq,9,none⟩ (.string (bs q.d.F))=w23 at *
     clear z0 z1 z2 z3 z4 z5 z6 z7 z8 z9 zf
     try simp only [Act.put,d9,sg1,sg2,eu,eD,eG]
     refine wpAnyH_take (i:=13) (v:=.int .i64 qe) rfl (by kernel_rfl) (by kernel_rfl) (by kernel_rfl) (fun _ _ _ h=>h) (.inl ⟨rfl,fun w' hS'=>by go_simp⟩) hSN ?_
     try simp only [Act.put,d9,sg1,sg2,eu,eD,eG]
     refine wpAnyH_done (by kernel_rfl) ?_ _;clear hSN
     try dsimp only
     obtain ⟨⟨q0,q1,q2,q3,q4⟩,⟨q5,q6,q7,q8,q9⟩,-⟩:=bg H10.out;have HPq:=hide (fun W (h:Below w23.heap.size w23 W)=>(show W.cell? ⟨gq,2,none⟩=some (.int .i64 q.kd)∧W.cell? ⟨gq,3,none⟩=some (.int .i64 q.l)∧W.cell? ⟨gq,4,none⟩=some (.int .i64 q.r)∧W.cell? ⟨gq,5,none⟩=some (.int .i64 q.c) from ⟨aF q2 h,aF q3 h,aF q4 h,aF q5 h⟩));have HEq:=hide (Below.refl w23.heap.size w23);have HEJ_203:=hide (aC HEJ_202.out H10.out.bI);clear HEJ_202;have HEp_203:=hide (aC HEp.out H10.out.bI);clear HEp;have HD203:=hide (aC HD202.out H10.out.bI);clear q0 q1 q2 q3 q4 q5 q6 q7 q8 q9 H10 okN HR0 HD202;obtain ⟨p2,p3,p4,p5⟩:=HPp.out w23 HEp_203.out;obtain ⟨q2,q3,q4,q5⟩:=HPq.out w23 HEq.out;by_cases h0:pe=0
     case neg =>
      have te:(pe == 0)=false:=by simpa using h0
      have tn:(pe != 0)=true:=by simpa using h0
      clear h0;obtain ⟨b0_0,b0_1,b0_2,b0_3,b0_4,b0_5⟩:=HC.out w23 HD203.out;have HE:=hide (HBW.out _ HD203.out);go_wp2;go_ret;exact aQ rfl HE.out
     case pos =>
      obtain ⟨hq0,hqc⟩:=Dw HVT.out HWD.out (by rw [HFQ.out];exact HWp.out) (by rw [HFQ.out];exact HWq.out) h0;have hpb:=pW HVT.out (sU (show jv T k f0 k f0 p 0 from by rw [←h0];exact HWp.out)).2;have hib:=dN.1 (bY.1 HVT.out).1.2.2.2.2;have te:(pe == 0)=true:=by simpa using h0
      have tn:(pe != 0)=false:=by simpa using h0
      have tq:(qe == 0)=true:=by simpa using hq0
      have tw:IntKind.i64.wrap (T.ini+p.c)=T.ini+p.c:=IntWalk.i64_in _ (by omega);clear hpb hib h0 hq0;obtain ⟨b0_0,b0_1,b0_2,b0_3,b0_4,b0_5⟩:=HC.out w23 HD203.out;have HE:=hide (HBW.out _ HD203.out);go_wp2;go_ret;exact aQ rfl HE.out
end Go.Proofs.YtbnnlpjpnihheaaGreatDoor
