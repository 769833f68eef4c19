import Derived.Test.YtbnnlpjpnihheaaGreatDoorMD8
import Derived.Test.YtbnnlpjpnihheaaGreatDoorMD7
import Derived.Test.YtbnnlpjpnihheaaGreatDoorMD3
import Derived.Deep.DeepCutAuto
import Derived.Test.YtbnnlpjpnihheaaGreatDoorMD2
import Derived.Test.YtbnnlpjpnihheaaGreatDoorMD5
set_option linter.unusedSimpArgs false
set_option linter.unusedVariables false
namespace Go.Proofs.YtbnnlpjpnihheaaGreatDoor
open Go.RowKit Go.CH Go.CH.Scr Go.CH.Pot
open Go.ChangeMaps (setBlock)
theorem Zw_cells {W:Wd} {x:WA} {s:St} {b1 b2:Nat} {F0:Nat→Prop} {w0 w:World} {X:CH.Own} (h:Run F0 w0 (star (Zw W x s b1 b2) X) w) :
  (w.cell? ⟨b1,0,none⟩=some (.int .i64 s.i)∧w.cell? ⟨b1,1,none⟩=some (.int .i64 s.j)∧w.cell? ⟨b1,2,none⟩=some (.string (bs s.a))∧w.cell? ⟨b1,3,none⟩=some (.bool s.r)) ∧
  (w.cell? ⟨b2,0,none⟩=some (.slice x.a.L W.l.length x.a.lc)∧w.cell? ⟨b2,1,none⟩=some (.slice x.a.R x.a.q.length x.a.rc)∧w.cell? ⟨b2,2,none⟩=some (.slice x.b.L W.m.length x.b.lc)∧w.cell? ⟨b2,3,none⟩=some (.slice x.b.R x.b.q.length x.b.rc)):=by
 obtain ⟨F,hF⟩:=(h.assoc).fst
 obtain ⟨F2,hF2⟩:=(h.assoc.rot).fst
 exact ⟨⟨cell_at hF rfl,cell_at hF rfl,cell_at hF rfl,cell_at hF rfl⟩,cell_at hF2 rfl,cell_at hF2 rfl,cell_at hF2 rfl,cell_at hF2 rfl⟩
theorem AwR.at {W:Wd} {x:WA} {w:World} (h:AwR W x w) (lf:Bool):Vst w (x.at lf).L (lsA W lf)∧ArsR w (x.at lf).R (x.at lf).q∧∀ y ∈ (x.at lf).q,Vst w y.A y.r.f:=by
 cases lf
 ·exact ⟨h.m,h.rb,h.fb⟩
 ·exact ⟨h.l,h.ra,h.fa⟩
theorem AwS.at {W:Wd} {x:WA} (h:AwS W x) (lf:Bool):(x.at lf).q.length≤1000000∧(lsA W lf).length≤(x.at lf).lc∧(lsA W lf).length≤1000000∧∀ y ∈ (x.at lf).q,y.r.f.length≤1000000∧y.r.t.length≤1000000:=by
 cases lf
 ·exact ⟨h.nb,h.lb,h.m6,h.g6⟩
 ·exact ⟨h.na,h.la,h.l6,h.f6⟩
theorem kA_le {W:Wd} {s:St} (h:W.ok s) (lf:Bool):kA s lf≤(lsA W lf).length:=by
 cases lf
 ·exact h.2.1
 ·exact h.1
def iN (s:St) (lf:Bool) (n:Nat):Nat:=if lf then s.i+n else s.i
def jN (s:St) (lf:Bool) (n:Nat):Nat:=if lf then s.j else s.j+n
theorem nextA_eq {s:St} {lf:Bool} {n:Nat} {z:Bs × Bool}:nextA s lf n z=⟨iN s lf n,jN s lf n,z.1,z.2⟩:=by cases lf <;> rfl
section
variable {W:Wd} {x:WA} {s:St} {lf:Bool} {k:Nat}
theorem amvs_noFit (hl:W.left s=lf) (hk:k < (x.at lf).q.length) (h:fitsA (lsA W lf) (x.at lf).q[k].r (kA s lf)=false):amvs W x s (k+1)=amvs W x s k:=by
 subst hl;exact amvs_none hk (amvR_noFit h)
theorem amvs_noAh (hl:W.left s=lf) (hk:k < (x.at lf).q.length) (h:W.ahA s (x.at lf).q[k].r.t=none):amvs W x s (k+1)=amvs W x s k:=by
 subst hl;exact amvs_none hk (amvR_noAh h)
theorem amvs_yes (hl:W.left s=lf) (hk:k < (x.at lf).q.length) (h:fitsA (lsA W lf) (x.at lf).q[k].r (kA s lf)=true) {z:Bs × Bool} (hz:W.ahA s (x.at lf).q[k].r.t=some z) :
  amvs W x s (k+1)=amvs W x s k ++ [((x.at lf).q[k],⟨iN s lf (x.at lf).q[k].r.f.length,jN s lf (x.at lf).q[k].r.f.length,z.1,z.2⟩)]∧∃ hi:(amvs W x s k).length < (amovR W x s).length,(amovR W x s)[(amvs W x s k).length]=((x.at lf).q[k],⟨iN s lf (x.at lf).q[k].r.f.length,jN s lf (x.at lf).q[k].r.f.length,z.1,z.2⟩):=by
 subst hl
 have h1:=amvR_yes h hz
 rw [nextA_eq] at h1
 exact ⟨amvs_some hk h1,amvs_at hk h1⟩
theorem amvs_all2 (hl:W.left s=lf):amvs W x s (x.at lf).q.length=amovR W x s:=by subst hl;exact amvs_all
end
set_option maxHeartbeats 16000000 in
set_option maxRecDepth 100000 in
theorem amoves_iter {W:Wd} {s:St} {x:WA} {b1 b2:Nat} (hs:W.ok s) (hW:AwS W x) (ha:s.a.length≤1000000) :
  IterJ Tryz.prog 126 #[.pointer (some ⟨b1,0,none⟩),.pointer (some ⟨b2,0,none⟩)] (AwR W x) (Zw W x s b1 b2) encA (amovR W x s):=by
 intro n lo w F0 w0 X Y okX okY hE h0 hY
 have HY:=hide hY
 have HE:=hide hE
 have HS:=hide hs
 have HW:=hide hW
 have H0:=hide h0
 clear hY hE hs hW
 refine callsIn_of_wp Tryz.func126 rfl trivial ?_ rfl
 simp only [Tryz.ntmps126,List.size_toArray,List.length_cons,List.length_nil,Nat.reduceAdd,Nat.reduceSub,Array.replicate_succ,Array.replicate_zero,List.push_toArray,List.append_toArray,List.nil_append,List.cons_append]
 obtain ⟨⟨c1,c2,c3,c4⟩,d0,d1,d2,d3⟩:=Zw_cells h0
 clear h0
 refine wpIn_seq_k ?_
 intro K0 hK0
 have cut:∀ (lf:Bool) (g14 g15 g16 g17 g18 g19 g20 g21 g22 g23 g24 g25 g26 g27 g28 g29:Value),W.left s=lf→K0 { tmps:=#[.func (.yield lo) #[] #[],.pointer (some ⟨b1,0,none⟩),.pointer (some ⟨b2,0,none⟩),undef,.bool lf,undef,undef,undef,undef,undef,undef,undef,undef,undef,g14,g15,g16,g17,g18,g19,g20,g21,g22,g23,g24,g25,g26,g27,g28,g29,undef,undef,undef,undef,undef,undef,undef,undef,undef,undef,undef,undef,undef,undef,undef,undef,undef,undef,undef,undef,undef,undef,undef,undef,undef,undef,undef,undef,undef,undef,undef,undef,undef,undef,undef,undef,undef,undef,undef,undef,undef,undef,undef,undef,undef,undef,undef,undef,undef,undef,undef,undef,undef,undef,undef,undef,undef,undef,undef,undef,undef,undef,undef,undef,undef,undef,undef,undef,undef,undef,undef,undef,undef,undef,undef,undef,undef,undef,undef],defers:=[] } w:=by
  intro lf g14 g15 g16 g17 g18 g19 g20 g21 g22 g23 g24 g25 g26 g27 g28 g29 HLF
  have HL:=hide HLF
  refine hK0 _ _ ?_
  clear hK0 K0
  have hSW:∀ W',Run F0 w0 (star (Zw W x s b1 b2) (X 0)) W'→(fun w:World=>w.cell? ⟨b1,0,none⟩=some (.int .i64 s.i)∧w.cell? ⟨b1,1,none⟩=some (.int .i64 s.j)∧w.cell? ⟨b2,0,none⟩=some (.slice x.a.L W.l.length x.a.lc)∧w.cell? ⟨b2,1,none⟩=some (.slice x.a.R x.a.q.length x.a.rc)∧w.cell? ⟨b2,2,none⟩=some (.slice x.b.L W.m.length x.b.lc)∧w.cell? ⟨b2,3,none⟩=some (.slice x.b.R x.b.q.length x.b.rc)) W':=fun W' h=>by
   obtain ⟨⟨c1,c2,c3,c4⟩,d0,d1,d2,d3⟩:=Zw_cells h
   exact ⟨c1,c2,d0,d1,d2,d3⟩
  have HSW:=hide hSW
  have H1:=hide (H0.out.drew (star_ok Zw_ok (okX 0)))
  have hS0:=HSW.out _ H1.out
  clear hSW c1 c2 c3 c4 d0 d1 d2 d3
  refine wpIn_seq_k ?_
  intro K1 hK1
  refine wpIn_wide.2 (wp_region_lex (fun w:World=>w.cell? ⟨b1,0,none⟩=some (.int .i64 s.i)∧w.cell? ⟨b1,1,none⟩=some (.int .i64 s.j)∧w.cell? ⟨b2,0,none⟩=some (.slice x.a.L W.l.length x.a.lc)∧w.cell? ⟨b2,1,none⟩=some (.slice x.a.R x.a.q.length x.a.rc)∧w.cell? ⟨b2,2,none⟩=some (.slice x.b.L W.m.length x.b.lc)∧w.cell? ⟨b2,3,none⟩=some (.slice x.b.R x.b.q.length x.b.rc)) (by kernel_rfl) (by kernel_rfl) hS0 ?_)
  clear hS0
  (repeat ((first | refine lex_skip (by rfl) ?_ | (refine lex_read (v:=?_) (by rfl) ?_ ?_;rotate_left;(focus (intro w' hS';go_simp;(try with_reducible rfl);done))));try simp only [Act.put,List.setIfInBounds_toArray,List.set_cons_zero,List.set_cons_succ]))
  refine lex_chain rfl (by rfl) (fun K hK=>?_)
  go_wp2_with fail
  clear H1
  have H2:=hide ((run_new H0.out (star_ok Zw_ok (okX 0)) #[.slice none 0 0,.slice none 0 0] 167).drew (star_ok cell_ok (star_ok Zw_ok (okX 0))))
  generalize (w.alloc (.cells #[.slice none 0 0,.slice none 0 0] 167)).drew=w2 at *
  generalize w.heap.size=g5 at *
  refine hK.out _ _ (HSW.out _ H2.out.drop) ?_
  clear hK
  obtain ⟨f5,hf5⟩:=H2.out.fst
  have y0:=cell_at (i:=0) hf5 rfl
  have y1:=cell_at (i:=1) hf5 rfl
  have yf:=cell_free hf5
  clear hf5
  (repeat ((first | refine lex_skip (by rfl) ?_ | (refine lex_read (v:=?_) (by rfl) ?_ ?_;rotate_left;(focus (intro w' hS';go_simp;(try with_reducible rfl);done))));try simp only [Act.put,List.setIfInBounds_toArray,List.set_cons_zero,List.set_cons_succ]))
  refine lex_chain rfl (by rfl) (fun K hK=>?_)
  go_wp2_with fail
  have H3:=hide (run_set2 H2.out (star_ok Zw_ok (okX 0)) (.slice x.b.L W.m.length x.b.lc) (.slice x.b.R x.b.q.length x.b.rc))
  clear H2 y0 y1 yf
  generalize (w2.setCell ⟨g5,0,none⟩ (.slice x.b.L W.m.length x.b.lc)).setCell ⟨g5,1,none⟩ (.slice x.b.R x.b.q.length x.b.rc)=w3 at *
  refine hK.out _ _ (HSW.out _ H3.out.drop) ?_
  clear hK
  (repeat ((first | refine lex_skip (by rfl) ?_ | (refine lex_read (v:=?_) (by rfl) ?_ ?_;rotate_left;(focus (intro w' hS';go_simp;(try with_reducible rfl);done))));try simp only [Act.put,List.setIfInBounds_toArray,List.set_cons_zero,List.set_cons_succ]))
  refine lex_nil ?_
  refine hK1 _ _ ?_
  clear hK1 K1
  gi_step
  refine wpIn_seq_k ?_
  intro K3 hK3
  have cut2:∀ (w:World) (h30 h31 h32 h33 h34 h35 h36 h37 h38:Value),Run F0 w0 (star (CellO g5 #[.slice (x.at lf).L (lsA W lf).length (x.at lf).lc,.slice (x.at lf).R (x.at lf).q.length (x.at lf).rc] 167) (star (Zw W x s b1 b2) (X 0))) w→K3 { tmps:=#[.func (.yield lo) #[] #[],.pointer (some ⟨b1,0,none⟩),.pointer (some ⟨b2,0,none⟩),undef,.bool lf,.pointer (some ⟨g5,0,none⟩),.int .i64 (kA s lf:Nat),undef,undef,undef,undef,undef,undef,undef,g14,g15,g16,g17,g18,g19,g20,g21,g22,g23,g24,g25,g26,g27,g28,g29,h30,h31,h32,h33,h34,h35,h36,h37,h38,undef,undef,undef,undef,undef,undef,undef,undef,undef,undef,undef,undef,undef,undef,undef,undef,undef,undef,undef,undef,undef,undef,undef,undef,undef,undef,undef,undef,undef,undef,undef,undef,undef,undef,undef,undef,undef,undef,undef,undef,undef,undef,undef,undef,undef,undef,undef,undef,undef,undef,undef,undef,undef,undef,undef,undef,undef,undef,undef,undef,undef,undef,undef,undef,undef,undef,undef,undef,undef,undef],defers:=[] } w:=by
   intro w h30 h31 h32 h33 h34 h35 h36 h37 h38 hR
   have HR0:=hide hR
   refine hK3 _ _ ?_
   clear hK3 K3 hR HSW H0 H3
   have HRA:=hide (fun W' (hm:Mod F0 w0 W')=>(HE.out W' hm).at lf)
   obtain ⟨hq6,hlc,hl6,hf6⟩:=HW.out.at lf
   have HQ6:=hide hq6
   have HLC:=hide hlc
   have HL6:=hide hl6
   have HF6:=hide hf6
   have HKL:=hide (kA_le HS.out lf)
   have HN1:=hide (fun k hk h=>amvs_noFit (x:=x) (k:=k) HL.out hk h)
   have HN2:=hide (fun k hk h=>amvs_noAh (x:=x) (k:=k) HL.out hk h)
   have HY1:=hide (fun k hk h z hz=>amvs_yes (x:=x) (k:=k) HL.out hk h (z:=z) hz)
   have HAL:=hide (amvs_all2 (x:=x) HL.out)
   clear hq6 hlc hl6 hf6
   have hsi:(s.i:Int)≤1000000:=by have:=HS.out.1;have:=HW.out.l6;omega
   have hsj:(s.j:Int)≤1000000:=by have:=HS.out.2.1;have:=HW.out.m6;omega
   generalize x.at lf=y at *
   generalize kA s lf=at0 at *
   generalize lsA W lf=ls at *
   obtain ⟨f5,hf5⟩:=HR0.out.fst
   have y0:=cell_at (i:=0) hf5 rfl
   have y1:=cell_at (i:=1) hf5 rfl
   clear hf5 f5
   gi_wp2
   gi_loopw [42] (fun i wr=>∃ k:Nat,k≤y.q.length∧i=.int .i64 k∧Run F0 w0 (star (CellO g5 #[.slice y.L ls.length y.lc,.slice y.R y.q.length y.rc] 167) (star (Zw W x s b1 b2) (X (amvs W x s k).length))) wr) (fun i _=>y.q.length - (intOf i).toNat)
   case atStart=>exact ⟨0,Nat.zero_le _,rfl,HR0.out⟩
   case round =>
    obtain ⟨k,hk,rfl,hR⟩:=hrel
    have HR:=hide hR
    clear HR0 hR y0 y1
    obtain ⟨f5,hf5⟩:=HR.out.fst
    have y0:=cell_at (i:=0) hf5 rfl
    have y1:=cell_at (i:=1) hf5 rfl
    clear hf5 f5
    by_cases hlt:k < y.q.length
    ·obtain ⟨PL,PR,PF⟩:=HRA.out wr HR.out.mod
     obtain ⟨b,o,hA,hc⟩:=Rst.at (R:=acells) (fun _=>rfl) (by omega) PR (by omega)
     have r0:=hc wr (Below.refl _ _) k hlt 0 _ rfl
     have r1:=hc wr (Below.refl _ _) k hlt 1 _ rfl
     have r2:=hc wr (Below.refl _ _) k hlt 2 _ rfl
     have r3:=hc wr (Below.refl _ _) k hlt 3 _ rfl
     have HK1:=hide (show k+1≤y.q.length from hlt)
     have HN1k:=hide (HN1.out k hlt)
     have HN2k:=hide (HN2.out k hlt)
     have HYk:=hide (HY1.out k hlt)
     have HPF:=hide (PF _ (List.getElem_mem hlt))
     have HF6k:=hide (HF6.out _ (List.getElem_mem hlt))
     have HPL:=hide PL
     have hkb:(k:Int) < 1000000:=by have:=HQ6.out;omega
     clear hc PL PR PF
     have okZX:=hide (star_ok Zw_ok (okX (amvs W x s k).length):(star (Zw W x s b1 b2) (X (amvs W x s k).length)).Ok)
     generalize y.q[k]=ra at *
     obtain ⟨⟨ix,rc0,rf,rt⟩,rA,rc⟩:=ra
     dsimp only at HN1k HN2k HYk HPF HF6k
     simp only [Nat.add_zero] at r0
     dsimp only at r0 r1 r2 r3
     rw [hA]
     iterate 32 (first | go_values | gi_guarded | gi_step | gi_upon)
     have okC:=hide (star_ok cell_ok okZX.out:(star (CellO g5 #[.slice y.L ls.length y.lc,.slice y.R y.q.length y.rc] 167) (star (Zw W x s b1 b2) (X (amvs W x s k).length))).Ok)
     have H1:=hide (run_new HR.out okC.out #[.int .i64 (ix:Nat),.int .i64 rc0,.slice rA rf.length rc,.string (bs rt)] 181)
     have KF:=hide (fits_any (w:=wr.alloc (.cells #[.int .i64 (ix:Nat),.int .i64 rc0,.slice rA rf.length rc,.string (bs rt)] 181)) (R:=y.R) (rn:=y.q.length) (rc:=y.rc) (lc:=y.lc) (fc:=rc) (r:=⟨ix,rc0,rf,rt⟩) (HPL.out.below ((Below.refl _ _).alloc (Nat.le_refl _) _)) (HPF.out.below ((Below.refl _ _).alloc (Nat.le_refl _) _)) HKL.out HLC.out HL6.out HF6k.out.1)
     have HA:=hide hA
     clear r0 r1 r2 r3 y0 y1 HPL HPF HR hA
     generalize wr.alloc (.cells #[.int .i64 (ix:Nat),.int .i64 rc0,.slice rA rf.length rc,.string (bs rt)] 181)=w1 at *
     generalize wr.heap.size=h8 at *
     obtain ⟨x0,x1,x2,x3,xf⟩:=run_c4 H1.out
     obtain ⟨f5,hf5⟩:=H1.out.drop.fst
     have y0:=cell_at (i:=0) hf5 rfl
     have y1:=cell_at (i:=1) hf5 rfl
     clear hf5 f5
     dsimp only at KF
     gi_wp2_with fail
     refine ⟨trivial,fun h=>(by cases h),?_⟩
     gi_at_call 127
     refine (callsIn_wide.2 KF.out).mono ?_
     rintro e9 w9 ⟨rfl,hb9⟩
     have H2:=hide (H1.out.below (star_ok cell_ok okC.out) hb9)
     clear KF hb9 H1 x0 x1 x2 x3 xf y0 y1
     dsimp only
     by_cases hfit:fitsA ls ⟨ix,rc0,rf,rt⟩ at0=true
     ·rw [hfit]
      have HFT:=hide hfit
      clear hfit HN1k
      obtain ⟨⟨c1,c2,c3,c4⟩,-⟩:=Zw_cells H2.out.drop.drop
      obtain ⟨x0,x1,x2,x3,xf⟩:=run_c4 H2.out
      iterate 38 (first | go_values | gi_guarded | gi_step | gi_upon)
      have okD:=hide (star_ok cell_ok okC.out:(star (CellO h8 #[.int .i64 (ix:Nat),.int .i64 rc0,.slice rA rf.length rc,.string (bs rt)] 181) (star (CellO g5 #[.slice y.L ls.length y.lc,.slice y.R y.q.length y.rc] 167) (star (Zw W x s b1 b2) (X (amvs W x s k).length)))).Ok)
      have H3:=hide (run_new H2.out okD.out #[.int .i64 s.i,.int .i64 s.j,.string ⟨#[]⟩,.bool false] 175)
      clear H2 c1 c2 c3 c4 x0 x1 x2 x3 xf
      generalize w9.alloc (.cells #[.int .i64 s.i,.int .i64 s.j,.string ⟨#[]⟩,.bool false] 175)=w3 at *
      generalize w9.heap.size=h9 at *
      gi_step
      rename_i Kj hKj Kc hKc
      have cut3:∀ (w:World) (v44 v45 v46 v47 v48 v49 v50 v51 v52 v53 v54 v55 v56 v57 v58 v59 v60 v61 v62 v63 v64 v65 v66 v67 v68 v69 v70:Value),Run F0 w0 (star (CellO h9 #[.int .i64 (iN s lf rf.length:Nat),.int .i64 (jN s lf rf.length:Nat),.string ⟨#[]⟩,.bool false] 175) (star (CellO h8 #[.int .i64 (ix:Nat),.int .i64 rc0,.slice rA rf.length rc,.string (bs rt)] 181) (star (CellO g5 #[.slice y.L ls.length y.lc,.slice y.R y.q.length y.rc] 167) (star (Zw W x s b1 b2) (X (amvs W x s k).length))))) w→Kj { tmps:=#[.func (.yield lo) #[] #[],.pointer (some ⟨b1,0,none⟩),.pointer (some ⟨b2,0,none⟩),undef,.bool lf,.pointer (some ⟨g5,0,none⟩),.int .i64 (at0:Nat),undef,.pointer (some ⟨h8,0,none⟩),.pointer (some ⟨h9,0,none⟩),u10,u11,u12,u13,g14,g15,g16,g17,g18,g19,g20,g21,g22,g23,g24,g25,g26,g27,g28,g29,h30,h31,h32,h33,h34,h35,h36,h37,h38,.pointer (some ⟨g5,1,none⟩),.slice (some ⟨b,o,none⟩) y.q.length y.rc,.int .i64 (y.q.length:Nat),.int .i64 (k:Nat),.bool true,v44,v45,v46,v47,v48,v49,v50,v51,v52,v53,v54,v55,v56,v57,v58,v59,v60,v61,v62,v63,v64,v65,v66,v67,v68,v69,v70,u71,u72,u73,u74,u75,u76,u77,u78,u79,u80,u81,u82,u83,u84,u85,u86,u87,u88,u89,u90,u91,u92,u93,u94,u95,u96,u97,u98,u99,u100,u101,u102,u103,u104,u105,u106,u107,u108],defers:=[] } w:=by
       intro w v44 v45 v46 v47 v48 v49 v50 v51 v52 v53 v54 v55 v56 v57 v58 v59 v60 v61 v62 v63 v64 v65 v66 v67 v68 v69 v70 hR
       have H4:=hide hR
       refine hKj _ _ ?_
       clear hKj hKc Kc Kj H3 hR hsi hsj
       have HYf:=hide (HYk.out HFT.out)
       clear HYk HFT
       generalize iN s lf rf.length=ni at *
       generalize jN s lf rf.length=nj at *
       obtain ⟨⟨c1,c2,c3,c4⟩,-⟩:=Zw_cells H4.out.drop.drop.drop
       obtain ⟨x0,x1,x2,x3,xf⟩:=run_c4 H4.out.drop
       obtain ⟨z0,z1,z2,z3,zf⟩:=run_c4 H4.out
       have KC:=hide (cutp_any s.a rt w)
       gi_wp2_with fail
       by_cases h1:rt.isPrefixOf s.a=true
       ·have HZ:=hide (HYf.out _ (ahA_1 h1))
        rw [if_pos h1,h1] at KC
        clear h1 HN2k HYf
        generalize s.a.drop rt.length=q at *
        cases hr:s.r with
        | false =>
         rw [hr,Bool.false_and] at HZ
         rw [hr] at c4
         clear hr
         refine ⟨trivial,fun h=>(by cases h),?_⟩
         gi_at_call 128
         refine (callsIn_wide.2 KC.out).mono ?_
         rintro e10 w10 ⟨rfl,h10⟩
         subst w10
         clear KC
         dsimp only
         iterate 28 (first | go_values | gi_guarded | gi_step | gi_upon)
         refine wpIn_wide.2 ?_
         go_wp2
         have H7:=hide (run_setc (run_setc H4.out okD.out 2 (.string (bs q))) okD.out 3 (.bool false):Run F0 w0 (star (CellO h9 #[.int .i64 (ni:Nat),.int .i64 (nj:Nat),.string (bs q),.bool false] 175) _) _)
         clear H4 z0 z1 z2 z3 zf x0 x1 x2 x3 xf c1 c2 c3 c4
         generalize (w.setCell ⟨h9,2,none⟩ (.string (bs q))).setCell ⟨h9,3,none⟩ (.bool false)=w7 at *
         obtain ⟨z0,z1,z2,z3,zf⟩:=run_c4 H7.out
         obtain ⟨x0,x1,x2,x3,xf⟩:=run_c4 H7.out.drop
         obtain ⟨hM,hi,hx⟩:=HZ.out
         have HM:=hide hM
         have hw:=HY.out (star (CellO g5 #[.slice y.L ls.length y.lc,.slice y.R y.q.length y.rc] 167) (Zw W x s b1 b2)) (star_ok cell_ok Zw_ok) _ hi w7 (H7.out.drop.drop.perm (by ac_rfl))
         rw [hx] at hw
         clear hM HZ
         simp only [encA,stC,acells] at hw
         obtain ⟨fn,tmps,assign,body,hy,hround⟩:=hw
         have HRD:=hide hround
         clear hround hx hi
         gi_wp2
         try rw [hy]
         refine ⟨fun h=>(by cases h),?_⟩
         refine HRD.out.mono ?_
         rintro e W3 (⟨rfl,h3⟩ | ⟨rfl,h3⟩)
         ·have H8:=hide (h3.perm (by ac_rfl:_=star (CellO g5 #[.slice y.L ls.length y.lc,.slice y.R y.q.length y.rc] 167) (star (Zw W x s b1 b2) (X ((amvs W x s k).length+1)))))
          clear HRD h3 hy H7 z0 z1 z2 z3 zf x0 x1 x2 x3 xf
          gi_wp2
          go_roundw
          case rel=>exact ⟨k+1,HK1.out,by go_num,by rw [HM.out,List.length_append,←HA.out];exact H8.out⟩
          case measure=>have:=HK1.out;simp [intOf];omega
         ·have HE2:=hide (show (∃ v,(Ending.returned (.tuple #[]))=.returned v)∧∃ Z:CH.Own,Z.Ok∧(Run F0 w0 (star Z (X (amovR W x s).length)) W3∨Run F0 w0 (star Z Y) W3) from ⟨⟨_,rfl⟩,_,star_ok cell_ok Zw_ok,.inr h3⟩)
          clear HRD h3 hy H7 z0 z1 z2 z3 zf x0 x1 x2 x3 xf
          gi_wp2
          refine bodyPost_ret (results_none rfl _ _ _) rfl ?_
          exact HE2.out
        | true =>
         rw [hr,Bool.true_and] at HZ
         rw [hr] at c4
         clear hr
         by_cases hq:q=[]
         ·have e2:(bs q).toList.isEmpty=true:=by rw [List.isEmpty_iff];exact bs_empty.2 hq
          rw [decide_eq_false (fun h=>h hq)] at HZ
          clear hq
          refine ⟨trivial,fun h=>(by cases h),?_⟩
          gi_at_call 128
          refine (callsIn_wide.2 KC.out).mono ?_
          rintro e10 w10 ⟨rfl,h10⟩
          subst w10
          clear KC
          dsimp only
          iterate 28 (first | go_values | gi_guarded | gi_step | gi_upon)
          refine wpIn_wide.2 ?_
          go_wp2
          have H7:=hide (run_setc (run_setc H4.out okD.out 2 (.string (bs q))) okD.out 3 (.bool false):Run F0 w0 (star (CellO h9 #[.int .i64 (ni:Nat),.int .i64 (nj:Nat),.string (bs q),.bool false] 175) _) _)
          clear H4 z0 z1 z2 z3 zf x0 x1 x2 x3 xf c1 c2 c3 c4
          generalize (w.setCell ⟨h9,2,none⟩ (.string (bs q))).setCell ⟨h9,3,none⟩ (.bool false)=w7 at *
          obtain ⟨z0,z1,z2,z3,zf⟩:=run_c4 H7.out
          obtain ⟨x0,x1,x2,x3,xf⟩:=run_c4 H7.out.drop
          obtain ⟨hM,hi,hx⟩:=HZ.out
          have HM:=hide hM
          have hw:=HY.out (star (CellO g5 #[.slice y.L ls.length y.lc,.slice y.R y.q.length y.rc] 167) (Zw W x s b1 b2)) (star_ok cell_ok Zw_ok) _ hi w7 (H7.out.drop.drop.perm (by ac_rfl))
          rw [hx] at hw
          clear hM HZ
          simp only [encA,stC,acells] at hw
          obtain ⟨fn,tmps,assign,body,hy,hround⟩:=hw
          have HRD:=hide hround
          clear hround hx hi
          gi_wp2
          try rw [hy]
          refine ⟨fun h=>(by cases h),?_⟩
          refine HRD.out.mono ?_
          rintro e W3 (⟨rfl,h3⟩ | ⟨rfl,h3⟩)
          ·have H8:=hide (h3.perm (by ac_rfl:_=star (CellO g5 #[.slice y.L ls.length y.lc,.slice y.R y.q.length y.rc] 167) (star (Zw W x s b1 b2) (X ((amvs W x s k).length+1)))))
           clear HRD h3 hy H7 z0 z1 z2 z3 zf x0 x1 x2 x3 xf
           gi_wp2
           go_roundw
           case rel=>exact ⟨k+1,HK1.out,by go_num,by rw [HM.out,List.length_append,←HA.out];exact H8.out⟩
           case measure=>have:=HK1.out;simp [intOf];omega
          ·have HE2:=hide (show (∃ v,(Ending.returned (.tuple #[]))=.returned v)∧∃ Z:CH.Own,Z.Ok∧(Run F0 w0 (star Z (X (amovR W x s).length)) W3∨Run F0 w0 (star Z Y) W3) from ⟨⟨_,rfl⟩,_,star_ok cell_ok Zw_ok,.inr h3⟩)
           clear HRD h3 hy H7 z0 z1 z2 z3 zf x0 x1 x2 x3 xf
           gi_wp2
           refine bodyPost_ret (results_none rfl _ _ _) rfl ?_
           exact HE2.out
         ·have e2:(bs q).toList.isEmpty=false:=by rw [List.isEmpty_eq_false_iff];exact fun h=>hq (bs_empty.1 h)
          rw [decide_eq_true hq] at HZ
          clear hq
          refine ⟨trivial,fun h=>(by cases h),?_⟩
          gi_at_call 128
          refine (callsIn_wide.2 KC.out).mono ?_
          rintro e10 w10 ⟨rfl,h10⟩
          subst w10
          clear KC
          dsimp only
          iterate 28 (first | go_values | gi_guarded | gi_step | gi_upon)
          refine wpIn_wide.2 ?_
          go_wp2
          have H7:=hide (run_setc (run_setc H4.out okD.out 2 (.string (bs q))) okD.out 3 (.bool true):Run F0 w0 (star (CellO h9 #[.int .i64 (ni:Nat),.int .i64 (nj:Nat),.string (bs q),.bool true] 175) _) _)
          clear H4 z0 z1 z2 z3 zf x0 x1 x2 x3 xf c1 c2 c3 c4
          generalize (w.setCell ⟨h9,2,none⟩ (.string (bs q))).setCell ⟨h9,3,none⟩ (.bool true)=w7 at *
          obtain ⟨z0,z1,z2,z3,zf⟩:=run_c4 H7.out
          obtain ⟨x0,x1,x2,x3,xf⟩:=run_c4 H7.out.drop
          obtain ⟨hM,hi,hx⟩:=HZ.out
          have HM:=hide hM
          have hw:=HY.out (star (CellO g5 #[.slice y.L ls.length y.lc,.slice y.R y.q.length y.rc] 167) (Zw W x s b1 b2)) (star_ok cell_ok Zw_ok) _ hi w7 (H7.out.drop.drop.perm (by ac_rfl))
          rw [hx] at hw
          clear hM HZ
          simp only [encA,stC,acells] at hw
          obtain ⟨fn,tmps,assign,body,hy,hround⟩:=hw
          have HRD:=hide hround
          clear hround hx hi
          gi_wp2
          try rw [hy]
          refine ⟨fun h=>(by cases h),?_⟩
          refine HRD.out.mono ?_
          rintro e W3 (⟨rfl,h3⟩ | ⟨rfl,h3⟩)
          ·have H8:=hide (h3.perm (by ac_rfl:_=star (CellO g5 #[.slice y.L ls.length y.lc,.slice y.R y.q.length y.rc] 167) (star (Zw W x s b1 b2) (X ((amvs W x s k).length+1)))))
           clear HRD h3 hy H7 z0 z1 z2 z3 zf x0 x1 x2 x3 xf
           gi_wp2
           go_roundw
           case rel=>exact ⟨k+1,HK1.out,by go_num,by rw [HM.out,List.length_append,←HA.out];exact H8.out⟩
           case measure=>have:=HK1.out;simp [intOf];omega
          ·have HE2:=hide (show (∃ v,(Ending.returned (.tuple #[]))=.returned v)∧∃ Z:CH.Own,Z.Ok∧(Run F0 w0 (star Z (X (amovR W x s).length)) W3∨Run F0 w0 (star Z Y) W3) from ⟨⟨_,rfl⟩,_,star_ok cell_ok Zw_ok,.inr h3⟩)
           clear HRD h3 hy H7 z0 z1 z2 z3 zf x0 x1 x2 x3 xf
           gi_wp2
           refine bodyPost_ret (results_none rfl _ _ _) rfl ?_
           exact HE2.out
       ·by_cases h3:s.a.isPrefixOf rt=true
        ·have HZ:=hide (HYf.out _ (ahA_2 h1 h3))
         rw [HL.out] at HZ
         rw [if_neg h1,Bool.eq_false_iff.2 h1] at KC
         clear h1 HN2k HYf
         refine ⟨trivial,fun h=>(by cases h),?_⟩
         gi_at_call 128
         refine (callsIn_wide.2 KC.out).mono ?_
         rintro e10 w10 ⟨rfl,h10⟩
         subst w10
         clear KC
         dsimp only
         gi_wp2_with fail
         have KD:=hide (cutp_any rt s.a w)
         rw [if_pos h3,h3] at KD
         clear h3
         generalize rt.drop s.a.length=q at *
         refine ⟨trivial,fun h=>(by cases h),?_⟩
         gi_at_call 128
         refine (callsIn_wide.2 KD.out).mono ?_
         rintro e10 w10 ⟨rfl,h10⟩
         subst w10
         clear KD
         dsimp only
         iterate 28 (first | go_values | gi_guarded | gi_step | gi_upon)
         refine wpIn_wide.2 ?_
         go_wp2
         have H7:=hide (run_setc (run_setc H4.out okD.out 2 (.string (bs q))) okD.out 3 (.bool (!lf)):Run F0 w0 (star (CellO h9 #[.int .i64 (ni:Nat),.int .i64 (nj:Nat),.string (bs q),.bool (!lf)] 175) _) _)
         clear H4 z0 z1 z2 z3 zf x0 x1 x2 x3 xf c1 c2 c3 c4
         generalize (w.setCell ⟨h9,2,none⟩ (.string (bs q))).setCell ⟨h9,3,none⟩ (.bool (!lf))=w7 at *
         obtain ⟨z0,z1,z2,z3,zf⟩:=run_c4 H7.out
         obtain ⟨x0,x1,x2,x3,xf⟩:=run_c4 H7.out.drop
         obtain ⟨hM,hi,hx⟩:=HZ.out
         have HM:=hide hM
         have hw:=HY.out (star (CellO g5 #[.slice y.L ls.length y.lc,.slice y.R y.q.length y.rc] 167) (Zw W x s b1 b2)) (star_ok cell_ok Zw_ok) _ hi w7 (H7.out.drop.drop.perm (by ac_rfl))
         rw [hx] at hw
         clear hM HZ
         simp only [encA,stC,acells] at hw
         obtain ⟨fn,tmps,assign,body,hy,hround⟩:=hw
         have HRD:=hide hround
         clear hround hx hi
         gi_wp2
         try rw [hy]
         refine ⟨fun h=>(by cases h),?_⟩
         refine HRD.out.mono ?_
         rintro e W3 (⟨rfl,h3⟩ | ⟨rfl,h3⟩)
         ·have H8:=hide (h3.perm (by ac_rfl:_=star (CellO g5 #[.slice y.L ls.length y.lc,.slice y.R y.q.length y.rc] 167) (star (Zw W x s b1 b2) (X ((amvs W x s k).length+1)))))
          clear HRD h3 hy H7 z0 z1 z2 z3 zf x0 x1 x2 x3 xf
          gi_wp2
          go_roundw
          case rel=>exact ⟨k+1,HK1.out,by go_num,by rw [HM.out,List.length_append,←HA.out];exact H8.out⟩
          case measure=>have:=HK1.out;simp [intOf];omega
         ·have HE2:=hide (show (∃ v,(Ending.returned (.tuple #[]))=.returned v)∧∃ Z:CH.Own,Z.Ok∧(Run F0 w0 (star Z (X (amovR W x s).length)) W3∨Run F0 w0 (star Z Y) W3) from ⟨⟨_,rfl⟩,_,star_ok cell_ok Zw_ok,.inr h3⟩)
          clear HRD h3 hy H7 z0 z1 z2 z3 zf x0 x1 x2 x3 xf
          gi_wp2
          refine bodyPost_ret (results_none rfl _ _ _) rfl ?_
          exact HE2.out
        ·have HN0:=hide (HN2k.out (ahA_3 h1 h3))
         rw [if_neg h1,Bool.eq_false_iff.2 h1] at KC
         have KD:=hide (cutp_any rt s.a w)
         rw [if_neg h3,Bool.eq_false_iff.2 h3] at KD
         clear h1 h3 HN2k HYf
         refine ⟨trivial,fun h=>(by cases h),?_⟩
         gi_at_call 128
         refine (callsIn_wide.2 KC.out).mono ?_
         rintro e10 w10 ⟨rfl,h10⟩
         subst w10
         clear KC
         dsimp only
         gi_wp2_with fail
         refine ⟨trivial,fun h=>(by cases h),?_⟩
         gi_at_call 128
         refine (callsIn_wide.2 KD.out).mono ?_
         rintro e10 w10 ⟨rfl,h10⟩
         subst w10
         clear KD
         dsimp only
         gi_wp2
         go_roundw
         case rel=>exact ⟨k+1,HK1.out,by go_num,by rw [HN0.out,←HA.out];exact H4.out.drop.drop⟩
         case measure=>have:=HK1.out;simp [intOf];omega
      have HC3:=hide cut3
      clear cut3 hKj
      have HKc:=hide hKc
      clear hKc
      obtain ⟨z0,z1,z2,z3,zf⟩:=run_c4 H3.out
      obtain ⟨x0,x1,x2,x3,xf⟩:=run_c4 H3.out.drop
      have hfl:=HF6k.out.1
      refine wpIn_wide.2 ?_
      cases lf with
      | false =>
       have eN:((iN s false rf.length:Nat):Int)=(s.i:Int):=rfl
       have eM:((jN s false rf.length:Nat):Int)=(s.j:Int)+(rf.length:Int):=by simp [jN]
       rw [eN,eM] at HC3
       clear eN eM
       go_wp2
       refine HKc.out _ _ ?_
       refine wpIn_wide.2 ?_
       go_wp2
       exact HC3.out _ _ _ _ _ _ _ _ _ _ _ _ _ _ _ _ _ _ _ _ _ _ _ _ _ _ _ _ (run_setc H3.out okD.out 1 _)
      | true =>
       have eN:((iN s true rf.length:Nat):Int)=(s.i:Int)+(rf.length:Int):=by simp [iN]
       have eM:((jN s true rf.length:Nat):Int)=(s.j:Int):=rfl
       rw [eN,eM] at HC3
       clear eN eM
       go_wp2
       refine HKc.out _ _ ?_
       refine wpIn_wide.2 ?_
       go_wp2
       exact HC3.out _ _ _ _ _ _ _ _ _ _ _ _ _ _ _ _ _ _ _ _ _ _ _ _ _ _ _ _ (run_setc H3.out okD.out 0 _)
     ·have HN0:=hide (HN1k.out (Bool.eq_false_iff.2 hfit))
      rw [Bool.eq_false_iff.2 hfit]
      clear hfit HN1k
      gi_wp2
      go_roundw
      case rel=>exact ⟨k+1,HK1.out,by go_num,by rw [HN0.out,←HA.out];exact H2.out.drop⟩
      case measure=>have:=HK1.out;simp [intOf];omega
    ·obtain rfl:k=y.q.length:=by omega
     have HEND:=hide (show (∃ v,(Ending.returned (.tuple #[]))=.returned v)∧∃ Z:CH.Own,Z.Ok∧(Run F0 w0 (star Z (X (amovR W x s).length)) wr∨Run F0 w0 (star Z Y) wr) from ⟨⟨_,rfl⟩,_,star_ok cell_ok Zw_ok,.inl (by rw [←HAL.out];exact HR.out.perm (by ac_rfl))⟩)
     gi_wp2
     go_end0
     exact HEND.out
  have HC2:=hide cut2
  clear cut2 hK3
  clear HE HY HS HW ha
  cases lf with
  | false =>
   clear HL
   refine wpIn_wide.2 ?_
   go_wp2
   exact HC2.out _ _ _ _ _ _ _ _ _ _ H3.out
  | true =>
   clear HL
   refine wpIn_wide.2 ?_
   go_wp2_with fail
   have H4:=hide (H3.out.drew (star_ok cell_ok (star_ok Zw_ok (okX 0))))
   have hS0:=HSW.out _ H4.out.drop
   refine wp_region_lex (fun w:World=>w.cell? ⟨b1,0,none⟩=some (.int .i64 s.i)∧w.cell? ⟨b1,1,none⟩=some (.int .i64 s.j)∧w.cell? ⟨b2,0,none⟩=some (.slice x.a.L W.l.length x.a.lc)∧w.cell? ⟨b2,1,none⟩=some (.slice x.a.R x.a.q.length x.a.rc)∧w.cell? ⟨b2,2,none⟩=some (.slice x.b.L W.m.length x.b.lc)∧w.cell? ⟨b2,3,none⟩=some (.slice x.b.R x.b.q.length x.b.rc)) (by kernel_rfl) (by kernel_rfl) hS0 ?_
   clear hS0 H3
   generalize w3.drew=w4 at *
   (repeat ((first | refine lex_skip (by rfl) ?_ | (refine lex_read (v:=?_) (by rfl) ?_ ?_;rotate_left;(focus (intro w' hS';go_simp;(try with_reducible rfl);done))));try simp only [Act.put,List.setIfInBounds_toArray,List.set_cons_zero,List.set_cons_succ]))
   refine lex_chain rfl (by rfl) (fun K hK=>?_)
   obtain ⟨f5,hf5⟩:=H4.out.fst
   have y0:=cell_at (i:=0) hf5 rfl
   have y1:=cell_at (i:=1) hf5 rfl
   have yf:=cell_free hf5
   clear hf5
   go_wp2_with fail
   have H5:=hide (run_set2 H4.out (star_ok Zw_ok (okX 0)) (.slice x.a.L W.l.length x.a.lc) (.slice x.a.R x.a.q.length x.a.rc))
   clear H4 y0 y1 yf
   generalize (w4.setCell ⟨g5,0,none⟩ (.slice x.a.L W.l.length x.a.lc)).setCell ⟨g5,1,none⟩ (.slice x.a.R x.a.q.length x.a.rc)=w5 at *
   refine hK.out _ _ (HSW.out _ H5.out.drop) ?_
   clear hK
   (repeat ((first | refine lex_skip (by rfl) ?_ | (refine lex_read (v:=?_) (by rfl) ?_ ?_;rotate_left;(focus (intro w' hS';go_simp;(try with_reducible rfl);done))));try simp only [Act.put,List.setIfInBounds_toArray,List.set_cons_zero,List.set_cons_succ]))
   refine lex_nil ?_
   exact HC2.out _ _ _ _ _ _ _ _ _ _ H5.out
 have HC:=hide cut
 clear cut hK0
 cases hr:s.r with
 | true =>
  have hl:W.left s=true:=by unfold Wd.left;rw [hr];rfl
  have HL:=hide hl
  rw [hr] at c4
  clear hl hr
  refine wpIn_wide.2 ?_
  go_wp2
  exact HC.out true _ _ _ _ _ _ _ _ _ _ _ _ _ _ _ _ HL.out
 | false =>
  rw [hr] at c4
  by_cases he:s.a=[]
  ·have he2:(bs s.a).toList.isEmpty=true:=by rw [List.isEmpty_iff];exact bs_empty.2 he
   by_cases hi:s.i=W.l.length
   ·have hl:W.left s=false:=by unfold Wd.left;rw [hr];simp [hi]
    have HL:=hide hl
    have hi2:decide (s.i < W.l.length)=false:=decide_eq_false (by omega)
    clear hl hi he hr
    gi_wp2
    exact HC.out false _ _ _ _ _ _ _ _ _ _ _ _ _ _ _ _ HL.out
   ·have hl:W.left s=true:=by unfold Wd.left;rw [hr];simp [hi,he]
    have HL:=hide hl
    have hi2:decide (s.i < W.l.length)=true:=decide_eq_true (by have:=HS.out.1;omega)
    clear hl hi he hr
    gi_wp2
    exact HC.out true _ _ _ _ _ _ _ _ _ _ _ _ _ _ _ _ HL.out
  ·have he2:(bs s.a).toList.isEmpty=false:=by rw [List.isEmpty_eq_false_iff];exact fun h=>he (bs_empty.1 h)
   have hl:W.left s=false:=by unfold Wd.left;rw [hr];simp [he]
   have HL:=hide hl
   clear hl he hr
   gi_wp2
   exact HC.out false _ _ _ _ _ _ _ _ _ _ _ _ _ _ _ _ HL.out
end Go.Proofs.YtbnnlpjpnihheaaGreatDoor
namespace Go.Proofs.YtbnnlpjpnihheaaGreatDoor
open Go.RowKit Go.CH Go.CH.Scr Go.CH.Pot
open Go.ChangeMaps (setBlock)
attribute [local go_sem] Oper.semAt_some
set_option maxHeartbeats 6400000 in
set_option maxRecDepth 100000 in
theorem walk_n {W:Wd} {x:WA} {b bm bw bf:Nat} {F0:Nat→Prop} {w0:World} (hE:∀ W',Mod F0 w0 W'→AwR W x W') (hW:AwS W x) (hg:W.good) (ht:W.tosOk) (hm:MovA W x) :
  ∀ (n:Nat) (s:St) (L:List (St × Int)) (X:CH.Own) (w:World),W.rank s < n→W.ok s→s.a.length≤3→Kn W L→X.Ok→Run F0 w0 (star (StM b L) (star (WkB W x b bm bw bf) X)) w →
  Calls Tryz.prog 125 #[stV s,.pointer (some ⟨bm,0,none⟩),.pointer (some ⟨bw,0,none⟩),.pointer (some ⟨bf,0,none⟩)] w (WkRet W x s L F0 w0 b bm bw bf X):=by
 intro n
 induction n with
 | zero=>intro s L X w h;exact absurd h (Nat.not_lt_zero _)
 | succ n ih =>
 intro s L X w hn hs ha hk hX hR
 have IH:=hide ih
 have HE:=hide hE
 have HW:=hide hW
 have HG:=hide hg
 have HT:=hide ht
 have HN:=hide hn
 have HS:=hide hs
 have HA:=hide ha
 have HK:=hide hk
 have HX:=hide hX
 have HM:=hide hm
 have okB:=hide (star_ok stm_ok (star_ok wkb_ok hX):(star (StM b L) (star (WkB W x b bm bw bf) X)).Ok)
 have h2:Run F0 w0 (star (CellO w.heap.size (stC s) 175) (star (StM b L) (star (WkB W x b bm bw bf) X))) _:=run_new hR okB.out (stC s) 175
 have H2:=hide h2
 clear ih hE hW hg ht hn hs ha hk h2 hR hm
 refine (callsIn_wide (n:=8)).1 ?_
 refine callsIn_of_wp_marks Tryz.func125 rfl trivial ?_ rfl
 simp only [Tryz.ntmps125,List.size_toArray,List.length_cons,List.length_nil,Nat.reduceAdd,Nat.reduceSub,Array.replicate_succ,Array.replicate_zero,List.push_toArray,List.append_toArray,List.nil_append,List.cons_append]
 refine (wpIn_wide (n:=8)).2 ?_
 unfold stV
 unfold stC
 unfold stC at H2
 generalize hW2:w.alloc (.cells #[.int .i64 s.i,.int .i64 s.j,.string (bs s.a),.bool s.r] 175)=w2 at *
 iterate 9 (first | go_values | go_guarded | go_step)
 clear hW2
 generalize w.heap.size=gs at *
 obtain ⟨F,hF⟩:=H2.out.fst
 have c0:=cell_at (i:=0) hF rfl
 have c1:=cell_at (i:=1) hF rfl
 have c2:=cell_at (i:=2) hF rfl
 have c3:=cell_at (i:=3) hF rfl
 clear hF F
 obtain ⟨m0,f0,d0,d1,d2,d3⟩:=wkb_cells H2.out.drop.drop
 obtain ⟨F,hF⟩:=H2.out.drop.fst
 have hlk:=astm_get hF s true
 by_cases hin:s ∈ keysL L
 ·obtain ⟨v,hv⟩:=mem_keys.1 hin
  have hv2:v=W.dist s:=HK.out.val _ hv
  subst hv2
  rw [mget_kn HK.out.nd hv] at hlk
  have hlk2:(Instr.lookup 172 (.map (some b)) (.agg #[.int .i64 s.i,.int .i64 s.j,.string (bs s.a),.bool s.r]) true).run Tryz.prog w2=.ok (.tuple #[.int .i64 (W.dist s),.bool true]) w2:=hlk
  have HF:=hide (show WkRet W x s L F0 w0 b bm bw bf X (.returned (.int .i64 (W.dist s))) w2 from ⟨L,rfl,HK.out,Ext.refl,hin,H2.out.drop⟩)
  clear hlk hF hv hin
  go_wp2
  refine ⟨_,results_tmp rfl _ _ _,?_⟩
  exact HF.out
 ·rw [mget_no hin] at hlk
  have hlk2:(Instr.lookup 172 (.map (some b)) (.agg #[.int .i64 s.i,.int .i64 s.j,.string (bs s.a),.bool s.r]) true).run Tryz.prog w2=.ok (.tuple #[.int .i64 0,.bool false]) w2:=hlk
  have HIN:=hide hin
  clear hlk hF hin
  iterate 56 (first | go_values | go_guarded | go_step)
  have okC:=hide (star_ok cell_ok okB.out:(star (CellO gs #[.int .i64 s.i,.int .i64 s.j,.string (bs s.a),.bool s.r] 175) (star (StM b L) (star (WkB W x b bm bw bf) X))).Ok)
  have H3:=hide (run_new H2.out okC.out #[.int .i64 1099511627776] 3)
  clear H2 c0 c1 c2 c3 m0 f0 d0 d1 d2 d3 hlk2
  generalize w2.alloc (.cells #[.int .i64 1099511627776] 3)=w3 at *
  generalize w2.heap.size=g8 at *
  obtain ⟨c0,c1,c2,c3,-⟩:=run_c4 H3.out.drop
  obtain ⟨m0,f0,d0,d1,d2,d3⟩:=wkb_cells H3.out.drop.drop.drop
  have KD:=hide (done_any (w:=w3) (W:=W) (x:=x) (s:=s))
  unfold wordsC stC at KD
  rename_i Kj hKj
  refine wp_seq_k ?_
  intro Kc hKc
  have cut:∀ (w:World) (g18 g19 g20 g21:Value),Run F0 w0 (star (CellO g8 #[.int .i64 (minF W s 0)] 3) (star (CellO gs (stC s) 175) (star (StM b L) (star (WkB W x b bm bw bf) X)))) w→Kj { tmps:=#[.agg #[.int .i64 s.i,.int .i64 s.j,.string (bs s.a),.bool s.r],.pointer (some ⟨bm,0,none⟩),.pointer (some ⟨bw,0,none⟩),.pointer (some ⟨bf,0,none⟩),.pointer (some ⟨gs,0,none⟩),.int .i64 0,.int .i64 0,.bool false,.pointer (some ⟨g8,0,none⟩),undef,undef,.tuple #[.int .i64 0,.bool false],.map (some b),.agg #[.int .i64 s.i,.int .i64 s.j,.string (bs s.a),.bool s.r],.tuple #[.int .i64 0,.bool false],.int .i64 0,.bool false,.bool false,g18,g19,g20,g21,undef,undef,undef,undef,undef,undef,undef,undef,undef,undef,undef,undef,undef,undef,undef,undef,undef],defers:=[] } w:=by
   intro w g18 g19 g20 g21 hR
   have HR:=hide hR
   refine hKj _ _ ?_
   clear hKj hKc Kc Kj hR H3 KD c0 c1 c2 c3 m0 f0 d0 d1 d2 d3
   have okO:=hide (star_ok cell_ok okC.out:(star (CellO g8 #[.int .i64 (minF W s 0)] 3) (star (CellO gs #[.int .i64 s.i,.int .i64 s.j,.string (bs s.a),.bool s.r] 175) (star (StM b L) (star (WkB W x b bm bw bf) X)))).Ok)
   obtain ⟨c0,c1,c2,c3,-⟩:=run_c4 (HR.out.drop:Run F0 w0 (star (CellO gs #[.int .i64 s.i,.int .i64 s.j,.string (bs s.a),.bool s.r] 175) _) w)
   obtain ⟨m0,f0,d0,d1,d2,d3⟩:=wkb_cells HR.out.drop.drop.drop
   have KM:=hide (amoves_any (W:=W) (x:=x) (s:=s) w)
   unfold wordsC stC at KM
   go_wp2_with fail
   refine KM.out.mono ?_
   rintro e9 w9 ⟨b1,b2,rfl,hp⟩
   have S1:=hide (HR.out.fresh okO.out hp)
   clear HR KM hp c0 c1 c2 c3 m0 f0 d0 d1 d2 d3
   go_wp2_with fail
   have HIT:=hide (amoves_iter (W:=W) (s:=s) (x:=x) (b1:=b1) (b2:=b2) HS.out HW.out (Nat.le_trans HA.out (by omega)))
   have okI:∀ i,(exA fun L':List (St × Int)=>pur (KnI W s L i L') (star (CellO g8 #[.int .i64 (minF W s i)] 3) (star (CellO gs (stC s) 175) (star (StM b L') (star (WkB W x b bm bw bf) X))))).Ok:=fun i=>exA_ok fun L'=>pur_ok (star_ok cell_ok (star_ok cell_ok (star_ok stm_ok (star_ok wkb_ok HX.out))))
   have okI2:∀ (i:Nat) (a':Act),(exA fun L':List (St × Int)=>exA fun g9:Nat=>exA fun g10:Nat=>exA fun y:RA × St=>pur (KnI W s L i L'∧(amovR W x s)[i]?=some y∧a'={ tmps:=#[.agg #[.int .i64 s.i,.int .i64 s.j,.string (bs s.a),.bool s.r],.pointer (some ⟨bm,0,none⟩),.pointer (some ⟨bw,0,none⟩),.pointer (some ⟨bf,0,none⟩),.pointer (some ⟨gs,0,none⟩),.int .i64 0,.int .i64 0,.bool false,.pointer (some ⟨g8,0,none⟩),.pointer (some ⟨g9,0,none⟩),.pointer (some ⟨g10,0,none⟩),.tuple #[.int .i64 0,.bool false],.map (some b),.agg #[.int .i64 s.i,.int .i64 s.j,.string (bs s.a),.bool s.r],.tuple #[.int .i64 0,.bool false],.int .i64 0,.bool false,.bool false,g18,g19,g20,g21,.agg #[.slice x.a.L W.l.length x.a.lc,.slice x.a.R x.a.q.length x.a.rc,.slice x.b.L W.m.length x.b.lc,.slice x.b.R x.b.q.length x.b.rc],.agg #[.int .i64 s.i,.int .i64 s.j,.string (bs s.a),.bool s.r],fnA b1 b2,.agg (acells y.1).toArray,.agg (stC y.2),undef,undef,undef,undef,undef,undef,undef,undef,undef,undef,undef,undef],defers:=[] }) (star (CellO g10 (stC y.2) 175) (star (CellO g9 (acells y.1).toArray 181) (star (CellO g8 #[.int .i64 (minF W s i)] 3) (star (CellO gs (stC s) 175) (star (StM b L') (star (WkB W x b bm bw bf) X))))))).Ok:=fun i a'=>exA_ok fun L'=>exA_ok fun g9=>exA_ok fun g10=>exA_ok fun y=>pur_ok (star_ok cell_ok (star_ok cell_ok (star_ok cell_ok (star_ok cell_ok (star_ok stm_ok (star_ok wkb_ok HX.out))))))
   have hst:Run F0 w0 (star (Zw W x s b1 b2) (exA fun L':List (St × Int)=>pur (KnI W s L 0 L') (star (CellO g8 #[.int .i64 (minF W s 0)] 3) (star (CellO gs (stC s) 175) (star (StM b L') (star (WkB W x b bm bw bf) X)))))) w9:=(Run.exI L (Run.pureI (kni_zero HK.out) S1.out.swap)).swap
   refine range_law3 (gf:=126) (lb:=#[.pointer (some ⟨b1,0,none⟩),.pointer (some ⟨b2,0,none⟩)]) rfl (enters_of Tryz.func126 (by kernel_rfl) rfl) HIT.out Zw_ok (fun _=>rfl) HE.out _ (fun _=>noO) okI _ okI2 (fun _=>no_ok) hst ?_ ?_ ?_ ?_
   ·intro lo m i hi R W1 K hR hI hK
    obtain ⟨L',h1⟩:=hI.ex
    obtain ⟨hkn,h2⟩:=h1.pure
    have ok2:(star (star (CellO g8 #[.int .i64 (minF W s i)] 3) (star (CellO gs (stC s) 175) (star (StM b L') (star (WkB W x b bm bw bf) X)))) R).Ok:=star_ok (star_ok cell_ok (star_ok cell_ok (star_ok stm_ok (star_ok wkb_ok HX.out)))) hR
    have h3:=run_new h2 ok2 (acells (amovR W x s)[i].1).toArray 181
    have h4:=run_new h3 (star_ok cell_ok ok2) (stC (amovR W x s)[i].2) 175
    rw [World.size_alloc] at h4
    have HF:=hide (hK { tmps:=#[.agg #[.int .i64 s.i,.int .i64 s.j,.string (bs s.a),.bool s.r],.pointer (some ⟨bm,0,none⟩),.pointer (some ⟨bw,0,none⟩),.pointer (some ⟨bf,0,none⟩),.pointer (some ⟨gs,0,none⟩),.int .i64 0,.int .i64 0,.bool false,.pointer (some ⟨g8,0,none⟩),.pointer (some ⟨W1.heap.size,0,none⟩),.pointer (some ⟨W1.heap.size+1,0,none⟩),.tuple #[.int .i64 0,.bool false],.map (some b),.agg #[.int .i64 s.i,.int .i64 s.j,.string (bs s.a),.bool s.r],.tuple #[.int .i64 0,.bool false],.int .i64 0,.bool false,.bool false,g18,g19,g20,g21,.agg #[.slice x.a.L W.l.length x.a.lc,.slice x.a.R x.a.q.length x.a.rc,.slice x.b.L W.m.length x.b.lc,.slice x.b.R x.b.q.length x.b.rc],.agg #[.int .i64 s.i,.int .i64 s.j,.string (bs s.a),.bool s.r],fnA b1 b2,.agg (acells (amovR W x s)[i].1).toArray,.agg (stC (amovR W x s)[i].2),undef,undef,undef,undef,undef,undef,undef,undef,undef,undef,undef,undef],defers:=[] } _ (Run.exI L' (Run.exI W1.heap.size (Run.exI (W1.heap.size+1) (Run.exI (amovR W x s)[i] (Run.pureI ⟨hkn,List.getElem?_eq_getElem hi,rfl⟩ (h4.perm (by ac_rfl))))))))
    clear hI h1 h2 h3 h4 hK hkn ok2
    unfold encA
    generalize (amovR W x s)[i]=y at *
    obtain ⟨⟨⟨yx,yc,yf,yt⟩,yA,yn⟩,⟨xi,xj,xa,xr⟩⟩:=y
    unfold stC acells
    unfold stC acells at HF
    dsimp only at HF
    dsimp only
    gi_wp2
    exact HF.out
   ·intro lo m i hi a' R W1 hR hI
    obtain ⟨L',h1⟩:=hI.ex
    obtain ⟨g9,h1⟩:=h1.ex
    obtain ⟨g10,h1⟩:=h1.ex
    obtain ⟨y,h1⟩:=h1.ex
    obtain ⟨⟨hkn,hx,rfl⟩,h2⟩:=h1.pure
    have hye:(amovR W x s)[i]=y:=by rw [List.getElem?_eq_getElem hi] at hx;injection hx
    have hi2:i < (W.moves s).length:=by rw [mova_len HM.out HS.out];exact hi
    have hxe:(W.moves s)[i]=(y.1.r.c,y.2):=by rw [mova_at HM.out HS.out hi hi2,hye]
    have hmem:(y.1.r.c,y.2) ∈ W.moves s:=by rw [←hxe];exact List.getElem_mem hi2
    have hmo:=moves_ok HS.out hmem
    have hgc:=good_cost HG.out hmem
    have hd0:=dist_nonneg HG.out hmo.1
    have hd1:=dist_never hmo.1
    have hm0:=minF_pos HG.out HS.out i
    have hm1:=minF_le (W:=W) (s:=s) (i:=i)
    have okY:(star (CellO g10 (stC y.2) 175) (star (CellO g9 (acells y.1).toArray 181) (star (CellO g8 #[.int .i64 (minF W s i)] 3) (star (CellO gs (stC s) 175) (star X R))))).Ok:=star_ok cell_ok (star_ok cell_ok (star_ok cell_ok (star_ok cell_ok (star_ok HX.out hR))))
    have h3:=(h2.perm (by ac_rfl):Run F0 w0 (star (StM b L') (star (WkB W x b bm bw bf) (star (CellO g10 (stC y.2) 175) (star (CellO g9 (acells y.1).toArray 181) (star (CellO g8 #[.int .i64 (minF W s i)] 3) (star (CellO gs (stC s) 175) (star X R))))))) W1).drew (star_ok stm_ok (star_ok wkb_ok okY))
    have KI:=hide (IH.out y.2 L' _ W1.drew (by have:=HN.out;have:=hmo.2;omega) hmo.1 (move_ahead HT.out HA.out hmem) hkn.kn okY h3)
    obtain ⟨m0,f0,d0,d1,d2,d3⟩:=wkb_cells h3.drop
    obtain ⟨y0,y1,y2,y3,-⟩:=run_c4 (h3.drop.drop:Run F0 w0 (star (CellO g10 #[.int .i64 y.2.i,.int .i64 y.2.j,.string (bs y.2.a),.bool y.2.r] 175) _) _)
    obtain ⟨F9,hF9⟩:=h3.drop.drop.drop.fst
    have e9:W1.drew.cell? ⟨g9,1,none⟩=some (.int .i64 y.1.r.c):=cell_at (i:=1) hF9 rfl
    obtain ⟨F7,hF7⟩:=h3.drop.drop.drop.drop.fst
    have e7:=cell_at (i:=0) hF7 rfl
    have HSU:=hide (minF_succ hi2)
    have HKS:=hide (fun L'' h1 h2 h3=>kni_succ (L'':=L'') hi2 hkn h1 (by rw [hxe];exact h2) (by rw [hxe];exact h3))
    rw [hxe] at HSU
    unfold WkRet at KI
    have HOY:=hide okY
    have HRR:=hide hR
    clear hI h1 h2 h3 hkn hx hxe hye hmem hmo hF7 hF9 okY hR hi hi2
    obtain ⟨⟨⟨yx,yc,yf,yt⟩,yA,yn⟩,⟨xi,xj,xa,xr⟩⟩:=y
    simp only [acells] at KI HOY HSU HKS hgc hd0 hd1 e9 y0 y1 y2 y3
    generalize W.dist ⟨xi,xj,xa,xr⟩=dd at *
    generalize minF W s i=mm at *
    unfold stV stC at KI
    unfold stC acells
    simp only at *
    unfold fnW at f0
    refine wpIn_block ?_
    refine region_in_les [5,8] [1,1,1,0,0,1,1,1,2] (fun w'=>w'=W1.drew) [fun w'=>w'.cell? ⟨g8,0,none⟩=some (.int .i64 mm)∧w'.cell? ⟨g9,1,none⟩=some (.int .i64 yc)] ⟨fun w h=>by rw [h];exact ⟨e7,e9⟩,trivial⟩ rfl (fun ⟨a,w,h⟩=>h) rfl (by kernel_rfl) (by kernel_rfl) (by kernel_rfl) rfl ?_
    generalize W1.drew=W2 at *
    (repeat (first | (refine les_skip (by rfl) (by rfl) ?_;try simp only [Act.put,List.setIfInBounds_toArray,List.set_cons_zero,List.set_cons_succ]) | (refine les_read (v:=?_) (by rfl) (by rfl) ?_ ?_;rotate_left;(focus (intro w' hS';(try simp only [stL] at hS');go_simp;(try with_reducible rfl);done));try simp only [Act.put,List.setIfInBounds_toArray,List.set_cons_zero,List.set_cons_succ])))
    refine les_chain rfl (by rfl) (fun K hK=>?_)
    go_wp2_with fail
    refine KI.out.mono ?_
    rintro e9' w9 ⟨L'',rfl,k1,k2,k3,hR9⟩
    have hR9':=(hR9.perm (by unfold stC;ac_rfl):Run F0 w0 (star (CellO g8 #[.int .i64 mm] 3) (star (star (CellO gs (stC s) 175) (star (StM b L'') (star (WkB W x b bm bw bf) X))) (star (CellO g10 #[.int .i64 xi,.int .i64 xj,.string (bs xa),.bool xr] 175) (star (CellO g9 #[.int .i64 (yx:Nat),.int .i64 yc,.slice yA yf.length yn,.string (bs yt)] 181) R)))) w9)
    have okZ:(star (star (CellO gs (stC s) 175) (star (StM b L'') (star (WkB W x b bm bw bf) X))) (star (CellO g10 #[.int .i64 xi,.int .i64 xj,.string (bs xa),.bool xr] 175) (star (CellO g9 #[.int .i64 (yx:Nat),.int .i64 yc,.slice yA yf.length yn,.string (bs yt)] 181) R))).Ok:=star_ok (star_ok cell_ok (star_ok stm_ok (star_ok wkb_ok HX.out))) (star_ok cell_ok (star_ok cell_ok HRR.out))
    obtain ⟨F7,hF7⟩:=hR9'.fst
    have q7:=cell_at (i:=0) hF7 rfl
    have p7:=cell_free hF7 0
    obtain ⟨F9,hF9⟩:=(hR9'.drop.drop.drop).fst
    have q9:w9.cell? ⟨g9,1,none⟩=some (.int .i64 yc):=cell_at (i:=1) hF9 rfl
    have H9:=hide (run_setc hR9' okZ 0 (.int .i64 (min mm (yc+dd))))
    have HK2:=hide (HKS.out L'' k1 k2 k3)
    refine hK.out _ _ ⟨q7,q9⟩ ?_
    clear hK KI hF7 hF9 hR9 hR9' k1 k2 k3 HKS okZ y0 y1 y2 y3 e7 e9 d0 d1 d2 d3 m0 f0
    (repeat (first | (refine les_skip (by rfl) (by rfl) ?_;try simp only [Act.put,List.setIfInBounds_toArray,List.set_cons_zero,List.set_cons_succ]) | (refine les_read (v:=?_) (by rfl) (by rfl) ?_ ?_;rotate_left;(focus (intro w' hS';(try simp only [stL] at hS');go_simp;(try with_reducible rfl);done));try simp only [Act.put,List.setIfInBounds_toArray,List.set_cons_zero,List.set_cons_succ])))
    refine les_chain rfl (by rfl) (fun K hK=>?_)
    go_wp2
    have hwr:wrap64 (yc+dd)=yc+dd:=by
     unfold never at hd1
     exact IntWalk.wrap64_in (yc+dd) (by omega)
    rw [hwr]
    refine hK.out _ _ trivial (les_nil ?_)
    have hfin:Run F0 w0 (star (exA fun L':List (St × Int)=>pur (KnI W s L (i+1) L') (star (CellO g8 #[.int .i64 (minF W s (i+1))] 3) (star (CellO gs (stC s) 175) (star (StM b L') (star (WkB W x b bm bw bf) X))))) R) (w9.setCell ⟨g8,0,none⟩ (.int .i64 (min mm (yc+dd)))):=by
     refine Run.exI L'' (Run.pureI HK2.out ?_)
     rw [HSU.out]
     exact (H9.out.perm (by ac_rfl):Run F0 w0 (star (CellO g9 #[.int .i64 (yx:Nat),.int .i64 yc,.slice yA yf.length yn,.string (bs yt)] 181) (star (CellO g10 #[.int .i64 xi,.int .i64 xj,.string (bs xa),.bool xr] 175) (star (star (CellO g8 #[.int .i64 (min mm (yc+dd))] 3) (star (CellO gs (stC s) 175) (star (StM b L'') (star (WkB W x b bm bw bf) X)))) R))) _).drop.drop
    exact hfin
   ·intro D R W1 hR hI
    obtain ⟨L',h1⟩:=hI.ex
    obtain ⟨hkn,h2⟩:=h1.pure
    rw [←mova_len HM.out HS.out] at hkn h2
    obtain ⟨k1,k2,k3,k4⟩:=kni_end hkn HS.out HIN.out
    rw [minF_all HS.out] at h2
    have okY:(star (ObjO D (.deferred (some []))) (star (CellO g8 #[.int .i64 (W.dist s)] 3) (star (CellO gs (stC s) 175) (star (WkB W x b bm bw bf) (star X R))))).Ok:=star_ok obj_ok (star_ok cell_ok (star_ok cell_ok (star_ok wkb_ok (star_ok HX.out hR))))
    have h3:=(h2.perm (by ac_rfl):Run F0 w0 (star (StM b L') (star (ObjO D (.deferred (some []))) (star (CellO g8 #[.int .i64 (W.dist s)] 3) (star (CellO gs (stC s) 175) (star (WkB W x b bm bw bf) (star X R)))))) W1)
    obtain ⟨c0,c1,c2,c3,-⟩:=run_c4 (h3.drop.drop.drop:Run F0 w0 (star (CellO gs #[.int .i64 s.i,.int .i64 s.j,.string (bs s.a),.bool s.r] 175) _) W1)
    obtain ⟨m0,f0,d0,d1,d2,d3⟩:=wkb_cells h3.drop.drop.drop.drop
    obtain ⟨F7,hF7⟩:=h3.drop.drop.fst
    have e7:=cell_at (i:=0) hF7 rfl
    obtain ⟨FM,hFM,-,bk⟩:=h3.take stm_ok okY
    obtain ⟨w',hup,hpost⟩:=mapO_put keyOk_ast Tryz.underlying172 hFM s (.int .i64 (W.dist s))
    have h4:=bk _ _ hpost
    have emp:mput (L'.map fun p=>(p.1,Value.int .i64 p.2)) s (.int .i64 (W.dist s))=(L' ++ [(s,W.dist s)]).map fun p=>(p.1,Value.int .i64 p.2):=by
     rw [mput_new_ (by rw [List.map_map];exact k4),List.map_append];rfl
    rw [emp] at h4
    have H4:=hide (show Run F0 w0 (star (StM b (L' ++ [(s,W.dist s)])) _) w' from h4)
    obtain ⟨F8,hF8⟩:=h4.drop.drop.fst
    have e8:=cell_at (i:=0) hF8 rfl
    obtain ⟨FD,hD,-,bk2⟩:=(H4.out.rot).take obj_ok (star_ok stm_ok (star_ok cell_ok (star_ok cell_ok (star_ok wkb_ok (star_ok HX.out hR)))))
    have HD:=hide hD.1
    have h5:=(bk2 _ _ (obj_put hD (.deferred none))).perm (by ac_rfl:_=star (star (ObjO D (.deferred none)) (star (CellO g8 #[.int .i64 (W.dist s)] 3) (star (CellO gs (stC s) 175) R))) (star (StM b (L' ++ [(s,W.dist s)])) (star (WkB W x b bm bw bf) X)))
    have HF:=hide (show WkRet W x s L F0 w0 b bm bw bf X (.returned (.int .i64 (W.dist s))) (w'.putObj D (.deferred none)) from ⟨_,rfl,k1,k2,k3,h5.drop⟩)
    unfold stV stC at hup
    clear hI h1 h2 h3 h4 h5 hkn k1 k2 k3 k4 okY hF7 hF8 hFM bk hpost emp H4 hD bk2 hR
    go_wp2_with fail
    refine ⟨by simp,.inl ⟨_,_,rfl,run_takeDeferred HD.out,?_⟩⟩
    refine ⟨_,results_tmp rfl _ _ _,?_⟩
    exact HF.out
   ·intro D c R W1 hR hI
    exact hI.no.elim
  have HC:=hide cut
  clear cut
  have HKj:=hide hKj
  have HKc:=hide hKc
  clear hKj hKc
  go_wp2_with fail
  refine KD.out.mono ?_
  rintro e9 w5 ⟨rfl,hb⟩
  have H5:=hide (H3.out.below (star_ok cell_ok okC.out) hb)
  clear H3 hb KD c0 c1 c2 c3 m0 f0 d0 d1 d2 d3
  rw [done_fin HS.out]
  dsimp only
  iterate 2 (first | go_values | go_guarded | go_step)
  refine HKc.out _ _ ?_
  by_cases hfin:s=W.fin
  ·rw [decide_eq_true hfin]
   have HM0:=hide (show minF W s 0=0 from by rw [minF_zero,if_pos hfin])
   clear hfin
   obtain ⟨F7,hF7⟩:=H5.out.fst
   have e7:=cell_at (i:=0) hF7 rfl
   have f7:=cell_free hF7 0
   clear hF7 F7
   go_wp2
   refine HC.out _ _ _ _ _ ?_
   rw [HM0.out]
   exact run_setc H5.out okC.out 0 (.int .i64 0)
  ·rw [decide_eq_false hfin]
   have HM0:=hide (show minF W s 0=1099511627776 from by rw [minF_zero,if_neg hfin];rfl)
   clear hfin
   go_wp2
   refine HC.out _ _ _ _ _ ?_
   rw [HM0.out]
   exact H5.out
end Go.Proofs.YtbnnlpjpnihheaaGreatDoor
namespace Go.Proofs.YtbnnlpjpnihheaaGreatDoor
open Go.RowKit Go.CH Go.CH.Scr Go.CH.Pot
open Go.ChangeMaps (setBlock)
attribute [local go_sem] Oper.semAt_some
theorem run_store_fn {P:Program} {w:World} {a:Addr} {m:Mode} (fn:Fn) (first captured:Array Value):(store a (.func fn first captured) m).run P w=stored P w a (.func fn first captured) m:=run_store P w a _ m rfl
attribute [local go_sem] run_store_fn

def CostsRet (W:Wd) (w:World) (e:Ending) (w':World):Prop:=∃ b L,e=.returned (.map (some b))∧Kn W L∧st0 ∈ keysL L∧Post w (fun _=>False) (StM b L) w'
set_option maxHeartbeats 6400000 in
set_option maxRecDepth 100000 in
theorem costs_any {W:Wd} {x:WA} {w:World} (hP:AwR W x w) (hS:AwS W x) (hg:W.good) (ht:W.tosOk) (hm:MovA W x):Calls Tryz.prog 96 #[.agg (wordsC W x)] w (CostsRet W w):=by
 have r1:=run_new (Run.begin w) emp_ok (wordsC W x) 169
 have r2:Run (fun _=>False) w (star (StM (w.heap.size+1) []) (star (CellO w.heap.size (wordsC W x) 169) emp)) ((w.alloc (.cells (wordsC W x) 169)).alloc (.map #[] 0)):=by
  have:=r1.fresh (star_ok cell_ok emp_ok) (map_new (kv:=stV) (w.alloc (.cells (wordsC W x) 169)))
  rw [World.size_alloc] at this
  exact this
 have r3:=run_new r2 (star_ok stm_ok (star_ok cell_ok emp_ok)) #[.map (some (w.heap.size+1))] 172
 have r4:=run_new r3 (star_ok cell_ok (star_ok stm_ok (star_ok cell_ok emp_ok))) #[Value.nilFunc] 213
 have e2:((w.alloc (.cells (wordsC W x) 169)).alloc (.map #[] 0)).heap.size=w.heap.size+1+1:=by rw [World.size_alloc,World.size_alloc]
 rw [World.size_alloc,e2] at r4
 have R4:=hide r4
 have KW:=hide (fun w9 hR=>walk_n (W:=W) (x:=x) (b:=w.heap.size+1) (bm:=w.heap.size+1+1) (bw:=w.heap.size) (bf:=w.heap.size+1+1+1) (F0:=fun _=>False) (w0:=w) (fun W' hm=>hP.below (hm.below (fun _ _ h=>h))) hS hg ht hm (W.rank st0+1) st0 [] emp w9 (Nat.lt_succ_self _) ok0 (Nat.zero_le _) kn_nil emp_ok hR)
 have hmk:∀ w:World,(Instr.makeMap 172 none).run Tryz.prog w=.ok (.map (some w.heap.size)) (w.alloc (.map #[] 0)):=fun w=>by kernel_rfl
 clear r1 r2 r3 r4 e2 hP hS hg ht hm
 unfold wordsC at R4 ⊢
 unfold stV st0 stC at KW
 dsimp only at KW
 go_enter Tryz.func96,Tryz.ntmps96
 go_upto_region 3 with (fail)
 generalize (((w.alloc (.cells #[.slice x.a.L W.l.length x.a.lc,.slice x.a.R x.a.q.length x.a.rc,.slice x.b.L W.m.length x.b.lc,.slice x.b.R x.b.q.length x.b.rc] 169)).alloc (.map #[] 0)).alloc (.cells #[.map (some (w.heap.size+1))] 172)).alloc (.cells #[Value.nilFunc] 213)=w4 at *
 generalize w.heap.size+1+1+1=bf at *
 generalize w.heap.size+1+1=bm at *
 generalize w.heap.size+1=b at *
 generalize w.heap.size=bw at *
 obtain ⟨F,hF⟩:=R4.out.fst
 have e4:=cell_at (i:=0) hF rfl
 have f4:=cell_free hF 0
 clear hF F
 go_upto_region 4 with (fail)
 have R5:=hide (show Run (fun _=>False) w (star (CellO bf #[fnW bm bw bf] 213) _) (w4.setCell ⟨bf,0,none⟩ (.func (.func 125) #[] #[.pointer (some ⟨bm,0,none⟩),.pointer (some ⟨bw,0,none⟩),.pointer (some ⟨bf,0,none⟩)])) from run_setc R4.out (star_ok cell_ok (star_ok stm_ok (star_ok cell_ok emp_ok))) 0 (fnW bm bw bf))
 clear R4 e4 f4
 generalize w4.setCell ⟨bf,0,none⟩ (.func (.func 125) #[] #[.pointer (some ⟨bm,0,none⟩),.pointer (some ⟨bw,0,none⟩),.pointer (some ⟨bf,0,none⟩)])=w5 at *
 obtain ⟨F,hF⟩:=R5.out.fst
 have e5:=cell_at (i:=0) hF rfl
 unfold fnW at e5
 clear hF F
 have KF:=hide (KW.out w5 (R5.out.perm (by unfold WkB wordsC;ac_rfl:_=star (StM b []) (star (WkB W x b bm bw bf) emp))))
 clear KW R5
 go_wp2_with fail
 refine KF.out.mono ?_
 rintro e9 w9 ⟨L,rfl,hkn,hext,hmem,hR⟩
 have R6:=hide hR
 have HKN:=hide hkn
 have HMEM:=hide hmem
 obtain ⟨m0,-⟩:=wkb_cells hR.drop
 have HF:=hide (show CostsRet W w (.returned (.map (some b))) w9 from ⟨b,L,rfl,hkn,hmem,(hR.swap.drop).post stm_ok⟩)
 clear R6 HKN HMEM hkn hext hmem hR KF
 go_wp2
 go_ret
 exact HF.out
end Go.Proofs.YtbnnlpjpnihheaaGreatDoor
namespace Go.CH
open Go.RowKit
def markD (D:Nat):Deferred:={ target:=.collected D,args:=#[] }
def marksO (Ds:List Nat):Own:=bigStar (Ds.map fun D=>ObjO D (.deferred (some [])))
theorem marks_ok {Ds:List Nat}:(marksO Ds).Ok:=big_ok (fun A hA=>by obtain ⟨z,_,rfl⟩:=List.mem_map.1 hA;exact obj_ok)
theorem marks_cons (D:Nat) (Ds:List Nat):marksO (D :: Ds)=star (ObjO D (.deferred (some []))) (marksO Ds):=rfl
theorem leaves_marks {P:Program} {fn:Func} {tmps:Array Value} {R:Ending→World→Prop} {n:Nat} {F0:Nat→Prop} {w0:World} {X:Own} (hX:X.Ok)
  (hbase:∀ W,Run F0 w0 X W→∃ v,(results fn tmps).run P W=.ok v W∧R (.returned v) W):∀ (Ds:List Nat) (W:World),Run F0 w0 (star (marksO Ds) X) W→LeavesInM Fence.wide n P fn tmps R (Ds.map markD) .returning W
 | [],W,h=>hbase W h.drop
 | D :: Ds,W,h=>by
  have h1:Run F0 w0 (star (ObjO D (.deferred (some []))) (star (marksO Ds) X)) W:=h.perm (by unfold marksO;rw [List.map_cons];show star (star _ _) _=_;ac_rfl)
  obtain ⟨F,hD,-,bk⟩:=h1.take obj_ok (star_ok marks_ok hX)
  refine ⟨by simp,.inl ⟨_,_,rfl,run_takeDeferred hD.1,?_⟩⟩
  exact leaves_marks hX hbase Ds _ (bk _ _ (obj_put hD (.deferred none))).drop
theorem arr_of (tm:Array Value) (n:Nat) (h:tm.size=n):tm=((List.range n).map fun i=>tm.getD i undef).toArray:=by
 refine Array.ext (by simp [h]) fun i h1 h2=>?_
 simp [h1]
end Go.CH
namespace Go.Proofs.YtbnnlpjpnihheaaGreatDoor
open Go.RowKit Go.CH Go.CH.Scr Go.CH.Pot
open Go.ChangeMaps (setBlock)

def IntO (A:Option Addr) (c:Nat) (l:List Int):CH.Own:=RowO 3 1 (.slice A l.length c) l.length (l.map (Value.int .i64))
theorem into_ok {A:Option Addr} {c:Nat} {l:List Int}:(IntO A c l).Ok:=row_ok
theorem into_nil (w:World):IntO none 0 [] w (fun _=>False):=row_nil w 3 1
theorem intOk:SliceOk Tryz.prog 40 3 (.int .i64 0) 1 8:=⟨Tryz.underlying40,by kernel_rfl,by decide,by decide⟩
theorem int_snoc {A:Option Addr} {c:Nat} {l:List Int} {x:Int}:RowO 3 1 (.slice A (l.length+1) c) (l.length+1) (l.map (Value.int .i64) ++ [Value.int .i64 x])=IntO A c (l ++ [x]):=by
 unfold IntO
 rw [List.map_append,List.length_append,List.length_singleton,List.map_cons,List.map_nil]
theorem wp_int {F0:Nat→Prop} {w0 W:World} {Y:CH.Own} {o:Oper} {a:Act} {K:Act→World→Prop} {Q:Exit→Act→World→Prop} (s x:Operand)
  (ho:o.op=.call { callee:=.builtin .append,args:=#[s,x],argTypes:=#[40,40] }) {A:Option Addr} {c n g:Nat} {l:List Int} (p:Int) (hl:l.length=n) (hsv:a.eval s=.slice A n c) (hx:a.eval x=.slice (some ⟨g,0,none⟩) 1 1) (hn:n≤1000000) (hY:Y.Ok)
  (h:Run F0 w0 (star (IntO A c l) Y) W) (hg:W.cell? ⟨g,0,none⟩=some (.int .i64 p))
  (hK:∀ A' c' w',Run F0 w0 (star (IntO A' c' (l ++ [p])) Y) w'→K (a.put o.dst (.slice A' (n+1) c')) w'):o.wp Tryz.prog a W K Q:=by
 subst hl
 obtain ⟨F7,hR7,-,bk7⟩:=h.take into_ok hY
 have hsrc:Src W (some ⟨g,0,none⟩) 1 1 [Value.int .i64 p]:=by
  refine ⟨rfl,fun u hu=>by rw [List.mem_singleton.1 hu];rfl,fun _=>⟨_,rfl,fun j u hu=>?_⟩⟩
  cases j with
  | zero =>
   have e:u=.int .i64 p:=by simpa using hu.symm
   rw [e]
   exact hg
  | succ j=>simp at hu
 refine wp_appX s x ho intOk _ 0 (v:=.slice A l.length c) (n:=l.length) (xs:=l.map (Value.int .i64)) hsv hR7.1 (A:=some ⟨g,0,none⟩) (m:=1) (c:=1) (news:=[Value.int .i64 p]) hx hsrc (by unfold maxLen;omega) (by omega) (Nat.zero_le _) ?_
 intro v8 w8 ho8 hg8 hv8
 have S8:=bk7 _ _ (row_app hR7 ho8 hg8 hv8)
 obtain ⟨A8,c8,rfl⟩:=own_form ho8
 rw [int_snoc] at S8
 exact hK A8 c8 w8 S8
theorem bl_cat (a b:ByteArray):bl (a ++ b)=bl a ++ bl b:=by
 obtain ⟨a⟩:=a
 obtain ⟨b⟩:=b
 show (ByteArray.mk a ++ ByteArray.mk b).data.toList=a.toList ++ b.toList
 rw [ByteArray.data_append]
 simp
theorem bs_cat (a b:Bs):bs (a ++ b)=bs a ++ bs b:=bl_inj (by rw [bl_cat,bl_bs,bl_bs,bl_bs])

structure DD where
 A:Option Addr
 ac:Nat
 l:List Int
 B:Option Addr
 bc:Nat
 m:List Int
 f:Bs
def ddC (c:Int) (q:DD):Array Value:=#[.int .i64 c,.slice q.A q.l.length q.ac,.slice q.B q.m.length q.bc,.string (bs q.f)]

def BsO (W:Wd) (x:WA) (b:Nat) (L:List (St × Int)) (c:Int) (g12 g14 g15 g16:Nat) (s:St) (q:DD) (Ds:List Nat):CH.Own :=
 star (CellO g15 (stC s) 175) (star (CellO g16 (ddC c q) 42) (star (IntO q.A q.ac q.l) (star (IntO q.B q.bc q.m) (star (CellO g14 #[.map (some b)] 172) (star (CellO g12 (wordsC W x) 169) (star (StM b L) (marksO Ds)))))))
theorem bso_ok {W:Wd} {x:WA} {b:Nat} {L:List (St × Int)} {c:Int} {g12 g14 g15 g16:Nat} {s:St} {q:DD} {Ds:List Nat}:(BsO W x b L c g12 g14 g15 g16 s q Ds).Ok :=
 star_ok cell_ok (star_ok cell_ok (star_ok into_ok (star_ok into_ok (star_ok cell_ok (star_ok cell_ok (star_ok stm_ok marks_ok))))))
theorem bso_cells {W:Wd} {x:WA} {b:Nat} {L:List (St × Int)} {c:Int} {g12 g14 g15 g16:Nat} {s:St} {q:DD} {Ds:List Nat} {F:Nat→Prop} {w1 w:World} {R:CH.Own} (h:Run F w1 (star (BsO W x b L c g12 g14 g15 g16 s q Ds) R) w) :
  (w.cell? ⟨g15,0,none⟩=some (.int .i64 s.i)∧w.cell? ⟨g15,1,none⟩=some (.int .i64 s.j)∧w.cell? ⟨g15,2,none⟩=some (.string (bs s.a))∧w.cell? ⟨g15,3,none⟩=some (.bool s.r)) ∧
  (w.cell? ⟨g16,0,none⟩=some (.int .i64 c)∧w.cell? ⟨g16,1,none⟩=some (.slice q.A q.l.length q.ac)∧w.cell? ⟨g16,2,none⟩=some (.slice q.B q.m.length q.bc)∧w.cell? ⟨g16,3,none⟩=some (.string (bs q.f))) ∧
  w.cell? ⟨g14,0,none⟩=some (.map (some b)) ∧
  (w.cell? ⟨g12,0,none⟩=some (.slice x.a.L W.l.length x.a.lc)∧w.cell? ⟨g12,1,none⟩=some (.slice x.a.R x.a.q.length x.a.rc)∧w.cell? ⟨g12,2,none⟩=some (.slice x.b.L W.m.length x.b.lc)∧w.cell? ⟨g12,3,none⟩=some (.slice x.b.R x.b.q.length x.b.rc)) ∧
  (∃ F',StM b L w F')∧(∀ i,w.frozen? ⟨g15,i,none⟩=false)∧(∀ i,w.frozen? ⟨g16,i,none⟩=false):=by
 obtain ⟨f1,h1⟩:=(h.perm (by unfold BsO;ac_rfl:_=star (CellO g15 (stC s) 175) (star (star (CellO g16 (ddC c q) 42) (star (IntO q.A q.ac q.l) (star (IntO q.B q.bc q.m) (star (CellO g14 #[.map (some b)] 172) (star (CellO g12 (wordsC W x) 169) (star (StM b L) (marksO Ds))))))) R))).fst
 obtain ⟨f2,h2⟩:=(h.perm (by unfold BsO;ac_rfl:_=star (CellO g16 (ddC c q) 42) (star (star (CellO g15 (stC s) 175) (star (IntO q.A q.ac q.l) (star (IntO q.B q.bc q.m) (star (CellO g14 #[.map (some b)] 172) (star (CellO g12 (wordsC W x) 169) (star (StM b L) (marksO Ds))))))) R))).fst
 obtain ⟨f3,h3⟩:=(h.perm (by unfold BsO;ac_rfl:_=star (CellO g14 #[.map (some b)] 172) (star (star (CellO g15 (stC s) 175) (star (IntO q.A q.ac q.l) (star (IntO q.B q.bc q.m) (star (CellO g16 (ddC c q) 42) (star (CellO g12 (wordsC W x) 169) (star (StM b L) (marksO Ds))))))) R))).fst
 obtain ⟨f4,h4⟩:=(h.perm (by unfold BsO;ac_rfl:_=star (CellO g12 (wordsC W x) 169) (star (star (CellO g15 (stC s) 175) (star (IntO q.A q.ac q.l) (star (IntO q.B q.bc q.m) (star (CellO g16 (ddC c q) 42) (star (CellO g14 #[.map (some b)] 172) (star (StM b L) (marksO Ds))))))) R))).fst
 obtain ⟨f5,h5⟩:=(h.perm (by unfold BsO;ac_rfl:_=star (StM b L) (star (star (CellO g15 (stC s) 175) (star (IntO q.A q.ac q.l) (star (IntO q.B q.bc q.m) (star (CellO g16 (ddC c q) 42) (star (CellO g14 #[.map (some b)] 172) (star (CellO g12 (wordsC W x) 169) (marksO Ds))))))) R))).fst
 exact ⟨⟨cell_at h1 rfl,cell_at h1 rfl,cell_at h1 rfl,cell_at h1 rfl⟩,⟨cell_at h2 rfl,cell_at h2 rfl,cell_at h2 rfl,cell_at h2 rfl⟩,cell_at h3 rfl,⟨cell_at h4 rfl,cell_at h4 rfl,cell_at h4 rfl,cell_at h4 rfl⟩,⟨f5,h5⟩,fun i=>cell_free h1 i,fun i=>cell_free h2 i⟩

def BsN (W:Wd) (s:St) (l m:List Int) (f:Bs):Prop:=∃ n,W.rank s≤n∧W.bestR (W.rank st0) st0=(l ++ (W.bestR n s).1,m ++ (W.bestR n s).2.1,f ++ (W.bestR n s).2.2)
theorem bsn_start {W:Wd}:BsN W st0 [] [] []:=⟨_,Nat.le_refl _,rfl⟩
theorem bsn_fin {W:Wd} {s:St} {l m:List Int} {f:Bs} (h:BsN W s l m f) (hf:s=W.fin):W.bestR (W.rank st0) st0=(l,m,f):=by
 obtain ⟨n,-,h⟩:=h
 have e:W.bestR n s=([],[],[]):=by
  cases n with
  | zero=>rfl
  | succ n=>unfold Wd.bestR;rw [if_pos hf]
 rw [e,List.append_nil,List.append_nil,List.append_nil] at h
 exact h
theorem bsn_step {W:Wd} {s s':St} {r:AR} {l m:List Int} {f:Bs} (h:BsN W s l m f) (hf:s≠W.fin) (hp:W.pick s=some (r,s')) (hr:W.rank s' < W.rank s) :
  (s.i < s'.i→BsN W s' (l ++ [(r.ix:Int)]) m (f ++ r.t))∧(¬ s.i < s'.i→BsN W s' l (m ++ [(r.ix:Int)]) f):=by
 obtain ⟨n,h1,h⟩:=h
 obtain ⟨n,rfl⟩:∃ n0,n=n0+1:=⟨n - 1,by omega⟩
 rw [Wd.bestR,if_neg hf,hp] at h
 simp only at h
 constructor
 ·intro hlt
  rw [if_pos hlt] at h
  refine ⟨n,by omega,?_⟩
  rw [h,List.append_assoc,List.append_assoc]
  rfl
 ·intro hlt
  rw [if_neg hlt] at h
  refine ⟨n,by omega,?_⟩
  rw [h,List.append_assoc]
  rfl
theorem pick_of {W:Wd} {x:WA} {s:St} {i:Nat} {z:RA × St} (hS:AwS W x) (hx:(amovR W x s)[i]?=some z) (hb:∀ j (hj:j < (amovR W x s).length),j < i→¬ (amovR W x s)[j].1.r.c+W.dist (amovR W x s)[j].2=W.dist s) (hg:z.1.r.c+W.dist z.2=W.dist s):W.pick s=some (z.1.r,z.2):=by
 unfold Wd.pick
 rw [←amovR_eq hS,List.find?_map]
 have:(amovR W x s).find? ((fun p:AR × St=>decide (p.1.c+W.dist p.2=W.dist s)) ∘ fun p:RA × St=>(p.1.r,p.2))=some z:=by
  rw [List.find?_eq_some_iff_getElem]
  obtain ⟨hi,he⟩:=List.getElem?_eq_some_iff.1 hx
  refine ⟨decide_eq_true hg,i,hi,he,fun j hj=>?_⟩
  rw [Bool.not_eq_true']
  exact decide_eq_false (hb j (by omega) hj)
 rw [this]
 rfl

structure BsP (W:Wd) (L:List (St × Int)) (s:St) (q:DD):Prop where
 ok:W.ok s
 a3:s.a.length≤3
 inL:s ∈ keysL L
 lt:W.dist s < never
 nl:q.l.length+W.rank s≤W.rank st0
 nm:q.m.length+W.rank s≤W.rank st0
 nf:q.f.length+1000000*W.rank s≤1000000*W.rank st0
 bn:BsN W s q.l q.m q.f

def goodM (W:Wd) (s:St) (p:RA × St):Prop:=p.1.r.c+W.dist p.2=W.dist s
def badI (W:Wd) (x:WA) (s:St) (i:Nat):Prop:=∀ j (hj:j < (amovR W x s).length),j < i→¬ goodM W s (amovR W x s)[j]
theorem bad_zero {W:Wd} {x:WA} {s:St}:badI W x s 0:=fun j _ h=>absurd h (Nat.not_lt_zero _)
theorem bad_succ {W:Wd} {x:WA} {s:St} {i:Nat} {y:RA × St} (hx:(amovR W x s)[i]?=some y) (h:badI W x s i) (h2:¬ goodM W s y):badI W x s (i+1):=fun j hj hji=>by
 by_cases e:j=i
 ·subst e
  rw [List.getElem?_eq_getElem hj] at hx
  injection hx with hx
  rw [hx];exact h2
 ·exact h j hj (by omega)
theorem bad_all {W:Wd} {x:WA} {s:St} (hm:MovA W x) (hs:W.ok s) (hlt:W.dist s < never) (hf:s≠W.fin):¬ badI W x s (amovR W x s).length:=fun h=>by
 have e:=dist_eq (W:=W) hs
 rcases fold_eq (fun x:Int × St=>x.1+W.dist x.2) (W.moves s) (if s=W.fin then 0 else never) with h1 | ⟨p,hp,h1⟩
 ·rw [if_neg hf] at h1
  rw [e] at hlt
  rw [if_neg hf] at hlt
  rw [h1] at hlt
  omega
 ·rw [←hm s hs] at hp
  obtain ⟨y,hy,rfl⟩:=List.mem_map.1 hp
  obtain ⟨j,hj,rfl⟩:=List.mem_iff_getElem.1 hy
  refine h j hj hj ?_
  unfold goodM
  rw [e]
  exact h1.symm
theorem mova_mem {W:Wd} {x:WA} {s:St} (hm:MovA W x) (hs:W.ok s) {y:RA × St} (hy:y ∈ amovR W x s):(y.1.r.c,y.2) ∈ W.moves s:=by
 rw [←hm s hs]
 exact List.mem_map.2 ⟨y,hy,rfl⟩
theorem kn_val {W:Wd} {L:List (St × Int)} (h:Kn W L) {s:St} (hs:s ∈ keysL L):(mget (L.map fun p=>(p.1,Value.int .i64 p.2)) s).getD (.int .i64 0)=.int .i64 (W.dist s):=by
 obtain ⟨v,hv⟩:=mem_keys.1 hs
 rw [mget_kn h.nd hv,show v=W.dist s from h.val _ hv];rfl
theorem kn_get {W:Wd} {L:List (St × Int)} (h:Kn W L) {b:Nat} {w:World} {F:Nat→Prop} (hF:StM b L w F) {s:St} (hs:s ∈ keysL L) :
  (Instr.lookup 172 (.map (some b)) (.agg #[.int .i64 s.i,.int .i64 s.j,.string (bs s.a),.bool s.r]) false).run Tryz.prog w=.ok (.int .i64 (W.dist s)) w:=by
 have:=astm_get hF s false
 rw [kn_val h hs] at this
 exact this
theorem amovR_mem {W:Wd} {x:WA} {s:St} {z:RA × St} (h:z ∈ amovR W x s):z.1 ∈ (x.at (W.left s)).q:=by
 unfold amovR at h
 obtain ⟨y,hy,he⟩:=List.mem_filterMap.1 h
 unfold amvR at he
 obtain ⟨p,-,hp⟩:=Option.map_eq_some_iff.1 he
 rw [←hp]
 exact hy
theorem AwS.f_of {W:Wd} {x:WA} (h:AwS W x) {s:St} {z:RA × St} (hz:z ∈ amovR W x s):z.1.r.t.length≤1000000:=((h.at (W.left s)).2.2.2 _ (amovR_mem hz)).2

def BsI (F:Nat→Prop) (w1:World) (W:Wd) (x:WA) (b:Nat) (L:List (St × Int)) (c:Int) (g10 g12 g14 g15 g16:Nat) (a:Act) (wr:World):Prop :=
 ∃ (v:Nat→Value) (Ds:List Nat) (s:St) (q:DD) (R:CH.Own),R.Ok∧(Run F w1 (star (BsO W x b L c g12 g14 g15 g16 s q Ds) R) wr∧BsP W L s q) ∧
  a={ tmps:=#[v 0,v 1,v 2,v 3,v 4,v 5,v 6,v 7,v 8,v 9,.pointer (some ⟨g10,0,none⟩),v 11,.pointer (some ⟨g12,0,none⟩),v 13,.pointer (some ⟨g14,0,none⟩),.pointer (some ⟨g15,0,none⟩),.pointer (some ⟨g16,0,none⟩),v 17,v 18,v 19,v 20,v 21,v 22,v 23,v 24,v 25,v 26,v 27,v 28,v 29,v 30,v 31,v 32,v 33,v 34,v 35,v 36,v 37,v 38,v 39,v 40,v 41,v 42,v 43,v 44,v 45,v 46,v 47,v 48,v 49,v 50,v 51,v 52,v 53,v 54,v 55,v 56,v 57,v 58,v 59,v 60,v 61,v 62,v 63,v 64,v 65,v 66,v 67,v 68,v 69,v 70,v 71,v 72,v 73,v 74,v 75,v 76,v 77,v 78,v 79,v 80,v 81,v 82,v 83,v 84,v 85,v 86,v 87,v 88],defers:=Ds.map markD }
theorem bs_form {g10 g12 g14 g15 g16:Nat} (tm:Array Value) (h:tm.size=89) (h10:tm.getD 10 undef=.pointer (some ⟨g10,0,none⟩)) (h12:tm.getD 12 undef=.pointer (some ⟨g12,0,none⟩)) (h14:tm.getD 14 undef=.pointer (some ⟨g14,0,none⟩)) (h15:tm.getD 15 undef=.pointer (some ⟨g15,0,none⟩)) (h16:tm.getD 16 undef=.pointer (some ⟨g16,0,none⟩)) :
  ∃ v:Nat→Value,tm=#[v 0,v 1,v 2,v 3,v 4,v 5,v 6,v 7,v 8,v 9,.pointer (some ⟨g10,0,none⟩),v 11,.pointer (some ⟨g12,0,none⟩),v 13,.pointer (some ⟨g14,0,none⟩),.pointer (some ⟨g15,0,none⟩),.pointer (some ⟨g16,0,none⟩),v 17,v 18,v 19,v 20,v 21,v 22,v 23,v 24,v 25,v 26,v 27,v 28,v 29,v 30,v 31,v 32,v 33,v 34,v 35,v 36,v 37,v 38,v 39,v 40,v 41,v 42,v 43,v 44,v 45,v 46,v 47,v 48,v 49,v 50,v 51,v 52,v 53,v 54,v 55,v 56,v 57,v 58,v 59,v 60,v 61,v 62,v 63,v 64,v 65,v 66,v 67,v 68,v 69,v 70,v 71,v 72,v 73,v 74,v 75,v 76,v 77,v 78,v 79,v 80,v 81,v 82,v 83,v 84,v 85,v 86,v 87,v 88]:=by
 have e:tm=#[tm.getD 0 undef,tm.getD 1 undef,tm.getD 2 undef,tm.getD 3 undef,tm.getD 4 undef,tm.getD 5 undef,tm.getD 6 undef,tm.getD 7 undef,tm.getD 8 undef,tm.getD 9 undef,tm.getD 10 undef,tm.getD 11 undef,tm.getD 12 undef,tm.getD 13 undef,tm.getD 14 undef,tm.getD 15 undef,tm.getD 16 undef,tm.getD 17 undef,tm.getD 18 undef,tm.getD 19 undef,tm.getD 20 undef,tm.getD 21 undef,tm.getD 22 undef,tm.getD 23 undef,tm.getD 24 undef,tm.getD 25 undef,tm.getD 26 undef,tm.getD 27 undef,tm.getD 28 undef,tm.getD 29 undef,tm.getD 30 undef,tm.getD 31 undef,tm.getD 32 undef,tm.getD 33 undef,tm.getD 34 undef,tm.getD 35 undef,tm.getD 36 undef,tm.getD 37 undef,tm.getD 38 undef,tm.getD 39 undef,tm.getD 40 undef,tm.getD 41 undef,tm.getD 42 undef,tm.getD 43 undef,tm.getD 44 undef,tm.getD 45 undef,tm.getD 46 undef,tm.getD 47 undef,tm.getD 48 undef,tm.getD 49 undef,tm.getD 50 undef,tm.getD 51 undef,tm.getD 52 undef,tm.getD 53 undef,tm.getD 54 undef,tm.getD 55 undef,tm.getD 56 undef,tm.getD 57 undef,tm.getD 58 undef,tm.getD 59 undef,tm.getD 60 undef,tm.getD 61 undef,tm.getD 62 undef,tm.getD 63 undef,tm.getD 64 undef,tm.getD 65 undef,tm.getD 66 undef,tm.getD 67 undef,tm.getD 68 undef,tm.getD 69 undef,tm.getD 70 undef,tm.getD 71 undef,tm.getD 72 undef,tm.getD 73 undef,tm.getD 74 undef,tm.getD 75 undef,tm.getD 76 undef,tm.getD 77 undef,tm.getD 78 undef,tm.getD 79 undef,tm.getD 80 undef,tm.getD 81 undef,tm.getD 82 undef,tm.getD 83 undef,tm.getD 84 undef,tm.getD 85 undef,tm.getD 86 undef,tm.getD 87 undef,tm.getD 88 undef]:=arr_of tm 89 h
 rw [h10,h12,h14,h15,h16] at e
 exact ⟨fun i=>tm.getD i undef,e⟩
theorem bs_mk {F:Nat→Prop} {w1 wr:World} {W:Wd} {x:WA} {b:Nat} {L:List (St × Int)} {c:Int} {g10 g12 g14 g15 g16:Nat} {tm:Array Value} {df:List Deferred} (Ds:List Nat) {s:St} {q:DD} {R:CH.Own} (h:tm.size=89) (h10:tm.getD 10 undef=.pointer (some ⟨g10,0,none⟩)) (h12:tm.getD 12 undef=.pointer (some ⟨g12,0,none⟩)) (h14:tm.getD 14 undef=.pointer (some ⟨g14,0,none⟩)) (h15:tm.getD 15 undef=.pointer (some ⟨g15,0,none⟩)) (h16:tm.getD 16 undef=.pointer (some ⟨g16,0,none⟩)) (hd:df=Ds.map markD)
  (hR:R.Ok) (h1:Run F w1 (star (BsO W x b L c g12 g14 g15 g16 s q Ds) R) wr) (hp:BsP W L s q):BsI F w1 W x b L c g10 g12 g14 g15 g16 { tmps:=tm,defers:=df } wr:=by
 obtain ⟨v,hv⟩:=bs_form tm h h10 h12 h14 h15 h16
 subst hd
 exact ⟨v,Ds,s,q,R,hR,⟨h1,hp⟩,by rw [hv]⟩
def rankAt (W:Wd) (g15:Nat) (w:World):Nat:=match w.cell? ⟨g15,0,none⟩,w.cell? ⟨g15,1,none⟩ with
 | some (.int _ i),some (.int _ j)=>(W.l.length - i.toNat)+(W.m.length - j.toNat)
 | _,_=>0
theorem rank_at {W:Wd} {g15:Nat} {w w1:World} {F:Nat→Prop} {s:St} {X:CH.Own} (h:Run F w1 (star (CellO g15 (stC s) 175) X) w):rankAt W g15 w=W.rank s:=by
 obtain ⟨c0,c1,-⟩:=run_c4 (h:Run F w1 (star (CellO g15 #[.int .i64 s.i,.int .i64 s.j,.string (bs s.a),.bool s.r] 175) X) w)
 unfold rankAt
 rw [c0,c1]
 rfl
def IntR (w:World) (A:Option Addr) (l:List Int):Prop:=Src w A l.length 1 (l.map (Value.int .i64))
theorem IntR.below {w w':World} {A:Option Addr} {l:List Int} (h:IntR w A l) (hb:Below w.heap.size w w'):IntR w' A l:=src_below h hb
theorem into_one (l:List Int):∀ u ∈ l.map (Value.int .i64),u.oneCell'=true:=fun u hu=>by obtain ⟨x,-,rfl⟩:=List.mem_map.1 hu;rfl
theorem into_nil2 {w w':World} (hb:Below w.heap.size w w'):Post w (fun _=>False) (star (IntO none 0 []) (IntO none 0 [])) w':=by
 have h1:=((Run.begin w).below emp_ok hb).fresh emp_ok (⟨fun _=>False,into_nil _,Mod.refl _ _,fun i hi=>.inl hi⟩:Post _ (fun _=>False) (IntO none 0 []) _)
 have h2:=h1.fresh (star_ok into_ok emp_ok) (⟨fun _=>False,into_nil _,Mod.refl _ _,fun i hi=>.inl hi⟩:Post _ (fun _=>False) (IntO none 0 []) _)
 exact ((h2.perm (by ac_rfl:_=star emp (star (IntO none 0 []) (IntO none 0 [])))).drop).post (star_ok into_ok into_ok)
theorem intR_of {w:World} {F:Nat→Prop} {A:Option Addr} {c:Nat} {l:List Int} (h:IntO A c l w F):IntR w A l:=row_src h (into_one l)

def BestRet (w:World) (T:Tab) (k:Int) (x:Bs) (k2:Int) (y:Bs) (e:Ending) (w':World):Prop :=
 ∃ (d:Dv) (er:Int) (A:Option Addr) (c:Nat) (B:Option Addr) (c2:Nat),e=.returned (.tuple #[.agg #[.int .i64 d.c,.slice A d.L.length c,.slice B d.M.length c2,.string (bs d.F)],.int .i64 er])∧BestP T k x k2 y d er∧Post w (fun _=>False) (star (IntO A c d.L) (IntO B c2 d.M)) w'
end Go.Proofs.YtbnnlpjpnihheaaGreatDoor
