import Derived.Test.YtbnnlpjpnihheaaGreatDoorMD12
import Derived.Lib.AppendZeros
import Derived.WalkLawsBesides
import Derived.Test.YtbnnlpjpnihheaaGreatDoorMD6
set_option linter.unusedSimpArgs false
set_option linter.unusedVariables false
namespace Go.Proofs.YtbnnlpjpnihheaaGreatDoor.Asn
open Go.RowKit Go.CH Go.CH.Asg
open Go.ChangeMaps (setBlock)

def TabO (g n:Nat) (f:Nat→Int):CH.Own:=RowO 127 64 (.slice (some ⟨g,0,none⟩) n n) n (fv (n*64) fun i=>.int .i64 (f i))
theorem tab_ok {g n:Nat} {f:Nat→Int}:(TabO g n f).Ok:=row_ok
theorem tab_congr {g n:Nat} {f f':Nat→Int} (h:∀ i,i < n*64→f i=f' i):TabO g n f=TabO g n f':=by
 unfold TabO;rw [fv_congr (fun i hi=>by rw [h i hi])]
def updI (f:Nat→Int) (p:Nat) (v:Int):Nat→Int:=fun x=>if x=p then v else f x
theorem tab_set {w:World} {F:Nat→Prop} {g n:Nat} {f:Nat→Int} (h:TabO g n f w F) {k:Nat} (hk:k < n*64) (b:Int):Post w F (TabO g n (updI f k b)) (w.setCell ⟨g,k,none⟩ (.int .i64 b)):=by
 have:=row_set h (i:=k) hk (.int .i64 b)
 rw [fv_set] at this
 unfold TabO
 rw [fv_congr (f:=fun i=>.int .i64 (updI f k b i)) (g:=upv (fun i=>.int .i64 (f i)) k (.int .i64 b)) (fun i hi=>by unfold upv updI;split <;> rfl)]
 exact this
theorem tab_at {w:World} {F:Nat→Prop} {g n:Nat} {f:Nat→Int} (h:TabO g n f w F) {k:Nat} (hk:k < n*64):w.cell? ⟨g,k,none⟩=some (.int .i64 (f k)):=row_cell h (fv_get _ hk)
theorem tab_free {w:World} {F:Nat→Prop} {g n:Nat} {f:Nat→Int} (h:TabO g n f w F) (k:Nat) (hn:0 < n):w.frozen? ⟨g,k,none⟩=false:=row_free h k hn
theorem made_tab (n:Nat):(madeCells (Array.replicate 64 (Value.int .i64 0)) (n*64)).toList=fv (n*64) (fun _=>.int .i64 0):=by
 unfold fv
 simp only [madeCells,Array.toList_map,Array.toList_range]
 refine List.map_congr_left fun i _=>?_
 have:i % (Array.replicate 64 (Value.int .i64 0)).size < (Array.replicate 64 (Value.int .i64 0)).size:=by
  simp;omega
 simp only [getElem!_def]
 rw [Array.getElem?_eq_getElem this]
 simp
theorem costsOk:SliceOk Tryz.prog 124 127 (.agg (Array.replicate 64 (.int .i64 0))) 64 512:=⟨Tryz.underlying124,by kernel_rfl,by decide,by decide⟩
theorem wpList_table {ops:Array Oper} {rest:List Oper} {o:Oper} {a:Act} {w:World} {Q:Exit→Act→World→Prop} (hg:o.guard=none) (l:Operand) (hop:o.op=Op.makeSlice 124 l l) (n:Nat) (hn:n≤1000) (hl:a.eval l=.int .i64 (n:Int))
  (hK:∀ w',Post w (fun _=>False) (TabO w.heap.size n (fun _=>0)) w'→wpList Tryz.prog ops Q rest (a.put o.dst (.slice (some ⟨w.heap.size,0,none⟩) n n)) w'):wpList Tryz.prog ops Q (o :: rest) a w:=by
 obtain ⟨ht,hi,hzz,hsz⟩:=costsOk
 obtain ⟨i,hi,hi1,hi2,hi3⟩:=info_parts hi
 refine wpList_make_full w hg l l 124 hop w.heap.size 127 i _ 64 ht hi hi1 hi2 .i64 .i64 n n n hl hl rfl rfl (by rw [hi3];omega) (by simp only [maxLen];omega) (Nat.le_refl _) (fun w' h1 h2=>?_)
 refine hK w' (row_new ?_ (Mod.below (F:=fun _=>False) (Mod.of_grown h2 (fun k hk=>by cases hk)) (fun _ _ h=>h)))
 rw [←made_tab];exact h1
section
variable {w:World} {A B G:Option Addr} {c:Nat→Nat→Int} {d e:Nat→Int} {n m:Nat}

def TB (c:Nat→Nat→Int) (d e:Nat→Int) (n m r s:Nat):Int:=L c d e n m (n - r) (bt s)

def tabF (c:Nat→Nat→Int) (d e:Nat→Int) (n m M i k:Nat):Nat→Int:=fun x=>if x % 64 < M∧(i < x / 64∨(x / 64=i∧x % 64 < k)) then TB c d e n m (x / 64) (x % 64) else 0
theorem tabF_zero {M x:Nat} (hx:x < (n+1)*64):tabF c d e n m M n 0 x=0:=by
 unfold tabF;rw [if_neg (by omega)]
theorem tabF_upd {M i k:Nat} (hM:M≤64) (hk:k < M) (x:Nat):updI (tabF c d e n m M i k) (i*64+k) (TB c d e n m i k) x=tabF c d e n m M i (k+1) x:=by
 unfold updI tabF
 by_cases e:x=i*64+k
 ·have h1:x / 64=i:=by omega
  have h2:x % 64=k:=by omega
  rw [if_pos e,if_pos (by omega),h1,h2]
 ·rw [if_neg e]
  by_cases h:x % 64 < M∧(i < x / 64∨(x / 64=i∧x % 64 < k))
  ·rw [if_pos h,if_pos (by omega)]
  ·rw [if_neg h,if_neg (by omega)]
theorem tabF_next {M i:Nat} (x:Nat):tabF c d e n m M (i+1) M x=tabF c d e n m M i 0 x:=by
 unfold tabF
 by_cases h:x % 64 < M∧(i+1 < x / 64∨(x / 64=i+1∧x % 64 < M))
 ·rw [if_pos h,if_pos (by omega)]
 ·rw [if_neg h,if_neg (by omega)]
theorem tabF_at {M i k r s:Nat} (hM:M≤64) (hs:s < M) (h:i < r∨(r=i∧s < k)):tabF c d e n m M i k (r*64+s)=TB c d e n m r s:=by
 unfold tabF
 have h1:(r*64+s) / 64=r:=by omega
 have h2:(r*64+s) % 64=s:=by omega
 rw [h1,h2,if_pos ⟨hs,h⟩]
theorem tabF_none {M i k:Nat} (hM:M≤64) (hk:k < M):tabF c d e n m M i k (i*64+k)=0:=by
 unfold tabF;rw [if_neg (by omega)]
theorem updI_same (f:Nat→Int) (p x:Nat):updI f p (f p) x=f x:=by
 unfold updI;split
 ·rename_i h;rw [h]
 ·rfl
theorem updI_updI (f:Nat→Int) (p:Nat) (a b:Int) (x:Nat):updI (updI f p a) p b x=updI f p b x:=by
 unfold updI;split <;> rfl
theorem updI_at (f:Nat→Int) (p:Nat) (a:Int):updI f p a p=a:=by simp [updI]
theorem TB_last (s:Nat):TB c d e n m n s=sg m (fun j=>if bt s j then 0 else e j):=by unfold TB;rw [Nat.sub_self];rfl
theorem TB_row {i:Nat} (hi:i < n) (s:Nat):TB c d e n m i s=mnl (bt s) (fun j=>c i j+TB c d e n m (i+1) (s ||| 1 <<< j)) (d i+TB c d e n m (i+1) s) m:=by
 unfold TB
 have h1:n - i=(n - (i+1))+1:=by omega
 rw [h1,L]
 have h2:n - (n - (i+1)+1)=i:=by omega
 rw [h2]
 exact mnl_congr (fun j _=>by rw [bt_or]) (fun _ _=>rfl)
def TabRet (w:World) (c:Nat→Nat→Int) (d e:Nat→Int) (n m:Nat) (en:Ending) (w':World):Prop :=
 ∃ g,en=.returned (.slice (some ⟨g,0,none⟩) (n+1) (n+1))∧Post w (fun _=>False) (TabO g (n+1) (tabF c d e n m (1 <<< m) 0 (1 <<< m))) w'
theorem run_tab {X:CH.Own} {g N:Nat} {f f':Nat→Int} {W:World} (h:Run (fun _=>False) w (TabO g N f) W) {p:Nat} (hp:p < N*64) (v:Int) (hf:∀ x,updI f p v x=f' x):Run (fun _=>False) w (TabO g N f') (W.setCell ⟨g,p,none⟩ (.int .i64 v)):=by
 obtain ⟨F1,h1,bk⟩:=h.all tab_ok
 have:=bk _ _ (tab_set h1 hp v)
 rwa [tab_congr (fun x _=>hf x)] at this
theorem pow_lt {m j s:Nat} (hm:m≤6) (hs:s < 1 <<< m) (hj:j < m):s ||| 1 <<< j < 1 <<< m:=by
 rw [Nat.one_shiftLeft] at *
 rw [Nat.one_shiftLeft]
 exact Nat.or_lt_two_pow hs (Nat.pow_lt_pow_right (by decide) hj)
theorem pow_le {m:Nat} (hm:m≤6):1 <<< m≤64:=by
 rw [Nat.one_shiftLeft];exact Nat.pow_le_pow_right (by decide) hm
set_option maxRecDepth 100000 in
set_option maxHeartbeats 6400000 in
theorem table_any (hq:Prq w A B G c d e n m) (ca cb cg:Nat) :
  Calls Tryz.prog 59 #[.slice A n ca,.slice B n cb,.slice G m cg] w (TabRet w c d e n m):=by
 have HQ:=hide hq
 have hn7:=hq.n7
 have hm6:=hq.m6
 clear hq
 have hM:=pow_le hm6
 have HPW:=hide (fun s j hs hj=>pow_lt (m:=m) (s:=s) (j:=j) hm6 hs hj)
 have hshl:=pow_of m hm6
 have HRET:=hide (show ∀ (g:Nat) w',Run (fun _=>False) w (TabO g (n+1) (tabF c d e n m (1 <<< m) 0 (1 <<< m))) w'→TabRet w c d e n m (.returned (.slice (some ⟨g,0,none⟩) (n+1) (n+1))) w' from fun g w' h=>⟨g,rfl,h.post tab_ok⟩)
 generalize 1 <<< m=M at *
 go_enter Tryz.func59,Tryz.ntmps59
 go_wp2_with (refine wpList_table rfl (.tmp 18) rfl (n+1) (by omega) (by simp [Act.eval]) ?_;refine held ?_)
 refine Held.mk fun w1 hP1=>?_
 have R1:=hide (((Run.begin w).fresh emp_ok hP1).imp fun _ _ h=>star_emp h)
 clear hP1
 generalize hg:w.heap.size=g at *
 rw [tab_congr (f:=fun _=>0) (f':=tabF c d e n m M n 0) (fun x hx=>(tabF_zero hx).symm)] at R1
 go_wp2
 go_loopw [23] (fun i wr=>∃ k:Nat,k≤M∧i=.int .i64 k∧Run (fun _=>False) w (TabO g (n+1) (tabF c d e n m M n k)) wr) (fun i _=>M - (intOf i).toNat)
 case atStart=>exact ⟨0,Nat.zero_le _,rfl,R1.out⟩
 case round =>
  obtain ⟨k,hk,rfl,hR⟩:=hrel
  have HR:=hide hR
  clear hR R1
  by_cases hlt:k < M
  ·have R2:Hid (Run (fun _=>False) w (TabO g (n+1) (updI (tabF c d e n m M n k) (n*64+k) 0)) wr):=hide (by
    rw [tab_congr (f':=tabF c d e n m M n k) (fun x _=>by rw [←tabF_none (c:=c) (d:=d) (e:=e) (n:=n) (m:=m) (i:=n) hM hlt,updI_same])]
    exact HR.out)
   go_wp2
   go_loopw [28] (fun x wr=>∃ j:Nat,j≤m∧x=.int .i64 j∧Run (fun _=>False) w (TabO g (n+1) (updI (tabF c d e n m M n k) (n*64+k) (sg j (fun j=>if bt k j then 0 else e j)))) wr) (fun x _=>m - (intOf x).toNat)
   case atStart=>exact ⟨0,Nat.zero_le _,rfl,R2.out⟩
   case round =>
    obtain ⟨j,hj,rfl,hR⟩:=hrel
    have HR3:=hide hR
    have hsb:=sg_bnd (n:=j) (f:=fun j=>if bt k j then 0 else e j) (a:=0) (b:=10000) (fun i hi=>by
     have:=HQ.out.eb i (by omega)
     split <;> omega)
    clear HR R2
    by_cases hjt:j < m
    ·obtain ⟨be,oe,rfl,hce⟩:=HQ.out.E j hjt
     have heb:=HQ.out.eb j hjt
     have c0:=hce _ hR.bel
     obtain ⟨q,hq1,hq2⟩:=bit_of k j (by omega)
     have HS:=hide (sg_succ (n:=j) (f:=fun j=>if bt k j then 0 else e j))
     generalize e j=y at *
     generalize sg j (fun j=>if bt k j=true then 0 else e j)=z at *
     clear hce
     cases hu:bt k j with
     | true =>
      rw [hu] at hq2 HS
      simp only [if_true] at hq2
      clear hu hR
      go_wp2
      go_roundw
      case rel=>exact ⟨j+1,by omega,by go_num,by rw [HS.out];simpa using HR3.out⟩
      case measure=>simp [intOf];omega
     | false =>
      rw [hu] at hq2 HS
      simp only [Bool.false_eq_true,if_false] at hq2
      have R4:=hR.drew tab_ok
      obtain ⟨F,hF⟩:=R4.get
      have c1:=tab_at hF (k:=n*64+k) (by omega)
      rw [updI_at] at c1
      have hfr:=tab_free hF (n*64+k) (by omega)
      have R5:=hide (run_tab (X:=emp) R4 (p:=n*64+k) (by omega) (z+y) (f':=updI (tabF c d e n m M n k) (n*64+k) (z+y)) (fun x=>updI_updI _ _ _ _ _))
      have hk64:(k:Int) < 64:=by omega
      have tn:(n:Int) < (n:Int)+1:=by omega
      have t1:IntKind.i64.wrap (z+y)=z+y:=IntWalk.i64_in _ (by omega)
      clear hu hF R4 hR
      go_wp2_with fail
      refine wp_region_ley (fun w'=>w'=wr.drew) (by kernel_rfl) (by kernel_rfl) (by kernel_rfl) rfl ?_
      generalize wr.drew=wd at *
      (repeat ((first | refine ley_skip (by rfl) ?_ | (refine ley_read (v:=?_) (by rfl) ?_ ?_;rotate_left;(focus (intro w' hS';go_simp;(try with_reducible rfl);done))));try simp only [Act.put,List.setIfInBounds_toArray,List.set_cons_zero,List.set_cons_succ]))
      refine ley_last rfl (by rfl) (fun K hK=>?_)
      go_wp2_with fail
      refine hK.out _ _ ?_
      clear hK c1 hfr
      go_wp2
      go_roundw
      case rel=>exact ⟨j+1,by omega,by go_num,by rw [HS.out];simpa using R5.out⟩
      case measure=>simp [intOf];omega
    ·obtain rfl:j=m:=by omega
     have R6:Hid (Run (fun _=>False) w (TabO g (n+1) (tabF c d e n j M n (k+1))) wr):=hide (by
      rw [←tab_congr (f:=updI (tabF c d e n j M n k) (n*64+k) (TB c d e n j n k)) (fun x _=>tabF_upd hM hlt x),TB_last]
      exact HR3.out)
     clear HR3 hR
     go_wp2
     go_roundw
     case rel=>exact ⟨k+1,by omega,by go_num,R6.out⟩
     case measure=>simp [intOf];omega
  ·obtain rfl:k=M:=by omega
   clear hlt
   go_wp2
   go_loopw [11] (fun x wr=>∃ (a:Nat) (x0:Int),a≤n∧x=.int .i64 x0∧x0=(a:Int) - 1∧Run (fun _=>False) w (TabO g (n+1) (tabF c d e n m k a k)) wr) (fun x _=>(intOf x+1).toNat)
   case atStart=>exact ⟨n,(n:Int) - 1,Nat.le_refl _,by go_num,rfl,HR.out⟩
   case round =>
    obtain ⟨a,x0,ha,rfl,hx0,hR⟩:=hrel
    have HR3:=hide hR
    clear HR hR
    cases a with
    | zero =>
     have tx:¬ 0≤x0:=by omega
     clear hx0
     go_wp2
     go_ret
     exact HRET.out _ _ HR3.out
    | succ i =>
     obtain rfl:x0=(i:Int):=by omega
     have R4:Hid (Run (fun _=>False) w (TabO g (n+1) (tabF c d e n m k i 0)) wr):=hide (by
      rw [←tab_congr (fun x _=>tabF_next x)];exact HR3.out)
     clear HR3 hx0
     go_wp2
     go_loopw [61] (fun x wr=>∃ s:Nat,s≤k∧x=.int .i64 s∧Run (fun _=>False) w (TabO g (n+1) (tabF c d e n m k i s)) wr) (fun x _=>k - (intOf x).toNat)
     case atStart=>exact ⟨0,Nat.zero_le _,rfl,R4.out⟩
     case round =>
      obtain ⟨s,hs,rfl,hR⟩:=hrel
      have HR5:=hide hR
      clear R4
      by_cases hst:s < k
      ·have R6:=hR.drew tab_ok
       have HR6:=hide R6
       obtain ⟨bd,od,rfl,hcd⟩:=HQ.out.D i (by omega)
       have hdb:=HQ.out.db i (by omega)
       have c0:=hcd _ R6.bel
       obtain ⟨F,hF⟩:=R6.get
       have c1:=tab_at hF (k:=(i+1)*64+s) (by omega)
       rw [tabF_at hM hst (.inl (by omega))] at c1
       have hl1:0≤TB c d e n m (i+1) s∧TB c d e n m (i+1) s≤200000:=by
        have:=L_bnd HQ.out (show n - (i+1)≤n by omega) (bt s);unfold TB;omega
       have hin:i < n:=by omega
       have hs64:(s:Int) < 64:=by omega
       have ti:(0:Int)≤(i:Int)+1:=by omega
       have t1:IntKind.i64.wrap ((i:Int)+1)=((i+1:Nat):Int):=by rw [IntWalk.i64_in _ (by omega)];omega
       have t2:IntKind.i64.wrap (d i+TB c d e n m (i+1) s)=d i+TB c d e n m (i+1) s:=IntWalk.i64_in _ (by omega)
       have HTR:=hide (TB_row (c:=c) (d:=d) (e:=e) (m:=m) (show i < n by omega) s)
       clear hF hcd hR R6 HR5
       go_wp2_with fail
       refine wp_region_lex (fun w'=>w'=wr.drew) (by kernel_rfl) (by kernel_rfl) rfl ?_
       generalize wr.drew=wd at *
       (repeat ((first | refine lex_skip (by rfl) ?_ | (refine lex_read (v:=?_) (by rfl) ?_ ?_;rotate_left;(focus (intro w' hS';go_simp;(try with_reducible rfl);done))));try simp only [Act.put,List.setIfInBounds_toArray,List.set_cons_zero,List.set_cons_succ]))
       refine lex_nil ?_
       clear t1 t2 c0 c1 ti
       obtain ⟨ba,oa,R,cR,rfl,hca,hrow⟩:=HQ.out.R i hin
       have c2:=hca _ HR6.out.bel
       clear hca
       go_wp2
       go_loopw [13,81] (fun b x wr=>∃ j:Nat,j≤m∧b=.int .i64 (mnl (bt s) (fun j=>c i j+TB c d e n m (i+1) (s ||| 1 <<< j)) (d i+TB c d e n m (i+1) s) j)∧x=.int .i64 j∧Run (fun _=>False) w (TabO g (n+1) (tabF c d e n m k i s)) wr) (fun _ x _=>m - (intOf x).toNat)
       case atStart=>exact ⟨0,Nat.zero_le _,by simp [mnl],rfl,HR6.out⟩
       case round =>
        obtain ⟨j,hj,rfl,rfl,hR⟩:=hrel
        have HR7:=hide hR
        clear HR6
        by_cases hjt:j < m
        ·obtain ⟨b',o',rfl,hcc⟩:=hrow j hjt
         have c3:=hcc _ hR.bel
         have hcb:=HQ.out.cb i hin j hjt
         have hi0:=mnl_init (U:=bt s) (f:=fun j=>c i j+TB c d e n m (i+1) (s ||| 1 <<< j)) (a:=d i+TB c d e n m (i+1) s) (m:=j)
         have hi2:=mnl_nn (U:=bt s) (f:=fun j=>c i j+TB c d e n m (i+1) (s ||| 1 <<< j)) (a:=d i+TB c d e n m (i+1) s) (m:=j) (by omega) (fun t ht=>by
          have:=L_bnd HQ.out (show n - (i+1)≤n by omega) (bt (s ||| 1 <<< t));have:=HQ.out.cb i hin t (by omega);unfold TB;omega)
         have HS:=hide (show mnl (bt s) (fun j=>c i j+TB c d e n m (i+1) (s ||| 1 <<< j)) (d i+TB c d e n m (i+1) s) (j+1)=if bt s j then mnl (bt s) (fun j=>c i j+TB c d e n m (i+1) (s ||| 1 <<< j)) (d i+TB c d e n m (i+1) s) j else min (mnl (bt s) (fun j=>c i j+TB c d e n m (i+1) (s ||| 1 <<< j)) (d i+TB c d e n m (i+1) s) j) (c i j+TB c d e n m (i+1) (s ||| 1 <<< j)) from rfl)
         generalize mnl (bt s) (fun j=>c i j+TB c d e n m (i+1) (s ||| 1 <<< j)) (d i+TB c d e n m (i+1) s) j=q at *
         obtain ⟨z,hq1,hq2⟩:=bit_of s j (by omega)
         have HROW:=hide hrow
         clear hcc hrow
         cases hu:bt s j with
         | true =>
          rw [hu] at hq2 HS
          simp only [if_true] at hq2
          clear hu hR hi0 hi2
          go_wp2
          go_roundw
          case rel=>exact ⟨j+1,by omega,by rw [HS.out];simp,by go_num,HR7.out⟩
          case measure=>simp [intOf];omega
         | false =>
          rw [hu] at hq2 HS
          simp only [Bool.false_eq_true,if_false] at hq2
          obtain ⟨p,hp1,hp2,hp3⟩:=or_of s j (by omega) (by omega)
          have hlt2:=HPW.out s j hst hjt
          have hl2:0≤TB c d e n m (i+1) (s ||| 1 <<< j)∧TB c d e n m (i+1) (s ||| 1 <<< j)≤200000:=by
           have:=L_bnd HQ.out (show n - (i+1)≤n by omega) (bt (s ||| 1 <<< j));unfold TB;omega
          have R8:=hR.drew tab_ok
          have HR8:=hide R8
          obtain ⟨F,hF⟩:=R8.get
          have c4:=tab_at hF (k:=(i+1)*64+(s ||| 1 <<< j)) (by omega)
          rw [tabF_at hM hlt2 (.inl (by omega))] at c4
          generalize s ||| 1 <<< j=so at *
          generalize TB c d e n m (i+1) so=T at *
          have HMIN:=hide (show min q (c i j+T)=if c i j+T < q then c i j+T else q by omega)
          have t1:IntKind.i64.wrap ((i:Int)+1)=((i+1:Nat):Int):=by rw [IntWalk.i64_in _ (by omega)];omega
          have t2:IntKind.i64.wrap (c i j+T)=c i j+T:=IntWalk.i64_in _ (by omega)
          have ti:(0:Int)≤(i:Int)+1:=by omega
          have ts:(so:Int) < 64:=by omega
          clear hu hR hF R8 hi0 hi2 c2
          go_wp2_with fail
          refine wp_region_lex (fun w'=>w'=wr.drew) (by kernel_rfl) (by kernel_rfl) rfl ?_
          generalize wr.drew=wd at *
          (repeat ((first | refine lex_skip (by rfl) ?_ | (refine lex_read (v:=?_) (by rfl) ?_ ?_;rotate_left;(focus (intro w' hS';go_simp;(try with_reducible rfl);done))));try simp only [Act.put,List.setIfInBounds_toArray,List.set_cons_zero,List.set_cons_succ]))
          refine lex_nil ?_
          clear t1 t2 ti ts c4 hp1 hp2 hp3
          go_wp2
          go_roundw
          case rel=>exact ⟨j+1,by omega,by rw [HS.out];first | (rw [←HMIN.out];rfl) | (simp),by go_num,HR8.out⟩
          case measure=>simp [intOf];omega
        ·obtain rfl:j=m:=by omega
         obtain ⟨F,hF⟩:=hR.get
         have c1:=tab_at hF (k:=i*64+s) (by omega)
         rw [tabF_none hM hst] at c1
         have hfr:=tab_free hF (i*64+s) (by omega)
         rw [←HTR.out]
         have R9:=hide (run_tab (X:=emp) hR (p:=i*64+s) (by omega) (TB c d e n j i s) (fun x=>tabF_upd hM hst x))
         have ti2:(i:Int) < (n:Int)+1:=by omega
         clear hF hR hrow HR7
         go_wp2
         go_roundw
         case rel=>exact ⟨s+1,by omega,by go_num,R9.out⟩
         case measure=>simp [intOf];omega
      ·obtain rfl:s=k:=by omega
       clear hR
       go_wp2
       go_roundw
       case rel=>exact ⟨i,(i:Int) - 1,by omega,rfl,rfl,HR5.out⟩
       case measure=>simp [intOf];try omega
end
end Go.Proofs.YtbnnlpjpnihheaaGreatDoor.Asn
namespace Go.Proofs.YtbnnlpjpnihheaaGreatDoor.Asn
set_option maxRecDepth 100000
open Go.RowKit Go.CH Go.CH.Asg
open Go.ChangeMaps (setBlock)

theorem owned_zero {w:World} {base g c:Nat} {e:TypeId} {size:Nat} {cur:Array Value} (hb:base≤g) (h:w.heap[g]?=some (.cells cur e (0,0))) (hs:cur.size=c*size) (hc:c≤maxLen):w.ownsRow base e size (.slice (some ⟨g,0,none⟩) 0 c) 0 []:=by
 refine ⟨by simp,.inr ⟨g,c,cur,rfl,hb,h,Nat.zero_le _,?_⟩⟩
 simp [hs,hc]
theorem size_zeroCells (z:Value) (n:Nat) (hz:z.cells=#[z]):(Builtin.zeroCells z.cells n).size=n:=by
 simp [Builtin.zeroCells,hz]

def RowRet (w:World) (e:TypeId) (n:Nat) (xs:List Value) (en:Ending) (w':World):Prop:=∃ A c,en=.returned (.slice A n c)∧Post w (fun _=>False) (RowO e 1 (.slice A n c) n xs) w'

structure MatX (w:World) (A:Option Addr) (R:List (List Value)) (V:List (Option Addr × Nat)):Prop where
 len:V.length=R.length
 src:Src w A R.length 1 (V.mapIdx fun i x=>.slice x.1 (R.getD i []).length x.2)
 row:∀ i (hi:i < R.length) x,V[i]?=some x→Src w x.1 R[i].length 1 R[i]
theorem MatX.at {w:World} {A:Option Addr} {R:List (List Value)} {V:List (Option Addr × Nat)} (h:MatX w A R V) (hn:0 < R.length) :
  ∃ b o,A=some ⟨b,o,none⟩∧∀ j (hj:j < R.length),∃ B c,Src w B R[j].length 1 R[j]∧∀ w',Below w.heap.size w w'→w'.cell? ⟨b,o+j,none⟩=some (.slice B R[j].length c):=by
 obtain ⟨b,o,rfl,hc⟩:=Src.open_ h.src hn (by omega)
 refine ⟨b,o,rfl,fun j hj=>?_⟩
 have hv:V[j]?=some (V[j]'(by rw [h.len];exact hj)):=List.getElem?_eq_getElem _
 have h1:=h.row j hj _ hv
 refine ⟨_,(V[j]'(by rw [h.len];exact hj)).2,h1,fun w' hb=>?_⟩
 have h3:=hc j (.slice (V[j]'(by rw [h.len];exact hj)).1 R[j].length (V[j]'(by rw [h.len];exact hj)).2) (by
  rw [List.getElem?_mapIdx,hv]
  simp [List.getD_eq_getElem?_getD,hj])
 rw [hb.cell (World.block_lt_of_cell? _ _ h3)];exact h3

def fl (R:List (List Value)) (k:Nat):List Value:=(R.take k).flatten
def fla (R:List (List Value)):List Value:=R.flatten
theorem fl_all (R:List (List Value)):fl R R.length=fla R:=by unfold fl fla;rw [List.take_length]
theorem flat_take {R:List (List Value)} {k:Nat} (h:k < R.length):fl R (k+1)=fl R k ++ R[k]:=by
 unfold fl
 rw [List.take_succ_eq_append_getElem h,List.flatten_append];simp
theorem flat_le {R:List (List Value)} (k:Nat):(fl R k).length≤(fla R).length:=by
 unfold fl fla
 have:=congrArg (fun l=>l.flatten.length) (List.take_append_drop k R)
 simp only [List.flatten_append,List.length_append] at this
 omega
theorem Mat.x {w:World} {A:Option Addr} {C:List (List Int)} {V:List (Option Addr × Nat)} (h:Mat w A C V):MatX w A (C.map ints) V where
 len:=by rw [h.len,List.length_map]
 src:=by
  rw [List.length_map]
  have e:(fun i (x:Option Addr × Nat)=>Value.slice x.1 ((C.map ints).getD i []).length x.2)=fun i x=>Value.slice x.1 (C.getD i []).length x.2:=by
   funext i x
   by_cases hi:i < C.length
   ·simp [List.getD_eq_getElem?_getD,hi,ints_len]
   ·simp [List.getD_eq_getElem?_getD,hi]
  rw [e];exact h.src
 row:=fun i hi x hx=>by
  have hi':i < C.length:=by simpa using hi
  have h2:=(h.row i hi' x hx).1
  have e:(C.map ints)[i]=ints C[i]:=by simp
  rw [e,ints_len];exact h2

theorem growI_any (k:Nat) (hk2:k≤1000) (w:World):Calls Tryz.prog 103 #[.slice none 0 0,.int .i64 k] w (RowRet w 3 0 []):=by
 by_cases hk:0 < k
 case neg =>
  obtain rfl:k=0:=by omega
  go_enter Tryz.func103,Tryz.ntmps103
  go_wp2
  go_ret
  exact ⟨none,0,rfl,(fun _=>False),row_nil _ _ _,Mod.refl _ _,fun i hi=>hi.elim⟩
 obtain ⟨ht,hi,hzz,hsz⟩:=intsOk
 obtain ⟨i,hi,hi1,hi2,hi3⟩:=info_parts hi
 have hr:=fun ty=>Lib.run_append_nil_zeros (P:=Tryz.prog) w 40 3 ty 3 i (Value.int .i64 0) .i64 .i64 ht Tryz.underlying3 hi hi1 k hk (by omega) (by omega) (by rw [hi3];omega)
 have hcap:=grownCap_ge w k 0 3
 have hcm:=grownCap_le_maxLen w k 0 3 (by unfold maxLen;omega)
 have HP:Hid (Post w (fun _=>False) (RowO 3 1 (.slice (some ⟨w.heap.size,0,none⟩) 0 (grownCap w k 0 3)) 0 []) (w.drew.alloc (.cells (Builtin.zeroCells (Value.int .i64 0).cells k ++ Builtin.zeroCells (Value.int .i64 0).cells (grownCap w k 0 3 - k)) 3))):=by
  refine hide (row_new (owned_zero (Nat.le_refl _) (heap_alloc_new _ _) ?_ hcm) ((below_drew (Below.refl _ _)).alloc (Nat.le_refl _) _))
  rw [Array.size_append,size_zeroCells _ _ rfl,size_zeroCells _ _ rfl];omega
 generalize grownCap w k 0 3=cap at *
 have hcm':cap≤9223372036854775807:=hcm
 clear hi hi1 hi2 hi3 hzz ht hcm
 go_enter Tryz.func103,Tryz.ntmps103
 go_wp2_with (at_builtin;refine Lib.wpList_append_run _ rfl _ _ _ _ rfl _ _ rfl rfl _ _ (hr _) ?_;refine held ?_)
 refine Held.mk ?_
 go_wp2
 go_ret
 exact ⟨_,_,rfl,HP.out⟩

theorem growR_any (k:Nat) (hk2:k≤1000) (w:World):Calls Tryz.prog 102 #[.slice none 0 0,.int .i64 k] w (RowRet w 40 0 []):=by
 by_cases hk:0 < k
 case neg =>
  obtain rfl:k=0:=by omega
  go_enter Tryz.func102,Tryz.ntmps102
  go_wp2
  go_ret
  exact ⟨none,0,rfl,(fun _=>False),row_nil _ _ _,Mod.refl _ _,fun i hi=>hi.elim⟩
 obtain ⟨ht,hi,hzz,hsz⟩:=rowsOk
 obtain ⟨i,hi,hi1,hi2,hi3⟩:=info_parts hi
 have hr:=fun ty=>Lib.run_append_nil_zeros (P:=Tryz.prog) w 75 3 ty 40 i (Value.slice none 0 0) .i64 .i64 ht Tryz.underlying3 hi hi1 k hk (by omega) (by omega) (by rw [hi3];omega)
 have hcap:=grownCap_ge w k 0 40
 have hcm:=grownCap_le_maxLen w k 0 40 (by unfold maxLen;omega)
 have HP:Hid (Post w (fun _=>False) (RowO 40 1 (.slice (some ⟨w.heap.size,0,none⟩) 0 (grownCap w k 0 40)) 0 []) (w.drew.alloc (.cells (Builtin.zeroCells (Value.slice none 0 0).cells k ++ Builtin.zeroCells (Value.slice none 0 0).cells (grownCap w k 0 40 - k)) 40))):=by
  refine hide (row_new (owned_zero (Nat.le_refl _) (heap_alloc_new _ _) ?_ hcm) ((below_drew (Below.refl _ _)).alloc (Nat.le_refl _) _))
  rw [Array.size_append,size_zeroCells _ _ rfl,size_zeroCells _ _ rfl];omega
 generalize grownCap w k 0 40=cap at *
 have hcm':cap≤9223372036854775807:=hcm
 clear hi hi1 hi2 hi3 hzz ht hcm
 go_enter Tryz.func102,Tryz.ntmps102
 go_wp2_with (at_builtin;refine Lib.wpList_append_run _ rfl _ _ _ _ rfl _ _ rfl rfl _ _ (hr _) ?_;refine held ?_)
 refine Held.mk ?_
 go_wp2
 go_ret
 exact ⟨_,_,rfl,HP.out⟩

set_option maxHeartbeats 1600000 in
theorem concatI_any {w:World} {A:Option Addr} {c:Nat} {R:List (List Value)} {V:List (Option Addr × Nat)} (h:MatX w A R V) (h1:R.length≤1000) (h2:(fla R).length≤1000) :
  Calls Tryz.prog 62 #[.slice A R.length c] w (RowRet w 3 (fla R).length (fla R)):=by
 have HA:=hide h
 have HFL:=hide (fun k=>flat_le (R:=R) k)
 obtain ⟨n,hn⟩:∃ n,n=R.length:=⟨_,rfl⟩
 have HN:=hide hn
 rw [←hn] at h1
 rw [←hn]
 clear h hn
 go_enter Tryz.func62,Tryz.ntmps62
 go_wp2
 go_loop [3,11] (fun s i=>∃ k:Nat,k≤n∧s=.int .i64 (((fl R k).length:Nat):Int)∧i=.int .i64 k) (fun _ i=>n - (intOf i).toNat)
 case atStart=>exact ⟨0,Nat.zero_le _,rfl,rfl⟩
 case round =>
  obtain ⟨k,hk,rfl,rfl⟩:=hrel
  by_cases hlt:k < n
  ·have hkr:k < R.length:=by rw [←HN.out];exact hlt
   obtain ⟨b,o,rfl,hc⟩:=HA.out.at (by omega)
   obtain ⟨B,cp,-,hcell⟩:=hc k hkr
   have c0:=hcell _ (Below.refl _ _)
   have hl1:=HFL.out k
   have hl2:=HFL.out (k+1)
   rw [flat_take hkr,List.length_append] at hl2
   have HT:=hide (show (fl R (k+1)).length=(fl R k).length+R[k].length by rw [flat_take hkr,List.length_append])
   generalize (fl R k).length=s at *
   generalize R[k].length=t at *
   clear hc hcell
   go_wp2
   go_round
   case rel=>exact ⟨k+1,by omega,by rw [HT.out];go_num,by go_num⟩
   case measure=>simp [intOf];omega
  ·obtain rfl:k=n:=by omega
   have HT:=hide (show (fl R k)=(fla R) by rw [HN.out,fl_all])
   rw [HT.out]
   have KG:=hide (growI_any (fla R).length h2 w)
   go_wp2_with fail
   refine KG.out.mono ?_
   rintro e w1 ⟨A1,c1,rfl,hP⟩
   have HR:=hide (((Run.begin w).fresh emp_ok hP).imp fun _ _ h=>star_emp h)
   clear KG hP
   go_wp2
   go_loopw [6,27] (fun v i wr=>∃ (j:Nat) (B:Option Addr) (d:Nat),j≤k∧v=.slice B (fl R j).length d∧i=.int .i64 j∧Run (fun _=>False) w (RowO 3 1 (.slice B (fl R j).length d) (fl R j).length (fl R j)) wr) (fun _ i _=>k - (intOf i).toNat)
   case atStart=>exact ⟨0,_,_,Nat.zero_le _,rfl,rfl,HR.out⟩
   case round =>
    obtain ⟨j,B,d,hj,rfl,rfl,hR⟩:=hrel
    have HR2:=hide hR
    clear HR
    by_cases hjt:j < k
    ·have hjr:j < R.length:=by rw [←HN.out];exact hjt
     obtain ⟨b,o,rfl,hc⟩:=HA.out.at (by omega)
     obtain ⟨B2,cp,hsrc,hcell⟩:=hc j hjr
     have c0:=hcell _ hR.bel
     have HS:=hide (src_below hsrc hR.bel)
     have hl1:=HFL.out j
     have hl2:=HFL.out (j+1)
     rw [flat_take hjr,List.length_append] at hl2
     have HT2:=hide (flat_take hjr)
     generalize (fl R j)=xs at *
     generalize R[j]=ys at *
     clear hc hcell hsrc hR
     go_wp2_with (at_builtin;refine held ?_)
     obtain ⟨F7,hR7,bk7⟩:=HR2.out.all row_ok
     refine Held.mk (wpList_app rfl (.tmp 31) (.tmp 32) rfl intsOk _ 0 (v:=.slice B xs.length d) (n:=xs.length) (xs:=xs) rfl hR7.1 (A:=B2) (m:=ys.length) (c:=cp) (news:=ys) rfl HS.out (by omega) (by decide) (Nat.zero_le _) ?_)
     intro v8 w8 ho8 hg8 hv8
     have S8:=bk7 _ _ (row_app hR7 ho8 hg8 hv8)
     obtain ⟨A8,c8,rfl⟩:=own_form ho8
     rw [←List.length_append,←HT2.out] at S8
     have HS8:=hide S8
     have e9:xs.length+ys.length=(fl R (j+1)).length:=by rw [HT2.out,List.length_append]
     rw [e9]
     clear ho8 hg8 hv8 bk7 hR7 HS S8 HR2 e9
     go_wp2
     go_roundw
     case rel=>exact ⟨j+1,A8,c8,by omega,rfl,by go_num,HS8.out⟩
     case measure=>simp [intOf];omega
    ·obtain rfl:j=k:=by omega
     rw [HT.out] at HR2
     rw [HT.out]
     clear hR
     go_wp2
     go_ret
     exact ⟨B,d,rfl,HR2.out.post row_ok |> fun h=>h⟩

set_option maxHeartbeats 1600000 in
theorem concatR_any {w:World} {A:Option Addr} {c:Nat} {R:List (List Value)} {V:List (Option Addr × Nat)} (h:MatX w A R V) (h1:R.length≤1000) (h2:(fla R).length≤1000) :
  Calls Tryz.prog 61 #[.slice A R.length c] w (RowRet w 40 (fla R).length (fla R)):=by
 have HA:=hide h
 have HFL:=hide (fun k=>flat_le (R:=R) k)
 obtain ⟨n,hn⟩:∃ n,n=R.length:=⟨_,rfl⟩
 have HN:=hide hn
 rw [←hn] at h1
 rw [←hn]
 clear h hn
 go_enter Tryz.func61,Tryz.ntmps61
 go_wp2
 go_loop [3,11] (fun s i=>∃ k:Nat,k≤n∧s=.int .i64 (((fl R k).length:Nat):Int)∧i=.int .i64 k) (fun _ i=>n - (intOf i).toNat)
 case atStart=>exact ⟨0,Nat.zero_le _,rfl,rfl⟩
 case round =>
  obtain ⟨k,hk,rfl,rfl⟩:=hrel
  by_cases hlt:k < n
  ·have hkr:k < R.length:=by rw [←HN.out];exact hlt
   obtain ⟨b,o,rfl,hc⟩:=HA.out.at (by omega)
   obtain ⟨B,cp,-,hcell⟩:=hc k hkr
   have c0:=hcell _ (Below.refl _ _)
   have hl1:=HFL.out k
   have hl2:=HFL.out (k+1)
   rw [flat_take hkr,List.length_append] at hl2
   have HT:=hide (show (fl R (k+1)).length=(fl R k).length+R[k].length by rw [flat_take hkr,List.length_append])
   generalize (fl R k).length=s at *
   generalize R[k].length=t at *
   clear hc hcell
   go_wp2
   go_round
   case rel=>exact ⟨k+1,by omega,by rw [HT.out];go_num,by go_num⟩
   case measure=>simp [intOf];omega
  ·obtain rfl:k=n:=by omega
   have HT:=hide (show (fl R k)=(fla R) by rw [HN.out,fl_all])
   rw [HT.out]
   have KG:=hide (growR_any (fla R).length h2 w)
   go_wp2_with fail
   refine KG.out.mono ?_
   rintro e w1 ⟨A1,c1,rfl,hP⟩
   have HR:=hide (((Run.begin w).fresh emp_ok hP).imp fun _ _ h=>star_emp h)
   clear KG hP
   go_wp2
   go_loopw [6,27] (fun v i wr=>∃ (j:Nat) (B:Option Addr) (d:Nat),j≤k∧v=.slice B (fl R j).length d∧i=.int .i64 j∧Run (fun _=>False) w (RowO 40 1 (.slice B (fl R j).length d) (fl R j).length (fl R j)) wr) (fun _ i _=>k - (intOf i).toNat)
   case atStart=>exact ⟨0,_,_,Nat.zero_le _,rfl,rfl,HR.out⟩
   case round =>
    obtain ⟨j,B,d,hj,rfl,rfl,hR⟩:=hrel
    have HR2:=hide hR
    clear HR
    by_cases hjt:j < k
    ·have hjr:j < R.length:=by rw [←HN.out];exact hjt
     obtain ⟨b,o,rfl,hc⟩:=HA.out.at (by omega)
     obtain ⟨B2,cp,hsrc,hcell⟩:=hc j hjr
     have c0:=hcell _ hR.bel
     have HS:=hide (src_below hsrc hR.bel)
     have hl1:=HFL.out j
     have hl2:=HFL.out (j+1)
     rw [flat_take hjr,List.length_append] at hl2
     have HT2:=hide (flat_take hjr)
     generalize (fl R j)=xs at *
     generalize R[j]=ys at *
     clear hc hcell hsrc hR
     go_wp2_with (at_builtin;refine held ?_)
     obtain ⟨F7,hR7,bk7⟩:=HR2.out.all row_ok
     refine Held.mk (wpList_app rfl (.tmp 31) (.tmp 32) rfl rowsOk _ 0 (v:=.slice B xs.length d) (n:=xs.length) (xs:=xs) rfl hR7.1 (A:=B2) (m:=ys.length) (c:=cp) (news:=ys) rfl HS.out (by omega) (by decide) (Nat.zero_le _) ?_)
     intro v8 w8 ho8 hg8 hv8
     have S8:=bk7 _ _ (row_app hR7 ho8 hg8 hv8)
     obtain ⟨A8,c8,rfl⟩:=own_form ho8
     rw [←List.length_append,←HT2.out] at S8
     have HS8:=hide S8
     have e9:xs.length+ys.length=(fl R (j+1)).length:=by rw [HT2.out,List.length_append]
     rw [e9]
     clear ho8 hg8 hv8 bk7 hR7 HS S8 HR2 e9
     go_wp2
     go_roundw
     case rel=>exact ⟨j+1,A8,c8,by omega,rfl,by go_num,HS8.out⟩
     case measure=>simp [intOf];omega
    ·obtain rfl:j=k:=by omega
     rw [HT.out] at HR2
     rw [HT.out]
     clear hR
     go_wp2
     go_ret
     exact ⟨B,d,rfl,HR2.out.post row_ok |> fun h=>h⟩

set_option maxHeartbeats 1600000 in
theorem clone_any {w:World} {A:Option Addr} {c:Nat} {l:List Int} (h:Vec w A l) (hl:l.length≤1000) :
  Calls Tryz.prog 60 #[.slice A l.length c] w (RowRet w 3 l.length (ints l)):=by
 cases A with
 | none =>
  have h0:l.length=0:=by
   rcases Nat.eq_zero_or_pos l.length with e | e
   ·exact e
   ·obtain ⟨b,o,h1,_⟩:=h.at e
    cases h1
  obtain rfl:=List.length_eq_zero_iff.1 h0
  clear h
  have q22:∀ (w:World),(binOp .eql 40 (.slice none 0 c) (.slice none 0 0)).run Tryz.prog w=.ok (.bool true) w:=fun w=>Lib.run_eql_slice_nil w _ _ none _ c 0 0 Tryz.underlying40
  show Calls Tryz.prog 60 #[.slice none 0 c] w (RowRet w 3 0 [])
  go_enter Tryz.func60,Tryz.ntmps60
  go_wp2
  go_ret
  exact ⟨none,0,rfl,(fun _=>False),row_nil _ _ _,Mod.refl _ _,fun i hi=>hi.elim⟩
 | some ad =>
  have hR0:=(Run.begin w).fresh emp_ok (row_made w 3 1)
  have HR:=hide (hR0.imp (fun _ _ h=>star_emp h))
  have HS:=hide (src_below h (show Below w.heap.size w (w.alloc (.cells #[] 3)) from (Below.refl _ _).alloc (Nat.le_refl _) _))
  have q22:∀ (w:World),(binOp .eql 40 (.slice (some ad) l.length c) (.slice none 0 0)).run Tryz.prog w=.ok (.bool false) w:=fun w=>Lib.run_eql_slice_nil w _ _ (some ad) _ c 0 0 Tryz.underlying40
  clear h hR0
  go_enter Tryz.func60,Tryz.ntmps60
  go_wp2_with (at_builtin;refine held ?_)
  obtain ⟨F7,hR7,bk7⟩:=HR.out.all row_ok
  refine Held.mk (wpList_app rfl (.tmp 5) (.tmp 6) rfl intsOk _ 0 (v:=.slice (some ⟨w.heap.size,0,none⟩) 0 0) (n:=0) (xs:=[]) rfl hR7.1 (A:=some ad) (m:=l.length) (c:=c) (news:=ints l) rfl HS.out (by omega) (by decide) (Nat.zero_le _) ?_)
  intro v8 w8 ho8 hg8 hv8
  have S8:=bk7 _ _ (row_app hR7 ho8 hg8 hv8)
  obtain ⟨A8,c8,rfl⟩:=own_form ho8
  rw [Nat.zero_add,List.nil_append] at S8
  have HS8:=hide S8
  rw [Nat.zero_add]
  clear ho8 hg8 hv8 bk7 hR7 HS S8 HR
  go_wp2
  go_ret
  exact ⟨A8,c8,rfl,HS8.out.post row_ok⟩
end Go.Proofs.YtbnnlpjpnihheaaGreatDoor.Asn
namespace Go.Proofs.YtbnnlpjpnihheaaGreatDoor.Asn
open Go.RowKit Go.CH Go.CH.Asg
open Go.ChangeMaps (setBlock)

theorem res_cell_tmp {fn:Func} {p u:Tmp} {ty:TypeId} (h:fn.results=#[.cell p ty,.tmp u]) {P:Program} (tmps:Array Value) (w:World) (g:Nat) (t:TypeId) (cs:Array Value) (fr:Nat × Nat) {d:Array Field}
  (hp:tmps.getD p undef=.pointer (some ⟨g,0,none⟩)) (hg:w.heap[g]?=some (.cells cs t fr))
  (hu:P.underlying ty=some (.struct d)) (hi:(P.info? ty).map (·.size)=some cs.size) :
  (results fn tmps).run P w=.ok (.tuple #[.agg cs,tmps.getD u undef]) w:=by
 rw [results_cell_tmp h,hp]
 simp [asAddr,run_loadVar_row w g t ty cs fr (.struct d) hg hu rfl hi]
def zeroA:Array Value:=#[.int .i64 0,.slice none 0 0,.slice none 0 0,.slice none 0 0]

def VecO (A:Option Addr) (c:Nat) (l:List Int):CH.Own:=RowO 3 1 (.slice A l.length c) l.length (ints l)
theorem vec_ok {A:Option Addr} {c:Nat} {l:List Int}:(VecO A c l).Ok:=row_ok
theorem vec_snoc {A:Option Addr} {c:Nat} {l:List Int} {x:Int}:RowO 3 1 (.slice A (l.length+1) c) (l.length+1) (ints l ++ [.int .i64 x])=VecO A c (l ++ [x]):=by
 unfold VecO
 have e:ints (l ++ [x])=ints l ++ [.int .i64 x]:=by simp [ints]
 rw [e,List.length_append,List.length_singleton]
theorem vec_vec {w:World} {F:Nat→Prop} {A:Option Addr} {c:Nat} {l:List Int} (h:VecO A c l w F):Vec w A l:=row_src h (ints_one l)
theorem vec_nil (w:World):VecO none 0 [] w (fun _=>False):=row_nil w 3 1

def BestO (g6 ga:Nat) (k:Int) (A1 A2 A3:Option Addr) (c1 c2 c3:Nat) (ps us vs:List Int):CH.Own :=
 star (VecO A1 c1 ps) (star (VecO A2 c2 us) (star (VecO A3 c3 vs) (star (CellO ga #[.int .i64 k,.slice A1 ps.length c1,.slice A2 us.length c2,.slice A3 vs.length c3] 85) (CellO g6 zeroA 85))))
theorem best_ok {g6 ga:Nat} {k:Int} {A1 A2 A3:Option Addr} {c1 c2 c3:Nat} {ps us vs:List Int}:(BestO g6 ga k A1 A2 A3 c1 c2 c3 ps us vs).Ok:=star_ok vec_ok (star_ok vec_ok (star_ok vec_ok (star_ok cell_ok cell_ok)))

structure BestM where
 k:Int
 ps:List Int
 us:List Int
 vs:List Int
def bestM (C:List (List Int)) (D E:List Int):BestM:=⟨bcost (cF C) (lF D) (lF E) D.length E.length,bps (cF C) (lF D) (lF E) D.length E.length,bus (cF C) (lF D) (lF E) D.length E.length,bvs (cF C) (lF D) (lF E) D.length E.length⟩

def AsgV (w:World) (v:Value) (x:BestM):Prop :=
 ∃ A1 A2 A3 c1 c2 c3,v=.agg #[.int .i64 x.k,.slice A1 x.ps.length c1,.slice A2 x.us.length c2,.slice A3 x.vs.length c3]∧Vec w A1 x.ps∧Vec w A2 x.us∧Vec w A3 x.vs
def BestRet (w:World) (C:List (List Int)) (D E:List Int) (e:Ending) (w':World):Prop :=
 ∃ v,e=.returned (.tuple #[v,.int .i64 (if vld C D E then 0 else 1)])∧Below w.heap.size w w'∧AsgV w' v (if vld C D E then bestM C D E else ⟨0,[],[],[]⟩)
section
variable {w0 W:World} {X Y:CH.Own}
theorem cell_put {g:Nat} {cs cs':Array Value} {t:TypeId} (hY:Y.Ok) (h:Run (fun _=>False) w0 (star (CellO g cs t) Y) W) (i:Nat) (v:Value) (he:cs.setIfInBounds i v=cs'):Run (fun _=>False) w0 (star (CellO g cs' t) Y) (W.setCell ⟨g,i,none⟩ v):=by
 obtain ⟨F,hC,-,bk⟩:=h.take cell_ok hY
 rw [←he]
 exact bk _ _ (cell_set hC i v)

theorem best_ps {g6 ga:Nat} {k x:Int} {A1 A2 A3 A8:Option Addr} {c1 c2 c3 c8:Nat} {ps us vs:List Int} (hX:X.Ok)
  (h:Run (fun _=>False) w0 (star (RowO 3 1 (.slice A8 (ps.length+1) c8) (ps.length+1) (ints ps ++ [.int .i64 x])) (star (VecO A2 c2 us) (star (VecO A3 c3 vs) (star (CellO ga #[.int .i64 k,.slice A1 ps.length c1,.slice A2 us.length c2,.slice A3 vs.length c3] 85) (star (CellO g6 zeroA 85) X))))) W) :
  Run (fun _=>False) w0 (star (BestO g6 ga k A8 A2 A3 c8 c2 c3 (ps ++ [x]) us vs) X) (W.setCell ⟨ga,1,none⟩ (.slice A8 (ps.length+1) c8)):=by
 rw [vec_snoc] at h
 have h1:=cell_put (star_ok vec_ok (star_ok vec_ok (star_ok vec_ok (star_ok cell_ok hX)))) (h.perm (by ac_rfl:_=star (CellO ga #[.int .i64 k,.slice A1 ps.length c1,.slice A2 us.length c2,.slice A3 vs.length c3] 85) (star (VecO A8 c8 (ps ++ [x])) (star (VecO A2 c2 us) (star (VecO A3 c3 vs) (star (CellO g6 zeroA 85) X)))))) 1 (.slice A8 (ps.length+1) c8) (cs':=#[.int .i64 k,.slice A8 (ps ++ [x]).length c8,.slice A2 us.length c2,.slice A3 vs.length c3]) (by rw [List.length_append,List.length_singleton];rfl)
 unfold BestO
 exact h1.perm (by ac_rfl)
theorem best_us {g6 ga:Nat} {k x:Int} {A1 A2 A3 A8:Option Addr} {c1 c2 c3 c8:Nat} {ps us vs:List Int} (hX:X.Ok)
  (h:Run (fun _=>False) w0 (star (RowO 3 1 (.slice A8 (us.length+1) c8) (us.length+1) (ints us ++ [.int .i64 x])) (star (VecO A1 c1 ps) (star (VecO A3 c3 vs) (star (CellO ga #[.int .i64 k,.slice A1 ps.length c1,.slice A2 us.length c2,.slice A3 vs.length c3] 85) (star (CellO g6 zeroA 85) X))))) W) :
  Run (fun _=>False) w0 (star (BestO g6 ga k A1 A8 A3 c1 c8 c3 ps (us ++ [x]) vs) X) (W.setCell ⟨ga,2,none⟩ (.slice A8 (us.length+1) c8)):=by
 rw [vec_snoc] at h
 have h1:=cell_put (star_ok vec_ok (star_ok vec_ok (star_ok vec_ok (star_ok cell_ok hX)))) (h.perm (by ac_rfl:_=star (CellO ga #[.int .i64 k,.slice A1 ps.length c1,.slice A2 us.length c2,.slice A3 vs.length c3] 85) (star (VecO A1 c1 ps) (star (VecO A8 c8 (us ++ [x])) (star (VecO A3 c3 vs) (star (CellO g6 zeroA 85) X)))))) 2 (.slice A8 (us.length+1) c8) (cs':=#[.int .i64 k,.slice A1 ps.length c1,.slice A8 (us ++ [x]).length c8,.slice A3 vs.length c3]) (by rw [List.length_append,List.length_singleton];rfl)
 unfold BestO
 exact h1.perm (by ac_rfl)

theorem best_cells {g6 ga:Nat} {k:Int} {A1 A2 A3:Option Addr} {c1 c2 c3:Nat} {ps us vs:List Int} (h:Run (fun _=>False) w0 (star (BestO g6 ga k A1 A2 A3 c1 c2 c3 ps us vs) X) W) :
  W.cell? ⟨ga,0,none⟩=some (.int .i64 k)∧W.cell? ⟨ga,1,none⟩=some (.slice A1 ps.length c1)∧W.cell? ⟨ga,2,none⟩=some (.slice A2 us.length c2)∧W.cell? ⟨ga,3,none⟩=some (.slice A3 vs.length c3)∧∀ i,W.frozen? ⟨ga,i,none⟩=false:=by
 have h1:=h
 unfold BestO at h1
 obtain ⟨F,hC⟩:=(h1.perm (by ac_rfl:_=star (CellO ga #[.int .i64 k,.slice A1 ps.length c1,.slice A2 us.length c2,.slice A3 vs.length c3] 85) (star (VecO A1 c1 ps) (star (VecO A2 c2 us) (star (VecO A3 c3 vs) (star (CellO g6 zeroA 85) X)))))).fst
 exact ⟨cell_at hC rfl,cell_at hC rfl,cell_at hC rfl,cell_at hC rfl,cell_free hC⟩
theorem best_p1 {g6 ga:Nat} {k:Int} {A1 A2 A3:Option Addr} {c1 c2 c3:Nat} {ps us vs:List Int} (h:Run (fun _=>False) w0 (star (BestO g6 ga k A1 A2 A3 c1 c2 c3 ps us vs) X) W) :
  Run (fun _=>False) w0 (star (VecO A1 c1 ps) (star (VecO A2 c2 us) (star (VecO A3 c3 vs) (star (CellO ga #[.int .i64 k,.slice A1 ps.length c1,.slice A2 us.length c2,.slice A3 vs.length c3] 85) (star (CellO g6 zeroA 85) X))))) W:=by
 unfold BestO at h;exact h.perm (by ac_rfl)
theorem best_p2 {g6 ga:Nat} {k:Int} {A1 A2 A3:Option Addr} {c1 c2 c3:Nat} {ps us vs:List Int} (h:Run (fun _=>False) w0 (star (BestO g6 ga k A1 A2 A3 c1 c2 c3 ps us vs) X) W) :
  Run (fun _=>False) w0 (star (VecO A2 c2 us) (star (VecO A1 c1 ps) (star (VecO A3 c3 vs) (star (CellO ga #[.int .i64 k,.slice A1 ps.length c1,.slice A2 us.length c2,.slice A3 vs.length c3] 85) (star (CellO g6 zeroA 85) X))))) W:=by
 unfold BestO at h;exact h.perm (by ac_rfl)
theorem best_p3 {g6 ga:Nat} {k:Int} {A1 A2 A3:Option Addr} {c1 c2 c3:Nat} {ps us vs:List Int} (h:Run (fun _=>False) w0 (star (BestO g6 ga k A1 A2 A3 c1 c2 c3 ps us vs) X) W) :
  Run (fun _=>False) w0 (star (VecO A3 c3 vs) (star (VecO A1 c1 ps) (star (VecO A2 c2 us) (star (CellO ga #[.int .i64 k,.slice A1 ps.length c1,.slice A2 us.length c2,.slice A3 vs.length c3] 85) (star (CellO g6 zeroA 85) X))))) W:=by
 unfold BestO at h;exact h.perm (by ac_rfl)
theorem oks5 {a b c d:CH.Own} (h1:a.Ok) (h2:b.Ok) (h3:c.Ok) (h4:d.Ok) (hX:X.Ok):(star a (star b (star c (star d X)))).Ok:=star_ok h1 (star_ok h2 (star_ok h3 (star_ok h4 hX)))

theorem src_lit (W:World) (x:Int):Src (W.alloc (.cells #[.int .i64 x] 3)) (some ⟨W.heap.size,0,none⟩) 1 1 [.int .i64 x]:=Src.one (heap_alloc_new W _) rfl
end
end Go.Proofs.YtbnnlpjpnihheaaGreatDoor.Asn
namespace Go.Proofs.YtbnnlpjpnihheaaGreatDoor.Asn
open Go.RowKit Go.CH Go.CH.Asg
open Go.ChangeMaps (setBlock)

def andO (p:Prop) (O:CH.Own):CH.Own:=fun w F=>p∧O w F
theorem andO_ok {p:Prop} {O:CH.Own} (h:O.Ok):(andO p O).Ok:=⟨fun ⟨_,h1⟩=>h.lt h1,fun ⟨h0,h1⟩ hk=>⟨h0,h.keep h1 hk⟩⟩
def exO {α:Type} (O:α→CH.Own):CH.Own:=fun w F=>∃ x,O x w F
theorem exO_ok {α:Type} {O:α→CH.Own} (h:∀ x,(O x).Ok):(exO O).Ok:=⟨fun ⟨x,h1⟩=>(h x).lt h1,fun ⟨x,h1⟩ hk=>⟨x,(h x).keep h1 hk⟩⟩
theorem run_ex {F0:Nat→Prop} {w0 W:World} {α:Type} {O:α→CH.Own} {X:CH.Own} (h:Run F0 w0 (star (exO O) X) W):∃ x,Run F0 w0 (star (O x) X) W:=by
 obtain ⟨F,⟨F1,F2,⟨x,h1⟩,h2,h3,h4⟩,h5⟩:=h.own
 exact ⟨x,⟨F,⟨F1,F2,h1,h2,h3,h4⟩,h5⟩,h.mod⟩
theorem run_and {F0:Nat→Prop} {w0 W:World} {p:Prop} {O X:CH.Own} (h:Run F0 w0 (star (andO p O) X) W):p∧Run F0 w0 (star O X) W:=by
 obtain ⟨F,⟨F1,F2,⟨h0,h1⟩,h2,h3,h4⟩,h5⟩:=h.own
 exact ⟨h0,⟨F,⟨F1,F2,h1,h2,h3,h4⟩,h5⟩,h.mod⟩
theorem run_mk {F0:Nat→Prop} {w0 W:World} {α:Type} {p:α→Prop} {O:α→CH.Own} {X:CH.Own} (x:α) (hp:p x) (h:Run F0 w0 (star (O x) X) W):Run F0 w0 (star (exO fun x=>andO (p x) (O x)) X) W :=
 h.imp fun w F hh=>star_mono hh (fun F h1=>⟨x,hp,h1⟩) (fun _ h=>h)
theorem run_drop0 {F0:Nat→Prop} {w0 W:World} {X:CH.Own} (h:Run F0 w0 (star emp X) W):Run F0 w0 X W:=h.drop
section
variable {w0 W:World} {F0:Nat→Prop} {Z:CH.Own} {ops:Array Oper} {a:Act} {Q:Exit→Act→World→Prop}
end

theorem put_eval {a:Act} {d:Nat} (v:Value) (h:d < a.tmps.size):(a.put (some d) v).eval (.tmp d)=v:=by
 simp [Act.put,Act.eval,h]
section
variable {w W:World} {A B G A1 B1:Option Addr} {c:Nat→Nat→Int} {d e:Nat→Int} {n m i:Nat} {RV:List Value} {x:Value}

theorem Prq.dup (h:Prq w A B G c d e n m) (hn:n≤6) (hrow:∀ i,i < n→∃ R cp,RV[i]?=some (.slice R m cp)∧∀ j,j < m→∃ b' o',R=some ⟨b',o',none⟩∧∀ w',Below w.heap.size w w'→w'.cell? ⟨b',o'+j,none⟩=some (.int .i64 (c i j)))
  (hl:RV.length=n) (hi:i < n) (hx:RV[i]?=some x) (hb:Below w.heap.size w W) (h1:Src W A1 (n+1) 1 (RV ++ [x])) (h2:Src W B1 (n+1) 1 ((fv n fun j=>.int .i64 (d j)) ++ [.int .i64 (d i)])) :
  Prq W A1 B1 G (dupc c n i) (dupd d n i) e (n+1) m where
 n7:=by omega
 m6:=h.m6
 db:=fun r hr=>by unfold dupd;split;exact h.db i hi;exact h.db r (by omega)
 eb:=h.eb
 cb:=fun r hr j hj=>by unfold dupc;split;exact h.cb i hi j hj;exact h.cb r (by omega) j hj
 ds:=by
  have e:(fv (n+1) fun r=>Value.int .i64 (dupd d n i r))=(fv n fun j=>.int .i64 (d j)) ++ [.int .i64 (d i)]:=by
   unfold fv
   rw [List.range_succ,List.map_append]
   congr 1
   ·exact List.map_congr_left fun r hr=>by
     have:r≠n:=by have:=List.mem_range.1 hr;omega
     simp [dupd,this]
   ·simp [dupd]
  rw [e];exact h2
 es:=src_below h.es hb
 rows:=by
  refine ⟨_,h1,fun r hr=>?_⟩
  by_cases e:r=n
  ·obtain ⟨R,cp,g1,g2⟩:=hrow i hi
   rw [hx] at g1
   refine ⟨R,cp,?_,fun j hj=>?_⟩
   ·rw [e,List.getElem?_append_right (by omega),hl,Nat.sub_self];simpa using g1
   ·obtain ⟨b',o',k1,k2⟩:=g2 j hj
    exact ⟨b',o',k1,fun w2 hb2=>by simp only [dupc,if_pos e];exact k2 w2 (bel_trans hb hb2)⟩
  ·obtain ⟨R,cp,g1,g2⟩:=hrow r (by omega)
   refine ⟨R,cp,?_,fun j hj=>?_⟩
   ·rw [List.getElem?_append_left (by omega)];exact g1
   ·obtain ⟨b',o',k1,k2⟩:=g2 j hj
    exact ⟨b',o',k1,fun w2 hb2=>by simp only [dupc,if_neg e];exact k2 w2 (bel_trans hb hb2)⟩
end

theorem run_two {w0 W:World} {R:CH.Own} (h:Run (fun _=>False) w0 R W):Run (fun _=>False) w0 (star emp (star emp R)) W:=by
 have h1:Run (fun _=>False) w0 (star emp R) W:=h.one.imp fun _ _ h=>star_comm h
 exact h1.one.imp fun _ _ h=>star_comm h

theorem len1 {vs:List Value} (h:vs.length=1):∃ a,vs=[a]:=by
 match vs,h with
 | [a],_=>exact ⟨a,rfl⟩
theorem len2 {vs:List Value} (h:vs.length=2):∃ a b,vs=[a,b]:=by
 match vs,h with
 | [a,b],_=>exact ⟨a,b,rfl⟩
theorem len3 {vs:List Value} (h:vs.length=3):∃ a b c,vs=[a,b,c]:=by
 match vs,h with
 | [a,b,c],_=>exact ⟨a,b,c,rfl⟩

theorem run_build22 (A:Option Addr) (n c:Nat) (w:World):(Instr.buildSlice 75 1 #[(0,.slice A n c)]).run Tryz.prog w=.ok (.slice (some ⟨w.heap.size,0,none⟩) 1 1) (w.alloc (.cells #[.slice A n c] 40)):=by go_simp
theorem run_build23 (x:Int) (w:World):(Instr.buildSlice 40 1 #[(0,.int .i64 x)]).run Tryz.prog w=.ok (.slice (some ⟨w.heap.size,0,none⟩) 1 1) (w.alloc (.cells #[.int .i64 x] 3)):=by go_simp
section
variable {w0 W:World} {F0:Nat→Prop} {Z:CH.Own} {ops:Array Oper} {a:Act} {Q:Exit→Act→World→Prop}
theorem wp_of_run {o:Oper} {v:Value} {w':World} {K:Act→World→Prop} (hrun:(execOp a.eval o).run Tryz.prog W=.ok (.value v) w') (h:K (a.put o.dst v) w'):o.wp Tryz.prog a W K Q:=by
 unfold Oper.wp
 rw [hrun];exact h
theorem exec_build {o:Oper} {ts:TypeId} {x:Operand} {v r:Value} {w w':World} (hop:o.op=.buildSlice ts 1 #[(0,x)]) (hx:a.eval x=v) (hb:(Instr.buildSlice ts 1 #[(0,v)]).run Tryz.prog w=.ok r w'):(execOp a.eval o).run Tryz.prog w=.ok (.value r) w':=by
 unfold execOp
 simp only [hop,List.map_toArray,List.map_cons,List.map_nil,hx]
 simp only [Sem.run_bind,hb,Result.andThen_ok,Sem.run_pure]
theorem ap_assign {o:Oper} {x:Operand} {v:Value} {K:Act→World→Prop} (ho:o.op=.assign x) (hx:a.eval x=v) (h:K (a.put o.dst v) W):o.wp Tryz.prog a W K Q:=by
 refine wp_of_run (v:=v) (w':=W) ?_ h
 unfold execOp
 simp only [ho,hx,Sem.run_pure]
end

theorem best_res {w0 W:World} {X:CH.Own} {g6 ga:Nat} {k:Int} {A1 A2 A3:Option Addr} {c1 c2 c3:Nat} {ps us vs:List Int} (h:Run (fun _=>False) w0 (star (BestO g6 ga k A1 A2 A3 c1 c2 c3 ps us vs) X) W) :
  W.cell? ⟨g6,0,none⟩=some (.int .i64 0)∧W.cell? ⟨g6,1,none⟩=some (.slice none 0 0)∧W.cell? ⟨g6,2,none⟩=some (.slice none 0 0)∧W.cell? ⟨g6,3,none⟩=some (.slice none 0 0)∧∀ i,W.frozen? ⟨g6,i,none⟩=false:=by
 unfold BestO at h
 obtain ⟨F,hC⟩:=(h.perm (by ac_rfl:_=star (CellO g6 zeroA 85) (star (VecO A1 c1 ps) (star (VecO A2 c2 us) (star (VecO A3 c3 vs) (star (CellO ga #[.int .i64 k,.slice A1 ps.length c1,.slice A2 us.length c2,.slice A3 vs.length c3] 85) X)))))).fst
 exact ⟨cell_at hC rfl,cell_at hC rfl,cell_at hC rfl,cell_at hC rfl,cell_free hC⟩

theorem best_end {w0 W:World} {X:CH.Own} {g6 ga:Nat} {k:Int} {A1 A2 A3:Option Addr} {c1 c2 c3:Nat} {ps us vs:List Int} (hX:X.Ok) (h:Run (fun _=>False) w0 (star (BestO g6 ga k A1 A2 A3 c1 c2 c3 ps us vs) X) W) :
  Run (fun _=>False) w0 (star (CellO g6 #[.int .i64 k,.slice A1 ps.length c1,.slice A2 us.length c2,.slice A3 vs.length c3] 85) (star (VecO A1 c1 ps) (star (VecO A2 c2 us) (star (VecO A3 c3 vs) X)))) ((((W.setCell ⟨g6,0,none⟩ (.int .i64 k)).setCell ⟨g6,1,none⟩ (.slice A1 ps.length c1)).setCell ⟨g6,2,none⟩ (.slice A2 us.length c2)).setCell ⟨g6,3,none⟩ (.slice A3 vs.length c3)):=by
 unfold BestO at h
 have h1:=h.perm (by ac_rfl:_=star (CellO g6 zeroA 85) (star (VecO A1 c1 ps) (star (VecO A2 c2 us) (star (VecO A3 c3 vs) (star (CellO ga #[.int .i64 k,.slice A1 ps.length c1,.slice A2 us.length c2,.slice A3 vs.length c3] 85) X)))))
 have oY:(star (VecO A1 c1 ps) (star (VecO A2 c2 us) (star (VecO A3 c3 vs) (star (CellO ga #[.int .i64 k,.slice A1 ps.length c1,.slice A2 us.length c2,.slice A3 vs.length c3] 85) X)))).Ok:=oks5 vec_ok vec_ok vec_ok cell_ok hX
 have h2:=cell_put oY h1 0 (.int .i64 k) (cs':=#[.int .i64 k,.slice none 0 0,.slice none 0 0,.slice none 0 0]) rfl
 have h3:=cell_put oY h2 1 (.slice A1 ps.length c1) (cs':=#[.int .i64 k,.slice A1 ps.length c1,.slice none 0 0,.slice none 0 0]) rfl
 have h4:=cell_put oY h3 2 (.slice A2 us.length c2) (cs':=#[.int .i64 k,.slice A1 ps.length c1,.slice A2 us.length c2,.slice none 0 0]) rfl
 have h5:=cell_put oY h4 3 (.slice A3 vs.length c3) (cs':=#[.int .i64 k,.slice A1 ps.length c1,.slice A2 us.length c2,.slice A3 vs.length c3]) rfl
 have h6:=h5.perm (by ac_rfl:_=star (CellO ga #[.int .i64 k,.slice A1 ps.length c1,.slice A2 us.length c2,.slice A3 vs.length c3] 85) (star (CellO g6 #[.int .i64 k,.slice A1 ps.length c1,.slice A2 us.length c2,.slice A3 vs.length c3] 85) (star (VecO A1 c1 ps) (star (VecO A2 c2 us) (star (VecO A3 c3 vs) X)))))
 exact h6.drop
theorem best_asg {w0 W:World} {X:CH.Own} {cs:Array Value} {g6:Nat} {k:Int} {A1 A2 A3:Option Addr} {c1 c2 c3:Nat} {ps us vs:List Int} (h:Run (fun _=>False) w0 (star (CellO g6 cs 85) (star (VecO A1 c1 ps) (star (VecO A2 c2 us) (star (VecO A3 c3 vs) X)))) W) :
  AsgV W (.agg #[.int .i64 k,.slice A1 ps.length c1,.slice A2 us.length c2,.slice A3 vs.length c3]) ⟨k,ps,us,vs⟩:=by
 obtain ⟨F1,h1⟩:=h.rot.fst
 obtain ⟨F2,h2⟩:=(h.perm (by ac_rfl:_=star (VecO A2 c2 us) (star (CellO g6 cs 85) (star (VecO A1 c1 ps) (star (VecO A3 c3 vs) X))))).fst
 obtain ⟨F3,h3⟩:=(h.perm (by ac_rfl:_=star (VecO A3 c3 vs) (star (CellO g6 cs 85) (star (VecO A1 c1 ps) (star (VecO A2 c2 us) X))))).fst
 exact ⟨A1,A2,A3,c1,c2,c3,rfl,vec_vec h1,vec_vec h2,vec_vec h3⟩

theorem res_zero {w0 W:World} {g6:Nat} (h:Run (fun _=>False) w0 (CellO g6 #[.int .i64 0,.slice none 0 0,.slice none 0 0,.slice none 0 0] 85) W) :
  Run (fun _=>False) w0 (CellO g6 #[.int .i64 0,.slice none 0 0,.slice none 0 0,.slice none 0 0] 85) ((((W.setCell ⟨g6,0,none⟩ (.int .i64 0)).setCell ⟨g6,1,none⟩ (.slice none 0 0)).setCell ⟨g6,2,none⟩ (.slice none 0 0)).setCell ⟨g6,3,none⟩ (.slice none 0 0)):=by
 have h0:Run (fun _=>False) w0 (star (CellO g6 #[.int .i64 0,.slice none 0 0,.slice none 0 0,.slice none 0 0] 85) emp) W:=h.one
 have h2:=cell_put emp_ok h0 0 (.int .i64 0) (cs':=#[.int .i64 0,.slice none 0 0,.slice none 0 0,.slice none 0 0]) rfl
 have h3:=cell_put emp_ok h2 1 (.slice none 0 0) (cs':=#[.int .i64 0,.slice none 0 0,.slice none 0 0,.slice none 0 0]) rfl
 have h4:=cell_put emp_ok h3 2 (.slice none 0 0) (cs':=#[.int .i64 0,.slice none 0 0,.slice none 0 0,.slice none 0 0]) rfl
 have h5:=cell_put emp_ok h4 3 (.slice none 0 0) (cs':=#[.int .i64 0,.slice none 0 0,.slice none 0 0,.slice none 0 0]) rfl
 exact h5.imp fun _ _ h=>star_emp h
theorem split_gr {c:Nat→Nat→Int} {d e:Nat→Int} {n m k:Nat} {x:Int} {ps qs:List Int} {U T:Nat→Bool} (h:bps c d e n m=ps ++ gr c d e n m (k+1) U) (hg:gr c d e n m (k+1) U=x :: gr c d e n m k T):bps c d e n m=(ps ++ [x]) ++ gr c d e n m k T:=by
 rw [h,hg];simp
end Go.Proofs.YtbnnlpjpnihheaaGreatDoor.Asn
