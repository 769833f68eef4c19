/- A part of the proof: lemmas. -/
import Derived.Test.YtbnnlpjpnihheaaGreatDoorME13
set_option maxHeartbeats 16000000
set_option maxRecDepth 100000
set_option linter.unusedSimpArgs false
set_option linter.unusedVariables false
namespace Go.CH.Mtc
open Go.CH.Scr Go.CH.dK

def picks {α:Type} (f:Int→Int→Option α):Nat→List Int→List α
 | _,[]=>[]
 | i,j :: l=>(f i j).toList ++ picks f (i+1) l
theorem yM {α:Type} (f:Int→Int→Option α) (x:Int):∀ (l:List Int) (i:Nat),picks f i (l ++ [x])=picks f i l ++ (f ((i+l.length:Nat):Int) x).toList
 | [],i=>by simp [picks]
 | y :: l,i=>by
  show (f i y).toList ++ picks f (i+1) (l ++ [x])=((f i y).toList ++ picks f (i+1) l) ++ _
  rw [yM f x l (i+1),List.append_assoc,List.length_cons,show i+1+l.length=i+(l.length+1) by omega]
end Go.CH.Mtc
namespace Go.Proofs.YtbnnlpjpnihheaaGreatDoor
open Go.RowKit Go.CH Go.CH.Scr Go.CH.dK Go.CH.Mtc
open Asn (kW)
open Go.ChangeMaps (setBlock)

structure PA where
 A:Option Addr
 ac:Nat
 B:Option Addr
 bc:Nat
def Ul (e:Pr × PA):Array Value:=lX e.1 e.2.A e.2.ac e.2.B e.2.bc
def vQ (e:Pr × PA):List Value:=[.int .i64 e.1.i,.int .i64 e.1.j,.int .i64 e.1.kd,.int .i64 e.1.l,.int .i64 e.1.r,.int .i64 e.1.c,.int .i64 e.1.d.c,.slice e.2.A e.1.d.L.length e.2.ac,.slice e.2.B e.1.d.M.length e.2.bc,.string (bs e.1.d.F)]
theorem IL (l:List (Pr × PA)):∀ u ∈ l.flatMap vQ,u.oneCell'=true:=by
 intro u hu;obtain ⟨x,-,hx⟩:=List.mem_flatMap.1 hu;unfold vQ at hx;simp only [List.mem_cons,List.not_mem_nil,or_false] at hx;rcases hx with rfl | rfl | rfl | rfl | rfl | rfl | rfl | rfl | rfl | rfl <;> rfl
theorem NN:dh Tryz.prog 29 44 (.agg #[.int .i64 0,.int .i64 0,.int .i64 0,.int .i64 0,.int .i64 0,.int .i64 0,.int .i64 0,.slice none 0 0,.slice none 0 0,.string ⟨#[]⟩]) 10 120:=⟨Tryz.underlying29,by kernel_rfl,by decide,by decide⟩
def Um (o:Option (Pr × PA)):Value:=match o with
 | some e=>.agg (Ul e)
 | none=>.agg #[.int .i64 0,.int .i64 0,.int .i64 0,.int .i64 0,.int .i64 0,.int .i64 0,.int .i64 0,.slice none 0 0,.slice none 0 0,.string ⟨#[]⟩]
def zo (A:Option Addr) (c:Nat) (l:List (Pr × PA)):CH.Own:=aS 44 10 (.slice A l.length c) l.length (l.flatMap vQ)
theorem yN {A:Option Addr} {c:Nat} {l:List (Pr × PA)}:(zo A c l).Ok:=bA
theorem Ej {ops:Array Oper} {rest:List Oper} {F0:Nat→Prop} {w0 W:World} {Y:CH.Own} {o:Oper} {a:Act} {Q:Exit→Act→World→Prop} {t e:TypeId} {z:Value} {size bytes:Nat} (hgd:o.guard=none) (S:dh Tryz.prog t e z size bytes) (hby:bytes≤1000) (s x:Operand)
  (ho:o.op=.call { callee:=.builtin .append,args:=#[s,x],argTypes:=#[t,t] }) {A:Option Addr} {c n g:Nat} {xs cs:List Value} (hsv:a.eval s=.slice A n c) (hx:a.eval x=.slice (some ⟨g,0,none⟩) 1 1) (hn:n≤1000000) (hY:Y.Ok)
  (h:Run F0 w0 (star (aS e size (.slice A n c) n xs) Y) W) (h1:cs.length=size) (h2:∀ u ∈ cs,u.oneCell'=true) (hg:∀ (j:Nat) u,cs[j]?=some u→W.cell? ⟨g,j,none⟩=some u)
  (hK:∀ A' c' w',Run F0 w0 (star (aS e size (.slice A' (n+1) c') (n+1) (xs ++ cs)) Y) w'→wpList Tryz.prog ops Q rest (a.put o.dst (.slice A' (n+1) c')) w'):wpList Tryz.prog ops Q (o :: rest) a W :=
 wpList_plain hgd fun _ hk=>wE S hby s x ho hsv hx hn hY h h1 h2 hg fun A' c' w' hr=>hk _ _ (hK A' c' w' hr)

def El (w:World) (f:Int→Int→Option (Pr × PA)) (cs:List Int) (k:Int) (sw:Bool) (e:Ending) (w':World):Prop :=
 ∃ A c,e=.returned (.agg #[.int .i64 k,.bool sw,.slice A (picks f 0 cs).length c])∧Post w (fun _=>False) (zo A c (picks f 0 cs)) w'
theorem Ao {w:World} {f:Int→Int→Option (Pr × PA)} {gm b:Nat} {C:Option Addr} {cc:Nat} {cs:List Int} (hC:jE w C cs) (hl:cs.length≤1000) (hg:w.cell? ⟨gm,0,none⟩=some (.map (some b)))
  (hm:∀ W,Below w.heap.size w W→∀ i j:Int,(Instr.lookup 74 (.map (some b)) (.agg #[.int .i64 i,.int .i64 j]) true).run Tryz.prog W=.ok (.tuple #[Um (f i j),.bool (f i j).isSome]) W) (k:Int) (sw:Bool) :
  Calls Tryz.prog 31 #[.slice C cs.length cc,.int .i64 k,.bool sw,.pointer (some ⟨gm,0,none⟩)] w (El w f cs k sw):=by
 have h1:=aG (Run.begin w) aB #[.int .i64 0,.bool false,.slice none 0 0] 31;have h2:=aG h1 (aj av aB) #[.int .i64 k,.bool sw,.slice none 0 0] 31;simp only [World.size_alloc] at h2;have HBW:=hide (fun W X (h:Run (fun _=>False) w X W)=>(show Below w.heap.size w W from h.mod.below (fun _ _ h=>h)));have h3:Run (fun _=>False) w (star (au (w.heap.size+1) #[.int .i64 k,.bool sw,.slice none 0 ((0:Nat))] 31) (star (zo none 0 []) (star (au w.heap.size #[.int .i64 0,.bool false,.slice none 0 0] 31) emp))) _ :=
  ((h2.fresh (aj av (aj av aB)) (⟨fun _=>False,fH _ 44 10,Mod.refl _ _,fun i hi=>.inl hi⟩:Post _ (fun _=>False) (zo none 0 []) _)).perm (by ac_rfl))
 have H3:=hide h3;have HG:=hide (fun W (hb:Below w.heap.size w W)=>(show W.cell? ⟨gm,0,none⟩=some (.map (some b)) from by rw [hb.cell (World.block_lt_of_cell? _ _ hg)];exact hg));have HM:=hide hm;have HC:=hide hC;clear h1 h2 h3 hg hm hC;obtain ⟨n,hn⟩:∃ n,n=cs.length:=⟨_,rfl⟩;have HN:=hide hn;rw [←hn] at hl ⊢;clear hn
 go_enter Tryz.func31,Tryz.ntmps31
 go_upto_region 3 with (fail);generalize (w.alloc (.cells #[.int .i64 0,.bool false,.slice none 0 0] 31)).alloc (.cells #[.int .i64 k,.bool sw,.slice none 0 0] 31)=w2 at *
 generalize hg8:w.heap.size+1=g8 at *
 clear hg8;go_wp2_with fail;go_loopw [18] (fun kk wr=>∃ (i q:Nat) (A:Option Addr) (c:Nat),kk=.int .i64 i∧i≤n∧q=(picks f 0 (cs.take i)).length∧q≤i∧Run (fun _=>False) w (star (au g8 #[.int .i64 k,.bool sw,.slice A q c] 31) (star (aS 44 10 (.slice A q c) q ((picks f 0 (cs.take i)).flatMap vQ)) (star (au w.heap.size #[.int .i64 0,.bool false,.slice none 0 0] 31) emp))) wr) (fun kk _=>n - (intOf kk).toNat)
 case atStart=>exact ⟨0,0,none,0,rfl,Nat.zero_le _,rfl,Nat.le_refl _,H3.out⟩
 case round =>
  clear H3;obtain ⟨i,q,A,c,rfl,hi,hq,hqi,hR⟩:=hrel;have HR:=hide hR;have HQ:=hide hq;clear hR hq;by_cases hlt:i < n
  ·have hkn:i < cs.length:=by rw [←HN.out];exact hlt
   obtain ⟨bb,o,rfl,hc⟩:=Asn.Vec.at HC.out (by omega);have ck:=hc wr (HBW.out _ _ HR.out) i hkn
   have HTK:=hide (show picks f 0 (cs.take (i+1))=picks f 0 (cs.take i) ++ (f (i:Int) cs[i]).toList from by
    rw [List.take_succ_eq_append_getElem hkn,yM,List.length_take,Nat.min_eq_left (by omega),Nat.zero_add])
   generalize cs[i]=x at *
   clear hc hkn;have cg:=HG.out wr (HBW.out _ _ HR.out);have cm:=HM.out wr (HBW.out _ _ HR.out) (i:Int) x;have hib:(i:Int) < 1000000:=by omega
   cases hf:f (i:Int) x with
   | none =>
    rw [hf] at cm HTK;unfold Um at cm;simp only [Option.isSome_none] at cm;have HTK2:=hide (show picks f 0 (cs.take (i+1))=picks f 0 (cs.take i) from by rw [HTK.out];exact List.append_nil _);have okR:=hide (aj av (aj bA (aj av aB)):(star (au g8 #[.int .i64 k,.bool sw,.slice A q c] 31) (star (aS 44 10 (.slice A q c) q ((picks f 0 (cs.take i)).flatMap vQ)) (star (au w.heap.size #[.int .i64 0,.bool false,.slice none 0 0] 31) emp))).Ok);have H4:=hide (aG HR.out okR.out #[.int .i64 0,.int .i64 0,.int .i64 0,.int .i64 0,.int .i64 0,.int .i64 0,.int .i64 0,.slice none 0 0,.slice none 0 0,.string ⟨#[]⟩] 44);clear hf HTK HR;go_upto_region 6 with (fail);generalize wr.alloc (.cells #[.int .i64 0,.int .i64 0,.int .i64 0,.int .i64 0,.int .i64 0,.int .i64 0,.int .i64 0,.slice none 0 0,.slice none 0 0,.string ⟨#[]⟩] 44)=w4 at *
    clear ck cg cm;go_wp2_with fail
    go_roundw
    case rel=>exact ⟨i+1,q,A,c,by go_num,hlt,by rw [HTK2.out];exact HQ.out,by omega,by rw [HTK2.out];exact H4.out.drop⟩
    case measure=>simp [intOf];omega
   | some e =>
    rw [hf] at cm HTK;unfold Um at cm;simp only [Option.isSome_some] at cm;have HTK2:=hide (show picks f 0 (cs.take (i+1))=picks f 0 (cs.take i) ++ [e] from HTK.out);have okR:=hide (aj av (aj bA (aj av aB)):(star (au g8 #[.int .i64 k,.bool sw,.slice A q c] 31) (star (aS 44 10 (.slice A q c) q ((picks f 0 (cs.take i)).flatMap vQ)) (star (au w.heap.size #[.int .i64 0,.bool false,.slice none 0 0] 31) emp))).Ok);unfold Ul lX at cm;have H4:=hide (aG HR.out okR.out #[.int .i64 e.1.i,.int .i64 e.1.j,.int .i64 e.1.kd,.int .i64 e.1.l,.int .i64 e.1.r,.int .i64 e.1.c,.int .i64 e.1.d.c,.slice e.2.A e.1.d.L.length e.2.ac,.slice e.2.B e.1.d.M.length e.2.bc,.string (bs e.1.d.F)] 44);clear hf HTK HR;go_upto_region 6 with (fail);generalize wr.alloc (.cells #[.int .i64 e.1.i,.int .i64 e.1.j,.int .i64 e.1.kd,.int .i64 e.1.l,.int .i64 e.1.r,.int .i64 e.1.c,.int .i64 e.1.d.c,.slice e.2.A e.1.d.L.length e.2.ac,.slice e.2.B e.1.d.M.length e.2.bc,.string (bs e.1.d.F)] 44)=w4 at *
    generalize wr.heap.size=g11 at *
    clear ck cg cm;go_upto_region 7 with (fail);obtain ⟨⟨p0,p1,p2,p3,p4⟩,⟨p5,p6,p7,p8,p9⟩,pf⟩:=bg H4.out;obtain ⟨m0,m1,m2⟩:=cK H4.out.drop;have okS:=hide (aj av okR.out:(star (au g11 #[.int .i64 e.1.i,.int .i64 e.1.j,.int .i64 e.1.kd,.int .i64 e.1.l,.int .i64 e.1.r,.int .i64 e.1.c,.int .i64 e.1.d.c,.slice e.2.A e.1.d.L.length e.2.ac,.slice e.2.B e.1.d.M.length e.2.bc,.string (bs e.1.d.F)] 44) (star (au g8 #[.int .i64 k,.bool sw,.slice A q c] 31) (star (aS 44 10 (.slice A q c) q ((picks f 0 (cs.take i)).flatMap vQ)) (star (au w.heap.size #[.int .i64 0,.bool false,.slice none 0 0] 31) emp)))).Ok);have H5:=hide (aG H4.out okS.out #[.int .i64 e.1.i,.int .i64 e.1.j,.int .i64 e.1.kd,.int .i64 e.1.l,.int .i64 e.1.r,.int .i64 e.1.c,.int .i64 e.1.d.c,.slice e.2.A e.1.d.L.length e.2.ac,.slice e.2.B e.1.d.M.length e.2.bc,.string (bs e.1.d.F)] 44);have hq6:q≤1000000:=by omega
    clear H4;go_wp2_with (at_builtin;refine held ?_);clear p0 p1 p2 p3 p4 p5 p6 p7 p8 p9 pf m0 m1 m2;generalize w4.alloc (.cells #[.int .i64 e.1.i,.int .i64 e.1.j,.int .i64 e.1.kd,.int .i64 e.1.l,.int .i64 e.1.r,.int .i64 e.1.c,.int .i64 e.1.d.c,.slice e.2.A e.1.d.L.length e.2.ac,.slice e.2.B e.1.d.M.length e.2.bc,.string (bs e.1.d.F)] 44)=w5 at *
    generalize w4.heap.size=g12 at *
    obtain ⟨F12,hF12⟩:=H5.out.fst;have hcx:∀ (j:Nat) u,(vQ e)[j]?=some u→w5.cell? ⟨g12,j,none⟩=some u:=fun j u hu=>ay hF12 (by unfold vQ at hu;simpa using hu);refine Held.mk (Ej rfl NN (by decide) (.tmp 33) (.tmp 35) rfl (A:=A) (c:=c) (n:=q) (g:=g12) (xs:=(picks f 0 (cs.take i)).flatMap vQ) (cs:=vQ e) rfl rfl hq6 (aj av (aj av (aj av (aj av aB)))) (H5.out.perm (by ac_rfl:_=star (aS 44 10 (.slice A q c) q ((picks f 0 (cs.take i)).flatMap vQ)) (star (au g12 #[.int .i64 e.1.i,.int .i64 e.1.j,.int .i64 e.1.kd,.int .i64 e.1.l,.int .i64 e.1.r,.int .i64 e.1.c,.int .i64 e.1.d.c,.slice e.2.A e.1.d.L.length e.2.ac,.slice e.2.B e.1.d.M.length e.2.bc,.string (bs e.1.d.F)] 44) (star (au g11 #[.int .i64 e.1.i,.int .i64 e.1.j,.int .i64 e.1.kd,.int .i64 e.1.l,.int .i64 e.1.r,.int .i64 e.1.c,.int .i64 e.1.d.c,.slice e.2.A e.1.d.L.length e.2.ac,.slice e.2.B e.1.d.M.length e.2.bc,.string (bs e.1.d.F)] 44) (star (au g8 #[.int .i64 k,.bool sw,.slice A q c] 31) (star (au w.heap.size #[.int .i64 0,.bool false,.slice none 0 0] 31) emp)))))) rfl (fun y hy=>IL [e] y (by simpa using hy)) hcx ?_);intro A9 c9 w6 hr6;have h7:=hr6.perm (by ac_rfl:_=star (au g8 #[.int .i64 k,.bool sw,.slice A q c] 31) (star (aS 44 10 (.slice A9 (q+1) c9) (q+1) ((picks f 0 (cs.take i)).flatMap vQ ++ vQ e)) (star (au w.heap.size #[.int .i64 0,.bool false,.slice none 0 0] 31) (star (au g12 #[.int .i64 e.1.i,.int .i64 e.1.j,.int .i64 e.1.kd,.int .i64 e.1.l,.int .i64 e.1.r,.int .i64 e.1.c,.int .i64 e.1.d.c,.slice e.2.A e.1.d.L.length e.2.ac,.slice e.2.B e.1.d.M.length e.2.bc,.string (bs e.1.d.F)] 44) (star (au g11 #[.int .i64 e.1.i,.int .i64 e.1.j,.int .i64 e.1.kd,.int .i64 e.1.l,.int .i64 e.1.r,.int .i64 e.1.c,.int .i64 e.1.d.c,.slice e.2.A e.1.d.L.length e.2.ac,.slice e.2.B e.1.d.M.length e.2.bc,.string (bs e.1.d.F)] 44) emp)))));have okT:(star (aS 44 10 (.slice A9 (q+1) c9) (q+1) ((picks f 0 (cs.take i)).flatMap vQ ++ vQ e)) (star (au w.heap.size #[.int .i64 0,.bool false,.slice none 0 0] 31) (star (au g12 #[.int .i64 e.1.i,.int .i64 e.1.j,.int .i64 e.1.kd,.int .i64 e.1.l,.int .i64 e.1.r,.int .i64 e.1.c,.int .i64 e.1.d.c,.slice e.2.A e.1.d.L.length e.2.ac,.slice e.2.B e.1.d.M.length e.2.bc,.string (bs e.1.d.F)] 44) (star (au g11 #[.int .i64 e.1.i,.int .i64 e.1.j,.int .i64 e.1.kd,.int .i64 e.1.l,.int .i64 e.1.r,.int .i64 e.1.c,.int .i64 e.1.d.c,.slice e.2.A e.1.d.L.length e.2.ac,.slice e.2.B e.1.d.M.length e.2.bc,.string (bs e.1.d.F)] 44) emp)))).Ok:=aj bA (aj av (aj av (aj av aB)));obtain ⟨m0,m1,m2⟩:=cK h7;obtain ⟨F8,hF8⟩:=h7.fst;have mf:=aJ hF8;have h8:Run (fun _=>False) w (star (au g8 #[.int .i64 k,.bool sw,.slice A9 (q+1) c9] 31) _) _:=aH h7 okT 2 (.slice A9 (q+1) c9);have H8:=hide ((h8.perm (by ac_rfl:_=star (star (au g12 #[.int .i64 e.1.i,.int .i64 e.1.j,.int .i64 e.1.kd,.int .i64 e.1.l,.int .i64 e.1.r,.int .i64 e.1.c,.int .i64 e.1.d.c,.slice e.2.A e.1.d.L.length e.2.ac,.slice e.2.B e.1.d.M.length e.2.bc,.string (bs e.1.d.F)] 44) (au g11 #[.int .i64 e.1.i,.int .i64 e.1.j,.int .i64 e.1.kd,.int .i64 e.1.l,.int .i64 e.1.r,.int .i64 e.1.c,.int .i64 e.1.d.c,.slice e.2.A e.1.d.L.length e.2.ac,.slice e.2.B e.1.d.M.length e.2.bc,.string (bs e.1.d.F)] 44)) (star (au g8 #[.int .i64 k,.bool sw,.slice A9 (q+1) c9] 31) (star (aS 44 10 (.slice A9 (q+1) c9) (q+1) ((picks f 0 (cs.take i)).flatMap vQ ++ vQ e)) (star (au w.heap.size #[.int .i64 0,.bool false,.slice none 0 0] 31) emp))))).drop);clear h7 h8 okT hr6 hF8 F8 H5 F12 hF12 hcx;go_wp2_with fail
    go_roundw
    case rel=>exact ⟨i+1,q+1,A9,c9,by go_num,hlt,by rw [HTK2.out,List.length_append,←HQ.out];rfl,by omega,by rw [HTK2.out,List.flatMap_append,List.flatMap_singleton];exact H8.out⟩
    case measure=>simp [intOf];omega
  ·obtain rfl:i=n:=by omega
   have ht:cs.take i=cs:=by rw [HN.out,List.take_length]
   rw [ht] at HQ HR;clear ht;have h1:=HR.out.perm (by ac_rfl:_=star (au w.heap.size #[.int .i64 0,.bool false,.slice none 0 0] 31) (star (au g8 #[.int .i64 k,.bool sw,.slice A q c] 31) (star (aS 44 10 (.slice A q c) q ((picks f 0 cs).flatMap vQ)) emp)));have okE:(star (au g8 #[.int .i64 k,.bool sw,.slice A q c] 31) (star (aS 44 10 (.slice A q c) q ((picks f 0 cs).flatMap vQ)) emp)).Ok:=aj av (aj bA aB);obtain ⟨m0,m1,m2⟩:=cK h1.drop;obtain ⟨F8,hF8⟩:=h1.fst;have z0:=ay (i:=0) hF8 rfl;have z1:=ay (i:=1) hF8 rfl;have z2:=ay (i:=2) hF8 rfl;have zf:=aJ hF8;have h30:Run (fun _=>False) w (star (au w.heap.size #[.int .i64 k,.bool false,.slice none 0 0] 31) _) _:=aH h1 okE 0 (.int .i64 k);have h31:Run (fun _=>False) w (star (au w.heap.size #[.int .i64 k,.bool sw,.slice none 0 0] 31) _) _:=aH h30 okE 1 (.bool sw);have h32:Run (fun _=>False) w (star (au w.heap.size #[.int .i64 k,.bool sw,.slice A q c] 31) _) _:=aH h31 okE 2 (.slice A q c);have H9:=hide h32
   have HF:=hide (fun W (h:Run (fun _=>False) w (star (au w.heap.size #[.int .i64 k,.bool sw,.slice A q c] 31) (star (au g8 #[.int .i64 k,.bool sw,.slice A q c] 31) (star (aS 44 10 (.slice A q c) q ((picks f 0 cs).flatMap vQ)) emp))) W)=>(show El w f cs k sw (.returned (.agg #[.int .i64 k,.bool sw,.slice A q c])) W from by
    refine ⟨A,c,by rw [HQ.out],?_⟩;unfold zo;rw [←HQ.out]
    exact (h.drop.drop.perm (jQ _)).post bA))
   clear h1 h30 h31 h32 okE HR F8 hF8;go_wp2;obtain ⟨f2,hf2⟩:=H9.out.fst;refine bodyPost_ret (results_cell_row rfl _ _ w.heap.size 31 _ (0,0) _ rfl hf2.1 Tryz.underlying31 rfl (by kernel_rfl)) rfl ?_;exact HF.out _ H9.out
end Go.Proofs.YtbnnlpjpnihheaaGreatDoor
namespace Go.CH.aY
section
variable {c c':Nat→Nat→Int} {d d' e e':Nat→Int} {n m:Nat}
theorem find_congr {p q:Nat→Bool} {k:Nat} (h:∀ j,j < k→p j=q j):(List.range k).find? p=(List.range k).find? q:=by
 have:∀ l:List Nat,(∀ j ∈ l,p j=q j)→l.find? p=l.find? q:=by
  intro l
  induction l with
  | nil=>intro _;rfl
  | cons x l ih =>
   intro hl;rw [List.find?_cons,List.find?_cons,hl x (List.mem_cons_self ..),ih fun j hj=>hl j (List.mem_cons_of_mem _ hj)]
 exact this _ fun j hj=>h j (List.mem_range.1 hj)
theorem tQ (hc:∀ i,i < n→∀ j,j < m→c i j=c' i j) (hd:∀ i,i < n→d i=d' i) (he:∀ j,j < m→e j=e' j):∀ (k:Nat) (U:Nat→Bool),k≤n→L c d e n m k U=L c' d' e' n m k U
 | 0,U,_=>bB fun j hj=>by rw [he j hj]
 | k+1,U,hk=>by
  unfold L;rw [hd _ (by omega),tQ hc hd he k U (by omega)];exact zB (fun j hj=>by rw [hc _ (by omega) j hj,tQ hc hd he k _ (by omega)]) (fun _ _=>rfl)
theorem yO (hc:∀ i,i < n→∀ j,j < m→c i j=c' i j) (hd:∀ i,i < n→d i=d' i) (he:∀ j,j < m→e j=e' j):∀ (k:Nat) (U:Nat→Bool),k≤n→gr c d e n m k U=gr c' d' e' n m k U
 | 0,U,_=>rfl
 | k+1,U,hk=>by
  have h1:(List.range m).find? (fun j => !U j && decide (c (n - (k+1)) j+L c d e n m k (ins U j)=L c d e n m (k+1) U))=(List.range m).find? (fun j => !U j && decide (c' (n - (k+1)) j+L c' d' e' n m k (ins U j)=L c' d' e' n m (k+1) U)):=find_congr fun j hj=>by
   rw [hc _ (by omega) j hj,tQ hc hd he k _ (by omega),tQ hc hd he (k+1) _ hk]
  unfold gr;rw [h1];split
  ·rw [yO hc hd he k _ (by omega)]
  ·rw [yO hc hd he k _ (by omega)]
theorem Ap (he:∀ j,j < m→e j=e' j):∀ b,b≤m→OT e m b=OT e' m b
 | 0,_=>rfl
 | b+1,hb=>by unfold OT;rw [he _ (by omega),Ap he b (by omega)]
theorem Aq {i:Nat} {f g:Nat→Int} (hc:∀ j,j < m→c i j=c' i j) (hd:d i=d' i) (he:∀ j,j < m→e j=e' j) (hf:∀ b,b≤m→f b=g b):∀ b,b≤m→Tx c d e m i f b=Tx c' d' e' m i g b
 | 0,_=>by unfold Tx;rw [hd,hf 0 (by omega)]
 | b+1,hb=>by unfold Tx;rw [hd,hf _ hb,he _ (by omega),Aq hc hd he hf b (by omega),hc _ (by omega),hf b (by omega)]
theorem tT (hc:∀ i,i < n→∀ j,j < m→c i j=c' i j) (hd:∀ i,i < n→d i=d' i) (he:∀ j,j < m→e j=e' j):∀ (a b:Nat),a≤n→b≤m→GR c d e n m a b=GR c' d' e' n m a b
 | 0,b,_,hb=>Ap he b hb
 | a+1,b,ha,hb=>by
  unfold GR;exact Aq (fun j hj=>hc _ (by omega) j hj) (hd _ (by omega)) he (fun b hb=>tT hc hd he a b (by omega) hb) b hb
theorem u6 (hc:∀ i,i < n→∀ j,j < m→c i j=c' i j) (hd:∀ i,i < n→d i=d' i) (he:∀ j,j < m→e j=e' j):∀ (a b:Nat),a≤n→b≤m→rM c d e n m a b=rM c' d' e' n m a b
 | 0,b,_,hb=>rfl
 | a+1,b,ha,hb=>by
  have h1:(List.range b).find? (fun t=>decide (sg t (fun x=>e (m - b+x))+c (n - (a+1)) (m - b+t)+GR c d e n m a (b - (t+1))=GR c d e n m (a+1) b))=(List.range b).find? (fun t=>decide (sg t (fun x=>e' (m - b+x))+c' (n - (a+1)) (m - b+t)+GR c' d' e' n m a (b - (t+1))=GR c' d' e' n m (a+1) b)):=find_congr fun t ht=>by
   rw [bB (fun x hx=>he (m - b+x) (by omega)),hc _ (by omega) _ (by omega),tT hc hd he a _ (by omega) (by omega),tT hc hd he (a+1) b ha hb]
  unfold rM;rw [h1];split
  ·rw [u6 hc hd he a _ (by omega) (by omega)]
  ·rw [u6 hc hd he a _ (by omega) hb]
end
end Go.CH.aY
namespace Go.CH.Mtc
open Go.CH.Scr Go.CH.dK

def Ar (T:Tab) (a b:bq) (m i j:Nat):List Pr:=(List.range i).flatMap (fun r=>(List.range m).map (wB T a b r)) ++ (List.range j).map (wB T a b i)

def rJ (T:Tab) (a b:bq) (m n i j:Nat):List (List Int):=(List.range n).map fun r=>(List.range (if r < i then m else if r=i then j else 0)).map fun s=>cM T a b r s
section
variable {T:Tab} {a b:bq} {m n i j:Nat}
theorem QD:Ar T a b m i (j+1)=Ar T a b m i j ++ [wB T a b i j]:=by unfold Ar;rw [List.range_succ,List.map_append,←List.append_assoc];rfl
theorem QE:Ar T a b m (i+1) 0=Ar T a b m i m:=by unfold Ar;rw [List.range_succ,List.flatMap_append,List.flatMap_singleton];simp
theorem IQ {p:Pr} (h:p ∈ Ar T a b m i j):∃ r s,p=wB T a b r s∧((r < i∧s < m)∨(r=i∧s < j)):=by
 unfold Ar at h;rcases List.mem_append.1 h with h | h
 ·obtain ⟨r,hr,h⟩:=List.mem_flatMap.1 h;obtain ⟨s,hs,rfl⟩:=List.mem_map.1 h;exact ⟨r,s,rfl,.inl ⟨List.mem_range.1 hr,List.mem_range.1 hs⟩⟩
 ·obtain ⟨s,hs,rfl⟩:=List.mem_map.1 h;exact ⟨i,s,rfl,.inr ⟨rfl,List.mem_range.1 hs⟩⟩
theorem Tg {r s:Nat} (hr:r < i) (hs:s < m):wB T a b r s ∈ Ar T a b m i j:=List.mem_append.2 (.inl (List.mem_flatMap.2 ⟨r,List.mem_range.2 hr,List.mem_map.2 ⟨s,List.mem_range.2 hs,rfl⟩⟩))

def UC (E:List Pr) (x y:Int):Option Pr:=E.find? fun p=>decide (p.i=x) && decide (p.j=y)
theorem QF {x y:Int} (hx:0≤x) (hn:x < n):UC (Ar T a b m n 0) x y=if 0≤y∧y < m then some (wB T a b x.toNat y.toNat) else none:=by
 unfold UC;cases hf:(Ar T a b m n 0).find? fun p=>decide (p.i=x) && decide (p.j=y) with
 | none =>
  split
  ·rename_i hy;have h1:=List.find?_eq_none.1 hf _ (Tg (T:=T) (a:=a) (b:=b) (j:=0) (show x.toNat < n by omega) (show y.toNat < m by omega));exact absurd (by simp only [Gd,Gf,Bool.and_eq_true,decide_eq_true_eq];omega) h1
  ·rfl
 | some p =>
  have h1:=List.find?_some hf;have h2:=List.mem_of_find?_eq_some hf;obtain ⟨r,s,rfl,h3⟩:=IQ h2;simp only [Gd,Gf,Bool.and_eq_true,decide_eq_true_eq] at h1;rw [if_pos (by omega),show x.toNat=r by omega,show y.toNat=s by omega]
theorem NP:rJ T a b m n 0 0=List.replicate n []:=by
 unfold rJ;have:(fun r=>(List.range (if r < 0 then m else if r=0 then 0 else 0)).map fun s=>cM T a b r s)=fun _=>([]:List Int):=by
  funext r;rw [if_neg (Nat.not_lt_zero _),ite_self];rfl
 rw [this,List.map_const',List.length_range]
theorem jB:(rJ T a b m n i j).length=n:=by unfold rJ;simp
theorem tV {k:Nat} (h:k < (rJ T a b m n i j).length):(rJ T a b m n i j)[k]=(List.range (if k < i then m else if k=i then j else 0)).map fun s=>cM T a b k s:=by
 simp [rJ]
theorem NQ (hi:i < n) (h:i < (rJ T a b m n i j).length):(rJ T a b m n i j)[i]=(List.range j).map fun s=>cM T a b i s:=by
 rw [tV,if_neg (Nat.lt_irrefl _),if_pos rfl]
theorem QG (hi:i < n):(rJ T a b m n i j).set i ((List.range j).map (fun s=>cM T a b i s) ++ [cM T a b i j])=rJ T a b m n i (j+1):=by
 apply List.ext_getElem
 ·simp [rJ]
 ·intro k h1 h2;rw [List.getElem_set,tV,tV];by_cases hk:i=k
  ·subst hk;rw [if_pos rfl,if_neg (Nat.lt_irrefl _),if_pos rfl,List.range_succ,List.map_append];rfl
  ·rw [if_neg hk];by_cases hlt:k < i
   ·rw [if_pos hlt,if_pos hlt]
   ·rw [if_neg hlt,if_neg hlt,if_neg (Ne.symm hk),if_neg (Ne.symm hk)]
theorem QH:rJ T a b m n (i+1) 0=rJ T a b m n i m:=by
 unfold rJ;refine List.map_congr_left fun k _=>?_;by_cases hk:k < i
 ·rw [if_pos hk,if_pos (by omega)]
 ·rw [if_neg hk];by_cases h2:k=i
  ·rw [if_pos h2,if_pos (by omega)]
  ·rw [if_neg h2,if_neg (by omega),ite_self]
end
end Go.CH.Mtc
namespace Go.Proofs.YtbnnlpjpnihheaaGreatDoor
open Go.RowKit Go.CH Go.CH.Scr Go.CH.dK Go.CH.Mtc
open Asn (bD bL lI Ad Vec ints cF lF vV yD vM)
open Go.ChangeMaps (setBlock)

structure dD where
 l:List Int
 A:Option Addr
 c:Nat
def dD.cl (z:dD):List Value:=[.slice z.A z.l.length z.c]
def dD.ow (z:dD):CH.Own:=bD z.A z.c z.l

def jM (A:Option Addr) (c:Nat) (zs:List dD):CH.Own:=Kw dD.cl dD.ow 40 1 (.slice A zs.length c) zs
theorem qm {A:Option Addr} {c:Nat} {zs:List dD}:(jM A c zs).Ok:=Qy fun _=>bL
theorem QI {w:World} {F:Nat→Prop} {e:TypeId} {size n c:Nat} {A:Option Addr} {xs:List Value} (h:aS e size (.slice A n c) n xs w F):n≤c:=by
 rcases h.1.2 with ⟨h1,h2⟩ | ⟨g,cap,cur,h1,_,_,h2,_⟩
 ·omega
 ·injection h1 with _ _ h3;omega
theorem QJ {w:World} {F:Nat→Prop} {A:Option Addr} {c:Nat} {l:List Int} (h:bD A c l w F):l.length≤c:=QI h
theorem NR {w:World} {F:Nat→Prop} {A:Option Addr} {c:Nat} {zs:List dD} (h:jM A c zs w F):Ad w A (zs.map (·.l)) (zs.map fun z=>(z.A,z.c)):=by
 refine ⟨by simp,?_,?_⟩
 ·obtain ⟨F1,F2,h1,_⟩:=h
  have h2:=iT h1 (by
   intro u hu;rw [List.mem_flatMap] at hu;obtain ⟨z,_,hz⟩:=hu
   simp [dD.cl] at hz;subst hz;rfl)
  have e:(zs.map fun z=>(z.A,z.c)).mapIdx (fun i x=>Value.slice x.1 ((zs.map (·.l)).getD i []).length x.2)=zs.flatMap dD.cl:=by
   have e1:zs.flatMap dD.cl=zs.map (fun z=>Value.slice z.A z.l.length z.c):=by
    have:∀ l:List dD,l.flatMap dD.cl=l.map (fun z=>Value.slice z.A z.l.length z.c):=fun l=>by induction l with
     | nil=>rfl
     | cons a l ih=>simp [dD.cl] at ih ⊢;exact ih
    exact this zs
   rw [e1];apply List.ext_getElem?;intro i;rw [List.getElem?_mapIdx,List.getElem?_map,List.getElem?_map];cases hx:zs[i]? with
   | none=>rfl
   | some x=>simp [List.getD_eq_getElem?_getD,hx]
  rw [e,List.length_map];exact h2
 ·intro i hi x hx;have hi':i < zs.length:=by simpa using hi
  rw [List.getElem?_map,List.getElem?_eq_getElem hi'] at hx;simp at hx;subst hx;rw [List.getElem_map];have h3:=Ed hi' h;obtain ⟨F1,F2,h1,_⟩:=h3;exact ⟨lI h1,QJ h1⟩
theorem IU {O:CH.Own} {w:World} (h:O w (fun _=>False)):∀ n:Nat,aN (List.replicate n O) w (fun _=>False)
 | 0=>fun _ h=>h
 | n+1=>⟨fun _=>False,fun _=>False,h,IU h n,fun _ h=>h.elim,fun i=>by simp⟩

theorem NS:∀ n:Nat,(List.replicate n (⟨[],none,0⟩:dD)).flatMap dD.cl=List.replicate n (.slice none 0 0)
 | 0=>rfl
 | n+1=>by rw [List.replicate_succ,List.flatMap_cons,List.replicate_succ,NS n];rfl
theorem NT {w:World} {F:Nat→Prop} {g n:Nat} (h:aS 40 1 (.slice (some ⟨g,0,none⟩) n n) n (List.replicate n (.slice none 0 0)) w F):jM (some ⟨g,0,none⟩) n (List.replicate n ⟨[],none,0⟩) w F:=by
 unfold jM Kw;rw [List.length_replicate,List.map_replicate];refine ⟨F,fun _=>False,?_,IU (Asn.sW w) n,fun _ _ h=>h,fun i=>by simp⟩;rw [NS];exact h

def qN (e:Pr × PA):CH.Own:=iQ e.2.A e.2.ac e.2.B e.2.bc e.1.d
theorem nk {E:List (Pr × PA)}:(aN (E.map qN)).Ok:=oU (fun A hA=>by obtain ⟨e,_,rfl⟩:=List.mem_map.1 hA;exact jG)
def iP (e:Pr × PA):(Int × Int) × Value:=((e.1.i,e.1.j),.agg (Ul e))
theorem Gw:mg Tryz.prog 80 (dF .i64):=FW Tryz.underlying80 Tryz.underlying3 (by kernel_rfl)

def BI (T:Tab) (a b:bq) (m n mb go i j:Nat):CH.Own:=nE fun E:List (Pr × PA)=>nE fun zs:List dD=>xw (E.map (·.1)=Ar T a b m i j∧zs.map (·.l)=rJ T a b m n i j) (star (fQ (dF .i64) mb (E.map iP)) (star (jM (some ⟨go,0,none⟩) n zs) (aN (E.map qN))))
theorem Rs {T:Tab} {a b:bq} {m n mb go i j:Nat}:(BI T a b m n mb go i j).Ok:=cO fun _=>cO fun _=>iE (aj map_ok (aj qm nk))
section
variable {T:Tab} {a b:bq} {m n mb go i j:Nat} {F0:Nat→Prop} {w0 W:World} {Y:CH.Own}
theorem IV (h:Run F0 w0 (star (BI T a b m n mb go i j) Y) W):∃ (E:List (Pr × PA)) (zs:List dD),E.map (·.1)=Ar T a b m i j∧zs.map (·.l)=rJ T a b m n i j∧Run F0 w0 (star (star (fQ (dF .i64) mb (E.map iP)) (star (jM (some ⟨go,0,none⟩) n zs) (aN (E.map qN)))) Y) W:=by
 obtain ⟨E,h⟩:=h.ex;obtain ⟨zs,h⟩:=h.ex;obtain ⟨⟨h1,h2⟩,h⟩:=h.pure;exact ⟨E,zs,h1,h2,h⟩
theorem NU {E:List (Pr × PA)} {zs:List dD} (h1:E.map (·.1)=Ar T a b m i j) (h2:zs.map (·.l)=rJ T a b m n i j) (h:Run F0 w0 (star (star (fQ (dF .i64) mb (E.map iP)) (star (jM (some ⟨go,0,none⟩) n zs) (aN (E.map qN)))) Y) W):Run F0 w0 (star (BI T a b m n mb go i j) Y) W :=
 Run.qW E (Run.qW zs (Run.jF ⟨h1,h2⟩ h))
theorem Ti (h:Run F0 w0 (star (BI T a b m n mb go i m) Y) W):Run F0 w0 (star (BI T a b m n mb go (i+1) 0) Y) W:=by
 obtain ⟨E,zs,h1,h2,h⟩:=IV h;exact NU (by rw [QE];exact h1) (by rw [QH];exact h2) h
theorem Tj (h:Run F0 w0 (star (aS 40 1 (.slice (some ⟨go,0,none⟩) n n) n (List.replicate n (.slice none 0 0))) (star (fQ (dF .i64) mb []) Y)) W):Run F0 w0 (star (BI T a b m n mb go 0 0) Y) W:=by
 have h1:Run F0 w0 (star (jM (some ⟨go,0,none⟩) n (List.replicate n ⟨[],none,0⟩)) (star (fQ (dF .i64) mb []) (star (aN []) Y))) W:=(h.imp fun w F h=>bF h (fun _ h=>NT h) (fun _ h=>h)).perm (by show _=star _ (star _ (star emp Y));rw [wQ]);refine NU (E:=[]) (zs:=List.replicate n ⟨[],none,0⟩) rfl (by rw [NP,List.map_replicate]) (h1.perm ?_)
 show _=star (star (fQ (dF .i64) mb []) (star _ (aN []))) Y
 ac_rfl

theorem QK {E:List (Pr × PA)} (h:E.map (·.1)=Ar T a b m i j):((i:Int),(j:Int)) ∉ (E.map iP).map (·.1):=by
 rw [List.map_map];intro hm;obtain ⟨e,he,hk⟩:=List.mem_map.1 hm;have h1:e.1 ∈ Ar T a b m i j:=by rw [←h];exact List.mem_map.2 ⟨e,he,rfl⟩
 obtain ⟨r,s,h2,h3⟩:=IQ h1;simp only [Function.comp,iP,h2,Gd,Gf,Prod.mk.injEq] at hk;omega
end
section
variable {F0:Nat→Prop} {w0 W:World} {R Y:CH.Own}
theorem Em {go c i:Nat} {zs:List dD} (hi:i < zs.length) (h:Run F0 w0 (star (jM (some ⟨go,0,none⟩) c zs) R) W) :
  Run F0 w0 (star (bD zs[i].A zs[i].c zs[i].l) (star (aS 40 1 (.slice (some ⟨go,0,none⟩) zs.length c) zs.length (zs.flatMap dD.cl)) (star (aN ((zs.eraseIdx i).map dD.ow)) R))) W∧W.cell? ⟨go,i,none⟩=some (.slice zs[i].A zs[i].l.length zs[i].c)∧W.frozen? ⟨go,i,none⟩=false:=by
 have h1:Run F0 w0 (star (bD zs[i].A zs[i].c zs[i].l) (star (aS 40 1 (.slice (some ⟨go,0,none⟩) zs.length c) zs.length (zs.flatMap dD.cl)) (star (aN ((zs.eraseIdx i).map dD.ow)) R))) W:=(h.imp fun w F hh=>bF hh (fun F h=>Ed hi h) (fun _ h=>h)).perm (by show star (star (bD zs[i].A zs[i].c zs[i].l) (star (aS 40 1 (.slice (some ⟨go,0,none⟩) zs.length c) zs.length (zs.flatMap dD.cl)) (aN ((zs.eraseIdx i).map dD.ow)))) R=_;ac_rfl);obtain ⟨F,hF⟩:=h1.drop.fst;have hx:(zs.flatMap dD.cl)[i]?=some (.slice zs[i].A zs[i].l.length zs[i].c):=by
  have:=pO (R:=dD.cl) (size:=1) (fun _=>rfl) hi (i:=0) (by omega);rw [Nat.mul_one,Nat.add_zero] at this;exact this
 exact ⟨h1,kY hF hx,mG hF i (by omega)⟩
theorem IW {go c i:Nat} {zs:List dD} (hi:i < zs.length) {A:Option Addr} {d n:Nat} {l:List Int} (hl:l.length=n) (hR:R.Ok) (h:Run F0 w0 (star (bD A d l) (star (aS 40 1 (.slice (some ⟨go,0,none⟩) zs.length c) zs.length (zs.flatMap dD.cl)) (star (aN ((zs.eraseIdx i).map dD.ow)) R))) W) :
  Run F0 w0 (star (jM (some ⟨go,0,none⟩) c (zs.set i ⟨l,A,d⟩)) R) (W.setCell ⟨go,i,none⟩ (.slice A n d)):=by
 subst hl;have okB:(aN ((zs.eraseIdx i).map dD.ow)).Ok:=oU (fun A hA=>by obtain ⟨z,_,rfl⟩:=List.mem_map.1 hA;exact bL);obtain ⟨F,hF,-,back⟩:=h.mh.take bA (aj bL (aj okB hR));have h1:=back _ _ (tN hF (i:=i) (by omega) (.slice A l.length d));have e:(zs.flatMap dD.cl).set i (.slice A l.length d)=(zs.set i ⟨l,A,d⟩).flatMap dD.cl:=by
  have:=NG dD.cl 1 (fun _=>rfl) hi (j:=0) (by omega) (v:=.slice A l.length d) (x:=⟨l,A,d⟩) rfl;rw [Nat.mul_one,Nat.add_zero] at this;exact this
 rw [e] at h1;have h2:Run F0 w0 (star (star (dD.ow ⟨l,A,d⟩) (star (aS 40 1 (.slice (some ⟨go,0,none⟩) zs.length c) zs.length ((zs.set i ⟨l,A,d⟩).flatMap dD.cl)) (aN ((zs.eraseIdx i).map dD.ow)))) R) _:=h1.perm (by show star _ (star (bD A d l) _)=star (star (bD A d l) _) _;ac_rfl);refine h2.imp fun w F hh=>bF hh (fun F h=>?_) (fun _ h=>h);unfold jM;rw [List.length_set];exact Qz hi h
theorem IX {go c i:Nat} {zs:List dD} (hi:i < zs.length) {A:Option Addr} {d:Nat} {l:List Int} (h:Run F0 w0 (star (bD A d l) (star (aS 40 1 (.slice (some ⟨go,0,none⟩) zs.length c) zs.length (zs.flatMap dD.cl)) R)) W) :
  W.cell? ⟨go,i,none⟩=some (.slice zs[i].A zs[i].l.length zs[i].c)∧W.frozen? ⟨go,i,none⟩=false:=by
 obtain ⟨F,hF⟩:=h.drop.fst;have hx:(zs.flatMap dD.cl)[i]?=some (.slice zs[i].A zs[i].l.length zs[i].c):=by
  have:=pO (R:=dD.cl) (size:=1) (fun _=>rfl) hi (i:=0) (by omega);rw [Nat.mul_one,Nat.add_zero] at this;exact this
 exact ⟨kY hF hx,mG hF i (by omega)⟩
theorem IY {T:Tab} {a b:bq} {m n mb go i j:Nat} {E:List (Pr × PA)} {zs:List dD} {A B A9:Option Addr} {pc qc c9:Nat} {p:Pr} {cv:Int} {zl:List Int} (hp:wB T a b i j=p) (hcv:p.c=cv) (hE:E.map (·.1)=Ar T a b m i j) (hzs:zs.map (·.l)=rJ T a b m n i j) (hi:i < n) (hzl:zl=(List.range j).map fun s=>cM T a b i s)
  (h:Run F0 w0 (star (jM (some ⟨go,0,none⟩) n (zs.set i ⟨zl ++ [cv],A9,c9⟩)) (star (fQ (dF .i64) mb (jW (E.map iP) ((i:Int),(j:Int)) (.agg (lX p A pc B qc)))) (star (aN (E.map qN)) (star (iQ A pc B qc p.d) Y)))) W):Run F0 w0 (star (BI T a b m n mb go i (j+1)) Y) W:=by
 have hc:cM T a b i j=cv:=by unfold cM;rw [hp,hcv]
 have hk:jW (E.map iP) ((i:Int),(j:Int)) (.agg (lX p A pc B qc))=(E ++ [(p,PA.mk A pc B qc)]).map iP:=by
  rw [qh (QK hE),List.map_append];have h1:p.i=i:=by rw [←hp,Gd]
  have h2:p.j=j:=by rw [←hp,Gf]
  show _=_ ++ [((p.i,p.j),Value.agg (lX p A pc B qc))]
  rw [h1,h2]
 rw [hk] at h;refine NU (E:=E ++ [(p,PA.mk A pc B qc)]) (zs:=zs.set i ⟨zl ++ [cv],A9,c9⟩) (by rw [List.map_append,hE,QD,hp];rfl) (by rw [List.map_set,hzs,←QG hi,hzl,hc]) ?_;have h3:Run F0 w0 (star (star (qN (p,PA.mk A pc B qc)) (aN (E.map qN))) (star (jM (some ⟨go,0,none⟩) n (zs.set i ⟨zl ++ [cv],A9,c9⟩)) (star (fQ (dF .i64) mb ((E ++ [(p,PA.mk A pc B qc)]).map iP)) Y))) W:=h.perm (by show _=star (star (iQ A pc B qc p.d) (aN (E.map qN))) _;ac_rfl);have h4:Run F0 w0 (star (aN ((E ++ [(p,PA.mk A pc B qc)]).map qN)) (star (jM (some ⟨go,0,none⟩) n (zs.set i ⟨zl ++ [cv],A9,c9⟩)) (star (fQ (dF .i64) mb ((E ++ [(p,PA.mk A pc B qc)]).map iP)) Y))) W:=h3.imp fun w F hh=>bF hh (fun F h=>by rw [List.map_append];exact Ea h) (fun _ h=>h);exact h4.perm (by ac_rfl)

theorem En {o:Oper} {a:Act} {K:Act→World→Prop} {Q:Exit→Act→World→Prop} (s x:Operand)
  (ho:o.op=.call { callee:=.builtin .append,args:=#[s,x],argTypes:=#[40,40] }) {A:Option Addr} {c n:Nat} {l:List Int} {i:Int} (hl:l.length=n) (hsv:a.eval s=.slice A n c) (hx:a.eval x=.slice (some ⟨W.heap.size,0,none⟩) 1 1) (hn:n≤1000) (hY:Y.Ok)
  (h:Run F0 w0 (star (bD A c l) Y) W)
  (hK:∀ A' c' w',Run F0 w0 (star (bD A' c' (l ++ [i])) Y) w'→K (a.put o.dst (.slice A' (n+1) c')) w'):o.wp Tryz.prog a (W.alloc (.cells #[.int .i64 i] 3)) K Q:=by
 subst hl;obtain ⟨F7,hR7,-,bk7⟩:=(h.below (aj bL hY) ((Below.refl _ _).alloc (Nat.le_refl _) (.cells #[.int .i64 i] 3))).take bL hY;refine MQ s x ho Asn.kX _ 0 (v:=.slice A l.length c) (n:=l.length) (xs:=ints l) hsv hR7.1 (A:=some ⟨W.heap.size,0,none⟩) (m:=1) (c:=1) (news:=[.int .i64 i]) hx (Asn.lD W i) (by omega) (by decide) (Nat.zero_le _) ?_;intro v8 w8 ho8 hg8 hv8;have S8:=bk7 _ _ (iA hR7 ho8 hg8 hv8);obtain ⟨A8,c8,rfl⟩:=gy ho8;rw [Asn.sV] at S8;exact hK A8 c8 w8 S8
end

def eF (E:List (Pr × PA)) (x y:Int):Option (Pr × PA):=E.find? fun e=>decide (e.1.i=x) && decide (e.1.j=y)
theorem Tk (E:List (Pr × PA)) (x y:Int):(eF E x y).map (·.1)=UC (E.map (·.1)) x y:=by
 unfold eF UC;rw [List.find?_map];rfl
theorem NV (x y:Int):∀ E:List (Pr × PA),mV (E.map iP) (x,y)=(eF E x y).map fun e=>.agg (Ul e)
 | []=>rfl
 | e :: E=>by
  rw [List.map_cons]
  show mV (((e.1.i,e.1.j),Value.agg (Ul e)) :: E.map iP) (x,y)=_
  rw [pV];unfold eF;rw [List.find?_cons];by_cases h:(x,y)=(e.1.i,e.1.j)
  ·rw [if_pos h];injection h with h1 h2
   subst h1 h2;simp
  ·rw [if_neg h];have h2:(decide (e.1.i=x) && decide (e.1.j=y))=false:=by
    rw [Bool.and_eq_false_iff];by_cases h3:e.1.i=x
    ·right;refine decide_eq_false fun h4=>h ?_;rw [h3,h4]
    ·left;exact decide_eq_false h3
   rw [h2];exact NV x y E
theorem Tm {E:List (Pr × PA)} {x y:Int} {e:Pr × PA} (h:eF E x y=some e):e ∈ E:=List.mem_of_find?_eq_some h
theorem Tn (w:World):(zeroValue 44).run Tryz.prog w=.ok (.agg #[.int .i64 0,.int .i64 0,.int .i64 0,.int .i64 0,.int .i64 0,.int .i64 0,.int .i64 0,.slice none 0 0,.slice none 0 0,.string ⟨#[]⟩]) w:=by kernel_rfl
theorem Tp {E:List (Pr × PA)} {mb:Nat} {W:World} {F:Nat→Prop} (h:fQ (dF .i64) mb (E.map iP) W F) (x y:Int) :
  (Instr.lookup 74 (.map (some mb)) (.agg #[.int .i64 x,.int .i64 y]) true).run Tryz.prog W=.ok (.tuple #[Um (eF E x y),.bool (eF E x y).isSome]) W:=by
 obtain ⟨⟨es,clock,h1,h2⟩,hF⟩:=h;have h3:=qK Gw Tryz.underlying74 Tn h2 (x,y) W h1;rw [NV] at h3;unfold Um;cases he:eF E x y with
 | none=>rw [he] at h3;exact h3
 | some e=>rw [he] at h3;exact h3
theorem Au {T:Tab} {a b:bq} {n:Nat} {E:List (Pr × PA)} (hE:E.map (·.1)=Ar T a b b.ws.length n 0):∀ (l:List Int) (i:Nat),i+l.length≤n→(picks (eF E) i l).map (·.1)=dH T a b i l
 | [],i,_=>rfl
 | j :: l,i,h=>by
  have h1:=Tk E i j;rw [hE,QF (by omega) (by simp at h;omega)] at h1
  show ((eF E i j).toList ++ picks (eF E) (i+1) l).map (·.1)=_
  rw [List.map_append,Au hE l (i+1) (by simp at h;omega)];rw [dH];split
  ·rename_i hy;rw [if_pos hy] at h1;cases he:eF E i j with
   | none=>rw [he] at h1;cases h1
   | some e=>rw [he] at h1;injection h1 with h1;simp [h1]
  ·rename_i hy;rw [if_neg hy] at h1;cases he:eF E i j with
   | none=>rfl
   | some e=>rw [he] at h1;cases h1
theorem Av {E:List (Pr × PA)} {e:Pr × PA}:∀ (l:List Int) (i:Nat),e ∈ picks (eF E) i l→e ∈ E
 | [],i,h=>by cases h
 | j :: l,i,h=>by
  rcases List.mem_append.1 h with h | h
  ·cases he:eF E i j with
   | none=>rw [he] at h;cases h
   | some e' =>
    rw [he] at h;simp at h;subst h;exact Tm he
  ·exact Av l (i+1) h
theorem Tq {E:List (Pr × PA)} {w:World}:∀ {F:Nat→Prop},aN (E.map qN) w F→∀ e ∈ E,jE w e.2.A e.1.d.L∧jE w e.2.B e.1.d.M:=by
 induction E with
 | nil=>intro F _ e he;cases he
 | cons x E ih =>
  intro F h e he;obtain ⟨F1,F2,h1,h2,-,-⟩:=h;rcases List.mem_cons.1 he with rfl | he
  ·obtain ⟨F3,F4,h3,h4,-,-⟩:=h1;exact ⟨Hz h3,Hz h4⟩
  ·exact ih h2 e he

structure NW (w:World) (A:Option Addr) (l:List (Pr × PA)):Prop where
 row:wu vQ 10 w A l
 all:∀ e ∈ l,jE w e.2.A e.1.d.L∧jE w e.2.B e.1.d.M
theorem NW.below {w w':World} {A:Option Addr} {l:List (Pr × PA)} (h:NW w A l) (hb:Below w.heap.size w w'):NW w' A l:=⟨aR h.row hb,fun e he=>⟨(h.all e he).1.below hb,(h.all e he).2.below hb⟩⟩

def OO (A:Option Addr) (c:Nat) (l:List (Pr × PA)):CH.Own:=nE fun E:List (Pr × PA)=>xw (∀ e ∈ l,e ∈ E) (star (zo A c l) (aN (E.map qN)))
theorem Gx {A:Option Addr} {c:Nat} {l:List (Pr × PA)}:(OO A c l).Ok:=cO fun _=>iE (aj yN nk)
theorem Un {A:Option Addr} {c:Nat} {l:List (Pr × PA)} {w:World} {F:Nat→Prop} (h:OO A c l w F):NW w A l:=by
 obtain ⟨E,hE,F1,F2,h1,h2,-,-⟩:=h;exact ⟨iT h1 (IL _),fun e he=>Tq h2 e (hE e he)⟩
theorem QL (w:World):OO none 0 [] w (fun _=>False):=⟨[],(fun e he=>by cases he),fun _=>False,fun _=>False,fH w 44 10,fun _ h=>h,fun _ h=>h.elim,fun i=>by simp⟩

def BL (w:World) (T:Tab) (a b:bq) (e:Ending) (w':World):Prop :=
 ∃ (x:Mt) (er:Int) (A:Option Addr) (c:Nat) (l:List (Pr × PA)),e=.returned (.tuple #[.agg #[.int .i64 x.c,.bool x.s,.slice A l.length c],.int .i64 er])∧MS T a b x er∧l.map (·.1)=x.ps∧Post w (fun _=>False) (OO A c l) w'
end Go.Proofs.YtbnnlpjpnihheaaGreatDoor
namespace Go.Proofs.YtbnnlpjpnihheaaGreatDoor.Asn
open Go.RowKit Go.CH Go.CH.aY
open Go.ChangeMaps (setBlock)

theorem DN {a:Act} {o:Oper} {x:Operand} {v:Value} (ho:o.op=.call { callee:=.value (.func 61),args:=#[x],argTypes:=#[185] }) (hx:a.eval x=v) (W:World):(execOp a.eval o).run Tryz.prog W=.ok (.enter 61 #[v]) W:=by
 unfold execOp;simp only [ho,resolve,List.map_toArray,List.map_cons,List.map_nil,hx];go_simp
theorem DR {a:Act} {o:Oper} {x:Operand} {v:Value} (ho:o.op=.call { callee:=.value (.func 62),args:=#[x],argTypes:=#[75] }) (hx:a.eval x=v) (W:World):(execOp a.eval o).run Tryz.prog W=.ok (.enter 62 #[v]) W:=by
 unfold execOp;simp only [ho,resolve,List.map_toArray,List.map_cons,List.map_nil,hx];go_simp
theorem DT {o:Oper} {a:Act} {W:World} {f:FuncId} {args:Array Value} {K:Act→World→Prop} {Q:Exit→Act→World→Prop} (hrun:(execOp a.eval o).run Tryz.prog W=.ok (.enter f args) W)
  (h:Calls Tryz.prog f args W (fun e w'=>∃ r,e=.returned r∧K (a.put o.dst r) w')):o.wp Tryz.prog a W K Q:=by
 unfold Oper.wp;rw [hrun];refine Calls.mono h ?_;rintro e w' ⟨r,rfl,hK⟩;exact hK
theorem DU (v1 v2:Value) (A B:Option Addr) (n c m d:Nat) (w:World) (h1:v1=.slice A n c) (h2:v2=.slice B m d):(Instr.buildSlice 185 2 #[(0,v1),(1,v2)]).run Tryz.prog w=.ok (.slice (some ⟨w.heap.size,0,none⟩) 2 2) (w.alloc (.cells #[v1,v2] 75)):=by
 subst h1 h2;go_simp
theorem zm (v1 v2:Value) (A B:Option Addr) (n c m d:Nat) (w:World) (h1:v1=.slice A n c) (h2:v2=.slice B m d):(Instr.buildSlice 75 2 #[(0,v1),(1,v2)]).run Tryz.prog w=.ok (.slice (some ⟨w.heap.size,0,none⟩) 2 2) (w.alloc (.cells #[v1,v2] 40)):=by
 subst h1 h2;go_simp
theorem vK {a:Act} {o:Oper} {ts:TypeId} {x y:Operand} {v u r:Value} {w w':World} (hop:o.op=.buildSlice ts 2 #[(0,x),(1,y)]) (hx:a.eval x=v) (hy:a.eval y=u) (hb:(Instr.buildSlice ts 2 #[(0,v),(1,u)]).run Tryz.prog w=.ok r w'):(execOp a.eval o).run Tryz.prog w=.ok (.value r) w':=by
 unfold execOp;simp only [hop,List.map_toArray,List.map_cons,List.map_nil,hx,hy];simp only [Sem.run_bind,hb,Result.andThen_ok,Sem.run_pure]

theorem Ip {W:World} {F:Nat→Prop} {g:Nat} {u v:Value} {t:TypeId} (h:au g #[u,v] t W F) (h1:u.oneCell'=true) (h2:v.oneCell'=true):Src W (some ⟨g,0,none⟩) 2 1 [u,v]:=by
 refine ⟨rfl,fun x hx=>?_,fun _=>⟨_,rfl,fun j x hx=>?_⟩⟩
 ·simp at hx;rcases hx with rfl | rfl <;> assumption
 ·rw [Addr.uT];exact ay h (by simpa using hx)
theorem DV {W:World} {A B D:Option Addr} {n m c d:Nat} {xs ys:List Value} (h:Src W D 2 1 [.slice A n c,.slice B m d]) (h1:Src W A n 1 xs) (h2:Src W B m 1 ys):Kg W D [xs,ys] [(A,c),(B,d)]:=by
 have e1:xs.length=n:=by have:=h1.1;omega
 have e2:ys.length=m:=by have:=h2.1;omega
 refine ⟨rfl,?_,fun i hi x hx=>?_⟩
 ·have:([(A,c),(B,d)]:List (Option Addr × Nat)).mapIdx (fun i x=>Value.slice x.1 (([xs,ys]:List (List Value)).getD i []).length x.2)=[.slice A n c,.slice B m d]:=by
   simp [e1,e2]
  rw [this];exact h
 ·match i,hi,hx with
  | 0,_,hx=>simp at hx;subst hx;simpa [e1] using h1
  | 1,_,hx=>simp at hx;subst hx;simpa [e2] using h2
def Bw (A:Option Addr) (n c:Nat) (RV:List Value) (x:Value):List Value→CH.Own
 | []=>emp
 | [v]=>Rn fun g:Nat=>DJ (v=.slice (some ⟨g,0,none⟩) 1 1) (au g #[x] 40)
 | [v1,v2]=>Rn fun p:Nat × Nat=>DJ (v1=.slice (some ⟨p.1,0,none⟩) 1 1∧v2=.slice (some ⟨p.2,0,none⟩) 2 2) (star (au p.1 #[x] 40) (au p.2 #[.slice A n c,v1] 75))
 | [_,_,v3]=>Rn fun p:Option Addr × Nat=>DJ (v3=.slice p.1 (n+1) p.2) (aS 40 1 v3 (n+1) (RV ++ [x]))
 | _=>emp
def Gh (B:Option Addr) (n d:Nat) (dv:List Value) (y v115:Value):List Value→CH.Own
 | []=>emp
 | [v]=>Rn fun g:Nat=>DJ (v=.slice (some ⟨g,0,none⟩) 2 2) (au g #[.slice B n d,v115] 40)
 | [_,v]=>Rn fun p:Option Addr × Nat=>DJ (v=.slice p.1 (n+1) p.2) (aS 3 1 v (n+1) (dv ++ [y]))
 | _=>emp
theorem Qd {A:Option Addr} {n c:Nat} {RV:List Value} {x:Value}:∀ vs,(Bw A n c RV x vs).Ok
 | []=>aB
 | [_]=>yu fun _=>sZ av
 | [_,_]=>yu fun _=>sZ (aj av av)
 | [_,_,_]=>yu fun _=>sZ bA
 | _ :: _ :: _ :: _ :: _=>aB
theorem Qe {B:Option Addr} {n d:Nat} {dv:List Value} {y v115:Value}:∀ vs,(Gh B n d dv y v115 vs).Ok
 | []=>aB
 | [_]=>yu fun _=>sZ av
 | [_,_]=>yu fun _=>sZ bA
 | _ :: _ :: _ :: _=>aB
section
variable {w0 W:World} {Z:CH.Own} {a:Act} {o:Oper} {Q:Exit→Act→World→Prop} {A B B':Option Addr} {n c d c':Nat} {RV dv:List Value} {x y:Value}
theorem SH {ox:Operand} (hop:o.op=.buildSlice 75 1 #[(0,ox)]) (hx:a.eval ox=x) (hb:∀ w:World,(Instr.buildSlice 75 1 #[(0,x)]).run Tryz.prog w=.ok (.slice (some ⟨w.heap.size,0,none⟩) 1 1) (w.alloc (.cells #[x] 40))) (hZ:Z.Ok) (h:Run (fun _=>False) w0 (star (Bw A n c RV x []) Z) W) :
  o.wp Tryz.prog a W (fun a' w'=>∃ v,a'=a.put o.dst v∧Run (fun _=>False) w0 (star (Bw A n c RV x ([] ++ [v])) Z) w') Q:=by
 refine mD (kW hop hx (hb W)) ⟨_,rfl,?_⟩;exact run_mk (p:=fun g:Nat=>(Value.slice (some ⟨W.heap.size,0,none⟩) 1 1)=.slice (some ⟨g,0,none⟩) 1 1) W.heap.size rfl ((Ag h).fresh hZ (dJ W #[x] 40))
theorem SI {ox oy:Operand} {v1:Value} (hop:o.op=.buildSlice 185 2 #[(0,ox),(1,oy)]) (hx:a.eval ox=.slice A n c) (hy:a.eval oy=v1) (hZ:Z.Ok) (h:Run (fun _=>False) w0 (star (Bw A n c RV x [v1]) Z) W) :
  o.wp Tryz.prog a W (fun a' w'=>∃ v,a'=a.put o.dst v∧Run (fun _=>False) w0 (star (Bw A n c RV x ([v1] ++ [v])) Z) w') Q:=by
 obtain ⟨g,h1⟩:=yw h;obtain ⟨rfl,h2⟩:=tu h1;refine mD (vK hop hx hy (DU _ _ _ _ _ _ _ _ W rfl rfl)) ⟨_,rfl,?_⟩;exact run_mk (p:=fun p:Nat × Nat=>(Value.slice (some ⟨g,0,none⟩) 1 1)=.slice (some ⟨p.1,0,none⟩) 1 1∧(Value.slice (some ⟨W.heap.size,0,none⟩) 2 2)=.slice (some ⟨p.2,0,none⟩) 2 2) (O:=fun p=>star (au p.1 #[x] 40) (au p.2 #[.slice A n c,.slice (some ⟨g,0,none⟩) 1 1] 75)) (g,W.heap.size) ⟨rfl,rfl⟩
  ((h2.fresh (aj av hZ) (dJ W #[.slice A n c,.slice (some ⟨g,0,none⟩) 1 1] 75)).perm (by ac_rfl))
theorem SK {ox:Operand} {v1 v2:Value} (hop:o.op=.call { callee:=.value (.func 61),args:=#[ox],argTypes:=#[185] }) (hx:a.eval ox=v2) (h1:x.oneCell'=true) (hn:n≤100) (hRV:Src W A n 1 RV) (hZ:Z.Ok) (h:Run (fun _=>False) w0 (star (Bw A n c RV x [v1,v2]) Z) W) :
  o.wp Tryz.prog a W (fun a' w'=>∃ v,a'=a.put o.dst v∧Run (fun _=>False) w0 (star (Bw A n c RV x ([v1,v2] ++ [v])) Z) w') Q:=by
 obtain ⟨⟨g,g2⟩,e1⟩:=yw h;obtain ⟨⟨rfl,rfl⟩,e2⟩:=tu e1;have e3:=e2.assoc;obtain ⟨F1,hC1⟩:=e3.fst;obtain ⟨F2,hC2⟩:=e3.mh.fst;have hM:=DV (Ip hC2 rfl rfl) hRV (Src.one hC1.1 h1);have hl:RV.length=n:=by have:=hRV.1;omega
 have hfl:fla [RV,[x]]=RV ++ [x]:=by simp [fla]
 have K:=DI (c:=2) hM (by simp) (by rw [hfl];simp;omega);refine DT (DN hop hx W) (K.mono ?_);rintro e w' ⟨A5,c5,rfl,hP⟩;rw [hfl,List.length_append,hl] at hP;exact ⟨_,by rw [hfl,List.length_append,hl];rfl,_,rfl,run_mk (p:=fun p:Option Addr × Nat=>(Value.slice A5 (n+1) c5)=.slice p.1 (n+1) p.2) (A5,c5) rfl (e3.drop.drop.fresh hZ hP)⟩
theorem SL {ox oy:Operand} (hop:o.op=.buildSlice 75 2 #[(0,ox),(1,oy)]) (hx:a.eval ox=.slice B n d) (hy:a.eval oy=.slice B' 1 c') (hZ:Z.Ok) (h:Run (fun _=>False) w0 (star (Gh B n d dv y (.slice B' 1 c') []) Z) W) :
  o.wp Tryz.prog a W (fun a' w'=>∃ v,a'=a.put o.dst v∧Run (fun _=>False) w0 (star (Gh B n d dv y (.slice B' 1 c') ([] ++ [v])) Z) w') Q:=by
 refine mD (vK hop hx hy (zm _ _ _ _ _ _ _ _ W rfl rfl)) ⟨_,rfl,?_⟩;exact run_mk (p:=fun g:Nat=>(Value.slice (some ⟨W.heap.size,0,none⟩) 2 2)=.slice (some ⟨g,0,none⟩) 2 2) W.heap.size rfl ((Ag h).fresh hZ (dJ W #[.slice B n d,.slice B' 1 c'] 40))
theorem SN {ox:Operand} {v1:Value} (hop:o.op=.call { callee:=.value (.func 62),args:=#[ox],argTypes:=#[75] }) (hx:a.eval ox=v1) (hn:n≤100) (hdv:Src W B n 1 dv) (hy:Src W B' 1 1 [y]) (hZ:Z.Ok) (h:Run (fun _=>False) w0 (star (Gh B n d dv y (.slice B' 1 c') [v1]) Z) W) :
  o.wp Tryz.prog a W (fun a' w'=>∃ v,a'=a.put o.dst v∧Run (fun _=>False) w0 (star (Gh B n d dv y (.slice B' 1 c') ([v1] ++ [v])) Z) w') Q:=by
 obtain ⟨g,e1⟩:=yw h;obtain ⟨rfl,e3⟩:=tu e1;obtain ⟨F2,hC2⟩:=e3.fst;have hM:=DV (Ip hC2 rfl rfl) hdv hy;have hl:dv.length=n:=by have:=hdv.1;omega
 have hfl:fla [dv,[y]]=dv ++ [y]:=by simp [fla]
 have K:=DF (c:=2) hM (by simp) (by rw [hfl];simp;omega);refine DT (DR hop hx W) (K.mono ?_);rintro e w' ⟨A5,c5,rfl,hP⟩;rw [hfl,List.length_append,hl] at hP;exact ⟨_,by rw [hfl,List.length_append,hl];rfl,_,rfl,run_mk (p:=fun p:Option Addr × Nat=>(Value.slice A5 (n+1) c5)=.slice p.1 (n+1) p.2) (A5,c5) rfl (e3.drop.fresh hZ hP)⟩

theorem Qf {R:CH.Own} {v1 v2 v3 u1 u2:Value} (h:Run (fun _=>False) w0 (star (Bw A n c RV x [v1,v2,v3]) (star (Gh B n d dv y (.slice B' 1 c') [u1,u2]) R)) W) :
  ∃ A5 c5 B5 d5,v3=.slice A5 (n+1) c5∧u2=.slice B5 (n+1) d5∧Run (fun _=>False) w0 (star (aS 40 1 (.slice A5 (n+1) c5) (n+1) (RV ++ [x])) (star (aS 3 1 (.slice B5 (n+1) d5) (n+1) (dv ++ [y])) R)) W:=by
 obtain ⟨⟨A5,c5⟩,e1⟩:=yw h;obtain ⟨rfl,e2⟩:=tu e1;obtain ⟨⟨B5,d5⟩,e3⟩:=yw e2.mh;obtain ⟨rfl,e4⟩:=tu e3;exact ⟨A5,c5,B5,d5,rfl,rfl,e4.mh⟩
end

theorem Nl (bd od n d i:Nat) (hi:i < n) (hn:n≤d) (w:World):(Instr.slice 40 (.slice (some ⟨bd,od,none⟩) n d) (some (.int .i64 (i:Int))) (some (.int .i64 ((i:Int)+1))) none).run Tryz.prog w=.ok (.slice (some ⟨bd,od+i,none⟩) 1 (d - i)) w:=by
 obtain ⟨ht,hinf,hz,hsz⟩:=kX;obtain ⟨inf,hinf,hi1,hi2,hi3⟩:=info_parts hinf;have h0:(0:Int)≤i:=by omega
 have h1:(0:Int)≤(i:Int)+1:=by omega
 have h2:((i:Int)+1).toNat=i+1:=by omega
 have h3:(i:Int)+1≤(d:Int):=by omega
 have h4:(i:Int)≤(i:Int)+1:=by omega
 have h5:i≠d:=by omega
 have h6:i+1 - i=1:=by omega
 have h7:¬ d≤i:=by omega
 have h8:¬ d=i:=by omega
 have h9:d - i≠0:=by omega
 simp [Instr.slice,run_underlying ht,Instr.sliceBounds,Instr.sliceBound,asIntOf,sizeOf,typeInfo,hinf,hi2,Addr.add,h0,h1,h2,h3,h4,h5,h6,h7,h8,h9]

theorem mE:∀ (ds:List Nat) (vs:List Value) (a:Act),(puts a ds vs).tmps.size=a.tmps.size
 | [],_,_=>by simp [puts]
 | _ :: _,[],_=>rfl
 | e :: ds,u :: vs,a=>by
  simp only [puts];rw [mE ds vs];simp [Act.put]
theorem Qg {w0 W:World} {X:CH.Own} {g6 ga:Nat} {k:Int} {A1 A2 A3:Option Addr} {c1 c2 c3:Nat} {ps us vs:List Int} (hX:X.Ok)
  (h:Run (fun _=>False) w0 (star (bD A3 c3 vs) (star (fD g6 ga k A1 A2 none c1 c2 0 ps us []) X)) W) :
  Run (fun _=>False) w0 (star (fD g6 ga k A1 A2 A3 c1 c2 c3 ps us vs) X) (W.setCell ⟨ga,3,none⟩ (.slice A3 vs.length c3)):=by
 unfold fD at h;have h1:=(h.perm (by ac_rfl:_=star (bD none 0 []) (star (bD A3 c3 vs) (star (bD A1 c1 ps) (star (bD A2 c2 us) (star (au ga #[.int .i64 k,.slice A1 ps.length c1,.slice A2 us.length c2,.slice none 0 0] 85) (star (au g6 iL 85) X))))))).drop;have h2:=gI (aj bL (aj bL (aj bL (aj av hX)))) (h1.perm (by ac_rfl:_=star (au ga #[.int .i64 k,.slice A1 ps.length c1,.slice A2 us.length c2,.slice none 0 0] 85) (star (bD A3 c3 vs) (star (bD A1 c1 ps) (star (bD A2 c2 us) (star (au g6 iL 85) X)))))) 3 (.slice A3 vs.length c3) (cs':=#[.int .i64 k,.slice A1 ps.length c1,.slice A2 us.length c2,.slice A3 vs.length c3]) rfl;unfold fD;exact h2.perm (by ac_rfl)

theorem Qh {w0 W:World} {Y:CH.Own} {b c i:Nat} {l:List Int} {x:Int} (hY:Y.Ok) (hi:i < l.length) (h:Run (fun _=>False) w0 (star (bD (some ⟨b,0,none⟩) c l) Y) W):Run (fun _=>False) w0 (star (bD (some ⟨b,0,none⟩) c (l.set i x)) Y) (W.setCell ⟨b,i,none⟩ (.int .i64 x)):=by
 obtain ⟨F,hV,-,bk⟩:=h.take bL hY;have h1:=tN hV (i:=i) (by omega) (.int .i64 x);have e:(ints l).set i (.int .i64 x)=ints (l.set i x):=by simp [ints,List.map_set]
 rw [e] at h1;have h2:=bk (bD (some ⟨b,0,none⟩) c (l.set i x)) _ (by unfold bD;rw [List.length_set];exact h1);exact h2
theorem Qi {m y:Nat} (f g:Nat→Int) (hy:y < m):((List.range m).map (fun t=>if t < y then g t else f t)).set y (g y)=(List.range m).map (fun t=>if t < y+1 then g t else f t):=by
 refine List.ext_getElem (by simp) fun i h1 h2=>?_;rw [List.getElem_set];simp only [List.getElem_map,List.getElem_range];by_cases e:y=i
 ·subst e;simp
 ·rw [if_neg e];by_cases h:i < y
  ·rw [if_pos h,if_pos (by omega)]
  ·rw [if_neg h,if_neg (by omega)]

theorem Qj {w0 W:World} {X:CH.Own} {g6 ga n:Nat} {k:Int} {A1 A2 A3:Option Addr} {c1 c2 c3:Nat} {ps us vs:List Int} (hn:n=vs.length)
  (h:Run (fun _=>False) w0 (star (bD A3 c3 vs) (star (bD A1 c1 ps) (star (bD A2 c2 us) (star (au ga #[.int .i64 k,.slice A1 ps.length c1,.slice A2 us.length c2,.slice A3 n c3] 85) (star (au g6 iL 85) X))))) W) :
  Run (fun _=>False) w0 (star (fD g6 ga k A1 A2 A3 c1 c2 c3 ps us vs) X) W:=by
 subst hn;unfold fD;exact h.perm (by ac_rfl)
end Go.Proofs.YtbnnlpjpnihheaaGreatDoor.Asn
