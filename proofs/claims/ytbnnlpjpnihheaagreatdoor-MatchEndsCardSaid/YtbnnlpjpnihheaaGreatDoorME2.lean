/- A part of the proof: lemmas. -/
import Derived.Test.YtbnnlpjpnihheaaGreatDoorME1
import Derived.RangeFuncNested
import Derived.RangeFuncBound
import Derived.RangeFuncCalls
import Derived.RangeFuncLeaves
import Derived.WalkKit
import Derived.Orders
import Derived.OrdersHeld
import Derived.Deep.Draws
import Derived.Deep.RegionHeld3
set_option maxHeartbeats 16000000
set_option maxRecDepth 100000
set_option linter.unusedSimpArgs false
set_option linter.unusedVariables false
namespace Go.CH
open Go.RowKit

structure Run (F0:Nat→Prop) (w0:World) (O:Own) (W:World):Prop where
 own:∃ F,O W F∧∀ i,F i→F0 i∨w0.heap.size≤i
 mod:Mod F0 w0 W
section
variable {F0:Nat→Prop} {w0 W W':World} {A B C D O R:Own}
theorem Run.start {F0:Nat→Prop} {w:World} (h:O w F0):Run F0 w O w:=⟨⟨F0,h,fun i hi=>.inl hi⟩,Mod.refl _ _⟩
theorem Run.begin (w:World):Run (fun _=>False) w emp w:=⟨⟨fun _=>False,fun _ h=>h,fun _ h=>h.elim⟩,Mod.refl _ _⟩
theorem Run.size (h:Run F0 w0 O W):w0.heap.size≤W.heap.size:=h.mod.size
theorem Run.bI (h:Run (fun _=>False) w0 O W):Below w0.heap.size w0 W:=h.mod.below (fun _ _ h=>h)
theorem Run.post (h:Run F0 w0 O W) (ho:O.Ok):Post w0 F0 O W:=by
 obtain ⟨F,h1,h2⟩:=h.own;exact ⟨F,h1,h.mod,fun i hi=>(h2 i hi).imp id (fun g=>⟨g,ho.lt h1 i hi⟩)⟩
theorem Run.imp (h:Run F0 w0 A W) (hi:∀ w F,A w F→B w F):Run F0 w0 B W:=by
 obtain ⟨F,h1,h2⟩:=h.own;exact ⟨⟨F,hi _ _ h1,h2⟩,h.mod⟩

theorem Run.below (h:Run F0 w0 O W) (ho:O.Ok) (hb:Below W.heap.size W W'):Run F0 w0 O W':=by
 obtain ⟨F,h1,h2⟩:=h.own;exact ⟨⟨F,ho.keep h1 (fun i hi=>hb.block i (ho.lt h1 i hi)),h2⟩,h.mod.trans (Mod.of_below (F:=fun _=>False) hb) (fun _ _ h=>h) (fun _ _ h=>h.elim)⟩
theorem Run.drew (h:Run F0 w0 O W) (ho:O.Ok):Run F0 w0 O W.drew:=h.below ho (aV (Below.refl _ _))
theorem Run.drewN (h:Run F0 w0 O W) (ho:O.Ok) (n:Nat):Run F0 w0 O (W.drewN n):=h.below ho (below_drewN (Below.refl _ _) n)

theorem Run.take (h:Run F0 w0 (star A B) W) (ha:A.Ok) (hb:B.Ok):∃ F,A W F∧(∀ i,F i→F0 i∨w0.heap.size≤i)∧∀ (R:Own) (W':World),Post W F R W'→Run F0 w0 (star R B) W':=by
 have hs:=h.size;obtain ⟨F,⟨F1,F2,h1,h2,h3,h4⟩,h5⟩:=h.own;refine ⟨F1,h1,fun i hi=>h5 i ((h4 i).2 (.inl hi)),fun R W' hp=>?_⟩;obtain ⟨F',g1,g2,g3⟩:=hp;refine ⟨⟨fun i=>F' i∨F2 i,⟨F',F2,g1,hb.keep h2 (fun i hi=>g2.block i (hb.lt h2 i hi) (fun hf=>h3 i hf hi)),fun i hi hi2=>?_,fun i=>Iff.rfl⟩,fun i hi=>?_⟩,?_⟩
 ·rcases g3 i hi with g | g
  ·exact h3 i g hi2
  ·have:=hb.lt h2 i hi2;omega
 ·rcases hi with hi | hi
  ·rcases g3 i hi with g | g
   ·exact h5 i ((h4 i).2 (.inl g))
   ·exact .inr (by omega)
  ·exact h5 i ((h4 i).2 (.inr hi))
 ·exact h.mod.trans g2 (fun _ _ h=>h) (fun i hi hf=>(h5 i ((h4 i).2 (.inl hf))).elim id (fun g=>by omega))
theorem Run.one (h:Run F0 w0 A W):Run F0 w0 (star A emp) W:=by
 obtain ⟨F,h1,h2⟩:=h.own;exact ⟨⟨F,⟨F,fun _=>False,h1,fun _ h=>h,fun _ _ h=>h,fun i=>by simp⟩,h2⟩,h.mod⟩

theorem Run.all (h:Run F0 w0 A W) (ha:A.Ok):∃ F,A W F∧∀ (R:Own) (W':World),Post W F R W'→Run F0 w0 R W':=by
 obtain ⟨F,h1,-,h2⟩:=h.one.take ha aB;exact ⟨F,h1,fun R W' hp=>(h2 R W' hp).imp fun _ _ h=>iM h⟩

theorem Run.fresh (h:Run F0 w0 O W) (ho:O.Ok) (hp:Post W (fun _=>False) R W'):Run F0 w0 (star R O) W':=by
 have h1:Run F0 w0 (star emp O) W:=h.one.imp fun _ _ h=>gu h;obtain ⟨F,e1,-,e2⟩:=h1.take aB ho;refine e2 R W' ?_;obtain ⟨F',g1,g2,g3⟩:=hp;exact ⟨F',g1,g2.mono (fun _ _ h=>h.elim),fun i hi=>(g3 i hi).elim (fun h=>h.elim) .inr⟩
theorem Run.swap (h:Run F0 w0 (star A B) W):Run F0 w0 (star B A) W:=h.imp fun _ _=>gu
theorem Run.mh (h:Run F0 w0 (star A (star B C)) W):Run F0 w0 (star B (star A C)) W:=h.imp fun _ _=>gZ
theorem Run.last (h:Run F0 w0 (star A (star B C)) W):Run F0 w0 (star C (star A B)) W :=
 (h.imp fun _ _ h=>bF h (fun _ h=>h) (fun _ h=>gu h)).mh
theorem Run.SC (h:Run F0 w0 (star A (star B (star C D))) W):Run F0 w0 (star C (star A (star B D))) W :=
 (h.imp fun _ _ h=>bF h (fun _ h=>h) (fun _ h=>gZ h)).mh
theorem Run.drop (h:Run F0 w0 (star A B) W):Run F0 w0 B W:=by
 obtain ⟨F,⟨F1,F2,h1,h2,h3,h4⟩,h5⟩:=h.own;exact ⟨⟨F2,h2,fun i hi=>h5 i ((h4 i).2 (.inr hi))⟩,h.mod⟩
theorem Run.fst (h:Run F0 w0 (star A B) W):∃ F,A W F:=by
 obtain ⟨F,⟨F1,F2,h1,h2,h3,h4⟩,h5⟩:=h.own;exact ⟨F1,h1⟩
theorem Run.get (h:Run F0 w0 A W):∃ F,A W F:=by
 obtain ⟨F,h1,_⟩:=h.own;exact ⟨F,h1⟩
theorem Run.cell (h:Run F0 w0 O W) {p:Addr} {u:Value} (hc:w0.cell? p=some u) (hp:¬ F0 p.block):W.cell? p=some u:=by rw [h.mod.cell (World.block_lt_of_cell? _ _ hc) hp];exact hc
theorem Run.src (h:Run F0 w0 O W) {A:Option Addr} {n size:Nat} {xs:List Value} (hs:Src w0 A n size xs) (hn:∀ ad:Addr,A=some ad→¬ F0 ad.block):Src W A n size xs:=by
 refine ⟨hs.1,hs.2.1,fun h0=>?_⟩;obtain ⟨ad,e,hc⟩:=hs.2.2 h0;exact ⟨ad,e,fun j u hu=>h.cell (hc j u hu) (by rw [Addr.add_block];exact hn ad e)⟩
theorem Run.Uc (h:Run (fun _=>False) w0 O W) {A:Option Addr} {n size:Nat} {xs:List Value} (hs:Src w0 A n size xs):Src W A n size xs:=h.src hs (fun _ _ h=>h)
theorem x9 {w:World} {F:Nat→Prop} (h:star (star A B) C w F):star A (star B C) w F:=by
 obtain ⟨F1,F2,⟨F3,F4,h1,h2,h3,h4⟩,h5,h6,h7⟩:=h;refine ⟨F3,fun i=>F4 i∨F2 i,h1,⟨F4,F2,h2,h5,fun i h g=>h6 i ((h4 i).2 (.inr h)) g,fun i=>Iff.rfl⟩,fun i hi hg=>?_,fun i=>?_⟩
 ·rcases hg with hg | hg
  ·exact h3 i hi hg
  ·exact h6 i ((h4 i).2 (.inl hi)) hg
 ·rw [h7,h4,or_assoc]
theorem Run.assoc (h:Run F0 w0 (star (star A B) C) W):Run F0 w0 (star A (star B C)) W:=h.imp fun _ _=>x9
end

theorem M6 (w:World) (e:TypeId) (size:Nat):Post w (fun _=>False) (aS e size (.slice (some ⟨w.heap.size,0,none⟩) 0 0) 0 []) (w.alloc (.cells #[] e)) :=
 qg (World.ownsRow_made w #[] 0 (Nat.le_refl _) (by simp [maxLen]) (by simp)) ((Below.refl _ _).alloc (Nat.le_refl _) _)
theorem Src.take {w:World} {A:Option Addr} {n size k:Nat} {xs:List Value} (h:Src w A n size xs) (hk:k≤n):Src w A k size (xs.take (k*size)):=by
 refine ⟨?_,fun u hu=>h.2.1 u (List.mem_of_mem_take hu),fun hn=>?_⟩
 ·rw [List.length_take,h.1];exact Nat.min_eq_left (Nat.mul_le_mul_right _ hk)
 ·obtain ⟨ad,e,hc⟩:=h.2.2 (by omega);exact ⟨ad,e,fun j u hu=>hc j u (by rw [List.getElem?_take] at hu;split at hu;exact hu;cases hu)⟩
theorem Bt {P:Program} {t e:TypeId} {z:Value} {size bytes:Nat} (S:dh P t e z size bytes) (A:Option Addr) (n c k:Nat) (kd:IntKind) (l:Int) (hl:l=k) (h:k≤c) (w:World) :
  (Instr.slice t (.slice A n c) none (some (.int kd l)) none).run P w=.ok (.slice A k c) w:=by
 obtain ⟨ht,hi,hz,hsz⟩:=S;obtain ⟨i,hi,hi1,hi2,hi3⟩:=info_parts hi;subst hl;have h0:(0:Int)≤k∧(k:Int)≤c:=by omega
 cases A <;> simp [Instr.slice,run_underlying ht,Instr.sliceBounds,Instr.sliceBound,asIntOf,h,sizeOf,typeInfo,hi,hi2,Addr.add]
theorem Bu {w:World} {base:Nat} {e:TypeId} {size n c:Nat} {A:Option Addr} {xs:List Value} (h:w.ownsRow base e size (.slice A n c) n xs):n≤c∧(A=none→c=0):=by
 rcases h.2 with ⟨h1,h2⟩ | ⟨g,cap,cur,h1,_,_,h3,_⟩
 ·injection h1 with e1 e2 e3;omega
 ·injection h1 with e1 e2 e3;subst e3;exact ⟨h3,fun e=>by rw [e] at e1;cases e1⟩
theorem Dy {w:World} {b i:Nat} {cur:Array Value} {t:TypeId} (v:Value) (h:w.heap[b]?=some (.cells cur t)):(w.setCell ⟨b,i,none⟩ v).heap[b]?=some (.cells (cur.setIfInBounds i v) t):=by
 rw [setCell_eq_setRow w b i cur t (0,0) v h];exact setRow_heap w b cur _ t (0,0) h
theorem oL {w:World} {F:Nat→Prop} {g:Nat} {cs:Array Value} {t:TypeId} (h:au g cs t w F) (i:Nat) (v:Value):Post w F (au g (cs.setIfInBounds i v) t) (w.setCell ⟨g,i,none⟩ v) :=
 ⟨F,⟨Dy v h.1,h.2⟩,(Mod.refl _ _).setCell v (fun _=>(h.2 g).2 rfl),fun i hi=>.inl hi⟩
theorem ay {w:World} {F:Nat→Prop} {g:Nat} {cs:Array Value} {t:TypeId} (h:au g cs t w F) {i:Nat} {v:Value} (hv:cs[i]?=some v):w.cell? ⟨g,i,none⟩=some v:=by
 simp [World.cell?,h.1,hv]
theorem aJ {w:World} {F:Nat→Prop} {g:Nat} {cs:Array Value} {t:TypeId} (h:au g cs t w F) (i:Nat):w.frozen? ⟨g,i,none⟩=false:=by
 simp [World.frozen?,h.1]
end Go.CH
namespace Go.CH
open Go.RowKit
open Go.ChangeMaps (setBlock)

def aN:List Own→Own
 | []=>emp
 | A :: l=>star A (aN l)
theorem oU:∀ {l:List Own},(∀ A ∈ l,A.Ok)→(aN l).Ok
 | [],_=>aB
 | A :: l,h=>aj (h A (by simp)) (oU (fun B hB=>h B (by simp [hB])))
theorem Kv {A:Own} {w:World} {F:Nat→Prop} (h:A w F):star A emp w F:=⟨F,fun _=>False,h,fun _ h=>h,fun _ _ h=>h,fun i=>by simp⟩
theorem D9 {A B C:Own} {w:World} {F:Nat→Prop} (h:star A (star B C) w F):star (star A B) C w F:=by
 obtain ⟨F1,F2,h1,⟨F3,F4,h2,h3,h4,h5⟩,h6,h7⟩:=h;refine ⟨fun i=>F1 i∨F3 i,F4,⟨F1,F3,h1,h2,fun i hi hj=>h6 i hi ((h5 i).2 (.inl hj)),fun i=>Iff.rfl⟩,h3,fun i hi hj=>?_,fun i=>?_⟩
 ·rcases hi with hi | hi
  ·exact h6 i hi ((h5 i).2 (.inr hj))
  ·exact h4 i hi hj
 ·rw [h7,h5,or_assoc]

theorem IG:∀ {l:List Own} {k:Nat} (hk:k < l.length) {w:World} {F:Nat→Prop},aN l w F→star l[k] (aN (l.eraseIdx k)) w F
 | A :: l,0,_,_,_,h=>h
 | A :: l,k+1,hk,w,F,h=>by
  have h1:star A (aN l) w F:=h;have h2:star A (star (l[k]'(by simpa using hk)) (aN (l.eraseIdx k))) w F:=bF h1 (fun _ h=>h) (fun F h=>IG (by simpa using hk) h);exact gZ h2

theorem NA:∀ {l:List Own} {k:Nat} (hk:k < l.length) {B:Own} {w:World} {F:Nat→Prop},star B (aN (l.eraseIdx k)) w F→aN (l.set k B) w F
 | A :: l,0,_,_,_,_,h=>h
 | A :: l,k+1,hk,B,w,F,h=>by
  have h1:star B (star A (aN (l.eraseIdx k))) w F:=h;exact bF (gZ h1) (fun _ h=>h) (fun F h=>NA (by simpa using hk) h)
theorem Ea:∀ {l:List Own} {B:Own} {w:World} {F:Nat→Prop},star B (aN l) w F→aN (l ++ [B]) w F
 | [],B,w,F,h=>h
 | A :: l,B,w,F,h=>by
  have h1:star B (star A (aN l)) w F:=h;exact bF (gZ h1) (fun _ h=>h) (fun F h=>Ea h)

section keys
variable {κ:Type}
def kg (l:List κ) (f:κ→Own):Own:=aN (l.map f)
theorem BG {l:List κ} {f:κ→Own} (h:∀ k,(f k).Ok):(kg l f).Ok:=oU (fun A hA=>by obtain ⟨k,_,rfl⟩:=List.mem_map.1 hA;exact h k)
theorem Eb [DecidableEq κ]:∀ {l:List κ} {f:κ→Own} {k:κ} (hk:k ∈ l) {w:World} {F:Nat→Prop},kg l f w F→star (f k) (kg (l.erase k) f) w F
 | a :: l,f,k,hk,w,F,h=>by
  have h1:star (f a) (kg l f) w F:=h;by_cases hak:a=k
  ·subst hak;simpa using h1
  ·have hk':k ∈ l:=by simpa [Ne.symm hak] using hk
   rw [List.erase_cons_tail (by simpa using hak)];exact gZ (bF h1 (fun _ h=>h) (fun F h=>Eb hk' h))
theorem yJ {l:List κ} {f g:κ→Own} (h:∀ k ∈ l,f k=g k):kg l f=kg l g:=by
 unfold kg;rw [List.map_congr_left h]
theorem Ec [DecidableEq κ]:∀ {l:List κ} {f:κ→Own} {k:κ} (hk:k ∈ l) {w:World} {F:Nat→Prop},star (f k) (kg (l.erase k) f) w F→kg l f w F
 | a :: l,f,k,hk,w,F,h=>by
  by_cases hak:a=k
  ·subst hak;rw [List.erase_cons_head] at h;exact h
  ·have hk':k ∈ l:=by simpa [Ne.symm hak] using hk
   rw [List.erase_cons_tail (by simpa using hak)] at h;have h1:star (f k) (star (f a) (kg (l.erase k) f)) w F:=h;exact bF (gZ h1) (fun _ h=>h) (fun F h=>Ec hk' h)
end keys

theorem uY {α β:Type} (f:α→β):∀ (l:List α) (k:Nat),(l.map f).eraseIdx k=(l.eraseIdx k).map f
 | [],_=>rfl
 | _ :: _,0=>rfl
 | a :: l,k+1=>by simp [uY f l k]

section arow
variable {ζ:Type} (cl:ζ→List Value) (ow:ζ→Own)

def Kw (e:TypeId) (size:Nat) (v:Value) (zs:List ζ):Own:=star (aS e size v zs.length (zs.flatMap cl)) (aN (zs.map ow))
variable {cl ow}
theorem Qy {e:TypeId} {size:Nat} {v:Value} {zs:List ζ} (h:∀ z,(ow z).Ok):(Kw cl ow e size v zs).Ok :=
 aj bA (oU (fun A hA=>by obtain ⟨z,_,rfl⟩:=List.mem_map.1 hA;exact h z))

theorem Ed {e:TypeId} {size:Nat} {v:Value} {zs:List ζ} {k:Nat} (hk:k < zs.length) {w:World} {F:Nat→Prop} (h:Kw cl ow e size v zs w F) :
  star (ow zs[k]) (star (aS e size v zs.length (zs.flatMap cl)) (aN ((zs.eraseIdx k).map ow))) w F:=by
 have h1:=bF h (fun _ h=>h) (fun F h=>IG (k:=k) (by simpa using hk) h);have h2:=gZ h1;rw [List.getElem_map,uY] at h2;exact h2
theorem Qz {e:TypeId} {size:Nat} {v:Value} {zs:List ζ} {k:Nat} (hk:k < zs.length) {z:ζ} {w:World} {F:Nat→Prop}
  (h:star (ow z) (star (aS e size v zs.length ((zs.set k z).flatMap cl)) (aN ((zs.eraseIdx k).map ow))) w F):Kw cl ow e size v (zs.set k z) w F:=by
 unfold Kw;rw [List.length_set,List.map_set];refine bF (gZ h) (fun _ h=>h) (fun F h=>NA (by simpa using hk) ?_);rw [uY];exact h
end arow

theorem NC {α:Type} {R:α→List Value} {size:Nat} (hR:∀ x,(R x).length=size) (l:List α):(l.flatMap R).length=l.length*size:=by
 induction l with
 | nil=>simp
 | cons x l ih=>rw [List.flatMap_cons,List.length_append,hR,ih,List.length_cons,Nat.succ_mul];omega

theorem tN {w:World} {F:Nat→Prop} {e:TypeId} {size g n c:Nat} {xs:List Value} (h:aS e size (.slice (some ⟨g,0,none⟩) n c) n xs w F) {i:Nat} (hi:i < n*size) (v:Value) :
  Post w F (aS e size (.slice (some ⟨g,0,none⟩) n c) n (xs.set i v)) (w.setCell ⟨g,i,none⟩ v):=by
 obtain ⟨h1,h2⟩:=h;have hg:F g:=(h2 g).2 rfl;refine ⟨F,⟨⟨by rw [List.length_set];exact h1.1,?_⟩,h2⟩,(Mod.refl _ _).setCell v (fun _=>hg),fun i hi=>.inl hi⟩;rcases h1.2 with ⟨e1,e2⟩ | ⟨g',cap,cur,hv,h3,h4,h5,h6,h7,h8⟩
 ·subst e2;omega
 ·injection hv with e1 e2 e3
  injection e1 with e1;injection e1 with e1
  subst e1 e3;refine .inr ⟨g,c,cur.setIfInBounds i v,rfl,h3,Dy v h4,h5,h6,by simpa using h7,?_⟩;rw [Array.toList_setIfInBounds,List.take_set,h8]
theorem kY {w:World} {F:Nat→Prop} {e:TypeId} {size g n c:Nat} {xs:List Value} (h:aS e size (.slice (some ⟨g,0,none⟩) n c) n xs w F) {i:Nat} {v:Value} (hv:xs[i]?=some v):w.cell? ⟨g,i,none⟩=some v:=by
 have:=h.1.cells rfl i v hv;rwa [Addr.uT] at this
theorem mG {w:World} {F:Nat→Prop} {e:TypeId} {size g n c:Nat} {xs:List Value} (h:aS e size (.slice (some ⟨g,0,none⟩) n c) n xs w F) (i:Nat) (hn:0 < n):w.frozen? ⟨g,i,none⟩=false:=by
 rcases h.1.2 with ⟨e1,e2⟩ | ⟨g',cap,cur,hv,h3,h4,_⟩
 ·omega
 ·injection hv with e1 e2 e3
  injection e1 with e1;injection e1 with e1
  subst e1;simp [World.frozen?,h4]
theorem ND {w:World} {F:Nat→Prop} {e:TypeId} {size n c:Nat} {A:Option Addr} {xs:List Value} (h:aS e size (.slice A n c) n xs w F) (hn:0 < n):∃ g,A=some ⟨g,0,none⟩:=by
 rcases h.1.2 with ⟨e1,e2⟩ | ⟨g',cap,cur,hv,_⟩
 ·omega
 ·injection hv with e1;exact ⟨g',e1⟩
theorem NG {α:Type} (R:α→List Value) (size:Nat) (hR:∀ x,(R x).length=size) {l:List α} {k:Nat} (h:k < l.length) {j:Nat} (hj:j < size) {v:Value} {x:α} (hx:(R l[k]).set j v=R x):(l.flatMap R).set (k*size+j) v=(l.set k x).flatMap R:=by
 induction l generalizing k with
 | nil=>simp at h
 | cons y l ih =>
  rw [List.flatMap_cons];cases k with
  | zero =>
   simp only [Nat.zero_mul,Nat.zero_add,List.set_cons_zero,List.flatMap_cons];rw [List.set_append_left _ _ (by rw [hR];exact hj)];simp only [List.getElem_cons_zero] at hx;rw [hx]
  | succ k =>
   simp only [List.set_cons_succ,List.flatMap_cons];rw [List.set_append_right _ _ (by rw [hR,Nat.succ_mul];omega),hR,show (k+1)*size+j - size=k*size+j by rw [Nat.succ_mul];omega,ih (by simpa using h) (by simpa using hx)]

section
variable {α:Type} {kv:α→Value}
def fQ (kv:α→Value) (b:Nat) (l:List (α × Value)):Own:=fun w F=>nJ kv w b l∧∀ i,F i↔i=b
theorem map_ok {b:Nat} {l:List (α × Value)}:(fQ kv b l).Ok :=
 ⟨fun h i hi=>by rw [(h.2 i).1 hi];exact h.1.lt,fun h hk=>⟨h.1.of_block (hk b ((h.2 b).2 rfl)),h.2⟩⟩
theorem lK (w:World):Post w (fun _=>False) (fQ kv w.heap.size []) (w.alloc (.map #[] 0)) :=
 ⟨fun i=>i=w.heap.size,⟨nJ.new w,fun i=>Iff.rfl⟩,Mod.of_below ((Below.refl _ _).alloc (Nat.le_refl _) _),fun i hi=>.inr (by subst hi;simp)⟩
end
end Go.CH
namespace Go.CH
open Go.RowKit

theorem mM (A B:Own):star A B=star B A:=by
 funext w F;exact propext ⟨gu,gu⟩
theorem lM (A B C:Own):star (star A B) C=star A (star B C):=by
 funext w F;exact propext ⟨x9,D9⟩
instance star_com:Std.Commutative star:=⟨mM⟩
instance star_ass:Std.Associative star:=⟨lM⟩
theorem wQ (A:Own):star emp A=A:=by
 funext w F;exact propext ⟨fun h=>iM (gu h),fun h=>gu (Kv h)⟩
theorem jQ (A:Own):star A emp=A:=by rw [mM,wQ]
theorem Run.perm {F0:Nat→Prop} {w0 W:World} {A B:Own} (h:Run F0 w0 A W) (e:A=B):Run F0 w0 B W:=e ▸ h

theorem Run.sub {F0:Nat→Prop} {w0 W:World} {A B:Own} (h:Run F0 w0 (star A B) W) (ha:A.Ok) (hb:B.Ok):∃ F,Run F W A W∧∀ (R:Own) (W':World),R.Ok→Run F W R W'→Run F0 w0 (star R B) W':=by
 obtain ⟨F,h1,-,h2⟩:=h.take ha hb;exact ⟨F,Run.start h1,fun R W' hr hp=>h2 R W' (hp.post hr)⟩
end Go.CH
namespace Go.CH
open Go.RowKit

def bE (g:Nat) (o:Obj):Own:=fun w F=>w.heap[g]?=some o∧∀ i,F i↔i=g
theorem bH {g:Nat} {o:Obj}:(bE g o).Ok :=
 ⟨fun h i hi=>by rw [(h.2 i).1 hi];exact lt_of_block h.1,fun h hk=>⟨(hk g ((h.2 g).2 rfl)).trans h.1,h.2⟩⟩
theorem wD (w:World) (o:Obj):Post w (fun _=>False) (bE w.heap.size o) (w.alloc o) :=
 ⟨fun i=>i=w.heap.size,⟨World.alloc_heap_new w o,fun i=>Iff.rfl⟩,Mod.of_below ((Below.refl _ _).alloc (Nat.le_refl _) _),fun i hi=>.inr (by subst hi;simp)⟩
theorem iy {w:World} {F:Nat→Prop} {g:Nat} {o:Obj} (h:bE g o w F) (o':Obj):Post w F (bE g o') (w.putObj g o'):=by
 have hlt:g < w.heap.size:=lt_of_block h.1;exact ⟨F,⟨World.putObj_heap_same hlt,h.2⟩,Mod.sH (grownBy_putObj' w g o') (fun k e _=>by cases e;exact (h.2 g).2 rfl),fun i hi=>.inl hi⟩

def Rl {α:Type} (P:Program) (gf:Nat) (lb:Array Value) (E:World→Prop) (Z:Nat→Own) (enc:α→Array Value) (xs:List α):Prop :=
 ∀ (n l:Nat) (W:World) (F0:Nat→Prop) (w0:World) (X:Nat→Own) (Y:Own),(∀ i,(X i).Ok)→Y.Ok→(∀ W,Mod F0 w0 W→E W)→Run F0 w0 (star (Z 0) (X 0)) W →
  (∀ i (hi:i < xs.length) W1,Run F0 w0 (star (Z i) (X i)) W1→YieldAt Fence.wide (n - 1) P l (enc xs[i]) W1 fun e W' =>
   (e=.returned (.bool true)∧Run F0 w0 (star (Z i) (X (i+1))) W')∨(e=.returned (.bool false)∧Run F0 w0 (star (Z i) Y) W')) →
  CallsIn Fence.wide n P gf (#[.func (.yield l) #[] #[]] ++ lb) W fun e W'=>(∃ v,e=.returned v)∧(Run F0 w0 (star (Z xs.length) (X xs.length)) W'∨∃ i,Run F0 w0 (star (Z i) Y) W')
def UM (O:Code→Own):Own:=fun w F=>∃ c,O c w F
theorem M4 {O:Code→Own} (h:∀ c,(O c).Ok):(UM O).Ok:=⟨fun ⟨c,h1⟩=>(h c).lt h1,fun ⟨c,h1⟩ hk=>⟨c,(h c).keep h1 hk⟩⟩

def Ii (F0:Nat→Prop) (w0:World) (R I:Own) (Ix:Code→Own):Exit→Act→World→Prop
 | .normal,_,W=>Run F0 w0 (star I R) W
 | .ret,_,W=>Run F0 w0 (star (Ix .ret) R) W
 | .exit id,_,W=>Run F0 w0 (star (Ix (.exit id)) R) W
 | .goto t,_,W=>Run F0 w0 (star (Ix (.goto t)) R) W
 | .panic _,_,_=>False
 | .outgrown,_,_=>False
theorem J7 {α:Type} {P:Program} {g:Operand} {ps:Array Tmp} {assign body:Code} {Q:Exit→Act→World→Prop} {a:Act} {w:World} {gf:Nat} {lb:Array Value}
  (hg:a.eval g=.func (.func gf) #[] lb) (eg:∀ args w,(callFunc gf args).run P w=.ok (.enter gf args) w) {E:World→Prop} {Z:Nat→Own} {enc:α→Array Value} {xs:List α}
  (hit:Rl P gf lb E Z enc xs) (hZ:∀ i,(Z i).Ok) (hps:∀ x,(enc x).size=ps.size)
  {F0:Nat→Prop} {w0:World} (hE:∀ W,Mod F0 w0 W→E W) (I:Nat→Own) (Ix:Code→Own) (hI:∀ i,(I i).Ok) (hIx:∀ c,(Ix c).Ok) (h0:Run F0 w0 (star (Z 0) (I 0)) w) (a₁:α→Act)
  (hassign:∀ (l m:Nat) (x:α) (W:World) (K:Act→World→Prop),K (a₁ x) W →
   assign.wpIn (Fence.wide.inRound l) m P (Exit.then K (fun _ _ _=>False)) { tmps:=(ps.zip (enc x)).foldl (fun t (p,v)=>t.setIfInBounds p v) a.tmps,defers:=[] } W)
  (hbody:∀ (l m i:Nat) (hi:i < xs.length) (R:Own) (W:World),R.Ok→Run F0 w0 (star (I i) R) W→body.wpIn (Fence.wide.inRound l) m P (Ii F0 w0 R (I (i+1)) Ix) (a₁ xs[i]) W)
  (hdone:∀ (D:Nat) (R:Own) (W:World),R.Ok→Run F0 w0 (star (I xs.length) (star (bE D (.deferred (some []))) R)) W→Q .normal { a with defers:={ target:=.collected D,args:=#[] } :: a.defers } W)
  (hstop:∀ (D:Nat) (c:Code) (R:Own) (W:World),R.Ok→Run F0 w0 (star (Ix c) (star (bE D (.deferred (some []))) R)) W→c.wp P Q { a with defers:={ target:=.collected D,args:=#[] } :: a.defers } W) :
  (Code.rangeFunc g ps assign body).wp P Q a w:=by
 refine (wpIn_wide (n:=8)).1 ?_;refine wpIn_rangeFunc ?_;intro fn hfn;obtain ⟨rec,hrec⟩:∃ rec:LoopState→Option Code→Loop,rec=fun st pe=>{ state:=st,pending:=pe,fn,tmps:=a.tmps,params:=ps,assign,body,defers:=w.heap.size }:=⟨_,rfl⟩;obtain ⟨W1,hW1⟩:∃ W1,(w.alloc (.deferred (some []))).alloc (.loop (rec .ready none))=W1:=⟨_,rfl⟩;obtain ⟨l,hl⟩:∃ l,l=w.heap.size+1:=⟨_,rfl⟩;obtain ⟨D,hD⟩:∃ D,D=w.heap.size:=⟨_,rfl⟩;have R1:Run F0 w0 (star (Z 0) (star (bE l (.loop (rec .ready none))) (star (bE D (.deferred (some []))) (I 0)))) W1:=by
  have o1:=aj (hZ 0) (hI 0);have h1:=h0.fresh o1 (wD w (.deferred (some [])));have h2:=h1.fresh (aj bH o1) (wD (w.alloc (.deferred (some []))) (.loop (rec .ready none)));have e1:(w.alloc (.deferred (some []))).heap.size=l:=by rw [hl];simp
  rw [e1,←hD] at h2;rw [hW1] at h2;exact h2.perm (by ac_rfl)
 have okD:(bE D (.deferred (some []))).Ok:=bH
 refine ⟨l,[{ target:=.collected w.heap.size,args:=#[] }],W1,{ target:=.fn (.func gf) lb,args:=#[.func (.yield l) #[] #[]] },W1,gf,
  #[.func (.yield l) #[] #[]] ++ lb,W1,?_,?_,?_,?_,fun _=>by omega,?_⟩
 ·rw [←hW1,hrec,hl];exact run_enterLoop_outer _ _ _ _ _
 ·simp only [resolve,hg];simp [go_sem]
 ·intro f' hf';trivial
 ·simp [invoke,go_sem,eg]
 ·refine (hit (8 - 1) l W1 F0 w0 (fun i=>star (bE l (.loop (rec .ready none))) (star (bE D (.deferred (some []))) (I i)))
   (UM fun c=>star (bE l (.loop (rec .done (some c)))) (star (bE D (.deferred (some []))) (Ix c)))
   (fun i=>aj bH (aj bH (hI i))) (M4 fun c=>aj bH (aj bH (hIx c))) hE R1 ?_).mono ?_
  ·-- one round
   intro i hi W hR;have okR:(star (bE D (.deferred (some []))) (star (Z i) (I i))).Ok:=aj bH (aj (hZ i) (hI i));have hR2:=hR.perm (by ac_rfl:_=star (bE l (.loop (rec .ready none))) (star (bE D (.deferred (some []))) (star (Z i) (I i))));obtain ⟨FL,hL,-,bk⟩:=hR2.take bH okR;have hy:=run_yield (P:=P) (args:=enc xs[i]) hL.1 (by rw [hrec];exact hps _);rw [hrec] at hy;refine ⟨fn,_,assign,body,hy,roundIn_of_wpIn hfn (hassign l _ xs[i] W _ ⟨_,run_beginRound hL.1 (by rw [hrec]),?_⟩)⟩;have hB:=bk _ _ (iy hL (.loop { rec .ready none with state:=.busy }));have okB:(star (bE l (.loop { rec .ready none with state:=.busy })) (star (bE D (.deferred (some []))) (Z i))).Ok:=aj bH (aj bH (hZ i));refine wpIn_mono (hbody l _ i hi (star (bE l (.loop { rec .ready none with state:=.busy })) (star (bE D (.deferred (some []))) (Z i))) _ okB (hB.perm (by ac_rfl))) ?_;have fin:∀ (jump:Option Code) (W3:World) (O:Own),O.Ok→Run F0 w0 (star O (star (bE l (.loop { rec .ready none with state:=.busy })) (star (bE D (.deferred (some []))) (Z i)))) W3 →
     ∃ W4,(Instr.endRound l jump).run P W3=.ok (.bool jump.isNone) W4∧Run F0 w0 (star (Z i) (star (bE l (.loop (rec (if jump.isNone then .ready else .done) jump))) (star (bE D (.deferred (some []))) O))) W4:=fun jump W3 O hO h3=>by
    have h4:=h3.perm (by ac_rfl:_=star (bE l (.loop { rec .ready none with state:=.busy })) (star (bE D (.deferred (some []))) (star (Z i) O)));obtain ⟨FL,hL,-,bk⟩:=h4.take bH (aj bH (aj (hZ i) hO));refine ⟨_,run_endRound (P:=P) jump hL.1,?_⟩;have h5:=bk _ _ (iy hL (.loop { { rec .ready none with state:=.busy } with state:=if jump.isNone then .ready else .done,pending:=jump }));have e5:({ { rec .ready none with state:=.busy } with state:=if jump.isNone then .ready else .done,pending:=jump }:Loop)=rec (if jump.isNone then .ready else .done) jump:=by rw [hrec]
    rw [e5] at h5 ⊢;exact h5.perm (by ac_rfl)
   rintro e a3 W3 hp;cases e with
   | normal =>
    obtain ⟨W4,h4,h5⟩:=fin none W3 _ (hI (i+1)) hp;exact ⟨_,_,h4,.inl ⟨rfl,h5⟩⟩
   | ret =>
    obtain ⟨W4,h4,h5⟩:=fin (some .ret) W3 _ (hIx .ret) hp;exact ⟨_,_,h4,.inr ⟨rfl,h5.imp fun w F hh=>bF hh (fun _ h=>h) (fun _ h=>⟨.ret,h⟩)⟩⟩
   | exit id =>
    obtain ⟨W4,h4,h5⟩:=fin (some (.exit id)) W3 _ (hIx (.exit id)) hp;exact ⟨_,_,h4,.inr ⟨rfl,h5.imp fun w F hh=>bF hh (fun _ h=>h) (fun _ h=>⟨.exit id,h⟩)⟩⟩
   | goto t =>
    obtain ⟨W4,h4,h5⟩:=fin (some (.goto t)) W3 _ (hIx (.goto t)) hp;exact ⟨_,_,h4,.inr ⟨rfl,h5.imp fun w F hh=>bF hh (fun _ h=>h) (fun _ h=>⟨.goto t,h⟩)⟩⟩
   | panic ch=>exact hp.elim
   | outgrown=>exact hp.elim
  ·-- behind the iterator
   have fin:∀ (st:LoopState) (pe:Option Code) (W2:World) (i:Nat) (O:Own),O.Ok→st≠.busy→Run F0 w0 (star (Z i) (star (bE l (.loop (rec st pe))) (star (bE D (.deferred (some []))) O))) W2 →
     ∃ W4 R,R.Ok∧(Instr.endLoop l).run P W2=.ok pe W4∧Run F0 w0 (star O (star (bE D (.deferred (some []))) R)) W4:=fun st pe W2 i O hO hst h3=>by
    have h4:=h3.perm (by ac_rfl:_=star (bE l (.loop (rec st pe))) (star (bE D (.deferred (some []))) (star (Z i) O)));obtain ⟨FL,hL,-,bk⟩:=h4.take bH (aj bH (aj (hZ i) hO));have he:=run_endLoop (P:=P) hL.1 (by rw [hrec];exact hst);have e6:(rec st pe).pending=pe:=by rw [hrec]
    have he:=he.trans (congrArg (fun p=>Result.ok p (W2.putObj l (.loop { rec st pe with state:=.exhausted }))) e6);have hp:=iy hL (.loop { rec st pe with state:=.exhausted });generalize Obj.loop { rec st pe with state:=.exhausted }=o4 at he hp;have h5:=bk _ _ hp;exact ⟨_,star (bE l o4) (Z i),aj bH (hZ i),he,h5.perm (by ac_rfl:_=star O (star (bE D (.deferred (some []))) (star (bE l o4) (Z i))))⟩
   rintro e W2 ⟨⟨v,rfl⟩,h2 | ⟨i,h2⟩⟩
   ·obtain ⟨W4,R,hR,he,h4⟩:=fin .ready none W2 _ _ (hI _) (by simp) h2;rw [←hD];exact ⟨none,_,he,hdone D R W4 hR h4⟩
   ·have h3:∃ c,Run F0 w0 (star (Z i) (star (bE l (.loop (rec .done (some c)))) (star (bE D (.deferred (some []))) (Ix c)))) W2:=by
     obtain ⟨⟨F,⟨F1,F2,g1,⟨c,g2⟩,g3,g4⟩,hF⟩,hm⟩:=h2;exact ⟨c,⟨⟨F,⟨F1,F2,g1,g2,g3,g4⟩,hF⟩,hm⟩⟩
    obtain ⟨c,h3⟩:=h3;obtain ⟨W4,R,hR,he,h4⟩:=fin .done (some c) W2 _ _ (hIx c) (by simp) h3;rw [←hD];exact ⟨some c,_,he,(wpIn_wide (n:=8)).2 (hstop D c R W4 hR h4)⟩
end Go.CH
namespace Go.CH
open Go.RowKit

def bR:Op→Bool
 | .call { callee:=.builtin .len,.. } | .call { callee:=.builtin .cap,.. } | .call { callee:=.builtin .min,.. } | .call { callee:=.builtin .max,.. }=>false
 | .move _ | .assign _ | .pick .. | .load .. | .nilCheck _ | .binOp .. | .unOp .. | .makeInterface .. | .makeFunc .. | .slice .. | .fieldAddr .. | .field .. | .indexAddr .. | .index .. | .lookup .. | .extract .. | .build .. | .typeAssert .. | .entry _=>false
 | _=>true

section
variable {P:Program} {ops:Array Oper} {S:World→Prop} {Q:Exit→Act→World→Prop}

def fI:Exit→Act→World→Prop:=fun _ _ _=>False

def qD (P:Program) (ops:Array Oper) (S:World→Prop) (Q:Exit→Act→World→Prop):List Nat→Act→World→Prop
 | [],a,w=>Q .normal a w
 | i :: r,a,w=>match ops[i]? with
  | none=>qD P ops S Q r a w
  | some o=>(∃ v,YieldsIf P ops S o v a∧qD P ops S Q r (a.put o.dst v) w) ∨
   (bR o.op=true∧Region.wanted o (yielded ops a.tmps)=true∧o.wp P a w (fun a' w'=>S w'∧qD P ops S Q r a' w') fI)

theorem Ie {o:Oper} {u v:Value} {a:Act} {w:World} (hS:S w) (h1:YieldsIf P ops S o u a) (h2:YieldsIf P ops S o v a):u=v:=by
 rcases h1 with ⟨w1,r1⟩ | ⟨w1,e1⟩ <;> rcases h2 with ⟨w2,r2⟩ | ⟨w2,e2⟩
 ·have h:=(r1 w hS).symm.trans (r2 w hS);injection h with h _
  injection h
 ·rw [w1] at w2;cases w2
 ·rw [w1] at w2;cases w2
 ·rw [e1,e2]

theorem FN {f:FuncId} {args:Array Value} {w:World} {R:Ending→World→Prop} (h:Calls P f args w R):∃ e w',R e w':=by
 obtain ⟨e,w',_,hR,_⟩:=h [];exact ⟨e,w',hR⟩

theorem jP {oi oj:Oper} {u v:Value} {a:Act} (hs:∀ cs b,oj.op≠.select cs b) (h:∀ d,oi.dst=some d→d ∉ oj.looksAt ops) (hy:YieldsIf P ops S oj u (a.put oi.dst v)):YieldsIf P ops S oj u a :=
 hy.of_same (execOp_put oj hs a oi.dst v h).symm (wanted_put oj a oi.dst v h).symm
theorem sG {oi oj:Oper} {u v:Value} {a:Act} (hs:∀ cs b,oj.op≠.select cs b) (h:∀ d,oi.dst=some d→d ∉ oj.looksAt ops) (hy:YieldsIf P ops S oj u a):YieldsIf P ops S oj u (a.put oi.dst v) :=
 hy.of_same (execOp_put oj hs a oi.dst v h) (wanted_put oj a oi.dst v h)
theorem JR {o:Oper} {u:Value} {a:Act} {ds:List Deferred} (h:YieldsIf P ops S o u { a with defers:=ds }):YieldsIf P ops S o u a:=h.of_same rfl rfl
theorem FP {o:Oper} {u:Value} {a:Act} {ds:List Deferred} (h:YieldsIf P ops S o u a):YieldsIf P ops S o u { a with defers:=ds }:=h.of_same rfl rfl

theorem rz {oi oj:Oper} {v:Value} {a:Act} {w:World} {K:Act→World→Prop} (hsi:∀ cs b,oi.op≠.select cs b) (hsj:∀ cs b,oj.op≠.select cs b) (hap:oi.apart ops oj=true)
  (hy:YieldsIf P ops S oi v a) (h:oj.wp P (a.put oi.dst v) w K fI):oj.wp P a w (fun a' w'=>YieldsIf P ops S oi v a'∧K (a'.put oi.dst v) w') fI:=by
 obtain ⟨h1,h2,h3⟩:=Oper.apart_spec hap;have keep:∀ (a:Act),YieldsIf P ops S oi v a→∀ u,YieldsIf P ops S oi v (a.put oj.dst u):=fun a hy u=>sG hsi h3 hy;unfold Oper.wp at *
 rw [execOp_put oj hsj a oi.dst v h1] at h;generalize (execOp a.eval oj).run P w=r at *
 cases r with
 | ok n w' =>
  cases n <;> simp only [Oper.upon] at h ⊢
  case value u=>exact ⟨keep a hy u,by rw [←Act.put_comm a v u h2];exact h⟩
  case skip=>exact ⟨keep a hy _,by rw [←Act.put_comm a v undef h2];exact h⟩
  case defer d =>
   refine ⟨keep _ (FP hy) _,?_⟩;rw [←Act.put_comm _ v undef h2,←Act.put_defers];exact h
  case enter f args =>
   refine Calls.mono h fun e w'' he=>?_;cases e with
   | returned u=>exact ⟨keep a hy u,by rw [←Act.put_comm a v u h2];exact he⟩
   | panicked c=>exact he
   | outgrown=>exact he
  case row row args=>exact Rows.mono h fun u w'' he=>⟨keep a hy u,by rw [←Act.put_comm a v u h2];exact he⟩
 | halt x w'=>cases x <;> simp only [Oper.upon] at h ⊢ <;> exact h

theorem rC {oi oj:Oper} {a:Act} {w:World} {K:Act→World→Prop} (hsi:∀ cs b,oi.op≠.select cs b) (hsj:∀ cs b,oj.op≠.select cs b) (hap:oi.apart ops oj=true) (hS:S w)
  (h:oi.wp P a w (fun a' w'=>S w'∧∃ u,YieldsIf P ops S oj u a'∧K (a'.put oj.dst u) w') fI) :
  ∃ u,YieldsIf P ops S oj u a∧oi.wp P (a.put oj.dst u) w (fun a' w'=>S w'∧K a' w') fI:=by
 obtain ⟨h1,h2,h3⟩:=Oper.apart_spec hap;unfold Oper.wp at *
 have hex:∀ u,execOp (a.put oj.dst u).eval oi=execOp a.eval oi:=fun u=>execOp_put oi hsi a oj.dst u h3;simp only [hex];generalize (execOp a.eval oi).run P w=r at *
 cases r with
 | ok n w' =>
  cases n <;> simp only [Oper.upon] at h ⊢
  case value v =>
   obtain ⟨s,u,hy,hk⟩:=h;exact ⟨u,jP hsj h1 hy,s,by rw [←Act.put_comm a v u h2];exact hk⟩
  case skip =>
   obtain ⟨s,u,hy,hk⟩:=h;exact ⟨u,jP hsj h1 hy,s,by rw [←Act.put_comm a undef u h2];exact hk⟩
  case defer d =>
   obtain ⟨s,u,hy,hk⟩:=h;refine ⟨u,JR (jP hsj h1 hy),s,?_⟩;rw [Act.put_defers,←Act.put_comm _ undef u h2];exact hk
  case enter f args =>
   obtain ⟨e,w0,he⟩:=FN h;cases e with
   | panicked c=>exact he.elim
   | outgrown=>obtain ⟨_,_,he⟩:=he;exact he.elim
   | returned v0 =>
    obtain ⟨_,u,hy,_⟩:=he;have hy0:=jP hsj h1 hy;refine ⟨u,hy0,Calls.mono h fun e w'' he=>?_⟩;cases e with
    | panicked c=>exact he
    | outgrown=>exact he
    | returned v =>
     obtain ⟨s,u',hy',hk⟩:=he;obtain rfl:=Ie hS hy0 (jP hsj h1 hy');exact ⟨s,by rw [←Act.put_comm a v u h2];exact hk⟩
  case row row args =>
   have hr:=h default [];obtain ⟨v0,w0,⟨_,u,hy,_⟩,_⟩:=hr;have hy0:=jP hsj h1 hy;refine ⟨u,hy0,Rows.mono h fun v w'' he=>?_⟩;obtain ⟨s,u',hy',hk⟩:=he;obtain rfl:=Ie hS hy0 (jP hsj h1 hy');exact ⟨s,by rw [←Act.put_comm a v u h2];exact hk⟩
 | halt x w'=>cases x <;> simp only [Oper.upon] at h <;> exact h.elim

def kT (ops:Array Oper) (i j:Nat):Bool :=
 match ops[i]?,ops[j]? with
 | some oi,some oj => !(bR oi.op && bR oj.op) && oi.apart ops oj
 | _,_=>false

theorem JU (hns:Region.noSelect ops=true) {i j:Nat} {r:List Nat} {a:Act} {w:World} (hok:kT ops i j=true) (hS:S w) (h:qD P ops S Q (i :: j :: r) a w):qD P ops S Q (j :: i :: r) a w:=by
 unfold kT at hok;cases hi:ops[i]? with
 | none=>simp [hi] at hok
 | some oi =>
 cases hj:ops[j]? with
 | none=>simp [hj] at hok
 | some oj =>
 simp only [hi,hj,Bool.and_eq_true,Bool.not_eq_true',Bool.and_eq_false_iff] at hok;obtain ⟨hch,hap⟩:=hok;have hsi:=fun cs b=>Region.noSelect_spec hns i oi cs b hi;have hsj:=fun cs b=>Region.noSelect_spec hns j oj cs b hj;obtain ⟨h1,h2,h3⟩:=Oper.apart_spec hap;simp only [qD,hi,hj] at h ⊢;rcases h with ⟨v,hy,⟨u,hy2,hr⟩ | ⟨hc,hw,hr⟩⟩ | ⟨hc,hw,hr⟩
 ·refine .inl ⟨u,jP hsj h1 hy2,.inl ⟨v,sG hsi h3 hy,?_⟩⟩;rw [←Act.put_comm a v u h2];exact hr
 ·refine .inr ⟨hc,by rw [←hw];exact (wanted_put oj a oi.dst v h1).symm,?_⟩;refine Oper.wp_mono (fun a' w' hk=>?_) (rz hsi hsj hap hy hr);exact ⟨hk.2.1,.inl ⟨v,hk.1,hk.2.2⟩⟩
 ·have hcj:bR oj.op=false:=by
   rcases hch with e | e
   ·rw [hc] at e;cases e
   ·exact e
  have hr':oi.wp P a w (fun a' w'=>S w'∧∃ u,YieldsIf P ops S oj u a'∧qD P ops S Q r (a'.put oj.dst u) w') fI:=by
   refine Oper.wp_mono (fun a' w' hk=>⟨hk.1,?_⟩) hr;rcases hk.2 with hk | ⟨e,_⟩
   ·exact hk
   ·rw [hcj] at e;cases e
  obtain ⟨u,hy,hk⟩:=rC (K:=qD P ops S Q r) hsi hsj hap hS hr';refine .inl ⟨u,hy,.inr ⟨hc,?_,hk⟩⟩;rw [wanted_put oi a oj.dst u h3];exact hw

theorem xQ (hns:Region.noSelect ops=true) {j:Nat} {r:List Nat}:∀ (l:List Nat) {a:Act} {w:World},(∀ i ∈ l,kT ops i j=true)→S w→qD P ops S Q (l ++ j :: r) a w→qD P ops S Q (j :: (l ++ r)) a w
 | [],_,_,_,_,h=>h
 | i :: l,a,w,hok,hS,h=>by
  refine JU hns (hok i (by simp)) hS ?_;have ih:=fun {a:Act} {w:World} (hS:S w)=>xQ hns (r:=r) l (a:=a) (w:=w) (fun i hi=>hok i (by simp [hi])) hS;rw [List.cons_append] at h;unfold qD at h ⊢;cases ho:ops[i]? with
  | none=>simp only [ho] at h ⊢;exact ih hS h
  | some o =>
   simp only [ho] at h ⊢;rcases h with ⟨v,h1,h2⟩ | ⟨h1,h2,h3⟩
   ·exact .inl ⟨v,h1,ih hS h2⟩
   ·exact .inr ⟨h1,h2,Oper.wp_mono (fun a w h=>⟨h.1,ih h.1 h.2⟩) h3⟩

def kU (ops:Array Oper) (listed:Array Bool):List Nat:=(List.range ops.size).filter fun i => !listed.getD i true

def Closed (ops:Array Oper) (listed:Array Bool):Prop:=∀ j o,ops[j]?=some o→listed.getD j false=true→∀ e ∈ o.after,Region.binds .any e=true→listed.getD e.on false=true

def FU (ops:Array Oper) (B:Array Nat):Bool :=
 (List.range ops.size).all fun j=>(List.range j).all fun i => !(B.getD j 0).testBit i ||
  match ops[j]? with
  | some o=>o.after.any fun e=>Region.binds .any e && e.on < j && (e.on == i || (decide (i < e.on) && (B.getD e.on 0).testBit i))
  | none=>false
def nH (ops:Array Oper):Bool :=
 Region.noSelect ops && FU ops (Region.before ops) &&
 (List.range ops.size).all fun j=>(match ops[j]? with | some o=>o.after.all fun e => !Region.binds .any e || e.on < j | none=>false) &&
  (List.range j).all fun i=>((Region.before ops).getD j 0).testBit i || kT ops i j

theorem iZ {B:Array Nat} (hB:FU ops B=true) {listed:Array Bool} (hc:Closed ops listed):∀ (n j:Nat) (o:Oper),j < n→ops[j]?=some o→(∀ e ∈ o.after,Region.binds .any e=true→listed.getD e.on false=true) →
  ∀ i,i < j→(B.getD j 0).testBit i=true→listed.getD i false=true
 | 0,_,_,h,_,_,_,_,_=>by omega
 | n+1,j,o,hj,ho,ha,i,hi,hbit=>by
  have hjs:j < ops.size:=(Array.getElem?_eq_some_iff.1 ho).1;have h1:=hB;simp only [FU,List.all_eq_true,List.mem_range] at h1;have h2:=h1 j hjs i hi;simp only [ho,hbit,Bool.not_true,Bool.false_or] at h2;obtain ⟨e,he,hb⟩:=Array.any_eq_true'.1 h2;simp only [Bool.and_eq_true,decide_eq_true_eq,Bool.or_eq_true,beq_iff_eq] at hb;obtain ⟨⟨hb1,hb2⟩,hb3⟩:=hb;have hl:=ha e he hb1;rcases hb3 with rfl | ⟨hie,hb3⟩
  ·exact hl
  ·have hes:e.on < ops.size:=by omega
   have ho':ops[e.on]?=some ops[e.on]:=Array.getElem?_eq_getElem hes;exact iZ hB hc n e.on _ (by omega) ho' (fun e' he' hb'=>hc e.on _ ho' hl e' he' hb') i hie hb3

theorem range_split {n j:Nat} (h:j < n):List.range n=List.range j ++ j :: List.range' (j+1) (n - j - 1):=by
 have e:n=j+(1+(n - j - 1)):=by omega
 conv=>lhs;rw [e,List.range_eq_range',←List.range'_append_1,←List.range'_append_1]
 simp [List.range_eq_range']

theorem getD_lt {listed:Array Bool} {i:Nat} (h:i < listed.size) (d d':Bool):listed.getD i d=listed.getD i d':=by simp [h]

theorem kG {listed:Array Bool} {j:Nat} (hs:listed.size=ops.size) (hj:j < ops.size) (hu:listed.getD j true=false) :
  ∃ l1 l2,kU ops listed=l1 ++ j :: l2∧kU ops (listed.setIfInBounds j true)=l1 ++ l2∧(∀ i ∈ l1,i < j∧listed.getD i true=false):=by
 refine ⟨(List.range j).filter fun i => !listed.getD i true,(List.range' (j+1) (ops.size - j - 1)).filter fun i => !listed.getD i true,?_,?_,?_⟩
 ·unfold kU;rw [range_split hj,List.filter_append,List.filter_cons_of_pos (by simp [hu])]
 ·unfold kU;have hset:(listed.setIfInBounds j true).getD j true=true:=by simp
  rw [range_split hj,List.filter_append,List.filter_cons_of_neg (by rw [hset];simp)];congr 1
  ·refine List.filter_congr fun i hi=>?_;have:j≠i:=by have:=List.mem_range.1 hi;omega
   rw [getD_set_ne true this]
  ·refine List.filter_congr fun i hi=>?_;have:j≠i:=by have:=List.mem_range'_1.1 hi;omega
   rw [getD_set_ne true this]
 ·intro i hi;rw [List.mem_filter,List.mem_range] at hi;exact ⟨hi.1,by simpa using hi.2⟩

theorem vF (hB:nH ops=true):∀ (n:Nat) (listed:Array Bool) (a:Act) (w:World),(kU ops listed).length=n→listed.size=ops.size→Closed ops listed→S w→qD P ops S Q (kU ops listed) a w→wpAny P .any ops Q n listed a w:=by
 have hB':=hB;simp only [nH,Bool.and_eq_true,List.all_eq_true,List.mem_range] at hB';obtain ⟨⟨hns,hmask⟩,hall⟩:=hB';intro n
 induction n with
 | zero =>
  intro listed a w hn hs hc hS h;have hnil:kU ops listed=[]:=List.eq_nil_of_length_eq_zero hn;rw [hnil] at h;refine ⟨?_,h⟩;cases hr:Region.ready .any ops listed with
  | nil=>rfl
  | cons j r =>
   have hj:j ∈ Region.ready .any ops listed:=by rw [hr];simp
   obtain ⟨h0,o,ho,_⟩:=mem_ready.1 hj;have:j ∈ kU ops listed:=by
    unfold kU;rw [List.mem_filter,List.mem_range];exact ⟨(Array.getElem?_eq_some_iff.1 ho).1,by simp [h0]⟩
   rw [hnil] at this;cases this
 | succ n ih =>
  intro listed a w hn hs hc hS h;refine ⟨fun hr=>?_,fun j hj=>?_⟩
  ·-- the first that is not listed is ready
   cases hu:kU ops listed with
   | nil=>rw [hu] at hn;simp at hn
   | cons k r =>
    exfalso;have hk:k ∈ kU ops listed:=by rw [hu];simp
    unfold kU at hk;rw [List.mem_filter,List.mem_range] at hk;obtain ⟨hk1,hk2⟩:=hk;have hk2:listed.getD k true=false:=by simpa using hk2
    have ho:ops[k]?=some ops[k]:=Array.getElem?_eq_getElem hk1;have hd:=(hall k hk1).1;simp only [ho] at hd;have:k ∈ Region.ready .any ops listed:=by
     rw [mem_ready];refine ⟨hk2,_,ho,fun e he hb=>?_⟩;have h1:=Array.all_eq_true_iff_forall_mem.1 hd e he;simp only [hb,Bool.not_true,Bool.false_or,decide_eq_true_eq] at h1;cases hl:listed.getD e.on false with
     | true=>rfl
     | false =>
      exfalso;obtain ⟨l1,l2,hs1,_,hs3⟩:=kG (ops:=ops) (j:=e.on) hs (by omega) (by rw [getD_lt (by omega) true false];exact hl);rw [hu] at hs1;cases l1 with
      | nil=>simp at hs1;omega
      | cons x l1 =>
       simp at hs1;have:=(hs3 x (by simp)).1;omega
    rw [hr] at this;cases this
  ·obtain ⟨h0,o,ho,hall'⟩:=mem_ready.1 hj;have hjs:j < ops.size:=(Array.getElem?_eq_some_iff.1 ho).1;obtain ⟨l1,l2,hs1,hs2,hs3⟩:=kG (ops:=ops) hs hjs h0;have hfront:qD P ops S Q (j :: (l1 ++ l2)) a w:=by
    refine xQ hns l1 (fun i hi=>?_) hS (hs1 ▸ h);obtain ⟨hij,hiu⟩:=hs3 i hi;have:=(hall j hjs).2 i hij;rw [Bool.or_eq_true] at this;rcases this with hb | hb
    ·have hl:=iZ hmask hc (j+1) j o (by omega) ho hall' i hij hb;rw [getD_lt (by omega) false true,hiu] at hl;cases hl
    ·exact hb
   have hlen:(kU ops (listed.setIfInBounds j true)).length=n:=by
    rw [hs2];rw [hs1] at hn;simp at hn ⊢;omega
   have hs':(listed.setIfInBounds j true).size=ops.size:=by simpa using hs
   have hc':Closed ops (listed.setIfInBounds j true):=by
    intro m om hm hl e he hb;by_cases hmj:m=j
    ·subst hmj;rw [ho] at hm;cases hm;exact getD_set_true (hall' e he hb)
    ·rw [getD_set_ne false (Ne.symm hmj)] at hl;exact getD_set_true (hc m om hm hl e he hb)
   rw [←hs2] at hfront;unfold qD at hfront;simp only [ho] at hfront;rcases hfront with ⟨v,hy,hk⟩ | ⟨_,hw,hk⟩
   ·exact hy.wpOp ho hS (ih _ _ _ hlen hs' hc' hS hk)
   ·unfold wpOp;simp only [ho,hw,if_true];refine .inl ?_;have h2:=Oper.wp_mono (K':=wpAny P .any ops Q n (listed.setIfInBounds j true)) (fun a' w' hk=>ih _ a' w' hlen hs' hc' hk.1 hk.2) hk
    -- the empty exit serves every exit
    unfold Oper.wp at h2 ⊢;generalize (execOp a.eval o).run P w=r at *
    cases r with
    | ok nx w' =>
     cases nx <;> simp only [Oper.upon] at h2 ⊢ <;> first
      | exact h2
      | exact Calls.mono h2 (fun e w'' he=>by
        cases e with
        | returned v=>exact he
        | panicked c=>exact he.elim
        | outgrown=>obtain ⟨_,_,he⟩:=he;exact he.elim)
    | halt x w'=>cases x <;> simp only [Oper.upon] at h2 ⊢ <;> first | exact h2 | exact h2.elim

def nI (P:Program) (ops:Array Oper) (S:World→Prop) (Q:Exit→Act→World→Prop):List Oper→Act→World→Prop
 | [],a,w=>Q .normal a w
 | o :: r,a,w=>(∃ v,YieldsIf P ops S o v a∧nI P ops S Q r (a.put o.dst v) w) ∨
   (bR o.op=true∧Region.wanted o (yielded ops a.tmps)=true∧o.wp P a w (fun a' w'=>S w'∧nI P ops S Q r a' w') fI)

theorem uR:∀ (l:List Oper) (k:Nat) (a:Act) (w:World),(∀ j,l[j]?=ops[k+j]?)→nI P ops S Q l a w→qD P ops S Q (List.range' k l.length) a w
 | [],_,_,_,_,h=>h
 | o :: l,k,a,w,hl,h=>by
  have h0:ops[k]?=some o:=by simpa using (hl 0).symm
  have ih:=fun a w=>uR l (k+1) a w (fun j=>by have:=hl (j+1);simpa [Nat.add_assoc,Nat.add_comm 1 j] using this);simp only [List.length_cons,List.range'_succ];unfold qD;simp only [h0];rcases h with ⟨v,h1,h2⟩ | ⟨h1,h2,h3⟩
  ·exact .inl ⟨v,h1,ih _ _ h2⟩
  ·exact .inr ⟨h1,h2,Oper.wp_mono (fun a' w' hk=>⟨hk.1,ih _ _ hk.2⟩) h3⟩

theorem aI {id:Nat} {l:List Oper} {a:Act} {w:World} (S:World→Prop) (hm:P.follows .mixedOrders=true) (hB:nH l.toArray=true) (hS:S w.drew)
  (h:nI P l.toArray S Q l a w.drew):(Code.region id l.toArray true).wp P Q a w:=by
 refine wp_region_any hm ?_;have hu:kU l.toArray (Array.replicate l.toArray.size false)=List.range l.toArray.size:=by
  unfold kU;refine List.filter_eq_self.2 fun i hi=>?_;have:=List.mem_range.1 hi;simp at this;simp [this]
 refine vF (S:=S) hB _ _ _ _ (by rw [hu];simp) (by simp) ?_ hS ?_
 ·intro j o ho hl;have:j < l.length:=by have:=(Array.getElem?_eq_some_iff.1 ho).1;simpa using this
  simp [this] at hl
 ·rw [hu];have:=uR (P:=P) (ops:=l.toArray) (S:=S) (Q:=Q) l 0 a w.drew (by simp) h;simpa [List.range_eq_range'] using this

section
variable {o:Oper} {r:List Oper} {a:Act} {w:World}
theorem lex_nil (h:Q .normal a w):nI P ops S Q [] a w:=h

theorem aK (hw:Region.wanted o (yielded ops a.tmps)=false) (h:nI P ops S Q r (a.put o.dst undef) w):nI P ops S Q (o :: r) a w:=.inl ⟨undef,.inr ⟨hw,rfl⟩,h⟩

theorem aL {v:Value} (hw:Region.wanted o (yielded ops a.tmps)=true) (hv:∀ w',S w'→(execOp a.eval o).run P w'=.ok (.value v) w') (h:nI P ops S Q r (a.put o.dst v) w):nI P ops S Q (o :: r) a w:=.inl ⟨v,.inl ⟨hw,hv⟩,h⟩

theorem dR (hc:bR o.op=true) (hw:Region.wanted o (yielded ops a.tmps)=true) (h:∀ K:Act→World→Prop,Hid (∀ a' w',S w'→nI P ops S Q r a' w'→K a' w')→o.wp P a w K fI):nI P ops S Q (o :: r) a w :=
 .inr ⟨hc,hw,h _ fun _ _ h1 h2=>⟨h1,h2⟩⟩
end
end
end Go.CH
namespace Go.CH
open Go.RowKit
section
variable {P:Program} {ops:Array Oper} {Ts:List Nat} {St:Nat→World→Prop} {Q:Exit→Act→World→Prop}

def lvl (ops:Array Oper) (Ts:List Nat) (i:Nat):Nat:=(Ts.filter fun T=>decide (T < i) || !((Region.before ops).getD T 0).testBit i).length

def BU (Ts:List Nat) (i:Nat):Nat:=(Ts.filter fun T=>decide (T≤i)).length

def nL (P:Program) (ops:Array Oper) (Ts:List Nat) (St:Nat→World→Prop) (Q:Exit→Act→World→Prop):List Nat→Act→World→Prop
 | [],a,w=>Q .normal a w
 | i :: r,a,w=>match ops[i]? with
  | none=>nL P ops Ts St Q r a w
  | some o=>(bR o.op=false∧∃ v,YieldsIf P ops (St (lvl ops Ts i)) o v a∧nL P ops Ts St Q r (a.put o.dst v) w) ∨
   (bR o.op=true∧Region.wanted o (yielded ops a.tmps)=true∧o.wp P a w (fun a' w'=>St (BU Ts i) w'∧nL P ops Ts St Q r a' w') fI)
def bK (ops:Array Oper) (i:Nat):Bool:=match ops[i]? with | some o=>bR o.op | none=>false

def FK (ops:Array Oper) (Ts:List Nat):Bool :=
 (List.range ops.size).all fun j=>(List.range j).all fun i =>
  (!bK ops i || (if bK ops j then decide (BU Ts i≤BU Ts j) else decide (BU Ts i≤lvl ops Ts j))) &&
  (bK ops i || !bK ops j || ((Region.before ops).getD j 0).testBit i || decide (BU Ts j≤lvl ops Ts i))
theorem Ic {St:Nat→World→Prop} (hst:∀ c w,St c w→St (c+1) w) {a b:Nat} (h:a≤b) {w:World} (hw:St a w):St b w:=by
 induction h with
 | refl=>exact hw
 | step _ ih=>exact hst _ _ ih
theorem JM (hns:Region.noSelect ops=true) {i j:Nat} {r:List Nat} {a:Act} {w:World} (hok:kT ops i j=true) (hS:bK ops j=false→St (lvl ops Ts j) w)
  (hw:∀ w,bK ops i=true→bK ops j=false→St (BU Ts i) w→St (lvl ops Ts j) w) (h:nL P ops Ts St Q (i :: j :: r) a w):nL P ops Ts St Q (j :: i :: r) a w:=by
 unfold kT at hok;cases hi:ops[i]? with
 | none=>simp [hi] at hok
 | some oi =>
 cases hj:ops[j]? with
 | none=>simp [hj] at hok
 | some oj =>
 have ei:bK ops i=bR oi.op:=by simp [bK,hi]
 have ej:bK ops j=bR oj.op:=by simp [bK,hj]
 simp only [hi,hj,Bool.and_eq_true,Bool.not_eq_true',Bool.and_eq_false_iff] at hok;obtain ⟨hch,hap⟩:=hok;have hsi:=fun cs b=>Region.noSelect_spec hns i oi cs b hi;have hsj:=fun cs b=>Region.noSelect_spec hns j oj cs b hj;obtain ⟨h1,h2,h3⟩:=Oper.apart_spec hap;simp only [nL,hi,hj] at h ⊢;rcases h with ⟨hci,v,hy,⟨hcj,u,hy2,hr⟩ | ⟨hcj,hwt,hr⟩⟩ | ⟨hci,hwt,hr⟩
 ·exact .inl ⟨hcj,u,jP hsj h1 hy2,.inl ⟨hci,v,sG hsi h3 hy,by rw [←Act.put_comm a v u h2];exact hr⟩⟩
 ·refine .inr ⟨hcj,by rw [←hwt];exact (wanted_put oj a oi.dst v h1).symm,?_⟩;refine Oper.wp_mono (fun a' w' hk=>?_) (rz (S:=St (lvl ops Ts i)) hsi hsj hap hy hr);exact ⟨hk.2.1,.inl ⟨hci,v,hk.1,hk.2.2⟩⟩
 ·have hcj:bR oj.op=false:=by
   rcases hch with e | e
   ·rw [hci] at e;cases e
   ·exact e
  have hSj:=hS (by rw [ej];exact hcj);have hr':oi.wp P a w (fun a' w'=>St (lvl ops Ts j) w'∧∃ u,YieldsIf P ops (St (lvl ops Ts j)) oj u a'∧(St (BU Ts i) w'∧nL P ops Ts St Q r (a'.put oj.dst u) w')) fI:=by
   refine Oper.wp_mono (fun a' w' hk=>⟨hw w' (by rw [ei];exact hci) (by rw [ej];exact hcj) hk.1,?_⟩) hr;rcases hk.2 with ⟨_,u,hu1,hu2⟩ | ⟨e,_⟩
   ·exact ⟨u,hu1,hk.1,hu2⟩
   ·rw [hcj] at e;cases e
  obtain ⟨u,hy,hk⟩:=rC (K:=fun a' w'=>St (BU Ts i) w'∧nL P ops Ts St Q r a' w') hsi hsj hap hSj hr';refine .inl ⟨hcj,u,hy,.inr ⟨hci,?_,Oper.wp_mono (fun a' w' hk=>hk.2) hk⟩⟩;rw [wanted_put oi a oj.dst u h3];exact hwt
theorem xP (hns:Region.noSelect ops=true) {j:Nat} {r:List Nat}:∀ (l:List Nat) {a:Act} {w:World},(∀ i ∈ l,kT ops i j=true)→(bK ops j=false→St (lvl ops Ts j) w) →
  (∀ i ∈ l,∀ w,bK ops i=true→bK ops j=false→St (BU Ts i) w→St (lvl ops Ts j) w)→nL P ops Ts St Q (l ++ j :: r) a w→nL P ops Ts St Q (j :: (l ++ r)) a w
 | [],_,_,_,_,_,h=>h
 | i :: l,a,w,hok,hS,hst,h=>by
  refine JM hns (hok i (by simp)) hS (hst i (by simp)) ?_;have ih:=fun {a:Act} {w:World} (hS:bK ops j=false→St (lvl ops Ts j) w)=>xP hns (r:=r) l (a:=a) (w:=w) (fun i hi=>hok i (by simp [hi])) hS (fun i hi=>hst i (by simp [hi]));rw [List.cons_append] at h;unfold nL at h ⊢;cases ho:ops[i]? with
  | none=>simp only [ho] at h ⊢;exact ih hS h
  | some o =>
   have ei:bK ops i=bR o.op:=by simp [bK,ho]
   simp only [ho] at h ⊢;rcases h with ⟨h0,v,h1,h2⟩ | ⟨h1,h2,h3⟩
   ·exact .inl ⟨h0,v,h1,ih hS h2⟩
   ·exact .inr ⟨h1,h2,Oper.wp_mono (fun a w h=>⟨h.1,ih (fun hj=>hst i (by simp) _ (by rw [ei];exact h1) hj h.1) h.2⟩) h3⟩

def Sn (ops:Array Oper) (Ts:List Nat) (St:Nat→World→Prop) (listed:Array Bool) (w:World):Prop :=
 ∃ c,St c w∧∀ i,i < ops.size→listed.getD i true=false→if bK ops i then c≤BU Ts i else c≤lvl ops Ts i
theorem oD (hst:∀ c w,St c w→St (c+1) w) (hB:nH ops=true) (hL:FK ops Ts=true):∀ (n:Nat) (listed:Array Bool) (a:Act) (w:World),(kU ops listed).length=n→listed.size=ops.size→Closed ops listed→Sn ops Ts St listed w→nL P ops Ts St Q (kU ops listed) a w→wpAny P .any ops Q n listed a w:=by
 have hB':=hB;simp only [nH,Bool.and_eq_true,List.all_eq_true,List.mem_range] at hB';obtain ⟨⟨hns,hmask⟩,hall⟩:=hB';intro n
 induction n with
 | zero =>
  intro listed a w hn hs hc hS h;have hnil:kU ops listed=[]:=List.eq_nil_of_length_eq_zero hn;rw [hnil] at h;refine ⟨?_,h⟩;cases hr:Region.ready .any ops listed with
  | nil=>rfl
  | cons j r =>
   have hj:j ∈ Region.ready .any ops listed:=by rw [hr];simp
   obtain ⟨h0,o,ho,_⟩:=mem_ready.1 hj;have:j ∈ kU ops listed:=by
    unfold kU;rw [List.mem_filter,List.mem_range];exact ⟨(Array.getElem?_eq_some_iff.1 ho).1,by simp [h0]⟩
   rw [hnil] at this;cases this
 | succ n ih =>
  intro listed a w hn hs hc hS h;refine ⟨fun hr=>?_,fun j hj=>?_⟩
  ·-- the first that is not listed is ready
   cases hu:kU ops listed with
   | nil=>rw [hu] at hn;simp at hn
   | cons k r =>
    exfalso;have hk:k ∈ kU ops listed:=by rw [hu];simp
    unfold kU at hk;rw [List.mem_filter,List.mem_range] at hk;obtain ⟨hk1,hk2⟩:=hk;have hk2:listed.getD k true=false:=by simpa using hk2
    have ho:ops[k]?=some ops[k]:=Array.getElem?_eq_getElem hk1;have hd:=(hall k hk1).1;simp only [ho] at hd;have:k ∈ Region.ready .any ops listed:=by
     rw [mem_ready];refine ⟨hk2,_,ho,fun e he hb=>?_⟩;have h1:=Array.all_eq_true_iff_forall_mem.1 hd e he;simp only [hb,Bool.not_true,Bool.false_or,decide_eq_true_eq] at h1;cases hl:listed.getD e.on false with
     | true=>rfl
     | false =>
      exfalso;obtain ⟨l1,l2,hs1,_,hs3⟩:=kG (ops:=ops) (j:=e.on) hs (by omega) (by rw [getD_lt (by omega) true false];exact hl);rw [hu] at hs1;cases l1 with
      | nil=>simp at hs1;omega
      | cons x l1 =>
       simp at hs1;have:=(hs3 x (by simp)).1;omega
    rw [hr] at this;cases this
  ·obtain ⟨h0,o,ho,hall'⟩:=mem_ready.1 hj;have hjs:j < ops.size:=(Array.getElem?_eq_some_iff.1 ho).1;obtain ⟨l1,l2,hs1,hs2,hs3⟩:=kG (ops:=ops) hs hjs h0;obtain ⟨c,hc1,hc2⟩:=hS;have ej:bK ops j=bR o.op:=by simp [bK,ho]
   have hl1:∀ i k,i < k→k < ops.size→bK ops i=true→bK ops k=false→BU Ts i≤lvl ops Ts k:=fun i k hik hk e1 e2=>by
    have:=hL;simp only [FK,List.all_eq_true,List.mem_range] at this;have:=this k hk i hik;simp [e1,e2] at this;exact this
   have hl2:∀ i k,i < k→k < ops.size→bK ops i=true→bK ops k=true→BU Ts i≤BU Ts k:=fun i k hik hk e1 e2=>by
    have:=hL;simp only [FK,List.all_eq_true,List.mem_range] at this;have:=this k hk i hik;simp [e1,e2] at this;exact this
   have hl3:∀ i k,i < k→k < ops.size→bK ops i=false→bK ops k=true→((Region.before ops).getD k 0).testBit i=false→BU Ts k≤lvl ops Ts i:=fun i k hik hk e1 e2 e3=>by
    have:=hL;simp only [FK,List.all_eq_true,List.mem_range] at this;have:=this k hk i hik;have e4:=e3;simp at e4;simp [e1,e2,e4] at this;exact this
   have hSj:bK ops j=false→St (lvl ops Ts j) w:=fun e=>by
    have:=hc2 j hjs h0;rw [e] at this;exact Ic hst (by simpa using this) hc1
   have hfront:nL P ops Ts St Q (j :: (l1 ++ l2)) a w:=by
    refine xP hns l1 (fun i hi=>?_) hSj (fun i hi w hci hcj hw=>?_) (hs1 ▸ h)
    ·obtain ⟨hij,hiu⟩:=hs3 i hi;have:=(hall j hjs).2 i hij;rw [Bool.or_eq_true] at this;rcases this with hb | hb
     ·have hl:=iZ hmask hc (j+1) j o (by omega) ho hall' i hij hb;rw [getD_lt (by omega) false true,hiu] at hl;cases hl
     ·exact hb
    ·obtain ⟨hij,_⟩:=hs3 i hi;exact Ic hst (hl1 i j hij hjs hci hcj) hw
   have hlen:(kU ops (listed.setIfInBounds j true)).length=n:=by
    rw [hs2];rw [hs1] at hn;simp at hn ⊢;omega
   have hs':(listed.setIfInBounds j true).size=ops.size:=by simpa using hs
   have hc':Closed ops (listed.setIfInBounds j true):=by
    intro m om hm hl e he hb;by_cases hmj:m=j
    ·subst hmj;rw [ho] at hm;cases hm;exact getD_set_true (hall' e he hb)
    ·rw [getD_set_ne false (Ne.symm hmj)] at hl;exact getD_set_true (hc m om hm hl e he hb)
   have hsub:∀ i,(listed.setIfInBounds j true).getD i true=false→i≠j∧listed.getD i true=false:=fun i hi=>by
    by_cases e:j=i
    ·subst e;simp at hi
    ·rw [getD_set_ne true e] at hi;exact ⟨fun e'=>e e'.symm,hi⟩
   have hnext:bR o.op=true→∀ w',St (BU Ts j) w'→Sn ops Ts St (listed.setIfInBounds j true) w':=fun hck w' hw'=>by
    refine ⟨_,hw',fun i hi hiu=>?_⟩;obtain ⟨hne,hiu⟩:=hsub i hiu;have hun:i < j→((Region.before ops).getD j 0).testBit i=false:=fun hij=>by
     cases hb:((Region.before ops).getD j 0).testBit i with
     | false=>rfl
     | true =>
      have hl:=iZ hmask hc (j+1) j o (by omega) ho hall' i hij hb;rw [getD_lt (by omega) false true,hiu] at hl;cases hl
    have hcj:bK ops j=true:=by rw [ej];exact hck
    rcases Nat.lt_or_ge i j with hij | hij
    ·cases hci:bK ops i with
     | true =>
      have:=(hall j hjs).2 i hij;rw [hun hij,Bool.false_or] at this;exfalso;unfold kT at this;have ho':ops[i]?=some ops[i]:=Array.getElem?_eq_getElem hi;simp only [bK,ho'] at hci;simp [ho',ho,hci,hck] at this
     | false=>simpa using hl3 i j hij hjs hci hcj (hun hij)
    ·cases hci:bK ops i with
     | true=>simpa using hl2 j i (by omega) hi hcj hci
     | false=>simpa using hl1 j i (by omega) hi hcj hci
   have hstay:Sn ops Ts St (listed.setIfInBounds j true) w:=⟨c,hc1,fun i hi hiu=>hc2 i hi (hsub i hiu).2⟩;rw [←hs2] at hfront;unfold nL at hfront;simp only [ho] at hfront;rcases hfront with ⟨hcf,v,hy,hk⟩ | ⟨hck,hw,hk⟩
   ·exact hy.wpOp ho (hSj (by rw [ej];exact hcf)) (ih _ _ _ hlen hs' hc' hstay hk)
   ·unfold wpOp;simp only [ho,hw,if_true];refine .inl ?_;have h2:=Oper.wp_mono (K':=wpAny P .any ops Q n (listed.setIfInBounds j true)) (fun a' w' hk=>ih _ a' w' hlen hs' hc' (hnext hck w' hk.1) hk.2) hk
    -- the empty exit serves every exit
    unfold Oper.wp at h2 ⊢;generalize (execOp a.eval o).run P w=r at *
    cases r with
    | ok nx w' =>
     cases nx <;> simp only [Oper.upon] at h2 ⊢ <;> first
      | exact h2
      | exact Calls.mono h2 (fun e w'' he=>by
        cases e with
        | returned v=>exact he
        | panicked c=>exact he.elim
        | outgrown=>obtain ⟨_,_,he⟩:=he;exact he.elim)
    | halt x w'=>cases x <;> simp only [Oper.upon] at h2 ⊢ <;> first | exact h2 | exact h2.elim

def JN (S0 S1 S2 S3:World→Prop):Nat→World→Prop
 | 0=>S0
 | 1=>S1
 | 2=>S2
 | _=>S3
variable {S0 S1 S2 S3:World→Prop}
theorem JO (h0:∀ w,S0 w→S1 w) (h1:∀ w,S1 w→S2 w) (h2:∀ w,S2 w→S3 w):∀ c w,JN S0 S1 S2 S3 c w→JN S0 S1 S2 S3 (c+1) w
 | 0,w,h=>h0 w h
 | 1,w,h=>h1 w h
 | 2,w,h=>h2 w h
 | _+3,w,h=>h

def Sq (ops:Array Oper) (Ts:List Nat) (i:Nat):Nat:=if bK ops i then BU Ts i else lvl ops Ts i

def JQ (ops:Array Oper) (Ts:List Nat):List Nat:=(List.range ops.size).map (Sq ops Ts)

def gW (P:Program) (ops:Array Oper) (S0 S1 S2 S3:World→Prop) (Q:Exit→Act→World→Prop):List Nat→List Oper→Act→World→Prop
 | _,[],a,w=>Q .normal a w
 | [],_ :: _,_,_=>False
 | n :: lv,o :: r,a,w=>(bR o.op=false∧∃ v,YieldsIf P ops (JN S0 S1 S2 S3 n) o v a∧gW P ops S0 S1 S2 S3 Q lv r (a.put o.dst v) w) ∨
   (bR o.op=true∧Region.wanted o (yielded ops a.tmps)=true∧o.wp P a w (fun a' w'=>JN S0 S1 S2 S3 n w'∧gW P ops S0 S1 S2 S3 Q lv r a' w') fI)
theorem zV:∀ (l:List Oper) (lv:List Nat) (k:Nat) (a:Act) (w:World),(∀ j,l[j]?=ops[k+j]?)→(∀ j,j < l.length→lv[j]?=some (Sq ops Ts (k+j)))→gW P ops S0 S1 S2 S3 Q lv l a w→nL P ops Ts (JN S0 S1 S2 S3) Q (List.range' k l.length) a w
 | [],lv,_,_,_,_,_,h=>by cases lv <;> exact h
 | o :: l,[],k,a,w,hl,hv,h=>h.elim
 | o :: l,n :: lv,k,a,w,hl,hv,h=>by
  have h0:ops[k]?=some o:=by simpa using (hl 0).symm
  have hn:n=Sq ops Ts k:=by have:=hv 0 (by simp);simpa using this
  have ei:bK ops k=bR o.op:=by simp [bK,h0]
  have ih:=fun a w=>zV l lv (k+1) a w (fun j=>by have:=hl (j+1);simpa [Nat.add_assoc,Nat.add_comm 1 j] using this)
   (fun j hj=>by have:=hv (j+1) (by simpa using hj);simpa [Nat.add_assoc,Nat.add_comm 1 j] using this)
  simp only [List.length_cons,List.range'_succ];unfold nL;simp only [h0];unfold Sq at hn;rcases h with ⟨h0,v,h1,h2⟩ | ⟨h1,h2,h3⟩
  ·rw [ei,h0] at hn;have hn:n=lvl ops Ts k:=by simpa using hn
   subst hn;exact .inl ⟨h0,v,h1,ih _ _ h2⟩
  ·rw [ei,h1] at hn;have hn:n=BU Ts k:=by simpa using hn
   subst hn;exact .inr ⟨h1,h2,Oper.wp_mono (fun a' w' hk=>⟨hk.1,ih _ _ hk.2⟩) h3⟩
theorem iK {id:Nat} {l:List Oper} {a:Act} {w:World} (Ts lv:List Nat) (S0 S1 S2 S3:World→Prop) (h0:∀ w,S0 w→S1 w) (h1:∀ w,S1 w→S2 w) (h2:∀ w,S2 w→S3 w) (hm:P.follows .mixedOrders=true) (hB:nH l.toArray=true) (hL:FK l.toArray Ts=true) (hlv:JQ l.toArray Ts=lv) (hS:S0 w.drew)
  (h:gW P l.toArray S0 S1 S2 S3 Q lv l a w.drew):(Code.region id l.toArray true).wp P Q a w:=by
 refine wp_region_any hm ?_;have hu:kU l.toArray (Array.replicate l.toArray.size false)=List.range l.toArray.size:=by
  unfold kU;refine List.filter_eq_self.2 fun i hi=>?_;have:=List.mem_range.1 hi;simp at this;simp [this]
 refine oD (Ts:=Ts) (St:=JN S0 S1 S2 S3) (JO h0 h1 h2) hB hL _ _ _ _ (by rw [hu];simp) (by simp) ?_ ⟨0,hS,fun i _ _=>by split <;> omega⟩ ?_
 ·intro j o ho hl;have:j < l.length:=by have:=(Array.getElem?_eq_some_iff.1 ho).1;simpa using this
  simp [this] at hl
 ·rw [hu]
  have:=zV (P:=P) (ops:=l.toArray) (Ts:=Ts) (S0:=S0) (S1:=S1) (S2:=S2) (S3:=S3) (Q:=Q) l lv 0 a w.drew (by simp) (fun j hj=>by
   rw [←hlv];unfold JQ;rw [List.getElem?_map,List.getElem?_range (by simpa using hj)];simp) h
  simpa [List.range_eq_range'] using this
section
variable {o:Oper} {r:List Oper} {n:Nat} {lv:List Nat} {a:Act} {w:World}
theorem sF (h:Q .normal a w):gW P ops S0 S1 S2 S3 Q lv [] a w:=by cases lv <;> exact h
theorem fZ (hc:bR o.op=false) (hw:Region.wanted o (yielded ops a.tmps)=false) (h:gW P ops S0 S1 S2 S3 Q lv r (a.put o.dst undef) w):gW P ops S0 S1 S2 S3 Q (n :: lv) (o :: r) a w:=.inl ⟨hc,undef,.inr ⟨hw,rfl⟩,h⟩
theorem eO {v:Value} (hc:bR o.op=false) (hw:Region.wanted o (yielded ops a.tmps)=true) (hv:∀ w',S0 w'→(execOp a.eval o).run P w'=.ok (.value v) w') (h:gW P ops S0 S1 S2 S3 Q lv r (a.put o.dst v) w):gW P ops S0 S1 S2 S3 Q (0 :: lv) (o :: r) a w :=
 .inl ⟨hc,v,.inl ⟨hw,hv⟩,h⟩
theorem eP {v:Value} (hc:bR o.op=false) (hw:Region.wanted o (yielded ops a.tmps)=true) (hv:∀ w',S1 w'→(execOp a.eval o).run P w'=.ok (.value v) w') (h:gW P ops S0 S1 S2 S3 Q lv r (a.put o.dst v) w):gW P ops S0 S1 S2 S3 Q (1 :: lv) (o :: r) a w :=
 .inl ⟨hc,v,.inl ⟨hw,hv⟩,h⟩
theorem eT {v:Value} (hc:bR o.op=false) (hw:Region.wanted o (yielded ops a.tmps)=true) (hv:∀ w',S2 w'→(execOp a.eval o).run P w'=.ok (.value v) w') (h:gW P ops S0 S1 S2 S3 Q lv r (a.put o.dst v) w):gW P ops S0 S1 S2 S3 Q (2 :: lv) (o :: r) a w :=
 .inl ⟨hc,v,.inl ⟨hw,hv⟩,h⟩
theorem eU {v:Value} (hc:bR o.op=false) (hw:Region.wanted o (yielded ops a.tmps)=true) (hv:∀ w',S3 w'→(execOp a.eval o).run P w'=.ok (.value v) w') (h:gW P ops S0 S1 S2 S3 Q lv r (a.put o.dst v) w):gW P ops S0 S1 S2 S3 Q (3 :: lv) (o :: r) a w :=
 .inl ⟨hc,v,.inl ⟨hw,hv⟩,h⟩
theorem kR (hc:bR o.op=true) (hw:Region.wanted o (yielded ops a.tmps)=true) (h:∀ K:Act→World→Prop,Hid (∀ a' w',S1 w'→gW P ops S0 S1 S2 S3 Q lv r a' w'→K a' w')→o.wp P a w K fI):gW P ops S0 S1 S2 S3 Q (1 :: lv) (o :: r) a w :=
 .inr ⟨hc,hw,h _ fun _ _ h1 h2=>⟨h1,h2⟩⟩
theorem kS (hc:bR o.op=true) (hw:Region.wanted o (yielded ops a.tmps)=true) (h:∀ K:Act→World→Prop,Hid (∀ a' w',S2 w'→gW P ops S0 S1 S2 S3 Q lv r a' w'→K a' w')→o.wp P a w K fI):gW P ops S0 S1 S2 S3 Q (2 :: lv) (o :: r) a w :=
 .inr ⟨hc,hw,h _ fun _ _ h1 h2=>⟨h1,h2⟩⟩
theorem ru (hc:bR o.op=true) (hw:Region.wanted o (yielded ops a.tmps)=true) (h:∀ K:Act→World→Prop,Hid (∀ a' w',S3 w'→gW P ops S0 S1 S2 S3 Q lv r a' w'→K a' w')→o.wp P a w K fI):gW P ops S0 S1 S2 S3 Q (3 :: lv) (o :: r) a w :=
 .inr ⟨hc,hw,h _ fun _ _ h1 h2=>⟨h1,h2⟩⟩
theorem eX {v:Value} (hc:bR o.op=false) (hw:Region.wanted o (yielded ops a.tmps)=true) (hv:∀ w',S3 w'→(execOp a.eval o).run P w'=.ok (.value v) w') (h:gW P ops S0 S1 S2 S3 Q lv r (a.put o.dst v) w):gW P ops S0 S1 S2 S3 Q (4 :: lv) (o :: r) a w :=
 .inl ⟨hc,v,.inl ⟨hw,hv⟩,h⟩
end
end
end Go.CH
namespace Go.CH
open Go.RowKit
section
variable {P:Program} {ops:Array Oper} {S:World→Prop} {Q:Exit→Act→World→Prop}

def qE (P:Program) (ops:Array Oper) (S:World→Prop) (Q:Exit→Act→World→Prop):List Nat→Act→World→Prop
 | [],a,w=>Q .normal a w
 | i :: r,a,w=>match ops[i]? with
  | none=>qE P ops S Q r a w
  | some o=>(∃ v,YieldsIf P ops S o v a∧qE P ops S Q r (a.put o.dst v) w) ∨
   (bR o.op=true∧Region.wanted o (yielded ops a.tmps)=true∧o.wp P a w (fun a' w'=>(i+1 < ops.size→S w')∧qE P ops S Q r a' w') fI)

theorem JV (hns:Region.noSelect ops=true) {i j:Nat} {r:List Nat} {a:Act} {w:World} (hil:i+1 < ops.size) (hok:kT ops i j=true) (hS:S w) (h:qE P ops S Q (i :: j :: r) a w):qE P ops S Q (j :: i :: r) a w:=by
 unfold kT at hok;cases hi:ops[i]? with
 | none=>simp [hi] at hok
 | some oi =>
 cases hj:ops[j]? with
 | none=>simp [hj] at hok
 | some oj =>
 simp only [hi,hj,Bool.and_eq_true,Bool.not_eq_true',Bool.and_eq_false_iff] at hok;obtain ⟨hch,hap⟩:=hok;have hsi:=fun cs b=>Region.noSelect_spec hns i oi cs b hi;have hsj:=fun cs b=>Region.noSelect_spec hns j oj cs b hj;obtain ⟨h1,h2,h3⟩:=Oper.apart_spec hap;simp only [qE,hi,hj] at h ⊢;rcases h with ⟨v,hy,⟨u,hy2,hr⟩ | ⟨hc,hw,hr⟩⟩ | ⟨hc,hw,hr⟩
 ·refine .inl ⟨u,jP hsj h1 hy2,.inl ⟨v,sG hsi h3 hy,?_⟩⟩;rw [←Act.put_comm a v u h2];exact hr
 ·refine .inr ⟨hc,by rw [←hw];exact (wanted_put oj a oi.dst v h1).symm,?_⟩;refine Oper.wp_mono (fun a' w' hk=>?_) (rz hsi hsj hap hy hr);exact ⟨hk.2.1,.inl ⟨v,hk.1,hk.2.2⟩⟩
 ·have hcj:bR oj.op=false:=by
   rcases hch with e | e
   ·rw [hc] at e;cases e
   ·exact e
  have hr':oi.wp P a w (fun a' w'=>S w'∧∃ u,YieldsIf P ops S oj u a'∧qE P ops S Q r (a'.put oj.dst u) w') fI:=by
   refine Oper.wp_mono (fun a' w' hk=>⟨hk.1 hil,?_⟩) hr;rcases hk.2 with hk | ⟨e,_⟩
   ·exact hk
   ·rw [hcj] at e;cases e
  obtain ⟨u,hy,hk⟩:=rC (K:=qE P ops S Q r) hsi hsj hap hS hr';refine .inl ⟨u,hy,.inr ⟨hc,?_,Oper.wp_mono (fun a' w' hk=>⟨fun _=>hk.1,hk.2⟩) hk⟩⟩;rw [wanted_put oi a oj.dst u h3];exact hw

theorem xR (hns:Region.noSelect ops=true) {j:Nat} {r:List Nat}:∀ (l:List Nat) {a:Act} {w:World},(∀ i ∈ l,i+1 < ops.size∧kT ops i j=true)→S w→qE P ops S Q (l ++ j :: r) a w→qE P ops S Q (j :: (l ++ r)) a w
 | [],_,_,_,_,h=>h
 | i :: l,a,w,hok,hS,h=>by
  refine JV hns (hok i (by simp)).1 (hok i (by simp)).2 hS ?_;have ih:=fun {a:Act} {w:World} (hS:S w)=>xR hns (r:=r) l (a:=a) (w:=w) (fun i hi=>hok i (by simp [hi])) hS;rw [List.cons_append] at h;unfold qE at h ⊢;cases ho:ops[i]? with
  | none=>simp only [ho] at h ⊢;exact ih hS h
  | some o =>
   simp only [ho] at h ⊢;rcases h with ⟨v,h1,h2⟩ | ⟨h1,h2,h3⟩
   ·exact .inl ⟨v,h1,ih hS h2⟩
   ·exact .inr ⟨h1,h2,Oper.wp_mono (fun a w h=>⟨h.1,ih (h.1 (hok i (by simp)).1) h.2⟩) h3⟩

def FV (ops:Array Oper):Bool:=(List.range (ops.size - 1)).all fun i=>((Region.before ops).getD (ops.size - 1) 0).testBit i
theorem Di (hB:nH ops=true) (hlast:FV ops=true):∀ (n:Nat) (listed:Array Bool) (a:Act) (w:World),(kU ops listed).length=n→listed.size=ops.size→Closed ops listed→(kU ops listed≠[]→S w)→qE P ops S Q (kU ops listed) a w→wpAny P .any ops Q n listed a w:=by
 have hB':=hB;simp only [nH,Bool.and_eq_true,List.all_eq_true,List.mem_range] at hB';obtain ⟨⟨hns,hmask⟩,hall⟩:=hB';intro n
 induction n with
 | zero =>
  intro listed a w hn hs hc hS h;have hnil:kU ops listed=[]:=List.eq_nil_of_length_eq_zero hn;rw [hnil] at h;refine ⟨?_,h⟩;cases hr:Region.ready .any ops listed with
  | nil=>rfl
  | cons j r =>
   have hj:j ∈ Region.ready .any ops listed:=by rw [hr];simp
   obtain ⟨h0,o,ho,_⟩:=mem_ready.1 hj;have:j ∈ kU ops listed:=by
    unfold kU;rw [List.mem_filter,List.mem_range];exact ⟨(Array.getElem?_eq_some_iff.1 ho).1,by simp [h0]⟩
   rw [hnil] at this;cases this
 | succ n ih =>
  intro listed a w hn hs hc hS h;refine ⟨fun hr=>?_,fun j hj=>?_⟩
  ·-- the first that is not listed is ready
   cases hu:kU ops listed with
   | nil=>rw [hu] at hn;simp at hn
   | cons k r =>
    exfalso;have hk:k ∈ kU ops listed:=by rw [hu];simp
    unfold kU at hk;rw [List.mem_filter,List.mem_range] at hk;obtain ⟨hk1,hk2⟩:=hk;have hk2:listed.getD k true=false:=by simpa using hk2
    have ho:ops[k]?=some ops[k]:=Array.getElem?_eq_getElem hk1;have hd:=(hall k hk1).1;simp only [ho] at hd;have:k ∈ Region.ready .any ops listed:=by
     rw [mem_ready];refine ⟨hk2,_,ho,fun e he hb=>?_⟩;have h1:=Array.all_eq_true_iff_forall_mem.1 hd e he;simp only [hb,Bool.not_true,Bool.false_or,decide_eq_true_eq] at h1;cases hl:listed.getD e.on false with
     | true=>rfl
     | false =>
      exfalso;obtain ⟨l1,l2,hs1,_,hs3⟩:=kG (ops:=ops) (j:=e.on) hs (by omega) (by rw [getD_lt (by omega) true false];exact hl);rw [hu] at hs1;cases l1 with
      | nil=>simp at hs1;omega
      | cons x l1 =>
       simp at hs1;have:=(hs3 x (by simp)).1;omega
    rw [hr] at this;cases this
  ·obtain ⟨h0,o,ho,hall'⟩:=mem_ready.1 hj;have hjs:j < ops.size:=(Array.getElem?_eq_some_iff.1 ho).1;obtain ⟨l1,l2,hs1,hs2,hs3⟩:=kG (ops:=ops) hs hjs h0;have hS:=hS (by rw [hs1];simp);have hfront:qE P ops S Q (j :: (l1 ++ l2)) a w:=by
    refine xR hns l1 (fun i hi=>?_) hS (hs1 ▸ h);obtain ⟨hij,hiu⟩:=hs3 i hi;refine ⟨by omega,?_⟩;have:=(hall j hjs).2 i hij;rw [Bool.or_eq_true] at this;rcases this with hb | hb
    ·have hl:=iZ hmask hc (j+1) j o (by omega) ho hall' i hij hb;rw [getD_lt (by omega) false true,hiu] at hl;cases hl
    ·exact hb
   have hlen:(kU ops (listed.setIfInBounds j true)).length=n:=by
    rw [hs2];rw [hs1] at hn;simp at hn ⊢;omega
   have hs':(listed.setIfInBounds j true).size=ops.size:=by simpa using hs
   have hc':Closed ops (listed.setIfInBounds j true):=by
    intro m om hm hl e he hb;by_cases hmj:m=j
    ·subst hmj;rw [ho] at hm;cases hm;exact getD_set_true (hall' e he hb)
    ·rw [getD_set_ne false (Ne.symm hmj)] at hl;exact getD_set_true (hc m om hm hl e he hb)
   have hlt:kU ops (listed.setIfInBounds j true)≠[]→j+1 < ops.size:=fun hne=>by
    rcases Nat.lt_or_ge (j+1) ops.size with h1 | h1
    ·exact h1
    ·exfalso;apply hne;rw [hs2];have e1:∀ i,i ∈ l1 ++ l2→False:=fun i hi=>by
      have hiu:i ∈ kU ops (listed.setIfInBounds j true):=by rw [hs2];exact hi
      unfold kU at hiu;rw [List.mem_filter,List.mem_range] at hiu;obtain ⟨hi1,hi2⟩:=hiu;have hij:i < j:=by
       rcases Nat.lt_or_ge i j with h2 | h2
       ·exact h2
       ·obtain rfl:i=j:=by omega
        simp at hi2
      have hb:((Region.before ops).getD j 0).testBit i=true:=by
       simp only [FV,List.all_eq_true,List.mem_range] at hlast;have:=hlast i (by omega)
       rwa [show ops.size - 1=j by omega] at this
      have hl:=iZ hmask hc (j+1) j o (by omega) ho hall' i hij hb;have hl2:listed.getD i true=true:=by rw [getD_lt (by omega) true false];exact hl
      rw [getD_set_ne true (by omega:j≠i),hl2] at hi2;simp at hi2
     cases hll:l1 ++ l2 with
     | nil=>rfl
     | cons x y=>exact (e1 x (by rw [hll];simp)).elim
   rw [←hs2] at hfront;unfold qE at hfront;simp only [ho] at hfront;rcases hfront with ⟨v,hy,hk⟩ | ⟨_,hw,hk⟩
   ·exact hy.wpOp ho hS (ih _ _ _ hlen hs' hc' (fun _=>hS) hk)
   ·unfold wpOp;simp only [ho,hw,if_true];refine .inl ?_;have h2:=Oper.wp_mono (K':=wpAny P .any ops Q n (listed.setIfInBounds j true)) (fun a' w' hk=>ih _ a' w' hlen hs' hc' (fun hne=>hk.1 (hlt hne)) hk.2) hk
    -- the empty exit serves every exit
    unfold Oper.wp at h2 ⊢;generalize (execOp a.eval o).run P w=r at *
    cases r with
    | ok nx w' =>
     cases nx <;> simp only [Oper.upon] at h2 ⊢ <;> first
      | exact h2
      | exact Calls.mono h2 (fun e w'' he=>by
        cases e with
        | returned v=>exact he
        | panicked c=>exact he.elim
        | outgrown=>obtain ⟨_,_,he⟩:=he;exact he.elim)
    | halt x w'=>cases x <;> simp only [Oper.upon] at h2 ⊢ <;> first | exact h2 | exact h2.elim

def oF (P:Program) (ops:Array Oper) (S:World→Prop) (Q:Exit→Act→World→Prop):List Oper→Act→World→Prop
 | [],a,w=>Q .normal a w
 | o :: r,a,w=>(∃ v,YieldsIf P ops S o v a∧oF P ops S Q r (a.put o.dst v) w) ∨
   (bR o.op=true∧Region.wanted o (yielded ops a.tmps)=true∧o.wp P a w (fun a' w'=>(r≠[]→S w')∧oF P ops S Q r a' w') fI)
theorem zW:∀ (l:List Oper) (k:Nat) (a:Act) (w:World),(∀ j,l[j]?=ops[k+j]?)→k+l.length=ops.size→oF P ops S Q l a w→qE P ops S Q (List.range' k l.length) a w
 | [],_,_,_,_,_,h=>h
 | o :: l,k,a,w,hl,hs,h=>by
  have h0:ops[k]?=some o:=by simpa using (hl 0).symm
  have ih:=fun a w=>zW l (k+1) a w (fun j=>by have:=hl (j+1);simpa [Nat.add_assoc,Nat.add_comm 1 j] using this) (by simp at hs;omega);simp only [List.length_cons,List.range'_succ];unfold qE;simp only [h0];rcases h with ⟨v,h1,h2⟩ | ⟨h1,h2,h3⟩
  ·exact .inl ⟨v,h1,ih _ _ h2⟩
  ·exact .inr ⟨h1,h2,Oper.wp_mono (fun a' w' hk=>⟨fun hlt=>hk.1 (fun e=>by subst e;simp at hs;omega),ih _ _ hk.2⟩) h3⟩
theorem fJ {id:Nat} {l:List Oper} {a:Act} {w:World} (S:World→Prop) (hm:P.follows .mixedOrders=true) (hB:nH l.toArray=true) (hlast:FV l.toArray=true) (hS:S w.drew)
  (h:oF P l.toArray S Q l a w.drew):(Code.region id l.toArray true).wp P Q a w:=by
 refine wp_region_any hm ?_;have hu:kU l.toArray (Array.replicate l.toArray.size false)=List.range l.toArray.size:=by
  unfold kU;refine List.filter_eq_self.2 fun i hi=>?_;have:=List.mem_range.1 hi;simp at this;simp [this]
 refine Di (S:=S) hB hlast _ _ _ _ (by rw [hu];simp) (by simp) ?_ (fun _=>hS) ?_
 ·intro j o ho hl;have:j < l.length:=by have:=(Array.getElem?_eq_some_iff.1 ho).1;simpa using this
  simp [this] at hl
 ·rw [hu];have:=zW (P:=P) (ops:=l.toArray) (S:=S) (Q:=Q) l 0 a w.drew (by simp) (by simp) h;simpa [List.range_eq_range'] using this
section
variable {o:Oper} {r:List Oper} {a:Act} {w:World}
theorem jU (hw:Region.wanted o (yielded ops a.tmps)=false) (h:oF P ops S Q r (a.put o.dst undef) w):oF P ops S Q (o :: r) a w:=.inl ⟨undef,.inr ⟨hw,rfl⟩,h⟩
theorem jV {v:Value} (hw:Region.wanted o (yielded ops a.tmps)=true) (hv:∀ w',S w'→(execOp a.eval o).run P w'=.ok (.value v) w') (h:oF P ops S Q r (a.put o.dst v) w):oF P ops S Q (o :: r) a w:=.inl ⟨v,.inl ⟨hw,hv⟩,h⟩

theorem JW (hc:bR o.op=true) (hw:Region.wanted o (yielded ops a.tmps)=true) (h:∀ K:Act→World→Prop,Hid (∀ a' w',S w'→oF P ops S Q r a' w'→K a' w')→o.wp P a w K fI):oF P ops S Q (o :: r) a w :=
 .inr ⟨hc,hw,h _ fun _ _ h1 h2=>⟨fun _=>h1,h2⟩⟩

theorem kV (hc:bR o.op=true) (hw:Region.wanted o (yielded ops a.tmps)=true) (h:∀ K:Act→World→Prop,Hid (∀ a' w',Q .normal a' w'→K a' w')→o.wp P a w K fI):oF P ops S Q [o] a w :=
 .inr ⟨hc,hw,h _ fun _ _ h2=>⟨fun h=>(h rfl).elim,h2⟩⟩
end
end
end Go.CH
