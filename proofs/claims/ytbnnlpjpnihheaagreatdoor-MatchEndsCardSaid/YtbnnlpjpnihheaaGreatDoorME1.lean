/- A part of the proof: lemmas. -/
import Derived.WalkKit
import Derived.WalkSpells
import Derived.WalkLawsBesides
import Derived.Deep.Draws
import Derived.Deep.AppendLies
import Derived.ProofKit
import Derived.DataShut
import Derived.Carry
import Derived.Deep.Slices
import Derived.Deep.Fields
import Derived.ChangeSame
import Derived.Shelf.Strings.Builder1
import Derived.Shelf.Strings.Builder2
import Derived.Shelf.Strings.OnBuilder
import Derived.Shelf.Strings.Trim
import Derived.Shelf.Small.Utf8
import Derived.Shelf.Small.Strs
import Derived.Shelf.Small.Wraps
import Derived.Shelf.Strings.BuilderF
import Derived.Shelf.Strings.BuilderK
import Derived.Shelf.Strings.BuilderRune
import Derived.Shelf.Utf8.AppendRune
import Derived.Shelf.Utf8.AppendRunePlain
import Derived.Shelf.Strings.Builder2Cap
import Derived.Shelf.Strings.Search1
import Derived.Shelf.Strings.Prefix
import Derived.Shelf.Unicode.Latin
import Derived.Shelf.Unicode.Decode
import Derived.Shelf.Strings.Runes
import Derived.Shelf.Strings.AsciiSet
import Derived.Shelf.Unicode.DecodeSlow
import Derived.Shelf.Unicode.DecodeAny
import Derived.Shelf.Unicode.DecodeLast
import Derived.Shelf.Unicode.CaseLookup
import Derived.Shelf.Unicode.CaseConvert
import Derived.Shelf.Unicode.CaseTo
import Derived.Shelf.Unicode.CaseLaid
import Derived.Shelf.Strings.MapAny
import Derived.Shelf.Strings.CaseAny
import Derived.Shelf.Strings.BuilderCap
import Derived.Shelf.Slices.Equal
import Derived.Ground.Names2Prog
import Derived.Shelf.Slices.Clone
import Derived.Shelf.Slices.Empties2
import Derived.Ground.SlgnProg
import Derived.Shelf.SlicesE.Clone
import Derived.Test.YtbnnlpjpnihheaaGreatDoorProg
set_option maxHeartbeats 16000000
set_option maxRecDepth 100000
set_option linter.unusedSimpArgs false
set_option linter.unusedVariables false
namespace Go.CH
open Go.RowKit
open Go.ChangeMaps (setBlock)

theorem hide {p:Prop} (h:p):Hid p:=h

structure Mod (F:Nat→Prop) (w w':World):Prop where
 os:w'.os=w.os
 tape:w'.tape=w.tape
 output:w'.output=w.output
 size:w.heap.size≤w'.heap.size
 block:∀ k,k < w.heap.size→¬ F k→w'.heap[k]?=w.heap[k]?

theorem Mod.refl (F:Nat→Prop) (w:World):Mod F w w:=⟨rfl,rfl,rfl,Nat.le_refl _,fun _ _ _=>rfl⟩
theorem Mod.trans {F F' G:Nat→Prop} {a b c:World} (h:Mod F a b) (k:Mod F' b c) (hF:∀ i,i < a.heap.size→F i→G i) (hF':∀ i,i < a.heap.size→F' i→G i):Mod G a c :=
 ⟨k.os.trans h.os,k.tape.trans h.tape,k.output.trans h.output,Nat.le_trans h.size k.size,
  fun i hi hn=>(k.block i (Nat.lt_of_lt_of_le hi h.size) (fun e=>hn (hF' i hi e))).trans (h.block i hi (fun e=>hn (hF i hi e)))⟩
theorem Mod.mono {F G:Nat→Prop} {a b:World} (h:Mod F a b) (hF:∀ i,i < a.heap.size→F i→G i):Mod G a b :=
 ⟨h.os,h.tape,h.output,h.size,fun i hi hn=>h.block i hi (fun e=>hn (hF i hi e))⟩
theorem Mod.below {F:Nat→Prop} {a b:World} (h:Mod F a b) (hF:∀ i,i < a.heap.size→¬ F i):Below a.heap.size a b :=
 ⟨h.os,h.tape,h.output,h.size,fun i hi=>h.block i hi (hF i hi)⟩
theorem Mod.of_below {F:Nat→Prop} {a b:World} (h:Below a.heap.size a b):Mod F a b :=
 ⟨h.os,h.tape,h.output,h.size,fun i hi _=>h.block i hi⟩
theorem Mod.sH {F:Nat→Prop} {a b:World} {row:Option Nat} (h:a.grownBy b row) (hr:∀ k,row=some k→k < a.heap.size→F k):Mod F a b :=
 ⟨h.os,h.tape,h.output,h.size,fun i hi hn=>h.block i hi (fun e=>hn (hr i e.symm hi))⟩
theorem Mod.drew {F:Nat→Prop} {a b:World} (h:Mod F a b):Mod F a b.drew:=⟨h.os,h.tape,h.output,h.size,h.block⟩
theorem Mod.drewN {F:Nat→Prop} {a b:World} (h:Mod F a b) (n:Nat):Mod F a (b.drewN n):=⟨h.os,h.tape,h.output,h.size,h.block⟩
theorem Mod.alloc {F:Nat→Prop} {a b:World} (h:Mod F a b) (o:Obj):Mod F a (b.alloc o) :=
 ⟨h.os,h.tape,h.output,Nat.le_trans h.size (by simp),fun i hi hn=>(Below.heap_alloc b o i (Nat.lt_of_lt_of_le hi h.size)).trans (h.block i hi hn)⟩
theorem Mod.setCell {F:Nat→Prop} {a b:World} (h:Mod F a b) {p:Addr} (u:Value) (hp:p.block < a.heap.size→F p.block):Mod F a (b.setCell p u) :=
 ⟨h.os,h.tape,h.output,by simpa using h.size,fun i hi hn=>(Below.heap_setCell b p u i (by rintro rfl;exact hn (hp hi))).trans (h.block i hi hn)⟩
theorem Mod.setBlock {F:Nat→Prop} {a b:World} (h:Mod F a b) {k:Nat} (o:Obj) (hp:k < a.heap.size→F k):Mod F a (setBlock b k o) :=
 ⟨h.os,h.tape,h.output,by simpa [Go.ChangeMaps.setBlock] using h.size,fun i hi hn=>by
  have:k≠i:=by rintro rfl;exact hn (hp hi)
  simp only [Go.ChangeMaps.setBlock];rw [Array.getElem?_setIfInBounds_ne this]
  exact h.block i hi hn⟩
theorem Mod.cell {F:Nat→Prop} {w w':World} (h:Mod F w w') {p:Addr} (hp:p.block < w.heap.size) (hn:¬ F p.block):w'.cell? p=w.cell? p :=
 World.cell?_of_block (w:=w) (h.block p.block hp hn)
theorem rD {w:World} {b:Nat} {o o':Obj} (h:w.heap[b]?=some o):(setBlock w b o').heap[b]?=some o':=(Go.MapKept.heap_set h).1
theorem l9 {w:World} {b k:Nat} {o':Obj} (h:b≠k):(setBlock w b o').heap[k]?=w.heap[k]?:=by
 simp only [Go.ChangeMaps.setBlock];exact Array.getElem?_setIfInBounds_ne h

theorem MO {w:World} {o:Obj} {n:Nat} (h:n=w.heap.size):(w.alloc o).heap[n]?=some o:=by subst h;exact heap_alloc_new w o
theorem MP {w:World} {o:Obj} {n:Nat} (h:n < w.heap.size):(w.alloc o).heap[n]?=w.heap[n]?:=Below.heap_alloc w o n h

theorem aV {B:Nat} {a w:World} (h:Below B a w):Below B a w.drew:=h.drew
theorem below_drewN {B:Nat} {a w:World} (h:Below B a w) (n:Nat):Below B a (w.drewN n):=⟨h.os,h.tape,h.output,h.size,h.block⟩
@[go_sem] theorem heap_drew (w:World):w.drew.heap=w.heap:=rfl
@[go_sem] theorem heap_drewN (w:World) (n:Nat):(w.drewN n).heap=w.heap:=rfl
@[go_sem] theorem OG {w:World} {o:Obj} {n:Nat} (h:n < w.heap.size):(w.alloc o).heap[n]?=w.heap[n]?:=Below.heap_alloc w o n h
@[go_sem] theorem La {w:World} {a:Addr} {v:Value} {n:Nat} (h:n≠a.block):(w.setCell a v).heap[n]?=w.heap[n]?:=Below.heap_setCell w a v n h
@[go_sem] theorem OH {w:World} {b:Nat} {o:Obj} {a:Addr} (h:b≠a.block):(setBlock w b o).cell? a=w.cell? a:=World.cell?_of_block (l9 h)
@[go_sem] theorem Lb {w:World} {b:Nat} {o:Obj} {a:Addr} (h:b≠a.block):(setBlock w b o).frozen? a=w.frozen? a:=World.frozen?_of_block (l9 h)
@[go_sem] theorem OI {w:World} {b:Nat} {o:Obj}:(setBlock w b o).heap.size=w.heap.size:=by simp [Go.ChangeMaps.setBlock]

section maps0
variable {α:Type}

def Dj (kv:α→Value) (es:Array MapEntry) (clock:Nat) (l:List (α × Value)):Prop :=
 es.toList.map (fun e=>(e.key,e.val))=l.map (fun p=>(kv p.1,p.2))∧(l.map (·.1)).Nodup∧(es.toList.map (·.born)).Nodup∧∀ e ∈ es.toList,e.born < clock

def nJ (kv:α→Value) (w:World) (b:Nat) (l:List (α × Value)):Prop :=
 ∃ es clock,w.heap[b]?=some (.map es clock)∧Dj kv es clock l

variable {kv:α→Value} {w w':World} {b:Nat} {l:List (α × Value)}
theorem nJ.of_block (h:nJ kv w b l) (hb:w'.heap[b]?=w.heap[b]?):nJ kv w' b l:=by
 obtain ⟨es,clock,h1,h2⟩:=h;exact ⟨es,clock,hb.trans h1,h2⟩
theorem nJ.lt (h:nJ kv w b l):b < w.heap.size:=by obtain ⟨es,clock,h1,_⟩:=h;exact lt_of_block h1
theorem Dj.nil:Dj kv #[] 0 []:=⟨rfl,List.nodup_nil,List.nodup_nil,by simp⟩
theorem nJ.new (w:World):nJ kv (w.alloc (.map #[] 0)) w.heap.size []:=⟨#[],0,heap_alloc_new w _,Dj.nil⟩
theorem nJ.mod {F:Nat→Prop} (h:nJ kv w b l) (m:Mod F w w') (hb:¬ F b):nJ kv w' b l:=h.of_block (m.block b h.lt hb)

theorem Sr {es:List MapEntry} {l:List (α × Value)} (h:es.map (fun e=>(e.key,e.val))=l.map (fun p=>(kv p.1,p.2))) {n:Nat} {k:α} {u:Value} (hn:l[n]?=some (k,u)):∃ e,es[n]?=some e∧e.key=kv k∧e.val=u:=by
 have h1:(es.map (fun e=>(e.key,e.val)))[n]?=some (kv k,u):=by rw [h];simp [hn]
 rw [List.getElem?_map] at h1;cases he:es[n]? with
 | none=>simp [he] at h1
 | some e=>simp [he] at h1;exact ⟨e,rfl,h1.1,h1.2⟩
end maps0
section maps
variable {α:Type} [DecidableEq α] {P:Program}

structure mg (P:Program) (K:TypeId) (kv:α→Value):Prop where
 eq:∀ a b w,(Op.equal K (kv a) (kv b)).run P w=.ok (decide (a=b)) w
 check:∀ e a w,(Instr.checkKey e 10000 K (kv a)).run P w=.ok () w
 same:∀ a,Instr.sameBits 10000 (kv a) (kv a)=true
 now:∃ kd,P.underlying K=some kd∧∀ a b,Instr.sameNow kd (kv a) (kv b)=none∨Instr.sameNow kd (kv a) (kv b)=some (decide (a=b))

def rO (k:α):List (α × Value)→Nat→Option (Nat × Value)
 | [],_=>none
 | (a,v) :: l,i=>if k=a then some (i,v) else rO k l (i+1)

theorem oG {K:TypeId} {kv:α→Value} (H:mg P K kv) (k:α) (w:World):∀ (es:List MapEntry) (l:List (α × Value)) (i:Nat),
  es.map (fun e=>(e.key,e.val))=l.map (fun p=>(kv p.1,p.2))→(Instr.findAsking K (kv k) es i).run P w=.ok (rO k l i) w
 | [],[],i,_=>by simp [Instr.findAsking,rO]
 | [],_ :: _,_,h=>by simp at h
 | _ :: _,[],_,h=>by simp at h
 | e :: es,(a,v) :: l,i,h=>by
  simp only [List.map_cons,List.cons.injEq,Prod.mk.injEq] at h;obtain ⟨⟨hk,hv⟩,hr⟩:=h;have ih:=oG H k w es l (i+1) hr;simp only [Instr.findAsking,Sem.run_bind,hk,H.eq,Result.andThen_ok,rO];by_cases hka:k=a
  ·subst hka;simp [hv]
  ·simp [hka,ih]

theorem xS {kv:α→Value} {kd:TypeDesc} (hn:∀ a b,Instr.sameNow kd (kv a) (kv b)=none∨Instr.sameNow kd (kv a) (kv b)=some (decide (a=b))) (k:α):∀ (es:List MapEntry) (l:List (α × Value)) (i:Nat) (r:Option (Nat × Value)),
  es.map (fun e=>(e.key,e.val))=l.map (fun p=>(kv p.1,p.2))→Instr.findNow kd (kv k) es i=some r→r=rO k l i
 | [],[],i,r,_,h=>by simp [Instr.findNow] at h;simp [rO,h]
 | [],_ :: _,_,_,h,_=>by simp at h
 | _ :: _,[],_,_,h,_=>by simp at h
 | e :: es,(a,v) :: l,i,r,h,hr=>by
  simp only [List.map_cons,List.cons.injEq,Prod.mk.injEq] at h;obtain ⟨⟨hk,hv⟩,hrest⟩:=h;simp only [Instr.findNow,hk] at hr;rcases hn k a with h1 | h1
  ·simp [h1] at hr
  ·rw [h1] at hr;by_cases hka:k=a
   ·subst hka;simp at hr;simp [rO,←hr,hv]
   ·simp [hka] at hr;simp only [rO,if_neg hka];exact xS hn k es l (i+1) r hrest hr

theorem run_findKey {K:TypeId} {kv:α→Value} (H:mg P K kv) (k:α) (w:World) (es:List MapEntry) (l:List (α × Value)) (h:es.map (fun e=>(e.key,e.val))=l.map (fun p=>(kv p.1,p.2))) :
  (Instr.findKey K (kv k) es).run P w=.ok (rO k l 0) w:=by
 obtain ⟨kd,hkd,hn⟩:=H.now;simp only [Instr.findKey,Sem.run_bind,run_underlying hkd,Result.andThen_ok];cases hf:Instr.findNow kd (kv k) es 0 with
 | none=>simp only [oG H k w es l 0 h]
 | some r=>simp only [Sem.run_pure];rw [xS hn k es l 0 r h hf]

def mV (l:List (α × Value)) (k:α):Option Value:=(rO k l 0).map (·.2)

def jW:List (α × Value)→α→Value→List (α × Value)
 | [],k,v=>[(k,v)]
 | (a,u) :: l,k,v=>if k=a then (a,v) :: l else (a,u) :: jW l k v

theorem uS (k:α):∀ (l:List (α × Value)) (i:Nat),rO k l i=(rO k l 0).map (fun p=>(p.1+i,p.2))
 | [],_=>rfl
 | (a,v) :: l,i=>by
  by_cases h:k=a
  ·simp [rO,h]
  ·simp only [rO,if_neg h];rw [uS k l (i+1),uS k l (0+1)];cases rO k l 0 <;> simp;omega

theorem pV (a:α) (v:Value) (l:List (α × Value)) (k:α):mV ((a,v) :: l) k=if k=a then some v else mV l k:=by
 unfold mV;by_cases h:k=a
 ·simp [rO,h]
 ·simp only [rO,if_neg h];rw [uS];cases rO k l 0 <;> rfl

theorem sI {k:α}:∀ {l:List (α × Value)} {i:Nat},rO k l i=none→k ∉ l.map (·.1)∧∀ v,jW l k v=l ++ [(k,v)]
 | [],_,_=>by simp [jW]
 | (a,u) :: l,i,h=>by
  by_cases hk:k=a
  ·simp [rO,hk] at h
  ·simp only [rO,if_neg hk] at h;obtain ⟨h1,h2⟩:=sI h;refine ⟨by simp only [List.map_cons,List.mem_cons,not_or];exact ⟨hk,h1⟩,fun v=>by simp [jW,hk,h2]⟩

theorem sJ {k:α}:∀ {l:List (α × Value)} {i j:Nat} {u:Value},rO k l i=some (j,u)→∃ n,j=i+n∧l[n]?=some (k,u)∧∀ v,jW l k v=l.set n (k,v)
 | [],_,_,_,h=>by simp [rO] at h
 | (a,x) :: l,i,j,u,h=>by
  by_cases hk:k=a
  ·subst hk;simp only [rO,if_true,Option.some.injEq,Prod.mk.injEq] at h;exact ⟨0,by omega,by simp [h.2],fun v=>by simp [jW]⟩
  ·simp only [rO,if_neg hk] at h;obtain ⟨n,h1,h2,h3⟩:=sJ h;exact ⟨n+1,by omega,by simpa using h2,fun v=>by simp [jW,hk,h3]⟩

theorem JX (k:α) (v:Value) (l:List (α × Value)):(jW l k v).map (·.1)=if k ∈ l.map (·.1) then l.map (·.1) else l.map (·.1) ++ [k]:=by
 cases h:rO k l 0 with
 | none=>obtain ⟨h1,h2⟩:=sI h;rw [h2,if_neg h1];simp
 | some p =>
  obtain ⟨j,u⟩:=p;obtain ⟨n,h1,h2,h3⟩:=sJ h;have hm:k ∈ l.map (·.1):=List.mem_map.2 ⟨(k,u),List.mem_of_getElem? h2,rfl⟩;rw [h3,if_pos hm,List.map_set];have:(l.map (·.1))[n]?=some k:=by simp [h2]
  obtain ⟨hl,he⟩:=List.getElem?_eq_some_iff.1 this
  conv=>rhs;rw [←List.set_getElem_self hl]
  rw [he]

variable {kv:α→Value} {w w':World} {b:Nat} {l:List (α × Value)}
theorem xU {t K E:TypeId} {z:Value} (H:mg P K kv) (ht:P.underlying t=some (.map K E)) (hz:∀ w,(zeroValue E).run P w=.ok z w) {es:Array MapEntry} {clock:Nat} (h:Dj kv es clock l) (k:α) (w:World) (h1:w.heap[b]?=some (.map es clock)) :
  (Instr.lookup t (.map (some b)) (kv k) false).run P w=.ok ((mV l k).getD z) w:=by
 obtain ⟨h2,_⟩:=h;simp only [Instr.lookup,Sem.run_bind,run_underlying ht,Result.andThen_ok,MapKept.run_getObj_map h1,Sem.run_pure,H.check,run_findKey H k w _ l h2,mV];cases rO k l 0 with
 | none=>simp [hz]
 | some p=>simp

theorem qK {t K E:TypeId} {z:Value} (H:mg P K kv) (ht:P.underlying t=some (.map K E)) (hz:∀ w,(zeroValue E).run P w=.ok z w) {es:Array MapEntry} {clock:Nat} (h:Dj kv es clock l) (k:α) (w:World) (h1:w.heap[b]?=some (.map es clock)) :
  (Instr.lookup t (.map (some b)) (kv k) true).run P w=.ok (.tuple #[(mV l k).getD z,.bool (mV l k).isSome]) w:=by
 obtain ⟨h2,_⟩:=h;simp only [Instr.lookup,Sem.run_bind,run_underlying ht,Result.andThen_ok,MapKept.run_getObj_map h1,Sem.run_pure,H.check,run_findKey H k w _ l h2,mV];cases rO k l 0 with
 | none=>simp [hz]
 | some p=>simp

theorem xV {β γ:Type} (f:β→γ) (g:β→β) (x:γ):∀ (l:List β) (n:Nat),(∀ e,l[n]?=some e→f (g e)=x)→(l.modify n g).map f=(l.map f).set n x
 | [],_,_=>by simp
 | e :: l,0,h=>by simp [h e rfl]
 | e :: l,n+1,h=>by simp [xV f g x l n (fun e' he=>h e' (by simpa using he))]
theorem nK {β γ:Type} (f:β→γ) (g:β→β):∀ (l:List β) (n:Nat),(∀ e,f (g e)=f e)→(l.modify n g).map f=l.map f
 | [],_,_=>by simp
 | e :: l,0,h=>by simp [h e]
 | e :: l,n+1,h=>by simp [nK f g l n h]
theorem mem_modify {β:Type} (p:β→Prop) (g:β→β):∀ (l:List β) (n:Nat),(∀ e ∈ l,p e)→(∀ e,p e→p (g e))→∀ e ∈ l.modify n g,p e
 | [],_,_,_,e,h=>by simp at h
 | x :: l,0,h,hg,e,he=>by
  simp at he;rcases he with rfl | he
  ·exact hg _ (h _ (by simp))
  ·exact h _ (by simp [he])
 | x :: l,n+1,h,hg,e,he=>by
  simp at he;rcases he with rfl | he
  ·exact h _ (by simp)
  ·exact mem_modify p g l n (fun e he=>h e (by simp [he])) hg e he

theorem zh {t K E:TypeId} (H:mg P K kv) (ht:P.underlying t=some (.map K E)) {es:Array MapEntry} {clock:Nat} (h:Dj kv es clock l) (b:Nat) (k:α) (v:Value) :
  ∃ es' clock',Dj kv es' clock' (jW l k v)∧∀ w:World,w.heap[b]?=some (.map es clock)→(Instr.mapUpdate t (.map (some b)) (kv k) v).run P w=.ok () (setBlock w b (.map es' clock')):=by
 obtain ⟨h2,h3,h4,h5⟩:=h;cases hf:rO k l 0 with
 | none =>
  obtain ⟨g1,g2⟩:=sI hf;refine ⟨es.push ⟨kv k,v,clock⟩,clock+1,⟨?_,?_,?_,?_⟩,fun w h1=>?_⟩
  ·rw [g2];simp [h2]
  ·rw [g2];simp only [List.map_append,List.map_cons,List.map_nil];exact List.nodup_append.2 ⟨h3,by simp,fun a ha b hb=>by simp at hb;subst hb;rintro rfl;exact g1 ha⟩
  ·simp only [Array.toList_push,List.map_append,List.map_cons,List.map_nil];refine List.nodup_append.2 ⟨h4,by simp,fun a ha b hb=>?_⟩;simp at hb;subst hb;obtain ⟨e,he,rfl⟩:=List.mem_map.1 ha;have:=h5 e he;omega
  ·intro e he;simp at he;rcases he with he | rfl
   ·have:=h5 e (by simpa using he);omega
   ·simp
  ·simp only [Instr.mapUpdate,Sem.run_bind,run_underlying ht,Result.andThen_ok,MapKept.run_getObj_map h1,H.check,run_findKey H k w _ l h2,hf,MapKept.run_setObj_map _ h1];rfl
 | some p =>
  obtain ⟨j,u⟩:=p;obtain ⟨n,g1,g2,g3⟩:=sJ hf;obtain rfl:j=n:=by omega
  obtain ⟨e,he,hek,hev⟩:=Sr h2 g2;have he':es[j]?=some e:=by simpa using he
  refine ⟨es.modify j (fun e=>{ e with key:=kv k,val:=v }),clock,⟨?_,?_,?_,?_⟩,fun w h1=>?_⟩
  ·rw [g3,Array.toList_modify,xV (fun e:MapEntry=>(e.key,e.val)) (fun e=>{ e with key:=kv k,val:=v }) (kv k,v) _ _ (fun _ _=>rfl),h2,List.map_set]
  ·have:=JX k v l;rw [this];split
   ·exact h3
   ·rename_i hm;exact absurd (List.mem_map.2 ⟨(k,u),List.mem_of_getElem? g2,rfl⟩) hm
  ·rw [Array.toList_modify,nK (fun e:MapEntry=>e.born) (fun e=>{ e with key:=kv k,val:=v }) _ _ (fun _=>rfl)];exact h4
  ·rw [Array.toList_modify];exact mem_modify (fun e:MapEntry=>e.born < clock) (fun e=>{ e with key:=kv k,val:=v }) _ _ h5 (fun _ h=>h)
  ·simp only [Instr.mapUpdate,Sem.run_bind,run_underlying ht,Result.andThen_ok,MapKept.run_getObj_map h1,H.check,run_findKey H k w _ l h2,hf,he',Option.map_some,Option.getD_some,hek,Instr.keyThatStays,H.same,if_true,Sem.run_pure,MapKept.run_setObj_map _ h1];rfl

end maps

section
variable {P:Program}
theorem Ri {E:TypeId} {k:IntKind} (hE:P.underlying E=some (.int k)) (a b:Int) (n:Nat) (w:World) :
  (Op.equalIn (n+1) E (.int k a) (.int k b)).run P w=.ok (a == b) w:=by
 simp [Op.equalIn,run_underlying hE]
theorem zX {E:TypeId} {d:TypeDesc} (hE:P.underlying E=some d) (hd:(match d with | .struct _ | .array _ _=>true | _=>false)=false) (cs:Array Value) (j:Nat) (v:Value) (hv:cs[j]?=some v) (w:World) :
  (part E cs j).run P w=.ok v w:=by
 cases d <;> simp_all [part,isAgg,run_underlying hE]
theorem Sv {K E:TypeId} {i:TypeInfo} {k:IntKind} (hK:P.underlying K=some (.array 2 E)) (hE:P.underlying E=some (.int k)) (hi:P.info? E=some i) (hs:i.size=1) (a b c d:Int) (n:Nat) (w:World) :
  (Op.equalIn (n+2) K (.agg #[.int k a,.int k b]) (.agg #[.int k c,.int k d])).run P w=.ok (a == c && b == d) w:=by
 have hp:=fun cs j v hv w=>zX (P:=P) hE rfl cs j v hv w;unfold Op.equalIn;simp only [Sem.run_bind,run_underlying hK,Result.andThen_ok,sizeOf,typeInfo,run_program,hi,Sem.run_pure,hs,Std.Legacy.Range.forIn_eq_forIn_range',Std.Legacy.Range.size,Nat.sub_zero,Nat.add_one_sub_one,Nat.div_one,List.range'];simp only [List.forIn_cons,List.forIn_nil,Sem.run_bind,hp #[.int k a,.int k b] 0 _ rfl,hp #[.int k c,.int k d] 0 _ rfl,hp #[.int k a,.int k b] 1 _ rfl,hp #[.int k c,.int k d] 1 _ rfl,Result.andThen_ok,Ri hE,Nat.zero_mul,Nat.one_mul,Nat.zero_add];by_cases h1:a=c <;> by_cases h2:b=d <;> simp [h1,h2,hp #[.int k a,.int k b] 1 _ rfl,hp #[.int k c,.int k d] 1 _ rfl,hp #[.int k c,.int k b] 1 _ rfl,Ri hE]
theorem Dk {E:TypeId} {k:IntKind} (hE:P.underlying E=some (.int k)) (e:Bool) (a:Int) (n:Nat) (w:World):(Instr.checkKey e (n+1) E (.int k a)).run P w=.ok () w:=by
 simp [Instr.checkKey,run_underlying hE]
theorem JY {K E:TypeId} {i:TypeInfo} {k:IntKind} (hK:P.underlying K=some (.array 2 E)) (hE:P.underlying E=some (.int k)) (hi:P.info? E=some i) (hs:i.size=1) (e:Bool) (a b:Int) (n:Nat) (w:World) :
  (Instr.checkKey e (n+2) K (.agg #[.int k a,.int k b])).run P w=.ok () w:=by
 have hp:=fun cs j v hv w=>zX (P:=P) hE rfl cs j v hv w;unfold Instr.checkKey;simp only [Sem.run_bind,run_underlying hK,Result.andThen_ok,sizeOf,typeInfo,run_program,hi,Sem.run_pure,hs,Std.Legacy.Range.forIn_eq_forIn_range',Std.Legacy.Range.size,Nat.sub_zero,Nat.add_one_sub_one,Nat.div_one,List.range'];simp only [List.forIn_cons,List.forIn_nil,Sem.run_bind,hp #[.int k a,.int k b] 0 _ rfl,hp #[.int k a,.int k b] 1 _ rfl,Result.andThen_ok,Dk hE,Nat.zero_mul,Nat.one_mul,Nat.zero_add,Sem.run_pure];simp [hi,hs,hp #[.int k a,.int k b] 1 _ rfl,Dk hE]

def dF (k:IntKind) (p:Int × Int):Value:=.agg #[.int k p.1,.int k p.2]
theorem FW {K E:TypeId} {k:IntKind} (hK:P.underlying K=some (.array 2 E)) (hE:P.underlying E=some (.int k)) (hi:(P.info? E).map (·.size)=some 1):mg P K (dF k):=by
 obtain ⟨i,hi,hs⟩:=Option.map_eq_some_iff.1 hi;refine ⟨fun a b w=>?_,fun e a w=>JY hK hE hi hs e a.1 a.2 9998 w,fun a=>?_,_,hK,fun a b=>.inl rfl⟩
 ·rw [Op.equal,Op.maxDepth,dF,dF,Sv hK hE hi hs a.1 a.2 b.1 b.2 9998 w];obtain ⟨a1,a2⟩:=a;obtain ⟨b1,b2⟩:=b;by_cases h1:a1=b1 <;> by_cases h2:a2=b2 <;> simp [h1,h2]
 ·simp [dF,Instr.sameBits]
end

section slices
variable {P:Program}

def dh (P:Program) (t e:TypeId) (z:Value) (size bytes:Nat):Prop :=
 P.underlying t=some (.slice e)∧(P.info? e).map (fun i=>(i.zero,i.size,i.bytes))=some (some z,size,bytes)∧z.cells.size=size∧0 < size

def Src (w:World) (A:Option Addr) (n size:Nat) (xs:List Value):Prop :=
 xs.length=n*size∧(∀ u ∈ xs,u.oneCell'=true)∧(0 < n→∃ ad,A=some ad∧∀ j u,xs[j]?=some u→w.cell? (ad.add j)=some u)

theorem Src.cells {w:World} {A:Option Addr} {n size:Nat} {xs:List Value} (h:Src w A n size xs) {ad:Addr} (hA:A=some ad):∀ j u,xs[j]?=some u→w.cell? (ad.add j)=some u:=by
 subst hA;intro j u hu;rcases Nat.eq_zero_or_pos n with h0 | h0
 ·subst h0;have:xs=[]:=List.eq_nil_of_length_eq_zero (by simpa using h.1);subst this;simp at hu
 ·obtain ⟨ad',e,hc⟩:=h.2.2 h0;cases e;exact hc j u hu

theorem Src.none_ {w:World} {A:Option Addr} {size:Nat}:Src w A 0 size []:=⟨by simp,by simp,fun h=>absurd h (by omega)⟩

theorem Addr.add_block (a:Addr) (n:Nat):(a.add n).block=a.block:=by unfold Addr.add;split <;> rfl
theorem Addr.uT (g n:Nat):(⟨g,0,none⟩:Addr).add n=⟨g,n,none⟩:=by
 unfold Addr.add;split <;> simp_all

theorem Src.keep {w w':World} {A:Option Addr} {n size:Nat} {xs:List Value} (h:Src w A n size xs) (hk:∀ ad:Addr,A=some ad→w'.heap[ad.block]?=w.heap[ad.block]?):Src w' A n size xs :=
 ⟨h.1,h.2.1,fun hn=>by
  obtain ⟨ad,e,hc⟩:=h.2.2 hn
  exact ⟨ad,e,fun j u hu=>by rw [←hc j u hu];exact World.cell?_of_block (by rw [Addr.add_block];exact hk ad e)⟩⟩

theorem Src.Sw {w:World} {base:Nat} {e:TypeId} {size n c:Nat} {A:Option Addr} {xs:List Value} (h:w.ownsRow base e size (.slice A n c) n xs) (h1:∀ u ∈ xs,u.oneCell'=true):Src w A n size xs:=by
 refine ⟨h.1,h1,fun hn=>?_⟩;obtain ⟨g,cap,hv,_,hlt⟩:=h.form hn;have hA:A=some ⟨g,0,none⟩:=by injection hv
 subst hA;exact ⟨_,rfl,h.cells (g:=g) rfl⟩

theorem PO {t e:TypeId} {z:Value} {size bytes:Nat} (S:dh P t e z size bytes) (ty:TypeId) (w:World) (base:Nat) {v:Value} {n:Nat} {xs:List Value} (hown:w.ownsRow base e size v n xs)
  {A:Option Addr} {m c:Nat} {news:List Value} (hs:Src w A m size news) (h63:n+m≤1000000) (hby:bytes≤1000) (hbase:base≤w.heap.size) :
  ∃ v' w',(Builtin.append_ #[t,t] ty #[v,.slice A m c]).run P w=.ok v' w'∧w'.ownsRow base e size v' (n+m) (xs ++ news)∧w.grownBy w' v.ownBlock ∧
   (v'.ownBlock=v.ownBlock∨v'.ownBlock=some w.heap.size):=by
 obtain ⟨ht,hi,hz,hsz⟩:=S;obtain ⟨i,hi,hi1,hi2,hi3⟩:=info_parts hi;have hb:(n+m)*bytes≤140737488355328:=Nat.le_trans (Nat.mul_le_mul h63 hby) (by omega);cases A with
 | some ad =>
  obtain ⟨v',w',h1,h2,h3,_,h5⟩:=run_append_own_at (P:=P) w base t ty e i z size bytes ht hi hi1 hi2 hi3 hz hsz v n xs hown ad m c news hs.1 (hs.cells rfl) hs.2.1 (by simp only [maxLen];omega) hb hbase;exact ⟨v',w',h1,h2,h3,h5⟩
 | none =>
  have hm:m=0:=by
   rcases Nat.eq_zero_or_pos m with h0 | h0
   ·exact h0
   ·obtain ⟨ad,h,_⟩:=hs.2.2 h0;cases h
  subst hm;have hn:news=[]:=List.eq_nil_of_length_eq_zero (by simpa using hs.1);subst hn;refine ⟨v,w,?_,by simpa using hown,⟨rfl,rfl,rfl,Nat.le_refl _,fun _ _ _=>rfl⟩,.inl rfl⟩;rcases hown.2 with ⟨rfl,rfl⟩ | ⟨g,cap,cur,rfl,_,_,hnc,_⟩
  ·simp [Builtin.append_,run_underlying ht,sizeOf,typeInfo,hi,Builtin.lenOf,Builtin.firstCells]
  ·simp [Builtin.append_,run_underlying ht,sizeOf,typeInfo,hi,Builtin.lenOf,Builtin.firstCells,hnc,storeCells]

theorem MQ {o:Oper} {a:Act} {K:Act→World→Prop} {Q:Exit→Act→World→Prop} (s x:Operand) {t:TypeId}
  (ho:o.op=.call { callee:=.builtin .append,args:=#[s,x],argTypes:=#[t,t] })
  {e:TypeId} {z:Value} {size bytes:Nat} (S:dh P t e z size bytes) (w:World) (base:Nat) {v:Value} {n:Nat} {xs:List Value} (hsv:a.eval s=v) (hown:w.ownsRow base e size v n xs)
  {A:Option Addr} {m c:Nat} {news:List Value} (hx:a.eval x=.slice A m c) (hs:Src w A m size news) (h63:n+m≤1000000) (hby:bytes≤1000) (hbase:base≤w.heap.size)
  (h:∀ v' w',w'.ownsRow base e size v' (n+m) (xs ++ news)→w.grownBy w' v.ownBlock→(v'.ownBlock=v.ownBlock∨v'.ownBlock=some w.heap.size)→K (a.put o.dst v') w'):o.wp P a w K Q:=by
 obtain ⟨v',w',hrun,h2,h3,h4⟩:=PO S o.type w base hown (c:=c) hs h63 hby hbase;unfold Oper.wp execOp;simp only [ho,resolve,invoke,builtin,Sem.run_bind,Sem.run_pure,Result.andThen_ok,List.map_toArray,List.map_cons,List.map_nil,hsv,hx,hrun];exact h v' w' h2 h3 h4

theorem gX {ops:Array Oper} {rest:List Oper} {o:Oper} {a:Act} {Q:Exit→Act→World→Prop} (hgd:o.guard=none) (s x:Operand) {t:TypeId}
  (ho:o.op=.call { callee:=.builtin .append,args:=#[s,x],argTypes:=#[t,t] })
  {e:TypeId} {z:Value} {size bytes:Nat} (S:dh P t e z size bytes) (w:World) (base:Nat) {v:Value} {n:Nat} {xs:List Value} (hsv:a.eval s=v) (hown:w.ownsRow base e size v n xs)
  {A:Option Addr} {m c:Nat} {news:List Value} (hx:a.eval x=.slice A m c) (hs:Src w A m size news) (h63:n+m≤1000000) (hby:bytes≤1000) (hbase:base≤w.heap.size)
  (h:∀ v' w',w'.ownsRow base e size v' (n+m) (xs ++ news)→w.grownBy w' v.ownBlock→(v'.ownBlock=v.ownBlock∨v'.ownBlock=some w.heap.size)→wpList P ops Q rest (a.put o.dst v') w'):wpList P ops Q (o :: rest) a w :=
 wpList_plain hgd fun _ hK=>MQ s x ho S w base hsv hown hx hs h63 hby hbase fun v' w' h2 h3 h4=>hK _ _ (h v' w' h2 h3 h4)

theorem uU {w w':World} {base:Nat} {e:TypeId} {size:Nat} {v:Value} {n:Nat} {xs:List Value} (h:w.ownsRow base e size v n xs) (hb:∀ g,v.ownBlock=some g→w'.heap[g]?=w.heap[g]?):w'.ownsRow base e size v n xs:=by
 refine ⟨h.1,?_⟩;rcases h.2 with h2 | ⟨g,cap,cur,rfl,h3,h4,h5⟩
 ·exact .inl h2
 ·exact .inr ⟨g,cap,cur,rfl,h3,(hb g rfl).trans h4,h5⟩
theorem xW {w:World} {base:Nat} {e:TypeId} {size:Nat} {v:Value} {n:Nat} {xs:List Value} (h:w.ownsRow base e size v n xs) {g:Nat} (hg:v.ownBlock=some g):g < w.heap.size:=(h.lt g hg).2

theorem Src.one {w:World} {g:Nat} {v:Value} {t:TypeId} (h:w.heap[g]?=some (.cells #[v] t (0,0))) (h1:v.oneCell'=true):Src w (some ⟨g,0,none⟩) 1 1 [v] :=
 ⟨rfl,by simpa using h1,fun _=>⟨_,rfl,fun j u hu=>by
  match j,hu with
  | 0,hu=>simp at hu;subst hu;rw [Addr.uT];simp [World.cell?,h]
  | j+1,hu=>simp at hu⟩⟩

def uV (A:Option Addr) (c k size:Nat):Option Addr:=if c=k then A else A.map (·.add (k*size))
theorem xX {t e:TypeId} {z:Value} {size bytes:Nat} (S:dh P t e z size bytes) (A:Option Addr) (n c k:Nat) (kd:IntKind) (l:Int) (hl:l=k) (h:k≤n) (w:World) :
  (Instr.slice t (.slice A n c) (some (.int kd l)) none none).run P w=.ok (.slice (uV A c k size) (n - k) (c - k)) w:=by
 obtain ⟨ht,hi,hz,hsz⟩:=S;obtain ⟨i,hi,hi1,hi2,hi3⟩:=info_parts hi;subst hl;have h0:(0:Int)≤k∧(k:Int)≤n:=by omega
 simp [Instr.slice,run_underlying ht,Instr.sliceBounds,Instr.sliceBound,asIntOf,h,sizeOf,typeInfo,hi,hi2,uV]
theorem Src.cut {w:World} {A:Option Addr} {n size c k:Nat} {xs:List Value} (h:Src w A n size xs) (hk:k≤n) (hc:n≤c):Src w (uV A c k size) (n - k) size (xs.drop (k*size)):=by
 refine ⟨by rw [List.length_drop,h.1,Nat.sub_mul],fun u hu=>h.2.1 u (List.mem_of_mem_drop hu),fun hn=>?_⟩;obtain ⟨ad,rfl,hcell⟩:=h.2.2 (by omega);rw [uV,if_neg (by omega)];refine ⟨ad.add (k*size),rfl,fun j u hu=>?_⟩;have e:(ad.add (k*size)).add j=ad.add (k*size+j):=by
  unfold Addr.add;by_cases h1:k*size=0 <;> by_cases h2:j=0 <;> simp [h1,h2,Nat.add_assoc]
 rw [e];exact hcell _ u (by rw [←hu,List.getElem?_drop])
end slices
end Go.CH
namespace Go.CH
open Go.ChangeShapes Go.WideShapes Go.Deep
section
variable {H:Type} {enc:TypeId × Value→H} {P:Program} {w:World} {base:Nat} {held:Bool}

theorem vG {α:Type} (R:α→List Value) (size:Nat) (hs:0 < size):∀ (xs:List α),(∀ x ∈ xs,(R x).length=size)→∀ j u,(xs.flatMap R)[j]?=some u→∃ x,xs[j / size]?=some x∧(R x)[j % size]?=some u
 | [],_,j,u,h=>by simp at h
 | x :: xs,hR,j,u,h=>by
  have hx:=hR x (by simp);rw [List.flatMap_cons] at h;by_cases hj:j < size
  ·rw [List.getElem?_append_left (by omega)] at h;exact ⟨x,by rw [Nat.div_eq_of_lt hj];rfl,by rw [Nat.mod_eq_of_lt hj];exact h⟩
  ·rw [List.getElem?_append_right (by omega),hx] at h;obtain ⟨y,h1,h2⟩:=vG R size hs xs (fun z hz=>hR z (by simp [hz])) (j - size) u h;refine ⟨y,?_,?_⟩
   ·rw [show j=(j - size)+size by omega,Nat.add_div_right _ hs];simpa using h1
   ·rw [show j=(j - size)+size by omega,Nat.add_mod_right];exact h2

theorem vH {α:Type} (R:α→List Value) (size:Nat):∀ (xs:List α),(∀ x ∈ xs,(R x).length=size)→(xs.flatMap R).length=xs.length*size
 | [],_=>by simp
 | x :: xs,hR=>by
  rw [List.flatMap_cons,List.length_append,hR x (by simp),vH R size xs (fun z hz=>hR z (by simp [hz])),List.length_cons,Nat.succ_mul];omega

theorem Dl {t e:TypeId} {A:Option Addr} {n c:Nat} {d:DataW H} {ps:List MemPlace} {α:Type} [Inhabited α] (R:α→List Value) (Good:α→Prop) {size:Nat} (ht:P.underlying t=some (.slice e)) (hc:P.cellsOf e=size) (hs:0 < size)
  (each:∀ m cs y,DataW.trod enc P w base (fun _=>true) held m e cs=some y→∃ x,cs=R x∧Good x) (one:∀ x,Good x→∀ u ∈ R x,u.oneCell'=true)
  (h:DataW.Trod enc P w base (fun _=>true) held t (.slice A n c) d ps) :
  ∃ xs:List α,xs.length=n∧Src w A n size (xs.flatMap R)∧(∀ x ∈ xs,Good x∧(R x).length=size)∧n≤c∧c≤maxLen:=by
 obtain ⟨fuel,hf⟩:=h;rcases open_slice ht hf with ⟨h0,_⟩ | ⟨a,len,cap,m,k,D,Pl,hv,_,hl,hm,hmm,_,hx⟩
 ·simp [Value.cells] at h0;obtain ⟨rfl,rfl,rfl⟩:=h0;exact ⟨[],rfl,Src.none_,by simp,by omega,by omega⟩
 ·simp [Value.cells] at hv;obtain ⟨rfl,rfl,rfl⟩:=hv;simp only [if_true] at hmm;subst hmm
  obtain ⟨F,hF⟩:=choose_lt (n:=m) (p:=fun i (x:α)=>Good x∧w.cells? base (a.add (i*P.cellsOf e)) (P.cellsOf e)=some (R x)) (fun i hi=>by
   obtain ⟨cs',h1,h2⟩:=hx i hi;obtain ⟨x,rfl,hg⟩:=each _ _ _ h2
   exact ⟨x,hg,h1⟩)
  have hlen:∀ i,i < m→(R (F i)).length=size:=fun i hi=>by
   obtain ⟨_,h2,_⟩:=World.cells?_some (hF i hi).2;rw [h2,hc]
  have hmem:∀ x ∈ (List.range n).map F,Good x∧(R x).length=size:=by
   intro x hx';simp only [List.mem_map,List.mem_range] at hx';obtain ⟨i,hi,rfl⟩:=hx';exact ⟨(hF i (by omega)).1,hlen i (by omega)⟩
  refine ⟨(List.range n).map F,by simp,⟨?_,?_,fun _=>⟨a,rfl,?_⟩⟩,hmem,hl,hm⟩
  ·rw [vH R size _ (fun x hx'=>(hmem x hx').2)];simp
  ·intro u hu;rw [List.mem_flatMap] at hu;obtain ⟨x,h1,h2⟩:=hu;exact one x (hmem x h1).1 u h2
  ·intro j u hu;obtain ⟨x,h1,h2⟩:=vG R size hs _ (fun x hx'=>(hmem x hx').2) j u hu;rw [List.getElem?_map,Option.map_eq_some_iff] at h1;obtain ⟨i,hi,rfl⟩:=h1;have hi2:j / size < n∧i=j / size:=by
    obtain ⟨h1,h2⟩:=List.getElem?_eq_some_iff.1 hi;simp at h1 h2;exact ⟨h1,h2.symm⟩
   obtain ⟨hjn,rfl⟩:=hi2;obtain ⟨_,_,h4⟩:=World.cells?_some (hF (j / size) (by omega)).2;have h5:=h4 (j % size) (by rw [hc];exact Nat.mod_lt _ hs);rw [add_add,hc,Nat.div_add_mod' j size] at h5;rw [h5];exact h2

theorem vI {e:TypeId} {fs:Array Field} {m:Nat} {cs:List Value} {y:DataW H × List MemPlace} (he:P.underlying e=some (.struct fs)) (hone:oneCellFields P fs=true) (hC:P.cellsOf e=fs.size)
  (h:DataW.trod enc P w base (fun _=>true) held m e cs=some y) :
  cs.length=fs.size∧∃ n,∀ (j:Nat) (f:Field),fs[j]?=some f→∃ (v:Value) (z:DataW H × List MemPlace),cs[j]?=some v∧DataW.trod enc P w base (fun _=>true) held n f.type [v]=some z:=by
 obtain ⟨ys,n',_,_,hl,hyl,hf⟩:=DataW.trod_struct he h;have hcl:cs.length=fs.size:=by rw [←hC];exact hl
 refine ⟨hcl,n',fun j f hj=>?_⟩;obtain ⟨ho,hk⟩:=hone_of hone j f hj;have hjl:j < fs.size:=(Array.getElem?_eq_some_iff.1 hj).1;have h1:=hf j f hj;rw [ho,hk] at h1;have hone':(cs.drop j).take 1=[cs[j]'(by omega)]:=by
  rw [List.drop_eq_getElem_cons (by omega)];rfl
 rw [hone'] at h1;have hys:ys[j]?=some (ys[j]'(by omega)):=List.getElem?_eq_getElem (by omega);exact ⟨_,_,List.getElem?_eq_getElem (by omega),h1.trans hys⟩
end
end Go.CH
namespace Go.CH.Scr

abbrev Bs:=List UInt8
def bM:Bs:=[97,98,99,100,101,102,103,104,105,106,107,108,109,110,111,112,113,114,115,116,117,118,119,120,121,122]
def nX:Bs:=[39,96,94]
def Cq:Bs:=[98,100,102,103,104,106,107,108,109,110,112,113,114,115,116,119,120,121,122,39]
def qC:Bs:=[97,105,117,101,111]
def Cr:Bs:=[107,115,116,110,104,109,121,114,119,103,122,100,98,112]

def has (S:Bs):Option UInt8→Bool
 | none=>false
 | some c=>S.contains c
def low (c:UInt8):UInt8:=if 65≤c∧c≤90 then c+32 else c

def lg (k:Int) (a:UInt8) (b:Option UInt8):Nat :=
 if k=1 then (if has bM (some a) then 1 else 0)
 else if k=2 then (if has bM (some (low a)) then (if has nX b then 2 else 1) else 0)
 else if k=3 then (if has Cq (some a) then 1 else 0)
 else if k=4 then (if has Cr (some a) && has qC b then 2 else if has qC (some a) || has [110] (some a) then 1 else 0)
 else 0

def len1 (k:Int):Bs→Nat
 | []=>0
 | a :: l=>lg k a l.head?

def sec (k:Int):Bs:=if k=2 then nX else if k=4 then qC else []
section
variable {k:Int} {a:UInt8} {b:Option UInt8} {l:Bs}
theorem wV:lg k a b≤2:=by
 unfold lg
 repeat' split
 all_goals omega
theorem rT {S:Bs}:has S none=false:=rfl

theorem Bf (h:lg k a b=2):has (sec k) b=true:=by
 unfold lg at h;unfold sec;by_cases h1:k=1
 ·rw [if_pos h1] at h;split at h <;> omega
 rw [if_neg h1] at h;by_cases h2:k=2
 ·rw [if_pos h2] at h ⊢;split at h
  ·split at h
   ·assumption
   ·omega
  ·omega
 rw [if_neg h2] at h ⊢;by_cases h3:k=3
 ·rw [if_pos h3] at h;split at h <;> omega
 rw [if_neg h3] at h;by_cases h4:k=4
 ·rw [if_pos h4] at h ⊢;split at h
  ·rename_i hh;simp at hh;exact hh.2
  ·split at h <;> omega
 ·rw [if_neg h4] at h;omega

theorem G9 (h:lg k a b=1):lg k a none=1:=by
 unfold lg at *
 by_cases h1:k=1
 ·simp [h1] at h ⊢;exact h
 by_cases h2:k=2
 ·simp [h2] at h ⊢;split at h
  ·rename_i hh;simp [hh,rT]
  ·omega
 by_cases h3:k=3
 ·simp [h3] at h ⊢;exact h
 by_cases h4:k=4
 ·simp [h4] at h ⊢;simp [rT];split at h
  ·omega
  ·split at h
   ·rename_i hh;intro h9;rcases hh with hh | hh
    ·rw [hh] at h9;cases h9
    ·exact hh
   ·omega
 ·simp [h1,h2,h3,h4] at h
theorem iq {S:Bs} {c:UInt8}:has S (some c)=true↔c ∈ S:=by simp [has]
theorem mP:len1 k l≤l.length:=by
 cases l with
 | nil=>exact Nat.le_refl _
 | cons a l =>
  show lg k a l.head?≤l.length+1
  have h:=wV (k:=k) (a:=a) (b:=l.head?);rcases Nat.lt_or_ge (lg k a l.head?) 2 with h2 | h2
  ·omega
  ·have h3:=Bf (show lg k a l.head?=2 by omega);cases l with
   | nil=>rw [show ([]:Bs).head?=none from rfl,rT] at h3;cases h3
   | cons b l=>simp at *;omega

def spl (k:Int):Nat→Bs→List Bs × Bs
 | 0,l=>([],l)
 | f+1,l=>if len1 k l=0 then ([],l) else (l.take (len1 k l) :: (spl k f (l.drop (len1 k l))).1,(spl k f (l.drop (len1 k l))).2)
def aM (k:Int) (l:Bs):List Bs × Bs:=spl k l.length l
theorem LG:∀ (f g:Nat) (l:Bs),l.length≤f→l.length≤g→spl k f l=spl k g l:=by
 intro f
 induction f with
 | zero =>
  intro g l hf hg;obtain rfl:l=[]:=List.eq_nil_of_length_eq_zero (by omega);cases g with
  | zero=>rfl
  | succ g=>rfl
 | succ f ih =>
  intro g l hf hg;cases g with
  | zero =>
   obtain rfl:l=[]:=List.eq_nil_of_length_eq_zero (by omega);rfl
  | succ g =>
   unfold spl;by_cases h:len1 k l=0
   ·rw [if_pos h,if_pos h]
   ·rw [if_neg h,if_neg h];have hl:=List.length_drop (i:=len1 k l) (l:=l);have e:=ih g (l.drop (len1 k l)) (by omega) (by omega);rw [e]
theorem dL (h:len1 k l=0):aM k l=([],l):=by
 unfold aM;cases hl:l.length with
 | zero=>rfl
 | succ n=>unfold spl;rw [if_pos h]
theorem eH (h:len1 k l≠0):aM k l=(l.take (len1 k l) :: (aM k (l.drop (len1 k l))).1,(aM k (l.drop (len1 k l))).2):=by
 have hl:=mP (k:=k) (l:=l);have hd:=List.length_drop (i:=len1 k l) (l:=l);unfold aM;obtain ⟨n,hn⟩:∃ n,l.length=n+1:=⟨l.length - 1,by omega⟩;rw [hn]
 conv=>lhs;unfold spl
 rw [if_neg h];have e:=LG (k:=k) n (l.drop (len1 k l)).length (l.drop (len1 k l)) (by omega) (Nat.le_refl _);rw [e]

theorem kL {P:Bs→Prop} (h0:∀ l,len1 k l=0→P l) (h1:∀ l,len1 k l≠0→P (l.drop (len1 k l))→P l) (l:Bs):P l:=by
 have key:∀ n (l:Bs),l.length≤n→P l:=by
  intro n
  induction n with
  | zero =>
   intro l hl;obtain rfl:l=[]:=List.eq_nil_of_length_eq_zero (by omega);exact h0 [] rfl
  | succ n ih =>
   intro l hl;by_cases h:len1 k l=0
   ·exact h0 l h
   ·have hd:=List.length_drop (i:=len1 k l) (l:=l);exact h1 l h (ih _ (by omega))
 exact key l.length l (Nat.le_refl _)
theorem zL (l:Bs):(aM k l).1.flatten ++ (aM k l).2=l:=by
 refine kL (k:=k) (P:=fun l=>(aM k l).1.flatten ++ (aM k l).2=l) (fun l h=>?_) (fun l h ih=>?_) l
 ·show (aM k l).1.flatten ++ (aM k l).2=l
  rw [dL h];rfl
 ·show (aM k l).1.flatten ++ (aM k l).2=l
  rw [eH h]
  show (l.take (len1 k l) ++ (aM k (l.drop (len1 k l))).1.flatten) ++ (aM k (l.drop (len1 k l))).2=l
  rw [List.append_assoc,ih,List.take_append_drop]

def word (k:Int) (l:Bs):Bool:=decide ((aM k l).2=[]) && (decide (1≤(aM k l).1.length) && decide ((aM k l).1.length≤12))
theorem dz:word k l=true↔(aM k l).2=[]∧1≤(aM k l).1.length∧(aM k l).1.length≤12:=by
 unfold word;simp
theorem zM (h:word k l=true):(aM k l).1.flatten=l:=by
 have:=zL (k:=k) l;rw [(dz.1 h).1,List.append_nil] at this;exact this

theorem Jk (h:len1 k l≠0):len1 k (l.take (len1 k l))=len1 k l:=by
 cases l with
 | nil=>exact absurd rfl h
 | cons a l =>
  have hle:=wV (k:=k) (a:=a) (b:=l.head?);have h':lg k a l.head?≠0:=h
  show len1 k ((a :: l).take (lg k a l.head?))=lg k a l.head?
  rcases Nat.lt_or_ge (lg k a l.head?) 2 with h2 | h2
  ·have h1:lg k a l.head?=1:=by omega
   rw [h1];exact G9 h1
  ·have h1:lg k a l.head?=2:=by omega
   rw [h1];cases l with
   | nil=>rw [show ([]:Bs).head?=none from rfl] at h1;have:=Bf h1;rw [rT] at this;cases this
   | cons b l=>exact h1
theorem Ct (h:len1 k l≠0):aM k (l.take (len1 k l))=([l.take (len1 k l)],[]):=by
 have h1:=Jk h;have hlen:(l.take (len1 k l)).length=len1 k l:=by rw [List.length_take];have:=mP (k:=k) (l:=l);omega
 rw [eH (by rw [h1];exact h),h1,List.take_of_length_le (by omega),List.drop_of_length_le (by omega),dL (by rfl)]
theorem uH (l:Bs):∀ x ∈ (aM k l).1,aM k x=([x],[]):=by
 refine kL (k:=k) (P:=fun l=>∀ x ∈ (aM k l).1,aM k x=([x],[])) (fun l h=>?_) (fun l h ih=>?_) l
 ·show ∀ x ∈ (aM k l).1,_
  rw [dL h];intro x hx;cases hx
 ·show ∀ x ∈ (aM k l).1,_
  rw [eH h];intro x hx;rcases List.mem_cons.1 hx with rfl | hx
  ·exact Ct h
  ·exact ih x hx
end
end Go.CH.Scr
namespace Go.CH.Scr
section
variable {k:Int} {a b l:Bs}
theorem EY (h:word k b=true):len1 k b≠0:=by
 intro h0;have:=dz.1 h;rw [dL h0] at this;simp at this

def lower (l:Bs):Bs:=l.map low
theorem He (c:UInt8):low (low c)=low c:=by
 unfold low;by_cases h:65≤c∧c≤90
 ·rw [if_pos h,if_neg];rintro ⟨h1,h2⟩;obtain ⟨g1,g2⟩:=h;have a1:=UInt8.le_iff_toNat_le.1 g1;have a2:=UInt8.le_iff_toNat_le.1 g2;have a3:=UInt8.le_iff_toNat_le.1 h2;rw [UInt8.toNat_add] at a3;simp at a1 a2 a3;omega
 ·rw [if_neg h,if_neg h]
theorem Jl:∀ c ∈ bM,low c=c:=by decide
theorem Pb:∀ c ∈ Cq,c=39∨c ∈ bM:=by decide
theorem Hf:∀ c ∈ qC,c ∈ bM:=by decide
theorem Pd:∀ c ∈ Cr,c ∈ bM:=by decide

theorem Jm {x:UInt8} {y:Option UInt8} (hk:k≠2) (h:lg k x y≠0):(x ∈ bM∨(k=3∧x=39))∧(lg k x y=2→∃ z,y=some z∧z ∈ bM):=by
 unfold lg at h ⊢;by_cases h1:k=1
 ·simp only [h1,if_true] at h ⊢;refine ⟨.inl ?_,fun h2=>?_⟩
  ·by_cases h3:has bM (some x)=true
   ·exact iq.1 h3
   ·rw [if_neg h3] at h;exact absurd rfl h
  ·split at h2 <;> omega
 rw [if_neg h1,if_neg hk] at h ⊢;by_cases h3:k=3
 ·simp only [h3,if_true] at h ⊢;refine ⟨?_,fun h2=>?_⟩
  ·by_cases h4:has Cq (some x)=true
   ·rcases Pb x (iq.1 h4) with h5 | h5
    ·exact .inr ⟨trivial,h5⟩
    ·exact .inl h5
   ·rw [if_neg h4] at h;exact absurd rfl h
  ·split at h2 <;> omega
 rw [if_neg h3] at h ⊢;by_cases h4:k=4
 ·simp only [h4,if_true] at h ⊢;by_cases h5:(has Cr (some x) && has qC y)=true
  ·rw [if_pos h5] at h ⊢;simp only [Bool.and_eq_true] at h5;refine ⟨.inl (Pd x (iq.1 h5.1)),fun _=>?_⟩;cases y with
   | none=>simp [has] at h5
   | some z=>exact ⟨z,rfl,Hf z (iq.1 h5.2)⟩
  ·rw [if_neg h5] at h ⊢;refine ⟨.inl ?_,fun h2=>by split at h2 <;> omega⟩;by_cases h6:(has qC (some x) || has [110] (some x))=true
   ·rw [Bool.or_eq_true] at h6;rcases h6 with h6 | h6
    ·exact Hf x (iq.1 h6)
    ·have:x=110:=by simpa [has] using h6
     subst this;decide
   ·rw [if_neg h6] at h;exact absurd rfl h
 ·rw [if_neg h4] at h;exact absurd rfl h
theorem EZ (hk:k≠2):∀ l:Bs,(aM k l).2=[]→∀ c ∈ l,c ∈ bM∨(k=3∧c=39):=by
 intro l;refine kL (k:=k) (P:=fun l=>(aM k l).2=[]→∀ c ∈ l,c ∈ bM∨(k=3∧c=39)) (fun l h=>?_) (fun l h ih=>?_) l
 ·intro hr;rw [dL h] at hr;obtain rfl:l=[]:=hr;intro c hc;cases hc
 ·intro hr c hc;rw [eH h] at hr;have ih:=ih hr;cases l with
  | nil=>exact absurd rfl h
  | cons x t =>
   have h0:lg k x t.head?≠0:=h;obtain ⟨b1,b2⟩:=Jm hk h0;rcases List.mem_cons.1 hc with rfl | hc
   ·exact b1
   ·have hle:=wV (k:=k) (a:=x) (b:=t.head?);by_cases h2:lg k x t.head?=2
    ·obtain ⟨z,hz,hz2⟩:=b2 h2;cases t with
     | nil=>cases hc
     | cons y t =>
      have:y=z:=by simpa using hz
      subst this;rcases List.mem_cons.1 hc with rfl | hc
      ·exact .inl hz2
      ·refine ih c ?_
       show c ∈ (x :: y :: t).drop (lg k x (y :: t).head?)
       rw [h2];exact hc
    ·refine ih c ?_
     show c ∈ (x :: t).drop (lg k x t.head?)
     rw [show lg k x t.head?=1 by omega];exact hc
theorem Cu (hk:k≠2) (h:(aM k l).2=[]):lower l=l:=by
 have:=EZ hk l h;unfold lower
 conv=>rhs;rw [←List.map_id l]
 refine List.map_congr_left fun c hc=>?_;rcases this c hc with h1 | ⟨_,h1⟩
 ·exact Jl c h1
 ·subst h1;decide
theorem Pe (c:UInt8):has nX (some (low c))=has nX (some c):=by
 unfold low;by_cases h:65≤c∧c≤90
 ·rw [if_pos h];obtain ⟨g1,g2⟩:=h;have a1:=UInt8.le_iff_toNat_le.1 g1;have a2:=UInt8.le_iff_toNat_le.1 g2;simp at a1 a2;have e1:has nX (some c)=false:=by
   cases hh:has nX (some c) with
   | false=>rfl
   | true =>
    have hm:=iq.1 hh;have key:∀ c ∈ nX,¬ (65≤c.toNat∧c.toNat≤90):=by decide
    exact absurd ⟨a1,a2⟩ (key c hm)
  have e2:has nX (some (c+32))=false:=by
   cases hh:has nX (some (c+32)) with
   | false=>rfl
   | true =>
    have hm:=iq.1 hh;have key:∀ c ∈ nX,¬ (97≤c.toNat∧c.toNat≤122):=by decide
    refine absurd ?_ (key _ hm);rw [UInt8.toNat_add];simp;omega
  rw [e1,e2]
 ·rw [if_neg h]
theorem qQ (l:Bs):len1 2 (lower l)=len1 2 l:=by
 cases l with
 | nil=>rfl
 | cons x t =>
  show lg 2 (low x) (lower t).head?=lg 2 x t.head?
  unfold lg;simp only [show ¬ (2:Int)=1 by decide,if_false,if_true,He];cases t with
  | nil=>rfl
  | cons y t =>
   show (if has bM (some (low x))=true then if has nX (some (low y))=true then 2 else 1 else 0)=if has bM (some (low x))=true then if has nX (some y)=true then 2 else 1 else 0
   rw [Pe]
theorem Cv (l:Bs):aM 2 (lower l)=((aM 2 l).1.map lower,lower (aM 2 l).2):=by
 refine kL (k:=2) (P:=fun l=>aM 2 (lower l)=((aM 2 l).1.map lower,lower (aM 2 l).2)) (fun l h=>?_) (fun l h ih=>?_) l
 ·show aM 2 (lower l)=_
  rw [dL h,dL (by rw [qQ];exact h)];rfl
 ·show aM 2 (lower l)=_
  rw [eH h,eH (l:=lower l) (by rw [qQ];exact h),qQ];have e1:(lower l).take (len1 2 l)=lower (l.take (len1 2 l)):=by unfold lower;rw [List.map_take]
  have e2:(lower l).drop (len1 2 l)=lower (l.drop (len1 2 l)):=by unfold lower;rw [List.map_drop]
  rw [e1,e2,ih];rfl
theorem Bg (hk:k≠2) (h:(aM k l).2=[]):(aM k l).1.map lower=(aM k l).1:=by
 conv=>rhs;rw [←List.map_id (aM k l).1]
 refine List.map_congr_left fun x hx=>?_;have:=uH (k:=k) l x hx;exact Cu hk (by rw [this])

theorem Bh (h:word k l=true):aM k (lower l)=((aM k l).1.map lower,[]):=by
 have h1:=(dz.1 h).1;by_cases hk:k=2
 ·subst hk;rw [Cv,h1];rfl
 ·rw [Cu hk h1,Bg hk h1,←h1]
theorem fU (h:word k l=true):word k (lower l)=true:=by
 have h1:=dz.1 h;refine dz.2 ?_;rw [Bh h];exact ⟨rfl,by show 1≤((aM k l).1.map lower).length;rw [List.length_map];exact h1.2.1,by show ((aM k l).1.map lower).length≤12;rw [List.length_map];exact h1.2.2⟩

end
end Go.CH.Scr
namespace Go.CH.Scr

inductive UJ where
 | ok (ws:List Bs)
 | err (e at_:Int)
deriving DecidableEq
section
variable {k:Int} {l:Bs} {ws:List Bs} {cur:Bs} {cnt o:Nat}
end
end Go.CH.Scr
namespace Go.CH.Scr
section
variable {k:Int}

theorem LH {l:Bs} {j:Nat} (h:len1 k l≠0) (hj:len1 k l≤j):len1 k (l.take j)=len1 k l:=by
 cases l with
 | nil=>exact absurd rfl h
 | cons a t =>
  have h':lg k a t.head?≠0:=h;have hj':lg k a t.head?≤j:=hj;have hle:=wV (k:=k) (a:=a) (b:=t.head?);obtain ⟨j',rfl⟩:∃ j',j=j'+1:=⟨j - 1,by omega⟩
  show lg k a (t.take j').head?=lg k a t.head?
  cases t with
  | nil=>simp
  | cons b t =>
   cases j' with
   | zero =>
    have h1:lg k a (some b)=1:=by
     have:lg k a (some b)=lg k a (b :: t).head?:=rfl;omega
    show lg k a none=lg k a (some b)
    rw [h1];exact G9 h1
   | succ j'=>rfl

def same:UJ→UJ→Prop
 | .ok a,.ok b=>a=b
 | .err e _,.err e' _=>e=e'
 | _,_=>False

def ctx (k:Int):List Bs→Bs→Prop
 | [],_=>True
 | x :: xs,r=>x≠[]∧len1 k (x ++ (xs.flatten ++ r))=x.length∧ctx k xs r

def behind (r:Bs):Prop:=r=[]∨r.head?=some 32
def Cw (k:Int) (ws:List Bs):Prop:=∀ w ∈ ws,word k w=true

def bytes:List Bs→Nat
 | []=>0
 | w :: ws=>w.length+1+bytes ws

def join:List Bs→Bs
 | []=>[]
 | [w]=>w
 | w :: v :: ws=>w ++ 32 :: join (v :: ws)
end
end Go.CH.Scr
namespace Go.CH.Scr
structure bq where
 k:Int
 ws:List Bs
def LJ:bq:=⟨0,[]⟩
def RU:Bs:=[112,108,97,105,110]
def RX:Bs:=[99,97,115,101,100]
def RY:Bs:=[97,98,106,97,100]
def Pf:Bs:=[115,121,108,108,97,98]
def dx (n:bq):Bool:=n.ws.all (word n.k) && (decide (0 < n.ws.length) && decide (n.ws.length≤6))

def pre (t:Bs):Int × Nat :=
 if (RU ++ [58]).isPrefixOf t then (1,6) else if (RX ++ [58]).isPrefixOf t then (2,6)
 else if (RY ++ [58]).isPrefixOf t then (3,6) else if (Pf ++ [58]).isPrefixOf t then (4,7) else (0,0)
def done (k:Int) (len:Nat):UJ→bq × Int × Int
 | .ok ws=>if ws=[] then (LJ,6,len) else (⟨k,ws⟩,0,0)
 | .err e at_=>(LJ,e,at_)
theorem bG {n:bq}:dx n=true↔Cw n.k n.ws∧0 < n.ws.length∧n.ws.length≤6:=by
 unfold dx Cw;rw [Bool.and_eq_true,Bool.and_eq_true,decide_eq_true_eq,decide_eq_true_eq,List.all_eq_true]
end Go.CH.Scr
namespace Go.Proofs
open Go.Shelf
def Tryz.vN:Go.Shelf.Ren:=⟨fun | 159=>51 | 165=>85 | 166=>86 | 167=>88 | 169=>87 | 230=>89 | 204=>90 | 240=>116 | 241=>117 | 197=>118 | 118=>119 | 168=>120 | 270=>121 | 262=>122 | 276=>144 | 277=>145 | 260=>146 | 242=>147 | 313=>148 | 278=>155 | 274=>156 | 275=>157 | n=>n,fun | 9=>9 | 4=>4 | 3=>3 | 5=>5 | 72=>152 | 0=>0 | 76=>156 | 75=>155 | 107=>161 | 70=>149 | 20=>20 | 37=>150 | 127=>203 | 21=>21 | 105=>204 | 164=>232 | 162=>238 | 203=>236 | 119=>243 | 46=>244 | 139=>247 | 138=>246 | 51=>248 | 160=>249 | 208=>256 | 206=>254 | 80=>158 | n=>n,fun | 13=>0 | 3=>2 | 4=>3 | n=>n⟩
theorem Tryz.Qs:Go.Proofs.Lays.n159 Tryz.prog Tryz.vN:={
 mixed:=by kernel_rfl
 f118:=Tryz.func119.trans (congrArg some (by kernel_rfl))
 f159:=Tryz.func51.trans (congrArg some (by kernel_rfl))
 f165:=Tryz.func85.trans (congrArg some (by kernel_rfl))
 f166:=Tryz.func86.trans (congrArg some (by kernel_rfl))
 f167:=Tryz.func88.trans (congrArg some (by kernel_rfl))
 f168:=Tryz.func120.trans (congrArg some (by kernel_rfl))
 f169:=Tryz.func87.trans (congrArg some (by kernel_rfl))
 f197:=Tryz.func118.trans (congrArg some (by kernel_rfl))
 f204:=Tryz.func90.trans (congrArg some (by kernel_rfl))
 f230:=Tryz.func89.trans (congrArg some (by kernel_rfl))
 f240:=Tryz.func116.trans (congrArg some (by kernel_rfl))
 f241:=Tryz.func117.trans (congrArg some (by kernel_rfl))
 f242:=Tryz.func147.trans (congrArg some (by kernel_rfl))
 f260:=Tryz.func146.trans (congrArg some (by kernel_rfl))
 f262:=Tryz.func122.trans (congrArg some (by kernel_rfl))
 f270:=Tryz.func121.trans (congrArg some (by kernel_rfl))
 f274:=Tryz.func156.trans (congrArg some (by kernel_rfl))
 f275:=Tryz.func157.trans (congrArg some (by kernel_rfl))
 f276:=Tryz.func144.trans (congrArg some (by kernel_rfl))
 f277:=Tryz.func145.trans (congrArg some (by kernel_rfl))
 f278:=Tryz.func155.trans (congrArg some (by kernel_rfl))
 f313:=Tryz.func148.trans (congrArg some (by kernel_rfl))
 t0:=Tryz.underlying0
 a0:=Tryz.isAgg0
 z0:=Tryz.sizeOf0
 v0:=Tryz.zeroValue0
 t3:=Tryz.underlying3
 a3:=Tryz.isAgg3
 z3:=Tryz.sizeOf3
 v3:=Tryz.zeroValue3
 t4:=Tryz.underlying4
 a4:=Tryz.isAgg4
 z4:=Tryz.sizeOf4
 v4:=Tryz.zeroValue4
 t5:=Tryz.underlying5
 a5:=Tryz.isAgg5
 z5:=Tryz.sizeOf5
 v5:=Tryz.zeroValue5
 t9:=Tryz.underlying9
 a9:=Tryz.isAgg9
 z9:=Tryz.sizeOf9
 v9:=Tryz.zeroValue9
 t20:=Tryz.underlying20
 a20:=Tryz.isAgg20
 z20:=Tryz.sizeOf20
 v20:=Tryz.zeroValue20
 t21:=Tryz.underlying21
 a21:=Tryz.isAgg21
 z21:=Tryz.sizeOf21
 v21:=Tryz.zeroValue21
 t37:=Tryz.underlying150
 a37:=Tryz.isAgg150
 z37:=Tryz.sizeOf150
 v37:=Tryz.zeroValue150
 t46:=Tryz.underlying244
 a46:=Tryz.isAgg244
 z46:=Tryz.sizeOf244
 v46:=Tryz.zeroValue244
 t51:=Tryz.underlying248
 a51:=Tryz.isAgg248
 z51:=Tryz.sizeOf248
 v51:=Tryz.zeroValue248
 t70:=Tryz.underlying149
 a70:=Tryz.isAgg149
 z70:=Tryz.sizeOf149
 v70:=Tryz.zeroValue149
 t72:=Tryz.underlying152
 a72:=Tryz.isAgg152
 z72:=Tryz.sizeOf152
 v72:=Tryz.zeroValue152
 t75:=Tryz.underlying155
 a75:=Tryz.isAgg155
 z75:=Tryz.sizeOf155
 v75:=Tryz.zeroValue155
 t76:=Tryz.underlying156
 a76:=Tryz.isAgg156
 z76:=Tryz.sizeOf156
 v76:=Tryz.zeroValue156
 t105:=Tryz.underlying204
 a105:=Tryz.isAgg204
 z105:=Tryz.sizeOf204
 v105:=Tryz.zeroValue204
 t107:=Tryz.underlying161
 a107:=Tryz.isAgg161
 z107:=Tryz.sizeOf161
 v107:=Tryz.zeroValue161
 t119:=Tryz.underlying243
 a119:=Tryz.isAgg243
 z119:=Tryz.sizeOf243
 t127:=Tryz.underlying203
 a127:=Tryz.isAgg203
 z127:=Tryz.sizeOf203
 v127:=Tryz.zeroValue203
 t138:=Tryz.underlying246
 a138:=Tryz.isAgg246
 z138:=Tryz.sizeOf246
 v138:=Tryz.zeroValue246
 t139:=Tryz.underlying247
 a139:=Tryz.isAgg247
 z139:=Tryz.sizeOf247
 v139:=Tryz.zeroValue247
 t160:=Tryz.underlying249
 a160:=Tryz.isAgg249
 z160:=Tryz.sizeOf249
 v160:=Tryz.zeroValue249
 t162:=Tryz.underlying238
 a162:=Tryz.isAgg238
 z162:=Tryz.sizeOf238
 v162:=Tryz.zeroValue238
 t164:=Tryz.underlying232
 a164:=Tryz.isAgg232
 z164:=Tryz.sizeOf232
 v164:=Tryz.zeroValue232
 t203:=Tryz.underlying236
 a203:=Tryz.isAgg236
 z203:=Tryz.sizeOf236
 v203:=Tryz.zeroValue236
 t206:=Tryz.underlying254
 a206:=Tryz.isAgg254
 z206:=Tryz.sizeOf254
 v206:=Tryz.zeroValue254
 t208:=Tryz.underlying256
 a208:=Tryz.isAgg256
 z208:=Tryz.sizeOf256
 v208:=Tryz.zeroValue256
 g3:=by kernel_rfl
 g4:=by kernel_rfl
 g13:=by kernel_rfl }
theorem Tryz.tL:Builder.Extra Tryz.prog Tryz.vN:={
 sizeBuilder:=by kernel_rfl
 liesBuilder:=by kernel_rfl
 t5:=Tryz.underlying5
 a5:=Tryz.isAgg5
 z5:=Tryz.sizeOf5
 v5:=Tryz.zeroValue5
 infoByte:=by kernel_rfl
 cellsByte:=by kernel_rfl
 sizeByte:=by kernel_rfl
 neB5:=by decide }
def Tryz.vO:Go.Shelf.Ren:=⟨fun | 156=>49 | 165=>85 | 166=>86 | 169=>87 | 240=>116 | 241=>117 | 276=>144 | 277=>145 | n=>n,fun | 31=>26 | 9=>9 | 3=>3 | 4=>4 | 0=>0 | 20=>20 | 72=>152 | 76=>156 | 70=>149 | 37=>150 | 75=>155 | 127=>203 | 164=>232 | 5=>5 | 80=>158 | n=>n,fun | n=>n⟩
theorem Tryz.IE:Go.Proofs.Lays.n156 Tryz.prog Tryz.vO:={
 mixed:=by kernel_rfl
 f156:=Tryz.func49.trans (congrArg some (by kernel_rfl))
 f165:=Tryz.func85.trans (congrArg some (by kernel_rfl))
 f166:=Tryz.func86.trans (congrArg some (by kernel_rfl))
 f169:=Tryz.func87.trans (congrArg some (by kernel_rfl))
 f240:=Tryz.func116.trans (congrArg some (by kernel_rfl))
 f241:=Tryz.func117.trans (congrArg some (by kernel_rfl))
 f276:=Tryz.func144.trans (congrArg some (by kernel_rfl))
 f277:=Tryz.func145.trans (congrArg some (by kernel_rfl))
 t0:=Tryz.underlying0
 a0:=Tryz.isAgg0
 z0:=Tryz.sizeOf0
 v0:=Tryz.zeroValue0
 t3:=Tryz.underlying3
 a3:=Tryz.isAgg3
 z3:=Tryz.sizeOf3
 v3:=Tryz.zeroValue3
 t4:=Tryz.underlying4
 a4:=Tryz.isAgg4
 z4:=Tryz.sizeOf4
 v4:=Tryz.zeroValue4
 t9:=Tryz.underlying9
 a9:=Tryz.isAgg9
 z9:=Tryz.sizeOf9
 v9:=Tryz.zeroValue9
 t20:=Tryz.underlying20
 a20:=Tryz.isAgg20
 z20:=Tryz.sizeOf20
 v20:=Tryz.zeroValue20
 t31:=Tryz.underlying26
 a31:=Tryz.isAgg26
 z31:=Tryz.sizeOf26
 v31:=Tryz.zeroValue26
 t37:=Tryz.underlying150
 a37:=Tryz.isAgg150
 z37:=Tryz.sizeOf150
 v37:=Tryz.zeroValue150
 t70:=Tryz.underlying149
 a70:=Tryz.isAgg149
 z70:=Tryz.sizeOf149
 v70:=Tryz.zeroValue149
 t72:=Tryz.underlying152
 a72:=Tryz.isAgg152
 z72:=Tryz.sizeOf152
 v72:=Tryz.zeroValue152
 t75:=Tryz.underlying155
 a75:=Tryz.isAgg155
 z75:=Tryz.sizeOf155
 v75:=Tryz.zeroValue155
 t76:=Tryz.underlying156
 a76:=Tryz.isAgg156
 z76:=Tryz.sizeOf156
 v76:=Tryz.zeroValue156
 t127:=Tryz.underlying203
 a127:=Tryz.isAgg203
 z127:=Tryz.sizeOf203
 v127:=Tryz.zeroValue203
 t164:=Tryz.underlying232
 a164:=Tryz.isAgg232
 z164:=Tryz.sizeOf232
 v164:=Tryz.zeroValue232 }
theorem Tryz.lJ:Builder.Extra Tryz.prog Tryz.vO:={
 sizeBuilder:=by kernel_rfl
 liesBuilder:=by kernel_rfl
 t5:=Tryz.underlying5
 a5:=Tryz.isAgg5
 z5:=Tryz.sizeOf5
 v5:=Tryz.zeroValue5
 infoByte:=by kernel_rfl
 cellsByte:=by kernel_rfl
 sizeByte:=by kernel_rfl
 neB5:=by decide }
open Go.RowKit in

theorem Tryz.strings_Join_none (a:Option Addr) (c:Nat) (sep:ByteArray) (w:World) :
  Calls Tryz.prog 49 #[.slice a 0 c,.string sep] w fun e w'=>e=.returned (.string ⟨#[]⟩)∧w'=w:=Any.strings_Join_none Tryz.IE Tryz.lJ a c sep w
open Go.RowKit in

theorem Tryz.strings_Join (bk o c:Nat) (xs:List ByteArray) (sep:ByteArray) (w:World) (hcells:∀ (j:Nat) x,xs[j]?=some x→w.cell? ⟨bk,o+j,none⟩=some (.string x)) (hbk:bk < w.heap.size) (hN:xs.length≤140737488355328) (hcap:xs.length≤c) (hlen:(Lib.join (xs.map (·.data.toList)) sep.data.toList).length≤140737488355328) :
  Calls Tryz.prog 49 #[.slice (some ⟨bk,o,none⟩) xs.length c,.string sep] w fun e w'=>e=.returned (.string ⟨(Lib.join (xs.map (·.data.toList)) sep.data.toList).toArray⟩)∧Below w.heap.size w w':=Any.strings_Join Tryz.IE Tryz.lJ bk o c xs sep w hcells hbk hN hcap hlen
def Tryz.D5:Go.Shelf.Ren:=⟨fun | 160=>115 | 232=>138 | 231=>137 | 227=>139 | 234=>141 | 233=>140 | 236=>143 | 235=>142 | 228=>152 | 271=>154 | 151=>153 | 197=>118 | 120=>161 | 152=>160 | 260=>146 | 137=>149 | 119=>163 | 224=>164 | 225=>165 | 217=>158 | 266=>162 | n=>n,fun | 9=>9 | 4=>4 | 3=>3 | 5=>5 | 117=>228 | 116=>227 | 0=>0 | 124=>231 | 21=>21 | 105=>204 | 46=>244 | 119=>243 | 139=>247 | 138=>246 | n=>n,fun | 3=>2 | 4=>3 | n=>n⟩
theorem Tryz.Qt:Go.Proofs.Lays.n160 Tryz.prog Tryz.D5:={
 mixed:=by kernel_rfl
 f119:=Tryz.func163.trans (congrArg some (by kernel_rfl))
 f120:=Tryz.func161.trans (congrArg some (by kernel_rfl))
 f137:=Tryz.func149.trans (congrArg some (by kernel_rfl))
 f151:=Tryz.func153.trans (congrArg some (by kernel_rfl))
 f152:=Tryz.func160.trans (congrArg some (by kernel_rfl))
 f160:=Tryz.func115.trans (congrArg some (by kernel_rfl))
 f197:=Tryz.func118.trans (congrArg some (by kernel_rfl))
 f217:=Tryz.func158.trans (congrArg some (by kernel_rfl))
 f224:=Tryz.func164.trans (congrArg some (by kernel_rfl))
 f225:=Tryz.func165.trans (congrArg some (by kernel_rfl))
 f227:=Tryz.func139.trans (congrArg some (by kernel_rfl))
 f228:=Tryz.func152.trans (congrArg some (by kernel_rfl))
 f231:=Tryz.func137.trans (congrArg some (by kernel_rfl))
 f232:=Tryz.func138.trans (congrArg some (by kernel_rfl))
 f233:=Tryz.func140.trans (congrArg some (by kernel_rfl))
 f234:=Tryz.func141.trans (congrArg some (by kernel_rfl))
 f235:=Tryz.func142.trans (congrArg some (by kernel_rfl))
 f236:=Tryz.func143.trans (congrArg some (by kernel_rfl))
 f260:=Tryz.func146.trans (congrArg some (by kernel_rfl))
 f266:=Tryz.func162.trans (congrArg some (by kernel_rfl))
 f271:=Tryz.func154.trans (congrArg some (by kernel_rfl))
 t0:=Tryz.underlying0
 a0:=Tryz.isAgg0
 z0:=Tryz.sizeOf0
 v0:=Tryz.zeroValue0
 t3:=Tryz.underlying3
 a3:=Tryz.isAgg3
 z3:=Tryz.sizeOf3
 v3:=Tryz.zeroValue3
 t4:=Tryz.underlying4
 a4:=Tryz.isAgg4
 z4:=Tryz.sizeOf4
 v4:=Tryz.zeroValue4
 t5:=Tryz.underlying5
 a5:=Tryz.isAgg5
 z5:=Tryz.sizeOf5
 v5:=Tryz.zeroValue5
 t9:=Tryz.underlying9
 a9:=Tryz.isAgg9
 z9:=Tryz.sizeOf9
 v9:=Tryz.zeroValue9
 t21:=Tryz.underlying21
 a21:=Tryz.isAgg21
 z21:=Tryz.sizeOf21
 v21:=Tryz.zeroValue21
 t46:=Tryz.underlying244
 a46:=Tryz.isAgg244
 z46:=Tryz.sizeOf244
 v46:=Tryz.zeroValue244
 t105:=Tryz.underlying204
 a105:=Tryz.isAgg204
 z105:=Tryz.sizeOf204
 v105:=Tryz.zeroValue204
 t116:=Tryz.underlying227
 a116:=Tryz.isAgg227
 z116:=Tryz.sizeOf227
 t117:=Tryz.underlying228
 a117:=Tryz.isAgg228
 z117:=Tryz.sizeOf228
 v117:=Tryz.zeroValue228
 t119:=Tryz.underlying243
 a119:=Tryz.isAgg243
 z119:=Tryz.sizeOf243
 t124:=Tryz.underlying231
 a124:=Tryz.isAgg231
 z124:=Tryz.sizeOf231
 v124:=Tryz.zeroValue231
 t138:=Tryz.underlying246
 a138:=Tryz.isAgg246
 z138:=Tryz.sizeOf246
 v138:=Tryz.zeroValue246
 t139:=Tryz.underlying247
 a139:=Tryz.isAgg247
 z139:=Tryz.sizeOf247
 v139:=Tryz.zeroValue247
 g3:=by kernel_rfl
 g4:=by kernel_rfl }
def Tryz.D6:Go.Shelf.Ren:=⟨fun | 137=>149 | 217=>158 | 266=>162 | n=>n,fun | 9=>9 | 5=>5 | 3=>3 | n=>n,fun | n=>n⟩
theorem Tryz.Qu:Go.Proofs.Lays.n137 Tryz.prog Tryz.D6:={
 mixed:=by kernel_rfl
 f137:=Tryz.func149.trans (congrArg some (by kernel_rfl))
 f217:=Tryz.func158.trans (congrArg some (by kernel_rfl))
 f266:=Tryz.func162.trans (congrArg some (by kernel_rfl))
 t3:=Tryz.underlying3
 a3:=Tryz.isAgg3
 z3:=Tryz.sizeOf3
 v3:=Tryz.zeroValue3
 t5:=Tryz.underlying5
 a5:=Tryz.isAgg5
 z5:=Tryz.sizeOf5
 v5:=Tryz.zeroValue5
 t9:=Tryz.underlying9
 a9:=Tryz.isAgg9
 z9:=Tryz.sizeOf9
 v9:=Tryz.zeroValue9 }
open Go.RowKit in

theorem Tryz.strings_IndexByte (s:ByteArray) (c:Int) (w:World) :
  Calls Tryz.prog 149 #[.string s,.int .u8 c] w fun e w'=>e=.returned (.int .i64 (Lib.indexByte s.data.toList c.toNat.toUInt8))∧w'=w:=Any.strings_IndexByte Tryz.Qu s c w
def Tryz.D7:Go.Shelf.Ren:=⟨fun | 103=>128 | 210=>150 | 206=>159 | n=>n,fun | 9=>9 | 4=>4 | 24=>217 | 3=>3 | n=>n,fun | n=>n⟩
theorem Tryz.Qv:Go.Proofs.Lays.n103 Tryz.prog Tryz.D7:={
 mixed:=by kernel_rfl
 f103:=Tryz.func128.trans (congrArg some (by kernel_rfl))
 f206:=Tryz.func159.trans (congrArg some (by kernel_rfl))
 f210:=Tryz.func150.trans (congrArg some (by kernel_rfl))
 t3:=Tryz.underlying3
 a3:=Tryz.isAgg3
 z3:=Tryz.sizeOf3
 v3:=Tryz.zeroValue3
 t4:=Tryz.underlying4
 a4:=Tryz.isAgg4
 z4:=Tryz.sizeOf4
 v4:=Tryz.zeroValue4
 t9:=Tryz.underlying9
 a9:=Tryz.isAgg9
 z9:=Tryz.sizeOf9
 v9:=Tryz.zeroValue9
 t24:=Tryz.underlying217
 a24:=Tryz.isAgg217
 z24:=Tryz.sizeOf217
 v24:=Tryz.zeroValue217 }
open Go.RowKit in

theorem Tryz.strings_CutPrefix (s p:ByteArray) (w:World) :
  Calls Tryz.prog 128 #[.string s,.string p] w fun e w'=>e=.returned (.tuple #[.string ⟨(Lib.trimPrefix s.data.toList p.data.toList).toArray⟩,.bool (Lib.hasPrefix s.data.toList p.data.toList)])∧w'=w:=Any.strings_CutPrefix Tryz.Qv s p w
def Tryz.oO:Go.Shelf.Ren:=⟨fun | 197=>118 | 260=>146 | n=>n,fun | 9=>9 | 21=>21 | 3=>3 | 4=>4 | 5=>5 | 105=>204 | 119=>243 | 0=>0 | 46=>244 | 139=>247 | 138=>246 | n=>n,fun | 3=>2 | 4=>3 | n=>n⟩
theorem Tryz.Qw:Go.Proofs.Lays.n197 Tryz.prog Tryz.oO:={
 mixed:=by kernel_rfl
 f197:=Tryz.func118.trans (congrArg some (by kernel_rfl))
 f260:=Tryz.func146.trans (congrArg some (by kernel_rfl))
 t0:=Tryz.underlying0
 a0:=Tryz.isAgg0
 z0:=Tryz.sizeOf0
 v0:=Tryz.zeroValue0
 t3:=Tryz.underlying3
 a3:=Tryz.isAgg3
 z3:=Tryz.sizeOf3
 v3:=Tryz.zeroValue3
 t4:=Tryz.underlying4
 a4:=Tryz.isAgg4
 z4:=Tryz.sizeOf4
 v4:=Tryz.zeroValue4
 t5:=Tryz.underlying5
 a5:=Tryz.isAgg5
 z5:=Tryz.sizeOf5
 v5:=Tryz.zeroValue5
 t9:=Tryz.underlying9
 a9:=Tryz.isAgg9
 z9:=Tryz.sizeOf9
 v9:=Tryz.zeroValue9
 t21:=Tryz.underlying21
 a21:=Tryz.isAgg21
 z21:=Tryz.sizeOf21
 v21:=Tryz.zeroValue21
 t46:=Tryz.underlying244
 a46:=Tryz.isAgg244
 z46:=Tryz.sizeOf244
 v46:=Tryz.zeroValue244
 t105:=Tryz.underlying204
 a105:=Tryz.isAgg204
 z105:=Tryz.sizeOf204
 v105:=Tryz.zeroValue204
 t119:=Tryz.underlying243
 a119:=Tryz.isAgg243
 z119:=Tryz.sizeOf243
 t138:=Tryz.underlying246
 a138:=Tryz.isAgg246
 z138:=Tryz.sizeOf246
 v138:=Tryz.zeroValue246
 t139:=Tryz.underlying247
 a139:=Tryz.isAgg247
 z139:=Tryz.sizeOf247
 v139:=Tryz.zeroValue247
 g3:=by kernel_rfl
 g4:=by kernel_rfl }
def Tryz.oP:Go.Shelf.Ren:=⟨fun | 262=>122 | 313=>148 | 274=>156 | 275=>157 | n=>n,fun | 3=>3 | 21=>21 | 162=>238 | 203=>236 | 4=>4 | 160=>249 | 46=>244 | 0=>0 | 208=>256 | 51=>248 | 206=>254 | n=>n,fun | 13=>0 | n=>n⟩
theorem Tryz.Qx:Go.Proofs.Lays.n262 Tryz.prog Tryz.oP:={
 mixed:=by kernel_rfl
 f262:=Tryz.func122.trans (congrArg some (by kernel_rfl))
 f274:=Tryz.func156.trans (congrArg some (by kernel_rfl))
 f275:=Tryz.func157.trans (congrArg some (by kernel_rfl))
 f313:=Tryz.func148.trans (congrArg some (by kernel_rfl))
 t0:=Tryz.underlying0
 a0:=Tryz.isAgg0
 z0:=Tryz.sizeOf0
 v0:=Tryz.zeroValue0
 t3:=Tryz.underlying3
 a3:=Tryz.isAgg3
 z3:=Tryz.sizeOf3
 v3:=Tryz.zeroValue3
 t4:=Tryz.underlying4
 a4:=Tryz.isAgg4
 z4:=Tryz.sizeOf4
 v4:=Tryz.zeroValue4
 t21:=Tryz.underlying21
 a21:=Tryz.isAgg21
 z21:=Tryz.sizeOf21
 v21:=Tryz.zeroValue21
 t46:=Tryz.underlying244
 a46:=Tryz.isAgg244
 z46:=Tryz.sizeOf244
 v46:=Tryz.zeroValue244
 t51:=Tryz.underlying248
 a51:=Tryz.isAgg248
 z51:=Tryz.sizeOf248
 v51:=Tryz.zeroValue248
 t160:=Tryz.underlying249
 a160:=Tryz.isAgg249
 z160:=Tryz.sizeOf249
 v160:=Tryz.zeroValue249
 t162:=Tryz.underlying238
 a162:=Tryz.isAgg238
 z162:=Tryz.sizeOf238
 v162:=Tryz.zeroValue238
 t203:=Tryz.underlying236
 a203:=Tryz.isAgg236
 z203:=Tryz.sizeOf236
 v203:=Tryz.zeroValue236
 t206:=Tryz.underlying254
 a206:=Tryz.isAgg254
 z206:=Tryz.sizeOf254
 v206:=Tryz.zeroValue254
 t208:=Tryz.underlying256
 a208:=Tryz.isAgg256
 z208:=Tryz.sizeOf256
 v208:=Tryz.zeroValue256
 g13:=by kernel_rfl }
open Go.RowKit Go.Lib in

theorem Tryz.strings_ToLower_any (s:ByteArray) (w:World) (hs:s.size < 35184372088832) (hV:CaseVar 0 caseA w) (hT:Lib.Utf8Tabs 2 3 w) :
  Calls Tryz.prog 51 #[.string s] w fun e w'=>e=.returned (.string ⟨(Lib.toLowerD s.data.toList).toArray⟩)∧Below w.heap.size w w':=Any.strings_ToLower_any Tryz.Qs Tryz.tL s w hs hV hT
end Go.Proofs
namespace Go.CH
open Go.RowKit
open Go.ChangeMaps (setBlock)

def Held (p:Prop):Prop:=p
theorem held {p:Prop} (h:Held p):p:=h
theorem Held.mk {p:Prop} (h:p):Held p:=h

theorem Src.open_ {w:World} {A:Option Addr} {n size:Nat} {xs:List Value} (h:Src w A n size xs) (hn:0 < n) (hs:0 < size) :
  ∃ b o,A=some ⟨b,o,none⟩∧∀ j u,xs[j]?=some u→w.cell? ⟨b,o+j,none⟩=some u:=by
 obtain ⟨ad,rfl,hc⟩:=h.2.2 hn;have hl:0 < xs.length:=by rw [h.1];exact Nat.mul_pos hn hs
 have h0:=hc 0 xs[0] (List.getElem?_eq_getElem hl);obtain ⟨b,o,sp⟩:=ad;have hsp:sp=none:=by
  cases sp with
  | none=>rfl
  | some x =>
   exfalso;simp only [Addr.add,if_true,World.cell?] at h0;split at h0 <;> simp at h0
 subst hsp;refine ⟨b,o,rfl,fun j u hu=>?_⟩;have:=hc j u hu;by_cases hj:j=0
 ·subst hj;simpa [Addr.add] using this
 ·simpa [Addr.add,hj] using this

def Own:=World→(Nat→Prop)→Prop
class Own.Ok (O:Own):Prop where
 lt:∀ {w F},O w F→∀ i,F i→i < w.heap.size
 keep:∀ {w w' F},O w F→(∀ i,F i→w'.heap[i]?=w.heap[i]?)→O w' F

def Post (w:World) (F:Nat→Prop) (R:Own) (w':World):Prop:=∃ F',R w' F'∧Mod F w w'∧∀ i,F' i→F i∨(w.heap.size≤i∧i < w'.heap.size)
def star (A B:Own):Own:=fun w F=>∃ F1 F2,A w F1∧B w F2∧(∀ i,F1 i→¬ F2 i)∧∀ i,F i↔F1 i∨F2 i
def emp:Own:=fun _ F=>∀ i,¬ F i

structure mF (N:Nat) (w0:World) (O:Own) (W:World):Prop where
 own:∃ F,O W F∧∀ i,F i→N≤i
 bI:Below N w0 W
 big:N≤w0.heap.size

theorem aB:emp.Ok:=⟨fun h i hi=>(h i hi).elim,fun h _=>h⟩
theorem aj {A B:Own} (ha:A.Ok) (hb:B.Ok):(star A B).Ok :=
 ⟨fun ⟨F1,F2,h1,h2,_,h4⟩ i hi=>((h4 i).1 hi).elim (ha.lt h1 i) (hb.lt h2 i),
  fun ⟨F1,F2,h1,h2,h3,h4⟩ hk=>⟨F1,F2,ha.keep h1 (fun i hi=>hk i ((h4 i).2 (.inl hi))),hb.keep h2 (fun i hi=>hk i ((h4 i).2 (.inr hi))),h3,h4⟩⟩

section
variable {N:Nat} {w0 W W':World} {A B C D O R:Own}
theorem mF.start (w:World):mF w.heap.size w emp w:=⟨⟨fun _=>False,fun _ h=>h,fun _ h=>h.elim⟩,Below.refl _ _,Nat.le_refl _⟩
theorem mF.size (h:mF N w0 O W):N≤W.heap.size:=Nat.le_trans h.big h.bI.size
theorem mF.below (h:mF N w0 O W) (ho:O.Ok) (hb:Below W.heap.size W W'):mF N w0 O W':=by
 obtain ⟨F,h1,h2⟩:=h.own;exact ⟨⟨F,ho.keep h1 (fun i hi=>hb.block i (ho.lt h1 i hi)),h2⟩,h.bI.trans (hb.mono h.size),h.big⟩

theorem mF.take (h:mF N w0 (star A B) W) (hb:B.Ok):∃ F,A W F∧(∀ i,F i→N≤i)∧∀ (R:Own) (W':World),Post W F R W'→mF N w0 (star R B) W':=by
 have hs:=h.size;obtain ⟨F,⟨F1,F2,h1,h2,h3,h4⟩,h5⟩:=h.own;refine ⟨F1,h1,fun i hi=>h5 i ((h4 i).2 (.inl hi)),fun R W' hp=>?_⟩;obtain ⟨F',g1,g2,g3⟩:=hp;refine ⟨⟨fun i=>F' i∨F2 i,⟨F',F2,g1,hb.keep h2 (fun i hi=>g2.block i (hb.lt h2 i hi) (fun hf=>h3 i hf hi)),fun i hi hi2=>?_,fun i=>Iff.rfl⟩,fun i hi=>?_⟩,?_,h.big⟩
 ·rcases g3 i hi with g | g
  ·exact h3 i g hi2
  ·have:=hb.lt h2 i hi2;omega
 ·rcases hi with hi | hi
  ·rcases g3 i hi with g | g
   ·exact h5 i ((h4 i).2 (.inl g))
   ·omega
  ·exact h5 i ((h4 i).2 (.inr hi))
 ·exact h.bI.trans ⟨g2.os,g2.tape,g2.output,g2.size,fun k hk=>g2.block k (by omega) (fun e=>by have:=h5 k ((h4 k).2 (.inl e));omega)⟩

theorem mF.fresh (h:mF N w0 O W) (ho:O.Ok) (hp:Post W (fun _=>False) R W'):mF N w0 (star R O) W':=by
 have hs:=h.size;obtain ⟨F,h1,h2⟩:=h.own;have h3:mF N w0 (star emp O) W:=⟨⟨F,⟨fun _=>False,F,fun _ h=>h,h1,fun _ h=>h.elim,fun i=>by simp⟩,h2⟩,h.bI,h.big⟩;obtain ⟨F0,e1,e2,e3⟩:=h3.take ho;refine e3 R W' ?_;obtain ⟨F',g1,g2,g3⟩:=hp;exact ⟨F',g1,g2.mono (fun _ _ h=>h.elim),fun i hi=>(g3 i hi).elim (fun h=>h.elim) .inr⟩
theorem mF.imp (h:mF N w0 A W) (hi:∀ w F,A w F→B w F):mF N w0 B W:=by
 obtain ⟨F,h1,h2⟩:=h.own;exact ⟨⟨F,hi _ _ h1,h2⟩,h.bI,h.big⟩
theorem gu {w:World} {F:Nat→Prop} (h:star A B w F):star B A w F:=by
 obtain ⟨F1,F2,h1,h2,h3,h4⟩:=h;exact ⟨F2,F1,h2,h1,fun i h g=>h3 i g h,fun i=>(h4 i).trans Or.comm⟩
theorem gZ {w:World} {F:Nat→Prop} (h:star A (star B C) w F):star B (star A C) w F:=by
 obtain ⟨F1,F2,h1,⟨F3,F4,h2,h3,h5,h6⟩,h7,h8⟩:=h;refine ⟨F3,fun i=>F1 i∨F4 i,h2,⟨F1,F4,h1,h3,fun i hi h4=>h7 i hi ((h6 i).2 (.inr h4)),fun i=>Iff.rfl⟩,fun i hi h=>?_,fun i=>?_⟩
 ·rcases h with h | h
  ·exact h7 i h ((h6 i).2 (.inl hi))
  ·exact h5 i hi h
 ·rw [h8,h6];constructor <;> rintro (h | h | h) <;> simp [h]
theorem bF {A' B':Own} {w:World} {F:Nat→Prop} (h:star A B w F) (ha:∀ F,A w F→A' w F) (hb:∀ F,B w F→B' w F):star A' B' w F:=by
 obtain ⟨F1,F2,h1,h2,h3,h4⟩:=h;exact ⟨F1,F2,ha _ h1,hb _ h2,h3,h4⟩
theorem iM {w:World} {F:Nat→Prop} (h:star A emp w F):A w F:=by
 obtain ⟨F1,F2,h1,h2,h3,h4⟩:=h;have:F1=F:=by funext i;exact propext ⟨fun h=>(h4 i).2 (.inl h),fun h=>((h4 i).1 h).elim id (fun h=>(h2 i h).elim)⟩
 exact this ▸ h1
theorem mF.swap (h:mF N w0 (star A B) W):mF N w0 (star B A) W:=h.imp fun _ _=>gu
theorem mF.mh (h:mF N w0 (star A (star B C)) W):mF N w0 (star B (star A C)) W:=h.imp fun _ _=>gZ
theorem mF.SC (h:mF N w0 (star A (star B (star C D))) W):mF N w0 (star C (star A (star B D))) W :=
 (h.imp fun _ _ h=>bF h (fun _ h=>h) (fun _ h=>gZ h)).mh
theorem mF.drop (h:mF N w0 (star A B) W):mF N w0 B W:=by
 obtain ⟨F,⟨F1,F2,h1,h2,h3,h4⟩,h5⟩:=h.own;exact ⟨⟨F2,h2,fun i hi=>h5 i ((h4 i).2 (.inr hi))⟩,h.bI,h.big⟩
theorem mF.fst (h:mF N w0 (star A B) W):∃ F,A W F∧∀ i,F i→N≤i:=by
 obtain ⟨F,⟨F1,F2,h1,h2,h3,h4⟩,h5⟩:=h.own;exact ⟨F1,h1,fun i hi=>h5 i ((h4 i).2 (.inl hi))⟩
theorem mF.one (h:mF N w0 A W):mF N w0 (star A emp) W:=by
 obtain ⟨F,h1,h2⟩:=h.own;exact ⟨⟨F,⟨F,fun _=>False,h1,fun _ h=>h,fun _ _ h=>h,fun i=>by simp⟩,h2⟩,h.bI,h.big⟩
theorem mF.cell (h:mF N w0 O W) {p:Addr} {u:Value} (hc:w0.cell? p=some u) (hp:p.block < N):W.cell? p=some u:=by rw [h.bI.cell hp];exact hc
theorem mF.src (h:mF N w0 O W) {A:Option Addr} {n size:Nat} {xs:List Value} (hs:Src w0 A n size xs) (hN:N=w0.heap.size):Src W A n size xs:=by
 subst hN;refine ⟨hs.1,hs.2.1,fun hn=>?_⟩;obtain ⟨ad,e,hc⟩:=hs.2.2 hn;exact ⟨ad,e,fun j u hu=>h.cell (hc j u hu) (World.block_lt_of_cell? _ _ (hc j u hu))⟩
end

theorem mF.last {N:Nat} {w0 W:World} {A B C:Own} (h:mF N w0 (star A (star B C)) W):mF N w0 (star C (star A B)) W :=
 (h.imp fun _ _ h=>bF h (fun _ h=>h) (fun _ h=>gu h)).mh

def au (g:Nat) (cs:Array Value) (t:TypeId):Own:=fun w F=>w.heap[g]?=some (.cells cs t (0,0))∧∀ i,F i↔i=g
theorem av {g:Nat} {cs:Array Value} {t:TypeId}:(au g cs t).Ok :=
 ⟨fun h i hi=>by rw [(h.2 i).1 hi];exact lt_of_block h.1,fun h hk=>⟨(hk g ((h.2 g).2 rfl)).trans h.1,h.2⟩⟩
theorem dJ (w:World) (cs:Array Value) (t:TypeId):Post w (fun _=>False) (au w.heap.size cs t) (w.alloc (.cells cs t)) :=
 ⟨fun i=>i=w.heap.size,⟨MO rfl,fun i=>Iff.rfl⟩,Mod.of_below ((Below.refl _ _).alloc (Nat.le_refl _) _),fun i hi=>.inr (by subst hi;simp)⟩

def aS (e:TypeId) (size:Nat) (v:Value) (n:Nat) (xs:List Value):Own:=fun w F=>w.ownsRow 0 e size v n xs∧∀ i,F i↔v.ownBlock=some i
theorem bA {e:TypeId} {size:Nat} {v:Value} {n:Nat} {xs:List Value}:(aS e size v n xs).Ok :=
 ⟨fun h i hi=>xW h.1 ((h.2 i).1 hi),fun h hk=>⟨uU h.1 (fun g hg=>hk g ((h.2 g).2 hg)),h.2⟩⟩
theorem fH (w:World) (e:TypeId) (size:Nat):aS e size (.slice none 0 0) 0 [] w (fun _=>False):=⟨World.ownsRow_nil _ _ _ _,fun i=>by simp [Value.ownBlock]⟩
theorem Nz {w:World} {b b':Nat} {e:TypeId} {size:Nat} {v:Value} {n:Nat} {xs:List Value} (h:w.ownsRow b e size v n xs) (hb:b'≤b):w.ownsRow b' e size v n xs :=
 ⟨h.1,h.2.imp id (fun ⟨g,cap,cur,h1,h2,h3⟩=>⟨g,cap,cur,h1,Nat.le_trans hb h2,h3⟩)⟩

theorem iA {W W':World} {F:Nat→Prop} {e:TypeId} {size:Nat} {v v':Value} {n n':Nat} {xs xs':List Value} (h:aS e size v n xs W F) (h1:W'.ownsRow 0 e size v' n' xs') (hg:W.grownBy W' v.ownBlock) (hv:v'.ownBlock=v.ownBlock∨v'.ownBlock=some W.heap.size) :
  Post W F (aS e size v' n' xs') W':=by
 refine ⟨fun i=>v'.ownBlock=some i,⟨h1,fun i=>Iff.rfl⟩,Mod.sH hg (fun k hk _=>(h.2 k).2 hk),fun i hi=>?_⟩;rcases hv with hv | hv
 ·exact .inl ((h.2 i).2 (hv ▸ hi))
 ·rw [hv] at hi;injection hi with hi;subst hi
  exact .inr ⟨Nat.le_refl _,xW h1 hv⟩

theorem qg {W W':World} {e:TypeId} {size:Nat} {v:Value} {n:Nat} {xs:List Value} (h:W'.ownsRow W.heap.size e size v n xs) (hb:Below W.heap.size W W'):Post W (fun _=>False) (aS e size v n xs) W' :=
 ⟨fun i=>v.ownBlock=some i,⟨Nz h (Nat.zero_le _),fun i=>Iff.rfl⟩,Mod.of_below hb,fun i hi=>.inr (h.lt i hi)⟩
theorem iT {W:World} {F:Nat→Prop} {e:TypeId} {size n c:Nat} {A:Option Addr} {xs:List Value} (h:aS e size (.slice A n c) n xs W F) (h1:∀ u ∈ xs,u.oneCell'=true):Src W A n size xs:=Src.Sw h.1 h1
theorem gy {W:World} {b:Nat} {e:TypeId} {size n:Nat} {v:Value} {xs:List Value} (h:W.ownsRow b e size v n xs):∃ A c,v=.slice A n c:=by
 rcases h.2 with ⟨rfl,rfl⟩ | ⟨g,cap,cur,rfl,_⟩
 ·exact ⟨none,0,rfl⟩
 ·exact ⟨_,_,rfl⟩
instance:emp.Ok:=aB
instance {A B:Own} [ha:A.Ok] [hb:B.Ok]:(star A B).Ok:=aj ha hb
instance {g:Nat} {cs:Array Value} {t:TypeId}:(au g cs t).Ok:=av
instance {e:TypeId} {size:Nat} {v:Value} {n:Nat} {xs:List Value}:(aS e size v n xs).Ok:=bA
end Go.CH
