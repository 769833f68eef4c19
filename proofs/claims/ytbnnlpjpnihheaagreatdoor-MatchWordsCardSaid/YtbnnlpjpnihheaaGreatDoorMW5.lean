/- A part of the proof: lemmas. -/
import Derived.Test.YtbnnlpjpnihheaaGreatDoorMW4
set_option maxHeartbeats 16000000
set_option maxRecDepth 100000
set_option linter.all false
namespace Go.CH.eG
open Go.CH.Scr
end Go.CH.eG
namespace Go.Proofs.YtbnnlpjpnihheaaGreatDoor
open Go.RowKit Go.CH Go.CH.Scr Go.CH.eG
open Go.ChangeMaps (setBlock)
variable{W:World}{t:TypeId}
theorem lU{cs:Array Value}(h:∀ u ∈ cs.toList,u.oneCell'=true):Src (W.alloc (.cells cs t)) (some ⟨W.heap.size,0,none⟩) 1 cs.size cs.toList:=by
 refine⟨by simp,h,fun _=>⟨_,rfl,fun j u p=>?_⟩⟩;rw[tP] at p;have e:(⟨W.heap.size,0,none⟩:Addr).add j=⟨W.heap.size,j,none⟩:=by unfold Addr.add;split<;>simp_all
 rw[e];simp only[World.cell?,heap_alloc_new W _];rw[p];rfl
end Go.Proofs.YtbnnlpjpnihheaaGreatDoor
