/-
  MatchEnds returns true at every input, the library's tables lying as the program's text lays them: Rows.MatchEndsCardSaid.
-/
import Derived.Test.YtbnnlpjpnihheaaGreatDoorTie
import Derived.Test.YtbnnlpjpnihheaaGreatDoorCards
import Derived.Test.YtbnnlpjpnihheaaGreatDoorME20
import Derived.Test.YtbnnlpjpnihheaaGreatDoorME21
set_option maxHeartbeats 16000000
set_option maxRecDepth 100000
set_option linter.unusedSimpArgs false
set_option linter.unusedVariables false
namespace Go.Proofs.YtbnnlpjpnihheaaGreatDoor
namespace PEnd
open Go.ChangeShapes Go.WideShapes Go.ChangeAt Go.RowKit Go.CH Go.CH.Scr Go.CH.dK Go.CH.Mtc
open Go.ChangeMaps (open_string shut_string)
theorem walk (a0:TZ) (a1:Int) (a2:ByteArray) (w:World) (w0:Uk w a0) (hz:LZ w) :
  Calls Tryz.prog 9 #[eZ a0.T a0.a,.int .i64 a1,.string a2] w (aP w (.bool true)):=by
 have h:=BQ w0.1 hz a1 (bl a2);rw [qG] at h;exact h
theorem own:ownKnob Tryz.prog.godebug=none:=by kernel_rfl
theorem laidOut:laidOutB Tryz.prog=true:=by kernel_rfl
theorem lifted (os:Os) (started:os.Started) (H:Type) (enc:TypeId × Value→H) :
  ReturnsInHanded {} Tryz.checked os 9 .any (fun w args=>(Rows.matchEndsSpec.pre enc Tryz.prog Tryz.f9 Rows.matchEndsRow.domain false w args∧laidMetH Tryz.prog Rows.matchEndsRow.laid w)∧sizedMet enc Tryz.prog Tryz.f9 (OpenSpec.ofChange Rows.matchEndsSpec) false w args)
   (Rows.matchEndsSpec.post enc Tryz.prog Tryz.f9 false true false false):=by
 refine rH (C:=Tryz.checked) (X:=fun w _=>laidMetH Tryz.prog Rows.matchEndsRow.laid w) (fun _ _ _ hh h=>h.of_heap hh) own started (by kernel_rfl) Tryz.func9
  (ChangeSpec.witness_shaped (enc:=enc) (C:=Tryz.checked) (os:=os) (X:=fun w _=>laidMetH Tryz.prog Rows.matchEndsRow.laid w) false (World.laidAll Tryz.prog os Rows.matchEndsRow.laid) #[.agg #[.slice none 0 0,.slice none 0 0,.slice none 0 0,.int .i64 0,.int .i64 0,.int .i64 0],.int .i64 0,.string ByteArray.empty] 8 (World.laidAll_os _ _ _)
   (World.shaped_of_ZipB (by kernel_rfl) (by kernel_rfl)) (by kernel_rfl) (by kernel_rfl) (by kernel_rfl)
   (by rw [MakeChecks.laidMetH_plain _ _ _ (by kernel_rfl)];exact laidMet_laidAll _ (by kernel_rfl) (by kernel_rfl))) ?_
 intro W base args ds gs before hval0 hW hL hsh;have hval:∀ (j:Nat) t v,Tryz.f9.params[j]?=some t→args[j]?=some v→Value.okWide Tryz.prog W .any base t v:=hval0;have hW':=hW;obtain ⟨p,q,hA0,hV,rfl,hfz,hnd⟩:=hW;have hA:DataW.TrodAll enc Tryz.prog W 0 (fun _=>true) true Tryz.f9.params.toList args.toList ds p:=hA0;rw [Tryz.params9] at hA hval;obtain ⟨v0,vs0,d0,ds0,p0,q0,hargs,rfl,rfl,h0,r0⟩:=trodAll_cons hA;obtain ⟨v1,vs1,d1,ds1,p1,q1,rfl,rfl,rfl,h1,r1⟩:=trodAll_cons r0;obtain ⟨v2,vs2,d2,ds2,p2,q2,rfl,rfl,rfl,h2,r2⟩:=trodAll_cons r1;obtain ⟨rfl,rfl,rfl⟩:=trodAll_nil r2;obtain rfl:args=#[v0,v1,v2]:=by cases args;simp_all
 obtain ⟨rfl,rfl⟩:=trodVars_none hV;have k0:=h0;have lt0:∀ x ∈ p0,x.block < W.heap.size:=by obtain ⟨m,hm⟩:=k0;exact DataW.trod_lt m _ _ _ hm
 obtain ⟨a0,rfl,w0⟩:=Tf (hval 0 25 v0 rfl rfl) h0;have k1:=h1;have lt1:∀ x ∈ p1,x.block < W.heap.size:=by obtain ⟨m,hm⟩:=k1;exact DataW.trod_lt m _ _ _ hm
 obtain ⟨a1,rfl,-,-,w1⟩:=open_int Tryz.underlying3 (hval 1 3 v1 rfl rfl) h1;have k2:=h2;have lg:∀ x ∈ p2,x.block < W.heap.size:=by obtain ⟨m,hm⟩:=k2;exact DataW.trod_lt m _ _ _ hm
 obtain ⟨a2,rfl,-,-,w2⟩:=open_string Tryz.underlying9 (hval 2 9 v2 rfl rfl) h2;clear hA0 hval0;have hz:LZ W:=Uj hL hsh;refine (walk a0 a1 a2 W w0 hz).mono fun e W' ⟨he,bI⟩=>?_;subst he;exact ⟨_,rfl,_,_,_,[],_,[],hW',trodAll_mk1 (shut_bool Tryz.underlying4 _),(trodAll_cons_mk (Below.trod laidOut (by kernel_rfl) (of_decide_eq_true (by kernel_rfl)) k0 bI lt0) (trodAll_cons_mk (Below.trod laidOut (by kernel_rfl) (of_decide_eq_true (by kernel_rfl)) k1 bI lt1) (trodAll_cons_mk (Below.trod laidOut (by kernel_rfl) (of_decide_eq_true (by kernel_rfl)) k2 bI lg) trodAll_mk0))),rfl,bI.frame _,fun h=>by cases h⟩
theorem over:Rows.matchEndsRow.holds Tryz.pinned (OpenSpec.ofChange Rows.matchEndsSpec) :=
 OpenClaim.holds_of_wide 9 Tryz.f9 rfl rfl rfl rfl rfl rfl rfl ⟨rfl,rfl,rfl,rfl,rfl⟩ rfl rfl rfl rfl rfl (by kernel_rfl) Tryz.func9 (by kernel_rfl)
  (of_decide_eq_true (by kernel_rfl)) (by unfold Func.isWrapper;first | (rw [if_pos (by decide +kernel)];kernel_rfl) | (rw [if_neg (by decide +kernel)];exact ⟨rfl,rfl⟩))
  (fun os started H enc _=>lifted os started H enc)
theorem card:Rows.MatchEndsCardSaid :=
 Claim7.holds_tied_plain_at .later [] [.data,.pinned,.pinned] true (true, "05b2542287652eeb423a8e7d17e76f00972aedbba2589362a6d1ded39de77f17") false over (fun _ h=>by cases h) (by kernel_rfl) (fun _ h=>by cases h) matchEnds_row_tie rfl ⟨rfl,rfl⟩ (by kernel_rfl) rfl
  (fun f fn hf hfn=>by
   obtain rfl:f=9:=Option.some.inj ((show Tryz.prog.funcNamed "customhouse/customhouselaw14.MatchEnds" = some 9 by kernel_rfl).symm.trans hf) |>.symm
   obtain rfl:fn=Tryz.f9:=(Option.some.inj (Tryz.func9.symm.trans hfn)).symm
   exact ⟨by kernel_rfl,fun j t ht=>by
    rw [Tryz.params9] at ht;have hm:t ∈ [25,3,9]:=by simpa using Array.mem_of_getElem? ht
    have hall:([25,3,9].all fun u => !Tryz.prog.wantsStandIn u)=true:=by kernel_rfl
    exact (show Tryz.prog.wantsStandIn t=false by simpa using List.all_eq_true.1 hall t hm)⟩)
  (by kernel_rfl)
end PEnd
theorem matchEnds_holds:Rows.MatchEndsCardSaid:=PEnd.card
end Go.Proofs.YtbnnlpjpnihheaaGreatDoor
