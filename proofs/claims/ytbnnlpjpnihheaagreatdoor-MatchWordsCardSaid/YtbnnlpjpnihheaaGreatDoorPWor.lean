/-
  MatchWords returns true at every input, the library's tables lying as the program's text lays them: Rows.MatchWordsCardSaid.
-/
import Derived.Test.YtbnnlpjpnihheaaGreatDoorTie
import Derived.Test.YtbnnlpjpnihheaaGreatDoorCards
import Derived.Test.YtbnnlpjpnihheaaGreatDoorMW10
set_option maxHeartbeats 16000000
set_option maxRecDepth 100000
set_option linter.all false
namespace Go.Proofs.YtbnnlpjpnihheaaGreatDoor
namespace PWor
open Go.ChangeShapes Go.WideShapes Go.ChangeAt Go.RowKit Go.CH Go.CH.Scr Go.CH.eG Go.CH.Mtc
open Go.ChangeMaps (open_string shut_string)
theorem walk (a0:TZ) (a1:Int) (a2:ByteArray) (a3:Int) (a4:ByteArray) (w:World) (w0:XT w a0) (hz:LZ w) :
  Calls Tryz.prog 4 #[eu a0.T a0.a,.int .i64 a1,.string a2,.int .i64 a3,.string a4] w (aL w (.bool true)):=by
 have h:=BR w0.1 hz a1 (bl a2) a3 (bl a4);rw[qh,qh] at h;exact h
theorem own:ownKnob Tryz.prog.godebug=none:=by kernel_rfl
theorem laidOut:laidOutB Tryz.prog=true:=by kernel_rfl
theorem lifted (os:Os) (F:os.Started) (H:Type) (enc:TypeId × Value->H) :
  ReturnsInHanded {} Tryz.checked os 4 .any (fun w args=>(Rows.matchWordsSpec.pre enc Tryz.prog Tryz.f4 Rows.matchWordsRow.domain false w args/\laidMetH Tryz.prog Rows.matchWordsRow.laid w)/\sizedMet enc Tryz.prog Tryz.f4 (OpenSpec.ofChange Rows.matchWordsSpec) false w args)
   (Rows.matchWordsSpec.post enc Tryz.prog Tryz.f4 false true false false):=by
 refine uH (C:=Tryz.checked) (X:=fun w _=>laidMetH Tryz.prog Rows.matchWordsRow.laid w) (fun _ _ _ hh h=>h.of_heap hh) own F fi Tryz.func4
  (ChangeSpec.witness_shaped (enc:=enc) (C:=Tryz.checked) (os:=os) (X:=fun w _=>laidMetH Tryz.prog Rows.matchWordsRow.laid w) false (World.laidAll Tryz.prog os Rows.matchWordsRow.laid) #[.agg (fw none 0 0 none 0 0 none 0 0 0 0 0),.int .i64 0,.string ByteArray.empty,.int .i64 0,.string ByteArray.empty] 8 (World.laidAll_os _ _ _)
   (World.shaped_of_ZipB fi fi) fi fi fi
   (by rw[MakeChecks.laidMetH_plain _ _ _ fi];exact laidMet_laidAll _ fi fi)) ?_
 intro W base args ds gs before I hW hL ac;have z:∀ (j:Nat) t v,Tryz.f4.params[j]?=some t->args[j]?=some v->Value.okWide Tryz.prog W .any base t v:=I;have M:=hW;obtain⟨p,q,J,hV,rfl,am,an⟩:=hW;have hA:DataW.TrodAll enc Tryz.prog W 0 (fun _=>true) true Tryz.f4.params.toList args.toList ds p:=J;rw[Tryz.params4] at hA z;obtain⟨v0,af,d0,aq,p0,q0,V,rfl,rfl,h0,r0⟩:=trodAll_cons hA;obtain⟨v1,ai,d1,ap,p1,q1,rfl,rfl,rfl,h1,r1⟩:=trodAll_cons r0;obtain⟨v2,ar,d2,ak,p2,q2,rfl,rfl,rfl,h2,r2⟩:=trodAll_cons r1;obtain⟨v3,ag,d3,aw,p3,q3,rfl,rfl,rfl,h3,r3⟩:=trodAll_cons r2;obtain⟨v4,ao,d4,al,p4,q4,rfl,rfl,rfl,h4,r4⟩:=trodAll_cons r3;obtain⟨rfl,rfl,rfl⟩:=trodAll_nil r4;obtain rfl:args=#[v0,v1,v2,v3,v4]:=by cases args;simp_all
 obtain⟨rfl,rfl⟩:=trodVars_none hV;have k0:=h0;have ae:∀ x ∈ p0,x.block<W.heap.size:=by obtain⟨m,hm⟩:=k0;exact oE m _ _ _ hm
 obtain⟨a0,rfl,w0⟩:=Xf (z 0 25 v0 rfl rfl) h0;have k1:=h1;have ab:∀ x ∈ p1,x.block<W.heap.size:=by obtain⟨m,hm⟩:=k1;exact oE m _ _ _ hm
 obtain⟨a1,rfl,-,-,w1⟩:=open_int Tryz.underlying3 (z 1 3 v1 rfl rfl) h1;have k2:=h2;have nk:∀ x ∈ p2,x.block<W.heap.size:=by obtain⟨m,hm⟩:=k2;exact oE m _ _ _ hm
 obtain⟨a2,rfl,-,-,w2⟩:=open_string Tryz.underlying9 (z 2 9 v2 rfl rfl) h2;have k3:=h3;have aa:∀ x ∈ p3,x.block<W.heap.size:=by obtain⟨m,hm⟩:=k3;exact oE m _ _ _ hm
 obtain⟨a3,rfl,-,-,w3⟩:=open_int Tryz.underlying3 (z 3 3 v3 rfl rfl) h3;have k4:=h4;have ad:∀ x ∈ p4,x.block<W.heap.size:=by obtain⟨m,hm⟩:=k4;exact oE m _ _ _ hm
 obtain⟨a4,rfl,-,-,w4⟩:=open_string Tryz.underlying9 (z 4 9 v4 rfl rfl) h4;clear J I;have hz:LZ W:=XR hL ac;refine(walk a0 a1 a2 a3 a4 W w0 hz).mono fun e W' ⟨he,bN⟩=>?_;subst he;exact⟨_,rfl,_,_,_,[],_,[],M,trodAll_mk1 (shut_bool Tryz.underlying4 _),(trodAll_cons_mk (o6 laidOut fi (of_decide_eq_true fi) k0 bN ae) (trodAll_cons_mk (o6 laidOut fi (of_decide_eq_true fi) k1 bN ab) (trodAll_cons_mk (o6 laidOut fi (of_decide_eq_true fi) k2 bN nk) (trodAll_cons_mk (o6 laidOut fi (of_decide_eq_true fi) k3 bN aa) (trodAll_cons_mk (o6 laidOut fi (of_decide_eq_true fi) k4 bN ad) trodAll_mk0))))),rfl,bN.frame _,fun h=>by cases h⟩
theorem over:Rows.matchWordsRow.holds Tryz.pinned (OpenSpec.ofChange Rows.matchWordsSpec):=
 OpenClaim.holds_of_wide 4 Tryz.f4 rfl rfl rfl rfl rfl rfl rfl ⟨rfl,rfl,rfl,rfl,rfl⟩ rfl rfl rfl rfl rfl fi Tryz.func4 fi
  (of_decide_eq_true fi) (by unfold Func.isWrapper;first|(rw[if_pos (by decide +kernel)];kernel_rfl)|(rw[if_neg (by decide +kernel)];exact⟨rfl,rfl⟩))
  (fun os h H enc _=>lifted os h H enc)
theorem card:Rows.MatchWordsCardSaid:=
 Claim7.holds_tied_plain_at .later [] [.data,.pinned,.pinned] true (true, "05b2542287652eeb423a8e7d17e76f00972aedbba2589362a6d1ded39de77f17") false over (fun _ h=>by cases h) fi (fun _ h=>by cases h) matchWords_row_tie rfl ⟨rfl,rfl⟩ fi rfl
  (fun f fn F q=>by
   obtain rfl:f=4:=Option.some.inj ((show Tryz.prog.funcNamed "customhouse/customhouselaw14.MatchWords" = some 4 by kernel_rfl).symm.trans F) |>.symm
   obtain rfl:fn=Tryz.f4:=(Option.some.inj (Tryz.func4.symm.trans q)).symm
   exact⟨by kernel_rfl,fun j t z=>by
    rw[Tryz.params4] at z;have hm:t ∈ [25,3,9,3,9]:=by simpa using Array.mem_of_getElem? z
    have p:([25,3,9,3,9].all fun u=>!Tryz.prog.wantsStandIn u)=true:=by kernel_rfl
    exact(show Tryz.prog.wantsStandIn t=false by simpa using List.all_eq_true.1 p t hm)⟩)
  fi
end PWor
theorem matchWords_holds:Rows.MatchWordsCardSaid:=PWor.card
end Go.Proofs.YtbnnlpjpnihheaaGreatDoor
