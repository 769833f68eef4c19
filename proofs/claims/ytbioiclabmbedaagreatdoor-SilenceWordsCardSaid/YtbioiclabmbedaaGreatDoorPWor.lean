/-
  SilenceWords returns true at every input, the library's tables lying as the program's text lays them: Rows.SilenceWordsCardSaid.
-/
import Derived.Test.YtbioiclabmbedaaGreatDoorSJWor
import Derived.Test.YtbioiclabmbedaaGreatDoorTie
import Derived.Test.YtbioiclabmbedaaGreatDoorCards
set_option maxHeartbeats 16000000
set_option maxRecDepth 100000
set_option linter.all false
namespace Go.Proofs.YtbioiclabmbedaaGreatDoor
namespace PWor
open Go.ChangeShapes Go.WideShapes Go.ChangeAt Go.RowKit Go.CH Go.CH.Scr Go.CH.dh Go.CH.Mtc Go.CH.Sil
open Go.ChangeMaps (open_string shut_string)
theorem walk (a0:TZ) (a1:Bv) (a2:Bv) (a3:SL) (w:World) (w0:Oz w a0) (w1:fu w a1.A a1.n.ws) (w2:fu w a2.A a2.n.ws) (w3:Hj w a3) (hz:LZ w) :
  Calls Tryz.prog 8 #[dI a0.T a0.a,wZ a1,wZ a2,.agg (jh a3)] w (aT w (.bool true)):=by
 have h:=E9 w0.1 hz w1 w2 w3.1 w3.2;exact h
theorem own:ownKnob Tryz.prog.godebug=none:=by kernel_rfl
theorem laidOut:laidOutB Tryz.prog=true:=by kernel_rfl
theorem lifted (os:Os) (J:os.Started) (H:Type) (enc:TypeId × Value->H) :
  ReturnsInHanded {} Tryz.checked os 8 .any (fun w args=>(Rows.silenceWordsSpec.pre enc Tryz.prog Tryz.f8 Rows.silenceWordsRow.domain false w args/\laidMetH Tryz.prog Rows.silenceWordsRow.laid w)/\sizedMet enc Tryz.prog Tryz.f8 (OpenSpec.ofChange Rows.silenceWordsSpec) false w args)
   (Rows.silenceWordsSpec.post enc Tryz.prog Tryz.f8 false true false false):=by
 refine fQ (C:=Tryz.checked) (X:=fun w _=>laidMetH Tryz.prog Rows.silenceWordsRow.laid w) (fun _ _ _ hh h=>h.of_heap hh) own J eQ Tryz.func8
  (ChangeSpec.witness_shaped (enc:=enc) (C:=Tryz.checked) (os:=os) (X:=fun w _=>laidMetH Tryz.prog Rows.silenceWordsRow.laid w) false (World.laidAll Tryz.prog os Rows.silenceWordsRow.laid) #[.agg (fh none 0 0 none 0 0 none 0 0 0 0 0),.agg (ff 0 none 0 0),.agg (ff 0 none 0 0),.agg (fj 0 none 0 0 none 0 0 none 0 0 none 0 0)] 8 (World.laidAll_os _ _ _)
   (World.shaped_of_ZipB eQ eQ) eQ eQ eQ
   (by rw[MakeChecks.laidMetH_plain _ _ _ eQ];exact laidMet_laidAll _ eQ eQ)) ?_
 intro W base args ds gs before M hW hL ab;have I:∀ (j:Nat) t v,Tryz.f8.params[j]?=some t->args[j]?=some v->Value.okWide Tryz.prog W .any base t v:=M;have ae:=hW;obtain⟨p,q,aa,hV,rfl,aq,an⟩:=hW;have hA:DataW.TrodAll enc Tryz.prog W 0 (fun _=>true) true Tryz.f8.params.toList args.toList ds p:=aa;rw[Tryz.params8] at hA I;obtain⟨v0,al,d0,aw,p0,q0,af,rfl,rfl,h0,r0⟩:=trodAll_cons hA;obtain⟨v1,ak,d1,ai,p1,q1,rfl,rfl,rfl,h1,r1⟩:=trodAll_cons r0;obtain⟨v2,ar,d2,am,p2,q2,rfl,rfl,rfl,h2,r2⟩:=trodAll_cons r1;obtain⟨v3,ap,d3,ao,p3,q3,rfl,rfl,rfl,h3,r3⟩:=trodAll_cons r2;obtain⟨rfl,rfl,rfl⟩:=trodAll_nil r3;obtain rfl:args=#[v0,v1,v2,v3]:=by cases args;simp_all
 obtain⟨rfl,rfl⟩:=trodVars_none hV;have k0:=h0;have ag:∀ x ∈ p0,x.block<W.heap.size:=by obtain⟨m,hm⟩:=k0;exact ly m _ _ _ hm
 obtain⟨a0,rfl,w0⟩:=Ak (I 0 25 v0 rfl rfl) h0;have k1:=h1;have ac:∀ x ∈ p1,x.block<W.heap.size:=by obtain⟨m,hm⟩:=k1;exact ly m _ _ _ hm
 obtain⟨a1,rfl,w1⟩:=nV (I 1 28 v1 rfl rfl) h1;have k2:=h2;have lU:∀ x ∈ p2,x.block<W.heap.size:=by obtain⟨m,hm⟩:=k2;exact ly m _ _ _ hm
 obtain⟨a2,rfl,w2⟩:=nV (I 2 28 v2 rfl rfl) h2;have k3:=h3;have ad:∀ x ∈ p3,x.block<W.heap.size:=by obtain⟨m,hm⟩:=k3;exact ly m _ _ _ hm
 obtain⟨a3,rfl,w3⟩:=OB (I 3 41 v3 rfl rfl) h3;clear aa M;have hz:LZ W:=GL hL ab;refine(walk a0 a1 a2 a3 W w0 w1 w2 w3 hz).mono fun e W' ⟨he,cK⟩=>?_;subst he;exact⟨_,rfl,_,_,_,[],_,[],ae,trodAll_mk1 (shut_bool Tryz.underlying4 _),(trodAll_cons_mk (lA laidOut eQ (of_decide_eq_true eQ) k0 cK ag) (trodAll_cons_mk (lA laidOut eQ (of_decide_eq_true eQ) k1 cK ac) (trodAll_cons_mk (lA laidOut eQ (of_decide_eq_true eQ) k2 cK lU) (trodAll_cons_mk (lA laidOut eQ (of_decide_eq_true eQ) k3 cK ad) trodAll_mk0)))),rfl,cK.frame _,fun h=>by cases h⟩
theorem over:Rows.silenceWordsRow.holds Tryz.pinned (OpenSpec.ofChange Rows.silenceWordsSpec):=
 OpenClaim.holds_of_wide 8 Tryz.f8 rfl rfl rfl rfl rfl rfl rfl ⟨rfl,rfl,rfl,rfl,rfl⟩ rfl rfl rfl rfl rfl eQ Tryz.func8 eQ
  (of_decide_eq_true eQ) (by unfold Func.isWrapper;first|(rw[if_pos (by decide +kernel)];kernel_rfl)|(rw[if_neg (by decide +kernel)];exact⟨rfl,rfl⟩))
  (fun os h H enc _=>lifted os h H enc)
theorem card:Rows.SilenceWordsCardSaid:=
 Claim7.holds_tied_plain_at .later [] [.data,.pinned,.pinned] true (true, "73cf19adbde0c0f6eece7d4bf68198f86895e45ea3aed79f1e6d5c0cf6b82d78") false over (fun _ h=>by cases h) eQ (fun _ h=>by cases h) silenceWords_row_tie rfl ⟨rfl,rfl⟩ eQ rfl
  (fun f fn hf J=>by
   obtain rfl:f=8:=Option.some.inj ((show Tryz.prog.funcNamed "customhouse/customhouselaw15.SilenceWords" = some 8 by kernel_rfl).symm.trans hf) |>.symm
   obtain rfl:fn=Tryz.f8:=(Option.some.inj (Tryz.func8.symm.trans J)).symm
   exact⟨by kernel_rfl,fun j t M=>by
    rw[Tryz.params8] at M;have hm:t ∈ [25,28,28,41]:=by simpa using zj M
    have I:([25,28,28,41].all fun u=>!Tryz.prog.wantsStandIn u)=true:=by kernel_rfl
    exact(show Tryz.prog.wantsStandIn t=false by simpa using List.all_eq_true.1 I t hm)⟩)
  eQ
end PWor
theorem silenceWords_holds:Rows.SilenceWordsCardSaid:=PWor.card
end Go.Proofs.YtbioiclabmbedaaGreatDoor
