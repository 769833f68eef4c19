/-
  SilenceComplete returns true at every input, the library's tables lying as the program's text lays them: Rows.SilenceCompleteCardSaid.
-/
import Derived.Test.YtbioiclabmbedaaGreatDoorSICom
import Derived.Test.YtbioiclabmbedaaGreatDoorTie
import Derived.Test.YtbioiclabmbedaaGreatDoorCards
set_option maxHeartbeats 16000000
set_option maxRecDepth 100000
set_option linter.all false
namespace Go.Proofs.YtbioiclabmbedaaGreatDoor
namespace PCom
open Go.ChangeShapes Go.WideShapes Go.ChangeAt Go.RowKit Go.CH Go.CH.Scr Go.CH.dh Go.CH.Mtc Go.CH.Sil
open Go.ChangeMaps (open_string shut_string)
theorem walk (I:TZ) (M:Ev) (J:Ev) (a3:Int) (w:World) (w0:Tj w I) (w1:fB w M.A M.n.ws) (w2:fB w J.A J.n.ws) (w3:(Lit.int .u32 a3).wf=true) (hz:LZ w) :
  Calls Tryz.prog 3 #[dV I.T I.a,Bg M,Bg J,.int .u32 a3] w (aS w (.bool true)):=by
 have h3:0<=a3/\a3<=4294967295:=P7 w3;obtain⟨rw,rfl⟩:∃ r:Nat,a3=r:=⟨a3.toNat,by omega⟩;have h:=Ai w0.1 hz w1 w2 rw eL;exact h
theorem own:ownKnob Tryz.prog.godebug=none:=by kernel_rfl
theorem laidOut:laidOutB Tryz.prog=true:=by kernel_rfl
theorem lifted (os:Os) (J:os.Started) (H:Type) (enc:TypeId × Value->H) :
  ReturnsInHanded {} Tryz.checked os 3 .any (fun w args=>(Rows.silenceCompleteSpec.pre enc Tryz.prog Tryz.f3 Rows.silenceCompleteRow.domain false w args/\laidMetH Tryz.prog Rows.silenceCompleteRow.laid w)/\sizedMet enc Tryz.prog Tryz.f3 (OpenSpec.ofChange Rows.silenceCompleteSpec) false w args)
   (Rows.silenceCompleteSpec.post enc Tryz.prog Tryz.f3 false true false false):=by
 refine gZ (C:=Tryz.checked) (X:=fun w _=>laidMetH Tryz.prog Rows.silenceCompleteRow.laid w) (fun _ _ _ hh h=>h.of_heap hh) own J eQ Tryz.func3
  (ChangeSpec.witness_shaped (enc:=enc) (C:=Tryz.checked) (os:=os) (X:=fun w _=>laidMetH Tryz.prog Rows.silenceCompleteRow.laid w) false (World.laidAll Tryz.prog os Rows.silenceCompleteRow.laid) #[.agg (fN none 0 0 none 0 0 none 0 0 0 0 0),.agg (fh 0 none 0 0),.agg (fh 0 none 0 0),.int .u32 0] 8 (World.laidAll_os _ _ _)
   (World.shaped_of_ZipB eQ eQ) eQ eQ eQ
   (by rw[MakeChecks.laidMetH_plain _ _ _ eQ];exact laidMet_laidAll _ eQ eQ)) ?_
 intro W base args ds gs before M hW hL ag;have I:∀ (j:Nat) t v,Tryz.f3.params[j]?=some t->args[j]?=some v->Value.okWide Tryz.prog W .any base t v:=M;have ab:=hW;obtain⟨p,q,aa,hV,rfl,am,ao⟩:=hW;have hA:DataW.TrodAll enc Tryz.prog W 0 (fun _=>true) true Tryz.f3.params.toList args.toList ds p:=aa;rw[Tryz.params3] at hA I;obtain⟨v0,ar,d0,aw,p0,q0,ac,rfl,rfl,h0,r0⟩:=trodAll_cons hA;obtain⟨v1,ak,d1,ai,p1,q1,rfl,rfl,rfl,h1,r1⟩:=trodAll_cons r0;obtain⟨v2,al,d2,aq,p2,q2,rfl,rfl,rfl,h2,r2⟩:=trodAll_cons r1;obtain⟨v3,an,d3,ap,p3,q3,rfl,rfl,rfl,h3,r3⟩:=trodAll_cons r2;obtain⟨rfl,rfl,rfl⟩:=trodAll_nil r3;obtain rfl:args=#[v0,v1,v2,v3]:=by cases args;simp_all
 obtain⟨rfl,rfl⟩:=trodVars_none hV;have k0:=h0;have ad:∀ x ∈ p0,x.block<W.heap.size:=by obtain⟨m,hm⟩:=k0;exact mr m _ _ _ hm
 obtain⟨a0,rfl,w0⟩:=DN (I 0 25 v0 rfl rfl) h0;have k1:=h1;have ae:∀ x ∈ p1,x.block<W.heap.size:=by obtain⟨m,hm⟩:=k1;exact mr m _ _ _ hm
 obtain⟨a1,rfl,w1⟩:=qz (I 1 28 v1 rfl rfl) h1;have k2:=h2;have mM:∀ x ∈ p2,x.block<W.heap.size:=by obtain⟨m,hm⟩:=k2;exact mr m _ _ _ hm
 obtain⟨a2,rfl,w2⟩:=qz (I 2 28 v2 rfl rfl) h2;have k3:=h3;have af:∀ x ∈ p3,x.block<W.heap.size:=by obtain⟨m,hm⟩:=k3;exact mr m _ _ _ hm
 obtain⟨a3,rfl,-,-,w3⟩:=open_int Tryz.underlying29 (I 3 29 v3 rfl rfl) h3;clear aa M;have hz:LZ W:=LV hL ag;refine(walk a0 a1 a2 a3 W w0 w1 w2 w3 hz).mono fun e W' ⟨he,cZ⟩=>?_;subst he;exact⟨_,rfl,_,_,_,[],_,[],ab,trodAll_mk1 (shut_bool Tryz.underlying4 _),(trodAll_cons_mk (mx laidOut eQ (of_decide_eq_true eQ) k0 cZ ad) (trodAll_cons_mk (mx laidOut eQ (of_decide_eq_true eQ) k1 cZ ae) (trodAll_cons_mk (mx laidOut eQ (of_decide_eq_true eQ) k2 cZ mM) (trodAll_cons_mk (mx laidOut eQ (of_decide_eq_true eQ) k3 cZ af) trodAll_mk0)))),rfl,cZ.frame _,fun h=>by cases h⟩
theorem over:Rows.silenceCompleteRow.holds Tryz.pinned (OpenSpec.ofChange Rows.silenceCompleteSpec):=
 OpenClaim.holds_of_wide 3 Tryz.f3 rfl rfl rfl rfl rfl rfl rfl ⟨rfl,rfl,rfl,rfl,rfl⟩ rfl rfl rfl rfl rfl eQ Tryz.func3 eQ
  (of_decide_eq_true eQ) (by unfold Func.isWrapper;first|(rw[if_pos (by decide +kernel)];kernel_rfl)|(rw[if_neg (by decide +kernel)];exact⟨rfl,rfl⟩))
  (fun os h H enc _=>lifted os h H enc)
theorem card:Rows.SilenceCompleteCardSaid:=
 Claim7.holds_tied_plain_at .later [] [.data,.pinned,.pinned] true (true, "73cf19adbde0c0f6eece7d4bf68198f86895e45ea3aed79f1e6d5c0cf6b82d78") false over (fun _ h=>by cases h) eQ (fun _ h=>by cases h) silenceComplete_row_tie rfl ⟨rfl,rfl⟩ eQ rfl
  (fun f fn hf J=>by
   obtain rfl:f=3:=Option.some.inj ((show Tryz.prog.funcNamed "customhouse/customhouselaw15.SilenceComplete" = some 3 by kernel_rfl).symm.trans hf) |>.symm
   obtain rfl:fn=Tryz.f3:=(Option.some.inj (Tryz.func3.symm.trans J)).symm
   exact⟨by kernel_rfl,fun j t M=>by
    rw[Tryz.params3] at M;have hm:t ∈ [25,28,28,29]:=by simpa using B8 M
    have I:([25,28,28,29].all fun u=>!Tryz.prog.wantsStandIn u)=true:=by kernel_rfl
    exact(show Tryz.prog.wantsStandIn t=false by simpa using List.all_eq_true.1 I t hm)⟩)
  eQ
end PCom
theorem silenceComplete_holds:Rows.SilenceCompleteCardSaid:=PCom.card
end Go.Proofs.YtbioiclabmbedaaGreatDoor
