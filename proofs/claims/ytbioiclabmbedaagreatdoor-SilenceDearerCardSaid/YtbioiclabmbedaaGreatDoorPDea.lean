/-
  SilenceDearer returns true at every input, the library's tables lying as the program's text lays them: Rows.SilenceDearerCardSaid.
-/
import Derived.Test.YtbioiclabmbedaaGreatDoorSIDea
import Derived.Test.YtbioiclabmbedaaGreatDoorTie
import Derived.Test.YtbioiclabmbedaaGreatDoorCards
set_option maxHeartbeats 16000000
set_option maxRecDepth 100000
set_option linter.all false
namespace Go.Proofs.YtbioiclabmbedaaGreatDoor
namespace PDea
open Go.ChangeShapes Go.WideShapes Go.ChangeAt Go.RowKit Go.CH Go.CH.Scr Go.CH.dh Go.CH.Mtc Go.CH.Sil
open Go.ChangeMaps (open_string shut_string)
theorem walk (M:TZ) (a1:Ev) (a2:Ev) (a3:SL) (I:Int) (J:Int) (w:World) (w0:Tj w M) (w1:fB w a1.A a1.n.ws) (w2:fB w a2.A a2.n.ws) (w3:L1 w a3) (w4:(Lit.int .u8 I).wf=true) (w5:(Lit.int .u16 J).wf=true) (hz:LZ w) :
  Calls Tryz.prog 5 #[dV M.T M.a,Bg a1,Bg a2,.agg (jh a3),.int .u8 I,.int .u16 J] w (aS w (.bool true)):=by
 have h4:0<=I/\I<=255:=P7 w4;obtain⟨rr,rfl⟩:∃ r:Nat,I=r:=⟨I.toNat,by omega⟩;have h5:0<=J/\J<=65535:=P7 w5;obtain⟨rm,rfl⟩:∃ r:Nat,J=r:=⟨J.toNat,by omega⟩;have h:=Em w0.1 hz w1 w2 w3.1 w3.2 rr eL rm eL w0.2;exact h
theorem own:ownKnob Tryz.prog.godebug=none:=by kernel_rfl
theorem laidOut:laidOutB Tryz.prog=true:=by kernel_rfl
theorem lifted (os:Os) (J:os.Started) (H:Type) (enc:TypeId × Value->H) :
  ReturnsInHanded {} Tryz.checked os 5 .any (fun w args=>(Rows.silenceDearerSpec.pre enc Tryz.prog Tryz.f5 Rows.silenceDearerRow.domain false w args/\laidMetH Tryz.prog Rows.silenceDearerRow.laid w)/\sizedMet enc Tryz.prog Tryz.f5 (OpenSpec.ofChange Rows.silenceDearerSpec) false w args)
   (Rows.silenceDearerSpec.post enc Tryz.prog Tryz.f5 false true false false):=by
 refine gZ (C:=Tryz.checked) (X:=fun w _=>laidMetH Tryz.prog Rows.silenceDearerRow.laid w) (fun _ _ _ hh h=>h.of_heap hh) own J eQ Tryz.func5
  (ChangeSpec.witness_shaped (enc:=enc) (C:=Tryz.checked) (os:=os) (X:=fun w _=>laidMetH Tryz.prog Rows.silenceDearerRow.laid w) false (World.laidAll Tryz.prog os Rows.silenceDearerRow.laid) #[.agg (fN none 0 0 none 0 0 none 0 0 0 0 0),.agg (fh 0 none 0 0),.agg (fh 0 none 0 0),.agg (ie 0 none 0 0 none 0 0 none 0 0 none 0 0),.int .u8 0,.int .u16 0] 8 (World.laidAll_os _ _ _)
   (World.shaped_of_ZipB eQ eQ) eQ eQ eQ
   (by rw[MakeChecks.laidMetH_plain _ _ _ eQ];exact laidMet_laidAll _ eQ eQ)) ?_
 intro W base args ds gs before M hW hL ak;have I:∀ (j:Nat) t v,Tryz.f5.params[j]?=some t->args[j]?=some v->Value.okWide Tryz.prog W .any base t v:=M;have ab:=hW;obtain⟨p,q,aa,hV,rfl,aq,az⟩:=hW;have hA:DataW.TrodAll enc Tryz.prog W 0 (fun _=>true) true Tryz.f5.params.toList args.toList ds p:=aa;rw[Tryz.params5] at hA I;obtain⟨v0,aE,d0,a6,p0,q0,ad,rfl,rfl,h0,r0⟩:=trodAll_cons hA;obtain⟨v1,am,d1,al,p1,q1,rfl,rfl,rfl,h1,r1⟩:=trodAll_cons r0;obtain⟨v2,ap,d2,aD,p2,q2,rfl,rfl,rfl,h2,r2⟩:=trodAll_cons r1;obtain⟨v3,ar,d3,aA,p3,q3,rfl,rfl,rfl,h3,r3⟩:=trodAll_cons r2;obtain⟨v4,ao,d4,ax,p4,q4,rfl,rfl,rfl,h4,r4⟩:=trodAll_cons r3;obtain⟨v5,aw,d5,an,p5,q5,rfl,rfl,rfl,h5,r5⟩:=trodAll_cons r4;obtain⟨rfl,rfl,rfl⟩:=trodAll_nil r5;obtain rfl:args=#[v0,v1,v2,v3,v4,v5]:=by cases args;simp_all
 obtain⟨rfl,rfl⟩:=trodVars_none hV;have k0:=h0;have af:∀ x ∈ p0,x.block<W.heap.size:=by obtain⟨m,hm⟩:=k0;exact mr m _ _ _ hm
 obtain⟨a0,rfl,w0⟩:=DN (I 0 25 v0 rfl rfl) h0;have k1:=h1;have ag:∀ x ∈ p1,x.block<W.heap.size:=by obtain⟨m,hm⟩:=k1;exact mr m _ _ _ hm
 obtain⟨a1,rfl,w1⟩:=qz (I 1 28 v1 rfl rfl) h1;have k2:=h2;have mM:∀ x ∈ p2,x.block<W.heap.size:=by obtain⟨m,hm⟩:=k2;exact mr m _ _ _ hm
 obtain⟨a2,rfl,w2⟩:=qz (I 2 28 v2 rfl rfl) h2;have k3:=h3;have ai:∀ x ∈ p3,x.block<W.heap.size:=by obtain⟨m,hm⟩:=k3;exact mr m _ _ _ hm
 obtain⟨a3,rfl,w3⟩:=WZ (I 3 41 v3 rfl rfl) h3;have k4:=h4;have ac:∀ x ∈ p4,x.block<W.heap.size:=by obtain⟨m,hm⟩:=k4;exact mr m _ _ _ hm
 obtain⟨a4,rfl,-,-,w4⟩:=open_int Tryz.underlying5 (I 4 5 v4 rfl rfl) h4;have k5:=h5;have ae:∀ x ∈ p5,x.block<W.heap.size:=by obtain⟨m,hm⟩:=k5;exact mr m _ _ _ hm
 obtain⟨a5,rfl,-,-,w5⟩:=open_int Tryz.underlying48 (I 5 48 v5 rfl rfl) h5;clear aa M;have hz:LZ W:=LV hL ak;refine(walk a0 a1 a2 a3 a4 a5 W w0 w1 w2 w3 w4 w5 hz).mono fun e W' ⟨he,cZ⟩=>?_;subst he;exact⟨_,rfl,_,_,_,[],_,[],ab,trodAll_mk1 (shut_bool Tryz.underlying4 _),(trodAll_cons_mk (mx laidOut eQ (of_decide_eq_true eQ) k0 cZ af) (trodAll_cons_mk (mx laidOut eQ (of_decide_eq_true eQ) k1 cZ ag) (trodAll_cons_mk (mx laidOut eQ (of_decide_eq_true eQ) k2 cZ mM) (trodAll_cons_mk (mx laidOut eQ (of_decide_eq_true eQ) k3 cZ ai) (trodAll_cons_mk (mx laidOut eQ (of_decide_eq_true eQ) k4 cZ ac) (trodAll_cons_mk (mx laidOut eQ (of_decide_eq_true eQ) k5 cZ ae) trodAll_mk0)))))),rfl,cZ.frame _,fun h=>by cases h⟩
theorem over:Rows.silenceDearerRow.holds Tryz.pinned (OpenSpec.ofChange Rows.silenceDearerSpec):=
 OpenClaim.holds_of_wide 5 Tryz.f5 rfl rfl rfl rfl rfl rfl rfl ⟨rfl,rfl,rfl,rfl,rfl⟩ rfl rfl rfl rfl rfl eQ Tryz.func5 eQ
  (of_decide_eq_true eQ) (by unfold Func.isWrapper;first|(rw[if_pos (by decide +kernel)];kernel_rfl)|(rw[if_neg (by decide +kernel)];exact⟨rfl,rfl⟩))
  (fun os h H enc _=>lifted os h H enc)
theorem card:Rows.SilenceDearerCardSaid:=
 Claim7.holds_tied_plain_at .later [] [.data,.pinned,.pinned] true (true, "73cf19adbde0c0f6eece7d4bf68198f86895e45ea3aed79f1e6d5c0cf6b82d78") false over (fun _ h=>by cases h) eQ (fun _ h=>by cases h) silenceDearer_row_tie rfl ⟨rfl,rfl⟩ eQ rfl
  (fun f fn hf J=>by
   obtain rfl:f=5:=Option.some.inj ((show Tryz.prog.funcNamed "customhouse/customhouselaw15.SilenceDearer" = some 5 by kernel_rfl).symm.trans hf) |>.symm
   obtain rfl:fn=Tryz.f5:=(Option.some.inj (Tryz.func5.symm.trans J)).symm
   exact⟨by kernel_rfl,fun j t M=>by
    rw[Tryz.params5] at M;have hm:t ∈ [25,28,28,41,5,48]:=by simpa using B8 M
    have I:([25,28,28,41,5,48].all fun u=>!Tryz.prog.wantsStandIn u)=true:=by kernel_rfl
    exact(show Tryz.prog.wantsStandIn t=false by simpa using List.all_eq_true.1 I t hm)⟩)
  eQ
end PDea
theorem silenceDearer_holds:Rows.SilenceDearerCardSaid:=PDea.card
end Go.Proofs.YtbioiclabmbedaaGreatDoor
