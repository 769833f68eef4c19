/- A part of the proof: lemmas. -/
import Derived.Test.YtbnnlpjpnihheaaGreatDoorMW8
set_option maxHeartbeats 16000000
set_option maxRecDepth 100000
set_option linter.all false
namespace Go.Proofs.YtbnnlpjpnihheaaGreatDoor
open Go.RowKit Go.CH Go.CH.Scr
open Go.ChangeMaps (setBlock)
variable{F0:Nat->Prop}{w0 W:World}{ops:Array Oper}{a:Act}{Q:Exit->Act->World->Prop}{A:fj}{c n:Nat}{l:List Bs}
theorem QA{Y:CH.bq}{rest:List Oper}{o:Oper}(J:o.guard=none)(s x:Operand)(ho:o.op=.call { callee:=.builtin .append,args:=#[s,x],argTypes:=#[26,26] }){i:ByteArray}(hl:l.length=n)(hsv:a.eval s=.slice A n c)(hx:a.eval x=.slice (some ⟨W.heap.size,0,none⟩) 1 1)(hn:n<=1000000)(hY:Y.Ok)(h:aI F0 w0 (aj (bO A c l) Y) W)(hK:∀ M c' w',aI F0 w0 (aj (bO M c' (l++[bl i])) Y) w'->wpList Tryz.prog ops Q rest (a.put o.dst (.slice M (n+1) c')) w'):wpList Tryz.prog ops Q (o::rest) a (W.alloc (.cells (iu i) 9)):=by
 subst hl;obtain⟨F7,q,-,F⟩:=(h.below aQ ((YC _ _).alloc (YG _) (.cells (iu i) 9))).take fq hY;refine nH J s x ho wK _ 0 (v:=.slice A l.length c) (n:=l.length) (xs:=mE l) hsv q.1 (A:=some ⟨W.heap.size,0,none⟩) (m:=1) (c:=1) (news:=[.string i]) hx (zS W _ 9 rfl) (by unfold maxLen;omega) ff (YE _) ?_;intro v8 w8 p I z;have V:=F _ _ (iy q p I z);obtain⟨A8,c8,rfl⟩:=fV p;rw[show Value.string i=.string (bs (bl i)) by rw[qh],EU] at V;exact hK A8 c8 w8 V
theorem lV(k:Int)(s:ByteArray)(w:World)(hs:s.size<=1000000):
  Calls Tryz.prog 77 #[.int .i64 k,.string s] w (jT w k (bl s)):=by
 obtain⟨xs,ae⟩:∃ xs,xs=(aM k (bl s)).1:=⟨_,rfl⟩;have F:=au ae;have S0:=au (((aI.begin w).fresh aO (⟨fun _=>False,yS w,Mod.refl _ _,fun i hi=>.inl hi⟩:bS w fh (bO none 0 []) w)));clear ae
 go_enter Tryz.func77,Tryz.ntmps77
 go_wp2;go_loopw [6,7] (fun v p wr=>∃ (j:Nat) (A:fj) (c:Nat),j<=12/\j<=xs.length/\v=.slice A j c/\p=.int .i64 (qj k (bl s) j:Nat)/\aI fh w (aj (bO A c (xs.take j)) aS) wr)
  (fun _ p _=>s.size-(intOf p).toNat)
 case atStart=>exact⟨0,none,0,YE _,YE _,rfl,rfl,by rw[k8];exact S0.o⟩
 case round=>
  obtain⟨j,A,c,hj,z,rfl,rfl,hR⟩:=hrel;have HR:=au hR;clear hR S0;have ai:=(oD (k:=k) (l:=bl s) j (by rw[<-F.o];exact z)).2;rw[jG] at ai;by_cases aw:(qj k (bl s) j:Int)<(s.size:Int)
  ·have J:=au (ER k s (qj k (bl s) j) wr hs ff);by_cases hz:fN k ((bl s).drop (qj k (bl s) j))=0
   ·have I:=au (show aU k (bl s)=([],1) from uQ (fun h=>TU (by rw[<-F.o];exact z) (by rw[jG];omega) hz h.1));rw[hz] at J;clear hz;generalize qj k (bl s) j=pos at *
    go_wp2_with fail;refine J.o.mono ?_;rintro e9 w9 ⟨rfl,hb⟩;have HM:=au ((HR.o.below aQ hb).mod);clear J hb;go_wp2;refine bodyPost_ret (results_tmp2 rfl _ _ _) rfl ?_;exact kU I.o HM.o
   ·have q:j<(aM k (bl s)).1.length:=Pw (by rw[<-F.o];exact z) hz;by_cases ak:j=12
    ·have I:=au (show aU k (bl s)=([],1) from uQ ff);have ad:((fN k ((bl s).drop (qj k (bl s) j)):Nat):Int)≠0:=by omega
     have af:(((fN k ((bl s).drop (qj k (bl s) j)):Nat):Int)==0)=false:=by simpa using ad
     subst ak;clear hz ad q;generalize fN k ((bl s).drop (qj k (bl s) 12))=n1 at *
     generalize qj k (bl s) 12=pos at *
     go_wp2_with fail;refine J.o.mono ?_;rintro e9 w9 ⟨rfl,hb⟩;have HM:=au ((HR.o.below aQ hb).mod);clear J hb;go_wp2;refine bodyPost_ret (results_tmp2 rfl _ _ _) rfl ?_;exact kU I.o HM.o
    ·have af:(((fN k ((bl s).drop (qj k (bl s) j)):Nat):Int)==0)=false:=by simpa using hz
     have ax:((j:Int)==12)=false:=by simp;omega
     have ao:=lT (k:=k) (l:=(bl s).drop (qj k (bl s) j));rw[Y8,jG] at ao
     have aa:=au (show xs.take j++[bl (s.extract (qj k (bl s) j) (qj k (bl s) j+fN k ((bl s).drop (qj k (bl s) j))))]=xs.take (j+1) by
      have al:j<xs.length:=by rw[F.o];exact q
      rw[YD al,kI];have e1:=Wp q;have e2:xs[j]=(aM k (bl s)).1[j]:=by simp only[F.o]
      rw[e2,e1,List.take_drop])
     have am:=au (show qj k (bl s) (j+1)=qj k (bl s) j+fN k ((bl s).drop (qj k (bl s) j)) from rfl);have aq:0<fN k ((bl s).drop (qj k (bl s) j)):=by omega
     have ac:(xs.take j).length=j:=by rw[YU];omega
     have an:=au ac;have ag:=au (show j+1<=xs.length by rw[F.o];exact q);clear hz q ac z;generalize fN k ((bl s).drop (qj k (bl s) j))=n1 at *
     generalize qj k (bl s) j=pos at *
     go_wp2_with fail;refine J.o.mono ?_;rintro e9 w9 ⟨rfl,hb⟩;have ab:=au (HR.o.below aQ hb);clear J hb HR;go_wp2_with (at_builtin;refine held ?_);refine ia.mk (QA rfl (.tmp 24) (.tmp 31) rfl an.o rfl rfl ff aO ab.o ?_);intro A' c' w2 M;rw[aa.o] at M;have ap:=au M;clear M ab aa;go_wp2
     go_roundw
     case rel=>exact⟨j+1,A',c',by omega,ag.o,by go_num,by rw[am.o];go_num,ap.o⟩
     case measure=>simp[intOf];omega
  ·obtain⟨ej,er⟩:=TV (k:=k) (l:=bl s) (by rw[<-F.o];exact z) (by rw[jG];omega);by_cases h0:j=0
   ·have I:=au (show aU k (bl s)=([],1) from uQ ff);have HM:=au HR.o.mod;subst h0;clear ej er;generalize qj k (bl s) 0=pos at *
    go_wp2;refine bodyPost_ret (results_tmp2 rfl _ _ _) rfl ?_;exact kU I.o HM.o
   ·have I:=au (show aU k (bl s)=((aM k (bl s)).1,0) from K8 ⟨er,by omega,by omega⟩);have V:=HR.o;rw[F.o,ej,YO] at V;have HF:=au (EW I.o V);rw[<-ej] at HF;have ar:((j:Int)==0)=false:=by simp;omega
    clear ej er V;generalize qj k (bl s) j=pos at *
    go_wp2;refine bodyPost_ret (results_tmp2 rfl _ _ _) rfl ?_;exact HF.o
theorem Jy(k:Int)(s:ByteArray)(w:World)(hs:s.size<=1000000):Calls Tryz.prog 77 #[.int .i64 k,.string s] w (xQ w k (bl s)):=by
 refine(lV k s w hs).mono ?_;rintro e w' ⟨A,c,rfl,F,h1,h2,h3⟩;exact⟨A,c,rfl,h2.below (fun _ _ h=>h),jm h1⟩
theorem NV(k:Int)(s:ByteArray)(w:World)(I:s.size<=1000000):Calls Tryz.prog 66 #[.int .i64 k,.string s] w (aL w (.bool (word k (bl s)))):=by
 have h:=au (Jy k s w I);cases q:word k (bl s) with
 | true=>
  have p:aU k (bl s)=((aM k (bl s)).1,0):=by unfold aU;rw[if_pos q]
  unfold xQ at h;simp only[p] at h;clear p q
  go_enter Tryz.func66,Tryz.ntmps66
  go_wp2_with fail;refine h.o.mono ?_;rintro J F ⟨A,c,rfl,hb,-⟩;have z:=au hb;clear hb h;dsimp only;go_wp2;go_ret;exact aN rfl z.o
 | false=>
  have p:aU k (bl s)=([],1):=by unfold aU;rw[if_neg (by rw[q];decide)]
  unfold xQ at h;simp only[p] at h;clear p q
  go_enter Tryz.func66,Tryz.ntmps66
  go_wp2_with fail;refine h.o.mono ?_;rintro J F ⟨A,c,rfl,hb,-⟩;have z:=au hb;clear hb h;dsimp only;go_wp2;go_ret;exact aN rfl z.o
theorem QB:d9 Tryz.prog 150 5 (.int .u8 0) 1 1:=⟨by kernel_rfl,by kernel_rfl,by decide,by decide⟩
def Gd(l:Bs):List Value:=l.map fun b=>.int .u8 b.toNat
theorem QC(l:Bs):∀ u ∈ Gd l,u.oneCell'=true:=by
 intro u hu;obtain⟨b,_,rfl⟩:=List.mem_map.1 hu;rfl
def D7(A:fj)(c:Nat)(l:Bs):CH.bq:=aZ 5 1 (.slice A l.length c) l.length (Gd l)
variable{l:Bs}{v:Value}
theorem QD:(D7 A c l).Ok:=cB
instance {A:fj} {c:Nat} {l:Bs}:(D7 A c l).Ok:=QD
theorem QE{x:UInt8}:aZ 5 1 (.slice A (l.length+1) c) (l.length+1) (Gd l++[.int .u8 x.toNat])=D7 A c (l++[x]):=by
 have e:Gd (l++[x])=Gd l++[.int .u8 x.toNat]:=by simp[Gd]
 unfold D7;rw[e,Yz,Y1]
theorem D8{Y:CH.bq}{rest:List Oper}{o:Oper}(J:o.guard=none)(s x:Operand)(ho:o.op=.call { callee:=.builtin .append,args:=#[s,x],argTypes:=#[150,150] }){i:UInt8}(hv:v=.int .u8 i.toNat)(hl:l.length=n)(hsv:a.eval s=.slice A n c)(hx:a.eval x=.slice (some ⟨W.heap.size,0,none⟩) 1 1)(hn:n<=1000000)(hY:Y.Ok)(h:aI F0 w0 (aj (D7 A c l) Y) W)(hK:∀ M c' w',aI F0 w0 (aj (D7 M c' (l++[i])) Y) w'->wpList Tryz.prog ops Q rest (a.put o.dst (.slice M (n+1) c')) w'):wpList Tryz.prog ops Q (o::rest) a (W.alloc (.cells #[v] 5)):=by
 subst hl hv;obtain⟨F7,q,-,F⟩:=(h.below aQ ((YC _ _).alloc (YG _) (.cells #[.int .u8 i.toNat] 5))).take QD hY;refine nH J s x ho QB _ 0 (v:=.slice A l.length c) (n:=l.length) (xs:=Gd l) hsv q.1 (A:=some ⟨W.heap.size,0,none⟩) (m:=1) (c:=1) (news:=[.int .u8 i.toNat]) hx (zS W _ 5 rfl) (by unfold maxLen;omega) ff (YE _) ?_;intro v8 w8 p I z;have V:=F _ _ (iy q p I z);obtain⟨A8,c8,rfl⟩:=fV p;rw[QE] at V;exact hK A8 c8 w8 V
theorem QF(h:aI F0 w0 (aj (D7 A c l) aS) W)(hn:l.length=n):
  (convert 150 9 (.slice A n c)).run Tryz.prog W=.ok (.string (bs l)) W:=by
 subst hn;obtain⟨F,V⟩:=h.fst;have z:=iG V (QC l);have p:Tryz.prog.underlying 150=some (.slice 5):=QB.1;have I:Tryz.prog.underlying 5=some (.int .u8):=by kernel_rfl
 cases A with
 | none=>
  have J:l=[]:=by
   rcases nn l.length with h0|h0
   ·exact Y0 h0
   ·obtain⟨q,e,_⟩:=z.2.2 h0;cases e
  subst J;rw[run_convert_bytes_nil W 150 5 p I _ _ 9 Tryz.underlying9];rfl
 | some q=>
  refine run_convert_bytes_back W 150 9 5 q c l p I Tryz.underlying9 (fun j M=>?_);exact z.cells rfl j _ (by unfold Gd;rw[Y6,YH M];rfl)
theorem NT(w:World):aI fh w (aj (D7 (some ⟨w.heap.size,0,none⟩) 0 []) aS) (w.alloc (.cells #[] 5)):=
 (aI.begin w).fresh aO (GH w 5 1)
theorem WI{x:UInt8}(h:65<=x.toNat/\x.toNat<=90):(x.toNat:Int)+32=(low x).toNat:=by
 have h1:(65:UInt8)<=x/\x<=90:=⟨UInt8.le_iff_toNat_le.2 h.1,UInt8.le_iff_toNat_le.2 h.2⟩;unfold low;rw[if_pos h1,sL]
 show(x.toNat:Int)+32=(((x.toNat+32) % 256:Nat):Int)
 rw[Nat.mod_eq_of_lt ff];omega
theorem Gf{x:UInt8}(h:¬ (65<=x.toNat/\x.toNat<=90)):low x=x:=by
 unfold low;rw[if_neg];rintro⟨h1,h2⟩;exact h ⟨UInt8.le_iff_toNat_le.1 h1,UInt8.le_iff_toNat_le.1 h2⟩
theorem Jw{k:Nat}{x:UInt8}(h:l[k]?=some x):lower (l.take k)++[low x]=lower (l.take (k+1)):=by
 obtain⟨h1,h2⟩:=List.getElem?_eq_some_iff.1 h;rw[YD h1,h2];simp[lower]
theorem NU(l:Bs):(lower l).length=l.length:=by simp[lower]
theorem xg(k:Int)(s:ByteArray)(w:World)(hs:s.size<=1000000):
  Calls Tryz.prog 76 #[.int .i64 k,.string s] w (aL w (.tuple #[.string (bs (fE k (bl s)).1),.int .i64 (fE k (bl s)).2])):=by
 have V:=au (NV k s w hs);cases M:word k (bl s) with
 | false=>
  have e2:fE k (bl s)=([],1):=by unfold fE;rw[M];rfl
  rw[M] at V;rw[e2];clear M e2
  go_enter Tryz.func76,Tryz.ntmps76
  go_wp2_with fail;refine V.o.mono ?_;rintro e9 w1 ⟨rfl,hb⟩;have HB:=au hb;clear V hb;go_wp2;refine bodyPost_ret (results_tmp2 rfl _ _ _) rfl ?_;exact⟨rfl,HB.o⟩
 | true=>
  have e2:fE k (bl s)=(lower (bl s),0):=by unfold fE;rw[M];rfl
  have HE:=au e2;rw[M] at V;clear M e2
  go_enter Tryz.func76,Tryz.ntmps76
  go_wp2_with fail;refine V.o.mono ?_;rintro e9 w1 ⟨rfl,hb⟩;have HB:=au hb;have S0:=au (NT w1);clear V hb;go_wp2;generalize w1.alloc (.cells #[] 5)=w2 at *
  go_loopw [6,7] (fun v i wr=>∃ (j:Nat) (A:fj) (c:Nat),j<=s.size/\v=.slice A j c/\i=.int .i64 (j:Int)/\aI fh w1 (aj (D7 A c (lower ((bl s).take j))) aS) wr) (fun _ i _=>s.size-(intOf i).toNat)
  case atStart=>exact⟨0,_,0,YE _,rfl,rfl,by rw[k8];exact S0.o⟩
  case round=>
   obtain⟨j,A,c,hj,rfl,rfl,hR⟩:=hrel;have I:=au hR;clear hR S0;have F:(lower ((bl s).take j)).length=j:=by rw[NU,YU,jG];omega
   have J:=au F;by_cases ac:(j:Int)<(s.size:Int)
   ·have aa:j<s.size:=by omega
    obtain⟨x,hx⟩:∃ x:UInt8,s[j]=x:=⟨_,rfl⟩;have q:=au (Jw (show(bl s)[j]?=some x by rw[EN s j aa,hx]));have ab:=x.toNat_lt;clear F;by_cases h1:(65:Int)<=(x.toNat:Int)
    ·by_cases h2:(x.toNat:Int)<=90
     ·have p:=au (WI (x:=x) ff);go_wp2_with (at_builtin;refine held ?_);refine ia.mk (D8 rfl (.tmp 31) (.tmp 33) rfl (i:=low x) (by rw[<-p.o]) J.o rfl rfl ff aO I.o ?_);intro A' c' w3 h;rw[q.o] at h;have z:=au h;clear h I q p;go_wp2
      go_roundw
      case rel=>exact⟨j+1,A',c',by omega,rfl,by go_num,z.o⟩
      case measure=>simp[intOf];omega
     ·have p:=au (Gf (x:=x) ff);go_wp2_with (at_builtin;refine held ?_);refine ia.mk (D8 rfl (.tmp 31) (.tmp 33) rfl (i:=low x) (by rw[p.o]) J.o rfl rfl ff aO I.o ?_);intro A' c' w3 h;rw[q.o] at h;have z:=au h;clear h I q p;go_wp2
      go_roundw
      case rel=>exact⟨j+1,A',c',by omega,rfl,by go_num,z.o⟩
      case measure=>simp[intOf];omega
    ·have p:=au (Gf (x:=x) ff);go_wp2_with (at_builtin;refine held ?_);refine ia.mk (D8 rfl (.tmp 31) (.tmp 33) rfl (i:=low x) (by rw[p.o]) J.o rfl rfl ff aO I.o ?_);intro A' c' w3 h;rw[q.o] at h;have z:=au h;clear h I q p;go_wp2
     go_roundw
     case rel=>exact⟨j+1,A',c',by omega,rfl,by go_num,z.o⟩
     case measure=>simp[intOf];omega
   ·obtain rfl:j=s.size:=by omega
    have HF:=au (show fE k (bl s)=(lower ((bl s).take s.size),0) by rw[HE.o,<-jG,YO]);have ad:=QF I.o F;have HM:=au (aG HB.o I.o.bN);clear F HE I;generalize lower ((bl s).take s.size)=r at *
    go_wp2;refine bodyPost_ret (results_tmp2 rfl _ _ _) rfl ?_;exact⟨by rw[HF.o];rfl,HM.o⟩
open Go.CH.eG
theorem xk(n:Int)(w:World):Calls Tryz.prog 63 #[.int .i64 n] w (aL w (.bool (dJ n))):=by
 by_cases q:0<=n
 ·by_cases p:n<=1000
  ·have e:dJ n=true:=eY.2 ⟨q,p⟩;rw[e]
   go_enter Tryz.func63,Tryz.ntmps63
   go_wp2;go_ret;exact⟨rfl,YC _ _⟩
  ·have e:dJ n=false:=by rw[Y4];exact fun h=>p (eY.1 h).2
   rw[e]
   go_enter Tryz.func63,Tryz.ntmps63
   go_wp2;go_ret;exact⟨rfl,YC _ _⟩
 ·have e:dJ n=false:=by rw[Y4];exact fun h=>q (eY.1 h).1
  rw[e]
  go_enter Tryz.func63,Tryz.ntmps63
  go_wp2;go_ret;exact⟨rfl,YC _ _⟩
theorem JA(w:World)(R S:ib):Calls Tryz.prog 106 #[.agg (eX R).toArray,.agg (eX S).toArray] w (aL w (.bool (decide (gF R=gF S)))):=by
 obtain⟨k,f,t,c⟩:=R;obtain⟨k2,F,q,c2⟩:=S;have V:=aH (aI.begin w) aO (eX ⟨k,f,t,c⟩).toArray 113;have h2:=aH V aQ (eX ⟨k2,F,q,c2⟩).toArray 113;have I:=au (h2.mod.below (fun _ _ h=>h));have e:decide (gF ⟨k,f,t,c⟩=gF ⟨k2,F,q,c2⟩)=(decide (k=k2)&&(decide (f=F)&&decide (t=q))):=by
  unfold gF;simp only[Prod.mk.injEq,Bool.decide_and]
 rw[e];unfold eX;unfold eX at I;clear V h2 e;by_cases p:k=k2
 ·have t1:(k==k2)=true:=by simp[p]
  by_cases e2:f=F
  ·have J:((bs f).toList==(bs F).toList)=true:=by rw[dI];simp[e2]
   by_cases z:t=q
   ·have M:((bs t).toList==(bs q).toList)=true:=by rw[dI];simp[z]
    rw[decide_eq_true p,decide_eq_true e2,decide_eq_true z];clear p e2 z
    go_enter Tryz.func106,Tryz.ntmps106
    go_wp2;go_ret;exact⟨rfl,I.o⟩
   ·have M:((bs t).toList==(bs q).toList)=false:=by rw[dI];simpa using fun h=>z (nO h)
    rw[decide_eq_true p,decide_eq_true e2,decide_eq_false z];clear p e2 z
    go_enter Tryz.func106,Tryz.ntmps106
    go_wp2;go_ret;exact⟨rfl,I.o⟩
  ·have J:((bs f).toList==(bs F).toList)=false:=by rw[dI];simpa using fun h=>e2 (nO h)
   rw[decide_eq_true p,decide_eq_false e2];clear p e2
   go_enter Tryz.func106,Tryz.ntmps106
   go_wp2;go_ret;exact⟨rfl,I.o⟩
 ·have t1:(k==k2)=false:=by simp[p]
  rw[decide_eq_false p];clear p
  go_enter Tryz.func106,Tryz.ntmps106
  go_wp2;go_ret;exact⟨rfl,I.o⟩
theorem D9{x:UInt8}:nI x=true↔97<=x.toNat/\x.toNat<=122:=by
 unfold nI;rw[YF,decide_eq_true_eq,decide_eq_true_eq,tW,tW];rfl
theorem Ea(s:ByteArray)(w:World)(hs:s.size<=1000000):Calls Tryz.prog 105 #[.string s] w (aL w (.bool (kW (bl s)))):=by
 have HS:=au hs;have ab:=au (YC w.heap.size w);clear hs
 go_enter Tryz.func105,Tryz.ntmps105
 go_wp2;go_loopw [3] (fun i wr=>∃ k:Nat,k<=s.size/\i=.int .i64 k/\((bl s).take k).all nI=true/\Below w.heap.size w wr) (fun i _=>s.size-(intOf i).toNat)
 case atStart=>exact⟨0,YE _,rfl,by simp,ab.o⟩
 case round=>
  obtain⟨k,hk,rfl,ht,hb⟩:=hrel;have HT:=au ht;have p:=au hb;clear ht hb;by_cases I:k<s.size
  ·obtain⟨y,hy⟩:∃ y:UInt8,s[k]=y:=⟨_,rfl⟩;have z:(bl s)[k]?=some y:=by rw[EN s k I,hy]
   have M:=au (show(bl s).take (k+1)=(bl s).take k++[y] by rw[List.take_add_one,z];rfl);have q:=au (show y ∈ bl s from Za z);have ac:(k:Int)<(s.size:Int):=by omega
   have aa:=y.toNat_lt;have J:=au I;have ad:(k:Int)<1000000:=by have:=HS.o;omega
   clear z;by_cases h1:y.toNat<97
   ·have F:=au (show kW (bl s)=false by
     rw[Y4];intro h;have:=List.all_eq_true.1 (l5.1 h).2 y q.o;have:=D9.1 this
     omega)
    have t1:decide ((y.toNat:Int)<97)=true:=decide_eq_true ff;clear h1;go_wp2;go_ret;rw[F.o];exact⟨rfl,p.o⟩
   ·have t1:decide ((y.toNat:Int)<97)=false:=decide_eq_false ff;by_cases h2:122<y.toNat
    ·have F:=au (show kW (bl s)=false by
      rw[Y4];intro h;have:=List.all_eq_true.1 (l5.1 h).2 y q.o;have:=D9.1 this
      omega)
     have t2:decide ((122:Int)<(y.toNat:Int))=true:=decide_eq_true ff;clear h1 h2;go_wp2;go_ret;rw[F.o];exact⟨rfl,p.o⟩
    ·have t2:decide ((122:Int)<(y.toNat:Int))=false:=decide_eq_false ff
     have V:=au (show((bl s).take (k+1)).all nI=true by
      rw[M.o,sY,HT.o,rj,D9.2 ⟨by omega,by omega⟩];rfl)
     clear h1 h2;go_wp2
     go_roundw
     case rel=>exact⟨k+1,J.o,by go_num,V.o,p.o⟩
     case measure=>have:=J.o;simp[intOf];omega
  ·obtain rfl:k=s.size:=by omega
   have HA:=au (show(bl s).all nI=true by
    have:=HT.o;rw[<-jG,YO] at this
    exact this)
   have F:=au (show kW (bl s)=decide (s.size<=3) by unfold kW;rw[HA.o,Bool.and_true,jG]);go_wp2;go_ret;exact aN (by rw[F.o];exact decide_eq_decide.2 ff) p.o
theorem vk(w:World):bS w fh (bO none 0 []) w:=⟨fun _=>False,yS w,Mod.refl _ _,fun i hi=>.inl hi⟩
variable{w:World}
theorem mQ{w1 w2:World}{O:CH.bq}(hb:Below w.heap.size w w1)(h:bS w1 fh O w2)(ho:O.Ok):bS w fh O w2:=by
 have h2:=((aI.begin w).below aO hb).fresh aO h;exact(h2.swap.drop).post ho
theorem xq(k:Int)(x:Bs):(word k x=true/\fE k x=(lower x,0)/\aU k (lower x)=((aM k (lower x)).1,0)/\iq k x=((aM k (lower x)).1,true))\/(word k x=false/\fE k x=([],1)/\iq k x=([],false)):=by
 by_cases h:word k x=true
 ·exact .inl ⟨h,by unfold fE;rw[if_pos h],by unfold aU;rw[if_pos (iA h)],by unfold iq;rw[if_pos h]⟩
 ·exact .inr ⟨Bool.eq_false_iff.2 h,by unfold fE;rw[if_neg h],by unfold iq;rw[if_neg h]⟩
def yY(w:World)(k:Int)(x:Bs)(e:Ending)(w':World):Prop:=
 ∃ A c,e=.returned (.slice A (iq k x).1.length c)/\bS w fh (bO A c (iq k x).1) w'
def mR(w:World)(k:Int)(x:Bs)(e:Ending)(w':World):Prop:=
 ∃ A c,e=.returned (.tuple #[.slice A (iq k x).1.length c,.bool (iq k x).2])/\bS w fh (bO A c (iq k x).1) w'
theorem vo(k:Int)(x:Bs)(w:World)(J:x.length<=1000000):Calls Tryz.prog 74 #[.int .i64 k,.string (bs x)] w (yY w k x):=by
 have h:=au (xg k (bs x) w (by rw[bB];exact J));simp only[fO] at h;unfold aL at h;have p:(lower x).length<=1000000:=by unfold lower;rw[YI];exact J
 unfold yY;rcases xq k x with⟨-,z,e2,I⟩|⟨-,z,I⟩
 ·have q:=au (fun W=>lV k (bs (lower x)) W (by rw[bB];exact p));simp only[fO] at q;unfold jT at q;simp only[e2] at q;simp only[z] at h;rw[I];dsimp only;generalize (aM k (lower x)).1=l at *
  clear z e2 I p J
  go_enter Tryz.func74,Tryz.ntmps74
  go_wp2_with fail;refine h.o.mono ?_;rintro e9 V ⟨rfl,hb⟩;have HB:=au hb;have F:=au (q.o V);clear h q hb;dsimp only;go_wp2_with fail;refine F.o.mono ?_;rintro e9 w3 ⟨A,c,rfl,hp⟩;have M:=au (mQ HB.o hp fq);clear F hp HB;dsimp only;generalize hn:l.length=n at *
  go_wp2;go_ret;exact⟨A,c,by rw[hn];rfl,M.o⟩
 ·simp only[z] at h;rw[I];dsimp only;clear z I p J
  go_enter Tryz.func74,Tryz.ntmps74
  go_wp2_with fail;refine h.o.mono ?_;rintro e9 V ⟨rfl,hb⟩;have M:=au (mQ hb (vk V) fq);clear h hb;dsimp only;go_wp2;go_ret;exact⟨none,0,rfl,M.o⟩
theorem iM(k:Int)(x:Bs)(w:World)(J:x.length<=1000000):Calls Tryz.prog 44 #[.int .i64 k,.string (bs x)] w (mR w k x):=by
 have h:=au (xg k (bs x) w (by rw[bB];exact J));simp only[fO] at h;unfold aL at h;have p:(lower x).length<=1000000:=by unfold lower;rw[YI];exact J
 unfold mR;rcases xq k x with⟨-,z,e2,I⟩|⟨-,z,I⟩
 ·have q:=au (fun W=>lV k (bs (lower x)) W (by rw[bB];exact p));simp only[fO] at q;unfold jT at q;simp only[e2] at q;simp only[z] at h;rw[I];dsimp only;generalize (aM k (lower x)).1=l at *
  clear z e2 I p J
  go_enter Tryz.func44,Tryz.ntmps44
  go_wp2_with fail;refine h.o.mono ?_;rintro e9 V ⟨rfl,hb⟩;have HB:=au hb;have F:=au (q.o V);clear h q hb;dsimp only;go_wp2_with fail;refine F.o.mono ?_;rintro e9 w3 ⟨A,c,rfl,hp⟩;have M:=au (mQ HB.o hp fq);clear F hp HB;dsimp only;generalize hn:l.length=n at *
  go_wp2;refine bodyPost_ret (results_tmp2 rfl _ _ _) rfl ?_;exact⟨A,c,by rw[hn];rfl,M.o⟩
 ·simp only[z] at h;rw[I];dsimp only;clear z I p J
  go_enter Tryz.func44,Tryz.ntmps44
  go_wp2_with fail;refine h.o.mono ?_;rintro e9 V ⟨rfl,hb⟩;have M:=au (mQ hb (vk V) fq);clear h hb;dsimp only;go_wp2;refine bodyPost_ret (results_tmp2 rfl _ _ _) rfl ?_;exact⟨none,0,rfl,M.o⟩
theorem xZ(k:Int)(x:Bs)(gh:Nat)(w:World)(hx:x.length<=1000000):Calls Tryz.prog 104 #[.int .i64 k,.string (bs x),.int .i64 (gh:Int)] w (aL w (.bool (dQ k x gh))):=by
 have p:=au (xg k (bs x) w (by rw[bB];exact hx));simp only[fO] at p;unfold aL at p;rcases xq k x with⟨hw,e1,e2,e3⟩|⟨hw,e1,e3⟩
 ·simp only[e1] at p;by_cases hl:lower x=x
  ·have M:=au (fun W=>vo k x W hx);unfold yY at M;simp only[e3] at M;have J:dQ k x gh=decide ((aM k x).1.length<=gh):=by unfold dQ;rw[hw,decide_eq_true hl];simp
   rw[hl] at M p;rw[J];have tq:((bs x).toList==(bs x).toList)=true:=by simp
   clear e1 e2 e3 J hl hw hx;generalize (aM k x).1=l at *
   by_cases hm:l.length<=gh
   ·rw[decide_eq_true hm]
    go_enter Tryz.func104,Tryz.ntmps104
    go_wp2_with fail;refine p.o.mono ?_;rintro e9 w2 ⟨rfl,hb⟩;have I:=au hb;have z:=au (M.o w2);clear p M hb;dsimp only;go_wp2_with fail;refine z.o.mono ?_;rintro e9 w3 ⟨A,c,rfl,hp⟩;obtain⟨F,hF,q,-⟩:=hp;have V:=au (aG I.o (q.below (fun _ _ h=>h)));clear z hF q I;have t1:decide ((l.length:Int)<=(gh:Int))=true:=decide_eq_true ff;generalize l.length=n at *
    dsimp only;go_wp2;go_ret;exact aN (by simp[hm]) V.o
   ·rw[decide_eq_false hm]
    go_enter Tryz.func104,Tryz.ntmps104
    go_wp2_with fail;refine p.o.mono ?_;rintro e9 w2 ⟨rfl,hb⟩;have I:=au hb;have z:=au (M.o w2);clear p M hb;dsimp only;go_wp2_with fail;refine z.o.mono ?_;rintro e9 w3 ⟨A,c,rfl,hp⟩;obtain⟨F,hF,q,-⟩:=hp;have V:=au (aG I.o (q.below (fun _ _ h=>h)));clear z hF q I;generalize l.length=n at *
    dsimp only;go_wp2;go_ret;exact aN gw V.o
  ·have J:dQ k x gh=false:=by unfold dQ;rw[decide_eq_false hl];simp
   have tq:((bs (lower x)).toList==(bs x).toList)=false:=by rw[dI];simpa using fun h=>hl (nO h)
   rw[J];clear e1 e2 e3 J hl hw hx
   go_enter Tryz.func104,Tryz.ntmps104
   go_wp2_with fail;refine p.o.mono ?_;rintro e9 w2 ⟨rfl,hb⟩;have I:=au hb;clear p hb;dsimp only;go_wp2;go_ret;exact⟨rfl,I.o⟩
 ·simp only[e1] at p;have J:dQ k x gh=false:=by unfold dQ;rw[hw];rfl
  rw[J];clear e1 e3 J hw hx
  go_enter Tryz.func104,Tryz.ntmps104
  go_wp2_with fail;refine p.o.mono ?_;rintro e9 w2 ⟨rfl,hb⟩;have I:=au hb;clear p hb;dsimp only;go_wp2;go_ret;exact⟨rfl,I.o⟩
variable{l:List ib}{i:Nat}
theorem JB(h:i<l.length):fQ (l.take (i+1))=(fQ (l.take i)&&(ql l[i]&&decide (∀ k (I:k<l.length),k<i->gF l[i]≠gF l[k]))):=by
 rw[ZH];simp only[YF,iV,decide_eq_true_eq];rw[YD h,YS,nt];constructor
 ·rintro⟨⟨F,-,z⟩,q⟩;refine⟨⟨F,fun R p=>q R (lL _ p)⟩,q _ (mC _ (List.mem_singleton.2 rfl)),fun k I V e=>?_⟩;refine z (gF l[k]) (List.mem_map.2 ⟨l[k],?_,rfl⟩) (gF l[i]) gw e.symm;rw[po];exact⟨k,by omega,rfl⟩
 ·rintro⟨⟨F,z⟩,q,M⟩;refine⟨⟨F,by simp,fun a ha b J e=>?_⟩,fun R p=>?_⟩
  ·obtain⟨R,p,rfl⟩:=List.mem_map.1 ha;rw[po] at p;obtain⟨k,I,rfl⟩:=p;simp only[Zb,Z7,qk] at J;subst J;exact M k ff ff e.symm
  ·rcases List.mem_append.1 p with p|p
   ·exact z R p
   ·rw[List.mem_singleton.1 p];exact q
theorem sD(h:fQ (l.take i)=false):fQ l=false:=by
 rw[Y4] at h ⊢;intro h2;refine h (iV.2 ?_);obtain⟨h3,h4⟩:=iV.1 h2;exact⟨by rw[rh];exact h3.sublist (List.take_sublist _ _),fun R hR=>h4 R (ZC hR)⟩
theorem JC(hA:lD w A l)(hl:l.length<=1000000)(hs:∀ R ∈ l,R.f.length<=1000000/\R.t.length<=1000000):
  Calls Tryz.prog 64 #[.slice A l.length c] w (aL w (.bool (fQ l))):=by
 have HA:=au hA;have HL:=au hl;have HS:=au hs;have a4:=au (YC w.heap.size w);obtain⟨n,hn⟩:∃ n,n=l.length:=⟨_,rfl⟩;have HN:=au hn;rw[<-hn];clear hA hl hs hn
 go_enter Tryz.func64,Tryz.ntmps64
 go_wp2_with fail;go_loopw [3] (fun i wr=>∃ j:Nat,j<=n/\i=.int .i64 j/\fQ (l.take j)=true/\Below w.heap.size w wr) (fun i _=>n-(intOf i).toNat)
 case atStart=>exact⟨0,YE _,rfl,by rw[k8];rfl,a4.o⟩
 case round=>
  obtain⟨j,hj,rfl,hr,p⟩:=hrel;have HR:=au hr;have ar:=au p;clear hr p;by_cases aw:j<n
  ·have ap:j<l.length:=by rw[<-HN.o];exact aw
   have ad:=au aw;obtain⟨b,o,rfl,hc⟩:=tH.at (R:=eX) (fun _=>rfl) ff HA.o ff;have HC:=au (fun W (h:Below w.heap.size w W) k (hk:k<l.length)=>(show W.cell? ⟨b,o+k*4,none⟩=some (.int .i64 l[k].k)/\W.cell? ⟨b,o+k*4+1,none⟩=some (.string (bs l[k].f))/\W.cell? ⟨b,o+k*4+2,none⟩=some (.string (bs l[k].t))/\W.cell? ⟨b,o+k*4+3,none⟩=some (.int .i64 l[k].c) from⟨hc W h k hk 0 _ rfl,hc W h k hk 1 _ rfl,hc W h k hk 2 _ rfl,hc W h k hk 3 _ rfl⟩));have a8:(j:Int)<1000000:=by have:=HL.o;omega
   have ab:=au (JB ap);have F:=au (fun W h=>HC.o W h j ap);obtain⟨a0,aA⟩:=HS.o _ (YL ap);have K1:=au (fun W=>xZ l[j].k l[j].f 3 W a0);have K2:=au (fun W=>Ea (bs l[j].t) W (by rw[bB];exact aA));have K3:=au (fun W=>xk l[j].c W);have K4:=au (fun W k (hk:k<l.length)=>JA W l[j] l[k]);simp only[fO] at K2;clear hc a0 aA;have ax:ql l[j]=(dQ l[j].k l[j].f 3&&(kW l[j].t&&dJ l[j].c)):=rfl;have I:=au ax;clear ax;generalize l[j]=R at *
   obtain⟨Rk,Rf,Rt,Rc⟩:=R;dsimp only at F K1 K2 K3 I;go_upto_region 4 with (fail);have aD:=au (aG ar.o ((YC wr.heap.size wr).drew));have M:=F.o _ aD.o;refine aK (fun W:World=>W.cell? ⟨b,o+j*4,none⟩=some (.int .i64 Rk)/\W.cell? ⟨b,o+j*4+1,none⟩=some (.string (bs Rf))/\W.cell? ⟨b,o+j*4+2,none⟩=some (.string (bs Rt))/\W.cell? ⟨b,o+j*4+3,none⟩=some (.int .i64 Rc)) fi fi M ?_;clear M;generalize wr.drew=w2 at *
   (repeat(first|refine aW ?_|refine aX ?_))
   refine bY rfl ft (fun K V=>?_);go_wp2_with fail;refine(K1.o w2).mono ?_;rintro e9 w3 ⟨rfl,p⟩;have ao:=au (aG aD.o p);refine V.o _ _ (F.o w3 ao.o) ?_;clear V p;generalize dQ Rk Rf 3=f1 at *
   cases f1 with
   | false=>
    have z:=au (show fQ l=false from sD (i:=j+1) (by rw[ab.o,I.o];simp))
    (repeat(first|refine aW ?_|refine aX ?_))
    refine lex_nil ?_;go_wp2;go_ret;exact aN z.o ao.o
   | true=>
    (repeat(first|refine aW ?_|refine aX ?_))
    refine bY rfl ft (fun K V=>?_);go_wp2_with fail;refine(K2.o w3).mono ?_;rintro e9 w4 ⟨rfl,p⟩;have ag:=au (aG ao.o p);refine V.o _ _ (F.o w4 ag.o) ?_;clear V p;generalize kW Rt=f2 at *
    cases f2 with
    | false=>
     have z:=au (show fQ l=false from sD (i:=j+1) (by rw[ab.o,I.o];simp))
     (repeat(first|refine aW ?_|refine aX ?_))
     refine lex_nil ?_;go_wp2;go_ret;exact aN z.o ag.o
    | true=>
     (repeat(first|refine aW ?_|refine aX ?_))
     refine bY rfl ft (fun K V=>?_);go_wp2_with fail;refine(K3.o w4).mono ?_;rintro e9 w5 ⟨rfl,p⟩;have an:=au (aG ag.o p);refine V.o _ _ (F.o w5 an.o) ?_;clear V p;generalize dJ Rc=f3 at *
     cases f3 with
     | false=>
      have z:=au (show fQ l=false from sD (i:=j+1) (by rw[ab.o,I.o];simp))
      (repeat(first|refine aW ?_|refine aX ?_))
      refine lex_nil ?_;go_wp2;go_ret;exact aN z.o an.o
     | true=>
      have aE:=au (show fQ (l.take (j+1))=decide (∀ k (hk:k<l.length),k<j->gF ⟨Rk,Rf,Rt,Rc⟩≠gF l[k]) from by rw[ab.o,I.o,HR.o];simp);clear ab I K1 K2 K3
      (repeat(first|refine aW ?_|refine aX ?_))
      refine lex_nil ?_;go_wp2_with fail;go_loopw [4] (fun i wr=>∃ k:Nat,k<=j/\i=.int .i64 k/\(∀ q (hq:q<l.length),q<k->gF ⟨Rk,Rf,Rt,Rc⟩≠gF l[q])/\Below w.heap.size w wr) (fun i _=>j-(intOf i).toNat)
      case atStart=>exact⟨0,YE _,rfl,fun q _ h=>absurd h (Zn _),an.o⟩
      case round=>
       obtain⟨k,hk,rfl,az,p⟩:=hrel;have ae:=au p;have af:=au az;clear p az;by_cases a2:k<j
       ·have ak:k<l.length:=by have:=ad.o;have:=HN.o;omega
        have am:=au a2;have al:=au (fun W h=>HC.o W h k ak);have K5:=au (fun W=>K4.o W k ak)
        have aq:=au (show gF ⟨Rk,Rf,Rt,Rc⟩≠gF l[k]->∀ q (hq:q<l.length),q<k+1->gF ⟨Rk,Rf,Rt,Rc⟩≠gF l[q] from fun h q hq a7=>by
         by_cases e:q=k
         ·subst e;exact h
         ·exact af.o q hq ff)
        have a1:=au (show gF ⟨Rk,Rf,Rt,Rc⟩=gF l[k]->fQ l=false from fun h=>sD (i:=j+1) (by rw[aE.o];exact decide_eq_false (fun g=>g k ak am.o h)));have aa:=au (aG ae.o ((YC wr.heap.size wr).drew));have a9:(k:Int)<(j:Int):=by omega
        generalize l[k]=Q at *
        obtain⟨Qk,Qf,Qt,Qc⟩:=Q;dsimp only at al aq a1;unfold eX at K5;dsimp only at K5;go_upto_region 9 with (fail);have M:=And.intro (F.o _ aa.o) (al.o _ aa.o);have a6:(j:Int)<(n:Int):=by have:=ad.o;omega
        have a5:(k:Int)<(n:Int):=by omega
        refine aK (fun W:World=>(W.cell? ⟨b,o+j*4,none⟩=some (.int .i64 Rk)/\W.cell? ⟨b,o+j*4+1,none⟩=some (.string (bs Rf))/\W.cell? ⟨b,o+j*4+2,none⟩=some (.string (bs Rt))/\W.cell? ⟨b,o+j*4+3,none⟩=some (.int .i64 Rc))/\(W.cell? ⟨b,o+k*4,none⟩=some (.int .i64 Qk)/\W.cell? ⟨b,o+k*4+1,none⟩=some (.string (bs Qf))/\W.cell? ⟨b,o+k*4+2,none⟩=some (.string (bs Qt))/\W.cell? ⟨b,o+k*4+3,none⟩=some (.int .i64 Qc))) fi fi M ?_;clear M;generalize wr.drew=w6 at *
        (repeat(first|refine aW ?_|refine aX ?_))
        refine bY rfl ft (fun K V=>?_);go_wp2_with fail;refine(K5.o w6).mono ?_;rintro e9 w7 ⟨rfl,p⟩;have ac:=au (aG aa.o p);refine V.o _ _ ⟨F.o w7 ac.o,al.o w7 ac.o⟩ ?_;clear V p K5
        (repeat(first|refine aW ?_|refine aX ?_))
        refine lex_nil ?_;by_cases J:gF ⟨Rk,Rf,Rt,Rc⟩=gF ⟨Qk,Qf,Qt,Qc⟩
        ·have z:=au (a1.o J);rw[decide_eq_true J];clear J;go_wp2;go_ret;exact aN z.o ac.o
        ·have a3:=au (aq.o J);rw[decide_eq_false J];clear J;go_wp2
         go_roundw
         case rel=>exact⟨k+1,by have:=am.o;omega,by go_num,a3.o,ac.o⟩
         case measure=>have:=am.o;simp[intOf];omega
       ·have ai:=au (show fQ (l.take (j+1))=true from by rw[aE.o];exact decide_eq_true (fun q hq ba=>af.o q hq ff));obtain rfl:k=j:=by omega
        go_wp2_with fail
        go_roundw
        case rel=>exact⟨k+1,ad.o,by go_num,ai.o,ae.o⟩
        case measure=>have:=ad.o;simp[intOf];omega
  ·obtain rfl:j=n:=by omega
   have HV:=au (show fQ l=true by have:=HR.o;rw[HN.o,YO] at this;exact this);go_wp2;go_ret;rw[HV.o];exact⟨rfl,ar.o⟩
def gY(gh:Nat)(l:List Drop):Bool:=decide ((l.map gK).Nodup)&&l.all (lK gh)
variable{l:List Drop}
theorem uy{gh:Nat}:gY gh l=true↔(l.map gK).Nodup/\∀ R ∈ l,lK gh R=true:=by unfold gY;simp
theorem JD{gh:Nat}(h:i<l.length):gY gh (l.take (i+1))=(gY gh (l.take i)&&(lK gh l[i]&&decide (∀ k (I:k<l.length),k<i->gK l[i]≠gK l[k]))):=by
 rw[ZH];simp only[YF,uy,decide_eq_true_eq];rw[YD h,YS,nt];constructor
 ·rintro⟨⟨z,-,F⟩,q⟩;refine⟨⟨z,fun d p=>q d (lL _ p)⟩,q _ (mC _ (List.mem_singleton.2 rfl)),fun k I aa e=>?_⟩;refine F (gK l[k]) (List.mem_map.2 ⟨l[k],?_,rfl⟩) (gK l[i]) gw e.symm;rw[po];exact⟨k,by omega,rfl⟩
 ·rintro⟨⟨z,F⟩,q,M⟩;refine⟨⟨z,by simp,fun a V b J e=>?_⟩,fun d p=>?_⟩
  ·obtain⟨R,p,rfl⟩:=List.mem_map.1 V;rw[po] at p;obtain⟨k,I,rfl⟩:=p;simp only[Zb,Z7,qk] at J;subst J;exact M k ff ff e.symm
  ·rcases List.mem_append.1 p with p|p
   ·exact F d p
   ·rw[List.mem_singleton.1 p];exact q
theorem xu{gh:Nat}(h:gY gh (l.take i)=false):gY gh l=false:=by
 rw[Y4] at h ⊢;intro h2;refine h (uy.2 ?_);obtain⟨h3,h4⟩:=uy.1 h2;exact⟨by rw[rh];exact h3.sublist (List.take_sublist _ _),fun d hR=>h4 d (ZC hR)⟩
theorem Ap{gh:Nat}(hA:jV w A l)(hl:l.length<=1000000)(hs:∀ R ∈ l,R.w.length<=1000000):
  Calls Tryz.prog 65 #[.slice A l.length c,.int .i64 (gh:Int)] w (aL w (.bool (gY gh l))):=by
 have HA:=au hA;have HL:=au hl;have HS:=au hs;have aE:=au (YC w.heap.size w);obtain⟨n,hn⟩:∃ n,n=l.length:=⟨_,rfl⟩;have HN:=au hn;rw[<-hn];clear hA hl hs hn
 go_enter Tryz.func65,Tryz.ntmps65
 go_wp2_with fail;go_loopw [5] (fun i wr=>∃ j:Nat,j<=n/\i=.int .i64 j/\gY gh (l.take j)=true/\Below w.heap.size w wr) (fun i _=>n-(intOf i).toNat)
 case atStart=>exact⟨0,YE _,rfl,by rw[k8];rfl,aE.o⟩
 case round=>
  obtain⟨j,hj,rfl,hr,hb⟩:=hrel;have HR:=au hr;have an:=au hb;clear hr hb;by_cases ao:j<n
  ·have am:j<l.length:=by rw[<-HN.o];exact ao
   have ac:=au ao;obtain⟨b,o,rfl,hc⟩:=tH.at (R:=tY) (fun _=>rfl) ff HA.o ff;have HC:=au (fun W (h:Below w.heap.size w W) k (hk:k<l.length)=>(show W.cell? ⟨b,o+k*3,none⟩=some (.int .i64 l[k].k)/\W.cell? ⟨b,o+k*3+1,none⟩=some (.string (bs l[k].w))/\W.cell? ⟨b,o+k*3+2,none⟩=some (.int .i64 l[k].c) from⟨hc W h k hk 0 _ rfl,hc W h k hk 1 _ rfl,hc W h k hk 2 _ rfl⟩));have a3:(j:Int)<1000000:=by have:=HL.o;omega
   have ab:=au (JD (gh:=gh) am);have aa:=au (fun W h=>HC.o W h j am);have az:=HS.o _ (YL am);have K1:=au (fun W=>xZ l[j].k l[j].w gh W az);have K3:=au (fun W=>xk l[j].c W);clear hc az;have J:=au (show lK gh l[j]=(dQ l[j].k l[j].w gh&&dJ l[j].c) from rfl);generalize l[j]=R at *
   obtain⟨F,I,Rc⟩:=R;dsimp only at aa K1 K3 J;go_upto_region 4 with (fail);have aw:=au (aG an.o ((YC wr.heap.size wr).drew));have p:=aa.o _ aw.o;refine aK (fun W:World=>W.cell? ⟨b,o+j*3,none⟩=some (.int .i64 F)/\W.cell? ⟨b,o+j*3+1,none⟩=some (.string (bs I))/\W.cell? ⟨b,o+j*3+2,none⟩=some (.int .i64 Rc)) fi fi p ?_;clear p;generalize wr.drew=w2 at *
   (repeat(first|refine aW ?_|refine aX ?_))
   refine bY rfl ft (fun K hK=>?_);go_wp2_with fail;refine(K1.o w2).mono ?_;rintro e9 w3 ⟨rfl,hb⟩;have al:=au (aG aw.o hb);refine hK.o _ _ (aa.o w3 al.o) ?_;clear hK hb;generalize dQ F I gh=f1 at *
   cases f1 with
   | false=>
    have M:=au (show gY gh l=false from xu (i:=j+1) (by rw[ab.o,J.o];simp))
    (repeat(first|refine aW ?_|refine aX ?_))
    refine lex_nil ?_;go_wp2;go_ret;exact aN M.o al.o
   | true=>
    (repeat(first|refine aW ?_|refine aX ?_))
    refine bY rfl ft (fun K hK=>?_);go_wp2_with fail;refine(K3.o w3).mono ?_;rintro e9 w5 ⟨rfl,hb⟩;have ak:=au (aG al.o hb);refine hK.o _ _ (aa.o w5 ak.o) ?_;clear hK hb;generalize dJ Rc=f3 at *
    cases f3 with
    | false=>
     have M:=au (show gY gh l=false from xu (i:=j+1) (by rw[ab.o,J.o];simp))
     (repeat(first|refine aW ?_|refine aX ?_))
     refine lex_nil ?_;go_wp2;go_ret;exact aN M.o ak.o
    | true=>
     have ax:=au (show gY gh (l.take (j+1))=decide (∀ k (hk:k<l.length),k<j->gK ⟨F,I,Rc⟩≠gK l[k]) from by rw[ab.o,J.o,HR.o];simp);clear ab J K1 K3
     (repeat(first|refine aW ?_|refine aX ?_))
     refine lex_nil ?_;go_wp2_with fail;go_loopw [6] (fun i wr=>∃ k:Nat,k<=j/\i=.int .i64 k/\(∀ q (hq:q<l.length),q<k->gK ⟨F,I,Rc⟩≠gK l[q])/\Below w.heap.size w wr) (fun i _=>j-(intOf i).toNat)
     case atStart=>exact⟨0,YE _,rfl,fun q _ h=>absurd h (Zn _),ak.o⟩
     case round=>
      obtain⟨k,hk,rfl,ap,hb⟩:=hrel;have ad:=au hb;have ae:=au ap;clear hb ap;by_cases aD:k<j
      ·have aq:k<l.length:=by have:=ac.o;have:=HN.o;omega
       have V:=au aD;have ar:=au (fun W h=>HC.o W h k aq)
       have af:=au (show gK ⟨F,I,Rc⟩≠gK l[k]->∀ q (hq:q<l.length),q<k+1->gK ⟨F,I,Rc⟩≠gK l[q] from fun h q hq a2=>by
        by_cases e:q=k
        ·subst e;exact h
        ·exact ae.o q hq ff)
       have aA:=au (show gK ⟨F,I,Rc⟩=gK l[k]->gY gh l=false from fun h=>xu (i:=j+1) (by rw[ax.o];exact decide_eq_false (fun g=>g k aq V.o h)));have z:=au (aG ad.o ((YC wr.heap.size wr).drew));have a4:(k:Int)<(j:Int):=by omega
       generalize l[k]=Q at *
       obtain⟨Qk,Qf,Qc⟩:=Q;dsimp only at ar af aA;go_upto_region 9 with (fail);have p:=And.intro (aa.o _ z.o) (ar.o _ z.o);have a1:(j:Int)<(n:Int):=by have:=ac.o;omega
       have a0:(k:Int)<(n:Int):=by omega
       by_cases e1:F=Qk
       ·have t1:(F==Qk)=true:=by simp[e1]
        by_cases e2:I=Qf
        ·have t2:((bs I).toList==(bs Qf).toList)=true:=by rw[dI];simp[e2]
         have M:=au (aA.o (by unfold gK;rw[e1,e2]));clear e1 e2;refine aK (fun W:World=>(W.cell? ⟨b,o+j*3,none⟩=some (.int .i64 F)/\W.cell? ⟨b,o+j*3+1,none⟩=some (.string (bs I))/\W.cell? ⟨b,o+j*3+2,none⟩=some (.int .i64 Rc))/\(W.cell? ⟨b,o+k*3,none⟩=some (.int .i64 Qk)/\W.cell? ⟨b,o+k*3+1,none⟩=some (.string (bs Qf))/\W.cell? ⟨b,o+k*3+2,none⟩=some (.int .i64 Qc))) fi fi p ?_;clear p;generalize wr.drew=w6 at *
         (repeat(first|refine aW ?_|refine aX ?_))
         refine lex_nil ?_;go_wp2;go_ret;exact aN M.o z.o
        ·have t2:((bs I).toList==(bs Qf).toList)=false:=by rw[dI];simpa using fun h=>e2 (nO h)
         have ag:=au (af.o (by unfold gK;simp only[ne_eq,Prod.mk.injEq];exact fun h=>e2 h.2.1));clear e1 e2;refine aK (fun W:World=>(W.cell? ⟨b,o+j*3,none⟩=some (.int .i64 F)/\W.cell? ⟨b,o+j*3+1,none⟩=some (.string (bs I))/\W.cell? ⟨b,o+j*3+2,none⟩=some (.int .i64 Rc))/\(W.cell? ⟨b,o+k*3,none⟩=some (.int .i64 Qk)/\W.cell? ⟨b,o+k*3+1,none⟩=some (.string (bs Qf))/\W.cell? ⟨b,o+k*3+2,none⟩=some (.int .i64 Qc))) fi fi p ?_;clear p;generalize wr.drew=w6 at *
         (repeat(first|refine aW ?_|refine aX ?_))
         refine lex_nil ?_;go_wp2
         go_roundw
         case rel=>exact⟨k+1,by have:=V.o;omega,by go_num,ag.o,z.o⟩
         case measure=>have:=V.o;simp[intOf];omega
       ·have t1:(F==Qk)=false:=by simp[e1]
        have ag:=au (af.o (by unfold gK;simp only[ne_eq,Prod.mk.injEq];exact fun h=>e1 h.1));clear e1;refine aK (fun W:World=>(W.cell? ⟨b,o+j*3,none⟩=some (.int .i64 F)/\W.cell? ⟨b,o+j*3+1,none⟩=some (.string (bs I))/\W.cell? ⟨b,o+j*3+2,none⟩=some (.int .i64 Rc))/\(W.cell? ⟨b,o+k*3,none⟩=some (.int .i64 Qk)/\W.cell? ⟨b,o+k*3+1,none⟩=some (.string (bs Qf))/\W.cell? ⟨b,o+k*3+2,none⟩=some (.int .i64 Qc))) fi fi p ?_;clear p;generalize wr.drew=w6 at *
        (repeat(first|refine aW ?_|refine aX ?_))
        refine lex_nil ?_;go_wp2
        go_roundw
        case rel=>exact⟨k+1,by have:=V.o;omega,by go_num,ag.o,z.o⟩
        case measure=>have:=V.o;simp[intOf];omega
      ·have ai:=au (show gY gh (l.take (j+1))=true from by rw[ax.o];exact decide_eq_true (fun q hq a5=>ae.o q hq ff));obtain rfl:k=j:=by omega
       go_wp2_with fail
       go_roundw
       case rel=>exact⟨k+1,ac.o,by go_num,ai.o,ad.o⟩
       case measure=>have:=ac.o;simp[intOf];omega
  ·obtain rfl:j=n:=by omega
   have HV:=au (show gY gh l=true by have:=HR.o;rw[HN.o,YO] at this;exact this);go_wp2;go_ret;rw[HV.o];exact⟨rfl,an.o⟩
variable{T:fy}
theorem valid_eq:bC T=((decide (1<=T.rs.length)&&(decide (T.rs.length<=80)&&(decide (T.ds.length<=40)&&decide (T.es.length<=40))))&&(dJ T.drop&&(dJ T.ord&&(dJ T.ini&&(fQ T.rs&&(gY 12 T.ds&&gY 4 T.es)))))):=by
 unfold bC iU gY;have e:decide (T.rs≠[])=decide (1<=T.rs.length):=by
  refine decide_eq_decide.2 ?_;cases T.rs with
  | nil=>simp
  | cons a l=>simp
 rw[e];generalize decide (1<=T.rs.length)=M;generalize decide (T.rs.length<=80)=q;generalize decide (T.ds.length<=40)=a3;generalize decide (T.es.length<=40)=a4;generalize dJ T.drop=p;generalize dJ T.ord=I;generalize dJ T.ini=a7;generalize fQ T.rs=z;generalize decide ((List.map gK T.ds).Nodup)=V;generalize T.ds.all (lK 12)=h;generalize decide ((List.map gK T.es).Nodup)=J;generalize T.es.all (lK 4)=F;cases M<;>cases q<;>cases a3<;>cases a4<;>simp<;>cases p<;>cases I<;>cases a7<;>cases z<;>simp<;>cases V<;>cases h<;>simp
theorem pX{a:TA}(hT:iR w T a):Calls Tryz.prog 34 #[eu T a] w (aL w (.bool (bC T))):=by
 have HT:=au hT;have h1:aI fh w (aj (av w.heap.size (dh T a) 25) aS) _:=aH (aI.begin w) aO _ 25;have HB:=au (h1.mod.below (fun _ _ h=>h))
 have z:=au (fun W (h:Below (w.alloc (.cells (dh T a) 25)).heap.size (w.alloc (.cells (dh T a) 25)) W)=>(show (iz W w.heap.size (.slice a.A T.rs.length a.c) (.slice a.D T.ds.length a.d) (.slice a.E T.es.length a.e) (.int .i64 T.drop) (.int .i64 T.ord) (.int .i64 T.ini)) from by
  obtain⟨f,hf⟩:=(h1.below aQ h).fst
  exact⟨aB hf rfl,aB hf rfl,aB hf rfl,aB hf rfl,aB hf rfl,aB hf rfl⟩))
 clear hT h1;have KR:=au (fun W (h:Below w.heap.size w W)=>JC (c:=a.c) (HT.o.rs.below h) (by have:=HT.o.lr;omega) (fun R hR=>⟨by have:=HT.o.sr R hR;omega,by have:=HT.o.sr R hR;omega⟩));have KD:=au (fun W (h:Below w.heap.size w W)=>Ap (gh:=12) (c:=a.d) (HT.o.ds.below h) (by have:=HT.o.ld;omega) (fun d hd=>by have:=HT.o.sd d hd;omega));have KE:=au (fun W (h:Below w.heap.size w W)=>Ap (gh:=4) (c:=a.e) (HT.o.es.below h) (by have:=HT.o.le;omega) (fun d hd=>by have:=HT.o.se d hd;omega));have KC:=au (fun W n=>xk n W);have HV:=au (valid_eq (T:=T));clear HT;unfold eu;unfold dh at HB z ⊢;generalize T.rs.length=I at *
 generalize T.ds.length=n2 at *
 generalize T.es.length=n3 at *
 generalize bC T=vT at *
 have af:=au (YC (w.alloc (.cells (fw a.A I a.c a.D n2 a.d a.E n3 a.e T.drop T.ord T.ini) 25)).heap.size (w.alloc (.cells (fw a.A I a.c a.D n2 a.d a.E n3 a.e T.drop T.ord T.ini) 25)))
 go_enter Tryz.func34,Tryz.ntmps34
 go_upto_region 1 with (fail);generalize w.alloc (.cells (fw a.A I a.c a.D n2 a.d a.E n3 a.e T.drop T.ord T.ini) 25)=wb at *
 have q:=au (fun W (h:Below wb.heap.size wb W)=>HB.o.trans (h.mono HB.o.size));obtain⟨t0,V,J,t3,M,t5⟩:=z.o _ af.o;by_cases h0:I<1
 ·have p:=au (show vT=false by rw[HV.o];rw[decide_eq_false (by omega:¬ 1<=I)];simp);have u0:decide ((I:Int)<1)=true:=decide_eq_true ff;clear h0;go_wp2;go_ret;exact aN p.o HB.o
 ·have u0:decide ((I:Int)<1)=false:=decide_eq_false ff;by_cases h1:80<I
  ·have p:=au (show vT=false by rw[HV.o];rw[decide_eq_false (by omega:¬ I<=80)];simp);have u1:decide ((80:Int)<(I:Int))=true:=decide_eq_true ff;clear h1;go_wp2;go_ret;exact aN p.o HB.o
  ·have u1:decide ((80:Int)<(I:Int))=false:=decide_eq_false ff;by_cases h2:40<n2
   ·have p:=au (show vT=false by rw[HV.o];rw[decide_eq_false (by omega:¬ n2<=40)];simp);have u2:decide ((40:Int)<(n2:Int))=true:=decide_eq_true ff;clear h2;go_wp2;go_ret;exact aN p.o HB.o
   ·have u2:decide ((40:Int)<(n2:Int))=false:=decide_eq_false ff;by_cases h3:40<n3
    ·have p:=au (show vT=false by rw[HV.o];rw[decide_eq_false (by omega:¬ n3<=40)];simp);have u3:decide ((40:Int)<(n3:Int))=true:=decide_eq_true ff;clear h3;go_wp2;go_ret;exact aN p.o HB.o
    ·have u3:decide ((40:Int)<(n3:Int))=false:=decide_eq_false ff;have F:=au (show vT=(dJ T.drop&&(dJ T.ord&&(dJ T.ini&&(fQ T.rs&&(gY 12 T.ds&&gY 4 T.es))))) by rw[HV.o,decide_eq_true (by omega:1<=I),decide_eq_true (by omega:I<=80),decide_eq_true (by omega:n2<=40),decide_eq_true (by omega:n3<=40)];rfl);clear HV h0 h1 h2 h3;have K:=au (KC.o wb T.drop);go_wp2_with fail;refine K.o.mono ?_;rintro e9 w2 ⟨rfl,hb⟩;have ae:=au (aG af.o hb);clear K hb t0 V J t3 M t5;obtain⟨t0,V,J,t3,M,t5⟩:=z.o _ ae.o;dsimp only;generalize dJ T.drop=c0 at *
     cases c0 with
     | false=>
      have p:=au (show vT=false by rw[F.o];simp);go_wp2;go_ret;exact aN p.o (q.o _ ae.o)
     | true=>
      have K:=au (KC.o w2 T.ord);go_wp2_with fail;refine K.o.mono ?_;rintro e9 w3 ⟨rfl,hb⟩;have ad:=au (aG ae.o hb);clear K hb t0 V J t3 M t5;obtain⟨t0,V,J,t3,M,t5⟩:=z.o _ ad.o;dsimp only;generalize dJ T.ord=c1 at *
      cases c1 with
      | false=>
       have p:=au (show vT=false by rw[F.o];simp);go_wp2;go_ret;exact aN p.o (q.o _ ad.o)
      | true=>
       have K:=au (KC.o w3 T.ini);go_wp2_with fail;refine K.o.mono ?_;rintro e9 w4 ⟨rfl,hb⟩;have ac:=au (aG ad.o hb);clear K hb t0 V J t3 M t5;obtain⟨t0,V,J,t3,M,t5⟩:=z.o _ ac.o;dsimp only;generalize dJ T.ini=c2 at *
       cases c2 with
       | false=>
        have p:=au (show vT=false by rw[F.o];simp);go_wp2;go_ret;exact aN p.o (q.o _ ac.o)
       | true=>
        have K:=au (KR.o w4 (q.o _ ac.o));go_wp2_with fail;refine K.o.mono ?_;rintro e9 w5 ⟨rfl,hb⟩;have aa:=au (aG ac.o hb);clear K hb t0 V J t3 M t5;obtain⟨t0,V,J,t3,M,t5⟩:=z.o _ aa.o;dsimp only;generalize fQ T.rs=c3 at *
        cases c3 with
        | false=>
         have p:=au (show vT=false by rw[F.o];simp);go_wp2;go_ret;exact aN p.o (q.o _ aa.o)
        | true=>
         have K:=au (KD.o w5 (q.o _ aa.o));go_wp2_with fail;refine K.o.mono ?_;rintro e9 w6 ⟨rfl,hb⟩;have ab:=au (aG aa.o hb);clear K hb t0 V J t3 M t5;obtain⟨t0,V,J,t3,M,t5⟩:=z.o _ ab.o;dsimp only;generalize gY 12 T.ds=c4 at *
         cases c4 with
         | false=>
          have p:=au (show vT=false by rw[F.o];simp);go_wp2;go_ret;exact aN p.o (q.o _ ab.o)
         | true=>
          have K:=au (KE.o w6 (q.o _ ab.o));go_wp2_with fail;refine K.o.mono ?_;rintro e9 w7 ⟨rfl,hb⟩;have ag:=au (aG ab.o hb);clear K hb t0 V J t3 M t5;obtain⟨t0,V,J,t3,M,t5⟩:=z.o _ ag.o;dsimp only;generalize gY 4 T.es=c5 at *
          have p:=au (show vT=c5 by rw[F.o];simp);go_wp2;go_ret;exact aN p.o (q.o _ ag.o)
end Go.Proofs.YtbnnlpjpnihheaaGreatDoor
namespace Go.CH.Mtc
open Go.CH.Scr Go.CH.eG
def jA(l F:List Bs)(i:Nat):Bool:=decide (i+F.length<=l.length)&&decide ((l.drop i).take F.length=F)
variable{l F:List Bs}{i:Nat}
theorem Gs{k:Nat}(q:k<F.length)(p:i+k<l.length)(h:l[i+k]≠F[k]):jA l F i=false:=by
 rw[Y4];intro g;unfold jA at g;rw[YF,decide_eq_true_eq,decide_eq_true_eq] at g;refine h ?_;have e:((l.drop i).take F.length)[k]?=F[k]?:=by rw[g.2]
 rw[pZ,if_pos q,pT,YH p,YH q] at e;exact Option.some.inj e
theorem Av(h:¬ i+F.length<=l.length):jA l F i=false:=by unfold jA;simp[h]
theorem CO(h:i+F.length<=l.length)(g:∀ k,k<F.length->l[i+k]?=F[k]?):jA l F i=true:=by
 unfold jA;rw[YF,decide_eq_true_eq,decide_eq_true_eq];refine⟨h,nB fun k=>?_⟩;rw[pZ];split
 ·rw[pT];exact g k ff
 ·rw[Z6 ff]
end Go.CH.Mtc
namespace Go.Proofs.YtbnnlpjpnihheaaGreatDoor
open Go.RowKit Go.CH Go.CH.Scr Go.CH.eG Go.CH.Mtc
open Go.ChangeMaps (setBlock)
theorem nK(s p:Bs)(w:World)(hs:s.length<=1000000)(hp:p.length<=1000000):Calls Tryz.prog 136 #[.string (bs s),.string (bs p)] w (aL w (.bool (p.isPrefixOf s))):=by
 have F:(bs s).size=s.length:=bB s;have z:(bs p).size=p.length:=bB p;by_cases I:p.length<=s.length
 ·have e:((bs s).extract 0 (bs p).size).toList=((bs p).toList)↔p.isPrefixOf s=true:=by
   constructor
   ·intro h;have J:(bs s).extract 0 (bs p).size=bs p:=by
     have:=dI ((bs s).extract 0 (bs p).size) (bs p);rw[h] at this;simpa using this
    have V:=congrArg bl J;rw[kI,fO,fO,z,me] at V;rw[pj,<-V];exact List.take_prefix _ _
   ·intro h;obtain⟨t,rfl⟩:=List.isPrefixOf_iff_prefix.1 h;have J:(bs (p++t)).extract 0 (bs p).size=bs p:=DJ (by rw[kI,fO,fO,z,me,sR rfl]);rw[J]
  have hd:¬ (bs s).size<(bs p).size:=by rw[F,z];omega
  have M:(bs p).size<=(bs s).size:=by omega
  clear I;by_cases q:p.isPrefixOf s=true
  ·have t1:(((bs s).extract 0 (bs p).size).toList==(bs p).toList)=true:=by rw[e.2 q];simp
   rw[q];clear e q F z;generalize bs s=S at *
   generalize bs p=Q at *
   have u1:decide ((Q.size:Int)<=(S.size:Int))=true:=decide_eq_true ff;have u2:(Q.size:Int)<=(S.size:Int):=by omega
   have u3:Q.size<=S.size:=by omega
   go_enter Tryz.func136,Tryz.ntmps136
   go_wp2;go_ret;exact aN rfl (YC _ _)
  ·have t1:(((bs s).extract 0 (bs p).size).toList==(bs p).toList)=false:=by
    rw[Y4];intro h;exact q (e.1 (by simpa using h))
   rw[Bool.eq_false_iff.2 q];clear e q F z;generalize bs s=S at *
   generalize bs p=Q at *
   have u1:decide ((Q.size:Int)<=(S.size:Int))=true:=decide_eq_true ff;have u2:(Q.size:Int)<=(S.size:Int):=by omega
   have u3:Q.size<=S.size:=by omega
   go_enter Tryz.func136,Tryz.ntmps136
   go_wp2;go_ret;exact aN rfl (YC _ _)
 ·have q:p.isPrefixOf s=false:=by
   rw[Y4];intro h;exact I (List.isPrefixOf_iff_prefix.1 h).length_le
  have M:¬ (bs p).size<=(bs s).size:=by rw[F,z];omega
  rw[q];clear I F z q;generalize bs s=S at *
  generalize bs p=Q at *
  have u1:decide ((Q.size:Int)<=(S.size:Int))=false:=decide_eq_false ff
  go_enter Tryz.func136,Tryz.ntmps136
  go_wp2;go_ret;exact⟨rfl,YC _ _⟩
variable{w:World}{i:Nat}{l:List Bs}
theorem CP{L:fj}{lc:Nat}(k:Int)(f:Bs)(hL:fM w L l)(hi:i<=l.length)(ap:l.length<=1000000)(hw:word k f=true)(hf:f.length<=1000000):
  Calls Tryz.prog 133 #[.int .i64 k,.string (bs f),.slice L l.length lc,.int .i64 (i:Int)] w (aL w (.tuple (j7 (if jA l (aM k f).1 i then((aM k f).1.length:Nat) else(0:Nat):Nat) (jA l (aM k f).1 i)))):=by
 have KL:=au (lV k (bs f) w (by rw[bB];exact hf));simp only[fO] at KL;unfold jT at KL;have e2:aU k f=((aM k f).1,0):=by unfold aU;rw[if_pos hw]
 have am:=(eH.1 hw).2.2;simp only[e2] at KL;generalize (aM k f).1=F at *
 obtain⟨n,hn⟩:∃ n,n=F.length:=⟨_,rfl⟩;obtain⟨m,hm⟩:∃ m,m=l.length:=⟨_,rfl⟩;obtain⟨b,hb⟩:∃ b,b=jA l F i:=⟨_,rfl⟩;rw[<-hb,<-hn,<-hm];rw[<-hn] at am;rw[<-hm] at hi ap;have HL:=au hL;have HN:=au hn;have HM:=au hm;have HB:=au hb;generalize hV:Value.tuple (j7 (if b then(n:Nat) else(0:Nat):Nat) b)=V;have ae:=au hV.symm;clear hw hf e2 hL hn hm hb hV
 go_enter Tryz.func133,Tryz.ntmps133
 go_wp2_with fail;refine KL.o.mono ?_;rintro e9 w3 ⟨A,c,rfl,hp⟩;have H3:=au (show aI fh w (aj (bO A c F) aS) w3 from(aI.begin w).fresh aO hp);have HV:=au (jm H3.o.fst.choose_spec);have HW:=au (show Below w.heap.size w w3 from H3.o.bN);clear KL hp H3;dsimp only;rw[<-HN.o];have hs:IntKind.i64.wrap ((i:Int)+(n:Int))=(i:Int)+(n:Int):=YZ _ ff;by_cases ac:i+n<=m
 ·have ad:¬ ((m:Int)<(i:Int)+(n:Int)):=by omega
  have af:=au ac;clear ac;go_wp2_with fail;clear ad hs;go_loopw [12] (fun v wr=>∃ q:Nat,q<=n/\v=.int .i64 q/\(∀ p,p<q->l[i+p]?=F[p]?)/\Below w3.heap.size w3 wr) (fun v _=>n-(intOf v).toNat)
  case atStart=>exact⟨0,YE _,rfl,fun p h=>absurd h (Zn p),YC _ _⟩
  case round=>
   obtain⟨q,hq,rfl,ao,hR⟩:=hrel;have HP:=au ao;have HR:=au hR;clear ao hR;by_cases ag:q<n
   ·have ab:q<F.length:=by rw[<-HN.o];exact ag
    have aa:i+q<l.length:=by rw[<-HM.o];have:=af.o;omega
    obtain⟨b1,o1,rfl,an⟩:=fM.at HL.o ff;obtain⟨b2,o2,rfl,ai⟩:=fM.at HV.o ff;have al:Below w.heap.size w wr:=aG HW.o HR.o;have y1:=an wr al (i+q) aa;have y2:=ai wr HR.o q ab;have M:=au (fun h=>Gs (l:=l) (F:=F) (i:=i) (k:=q) ab aa h);have I:=au (fun (h:l[i+q]=F[q])=>(show l[i+q]?=F[q]? from by rw[YH aa,YH ab,h]));obtain⟨x,hx⟩:∃ x,x=l[i+q]:=⟨_,rfl⟩;obtain⟨y,hy⟩:∃ y,y=F[q]:=⟨_,rfl⟩;rw[<-hx] at y1 M I;rw[<-hy] at y2 M I;obtain⟨j,hj⟩:∃ j,j=i+q:=⟨_,rfl⟩;rw[<-hj] at y1;have ar:(j:Int)<(m:Int):=by have:=af.o;omega
    have tw:IntKind.i64.wrap ((i:Int)+(q:Int))=(j:Int):=by rw[hj];push_cast;exact YZ _ ff
    have aq:(q:Int)<(n:Int):=by omega
    clear an ai hx hy hj al ab aa;go_upto_region 7 with (fail);by_cases z:x=y
    ·have t1:((bs x).toList==(bs y).toList)=true:=by rw[dI];simp[z]
     have HE:=au (I.o z);clear z I M;refine aK (fun w'=>w'.cell? ⟨b1,o1+j,none⟩=some (.string (bs x))/\w'.cell? ⟨b2,o2+q,none⟩=some (.string (bs y))) fi fi ⟨y1,y2⟩ ?_;clear y1 y2
     (repeat(first|refine aW ?_|refine aX ?_))
     refine lex_nil ?_;clear tw t1;go_wp2_with fail
     go_roundw
     case rel=>exact⟨q+1,ag,by go_num,fun p hp=>(by
      rcases j9 p q with h|h
      ·exact HP.o p h
      ·obtain rfl:p=q:=by omega
       exact HE.o),HR.o.drew⟩
     case measure=>simp[intOf];omega
    ·have t1:((bs x).toList==(bs y).toList)=false:=by rw[dI];simpa using fun h=>z (nO h)
     have J:=HB.o.trans (M.o z);have HF:=au J;have HE:=au (aG HW.o HR.o.drew);clear z I M J;refine aK (fun w'=>w'.cell? ⟨b1,o1+j,none⟩=some (.string (bs x))/\w'.cell? ⟨b2,o2+q,none⟩=some (.string (bs y))) fi fi ⟨y1,y2⟩ ?_;clear y1 y2
     (repeat(first|refine aW ?_|refine aX ?_))
     refine lex_nil ?_;clear tw t1;go_wp2;refine bodyPost_ret (results_tmp2 rfl _ _ _) rfl ?_;rw[ae.o,HF.o];exact⟨rfl,HE.o⟩
   ·obtain rfl:q=n:=by omega
    have ak:b=true:=HB.o.trans (CO (by rw[<-HN.o,<-HM.o];exact af.o) (by rw[<-HN.o];exact HP.o));have HT:=au ak;have HE:=au (aG HW.o HR.o);clear ak;go_wp2;refine bodyPost_ret (results_tmp2 rfl _ _ _) rfl ?_;rw[ae.o,HT.o];exact⟨rfl,HE.o⟩
 ·have ad:(m:Int)<(i:Int)+(n:Int):=by omega
  have J:b=false:=HB.o.trans (Av (by rw[<-HN.o,<-HM.o];exact ac));have HF:=au J;clear ac J;go_wp2;refine bodyPost_ret (results_tmp2 rfl _ _ _) rfl ?_;rw[ae.o,HF.o];exact⟨rfl,HW.o⟩
end Go.Proofs.YtbnnlpjpnihheaaGreatDoor
namespace Go.CH.Mtc
open Go.CH.Scr Go.CH.eG
def EG(W:Wd)(s:St):Int:=if W.left s then W.ka else W.kb
def bG(W:Wd)(s:St)(k:Nat):List (AR × St):=((W.rs.take k).zipIdx.filterMap (oF (EG W s))).filterMap (W.uM s)
section
variable{W:Wd}{s:St}{k:Nat}
theorem CR(p:k<W.rs.length):bG W s (k+1)=bG W s k++((oF (EG W s) (W.rs[k],k)).toList.filterMap (W.uM s)):=by
 unfold bG;rw[YD p,List.zipIdx_append,Zh,Zh];congr 1;have e:(W.rs.take k).length=k:=by rw[YU];omega
 rw[e];simp only[List.zipIdx_cons,List.zipIdx_nil,Zx];cases h:oF (EG W s) (W.rs[k],k)<;>simp[List.filterMap,h]
theorem CS(hk:k<W.rs.length)(h:W.rs[k].k≠EG W s):bG W s (k+1)=bG W s k:=by
 rw[CR hk];have:oF (EG W s) (W.rs[k],k)=none:=by unfold oF;rw[if_neg h]
 rw[this];simp
theorem CU(q:k<W.rs.length)(h:W.rs[k].k=EG W s)(p:word (EG W s) W.rs[k].f=true):bG W s (k+1)=bG W s k++(W.uM s ⟨k,W.rs[k].c,(aM (EG W s) W.rs[k].f).1,W.rs[k].t⟩).toList:=by
 rw[CR q];have:oF (EG W s) (W.rs[k],k)=some ⟨k,W.rs[k].c,(aM (EG W s) W.rs[k].f).1,W.rs[k].t⟩:=by unfold oF;rw[if_pos h,if_pos p]
 rw[this];cases h:W.uM s ⟨k,W.rs[k].c,(aM (EG W s) W.rs[k].f).1,W.rs[k].t⟩<;>simp[List.filterMap,h]
theorem vH:bG W s W.rs.length=W.cK s:=by unfold bG Wd.cK fK EG;rw[YO]
theorem jB:(bG W s k).length<=W.rs.length:=by
 unfold bG;refine YQ (ZJ ..) (YQ (ZJ ..) ?_);rw[lx,YU];omega
variable{r:AR}
theorem QL(h:jA (if W.left s then W.l else W.m) r.f (if W.left s then s.i else s.j)=false):W.uM s r=none:=by
 unfold Wd.uM;rw[if_neg];intro g;exact Bool.false_ne_true (h.symm.trans g)
theorem LD(h:jA (if W.left s then W.l else W.m) r.f (if W.left s then s.i else s.j)=true):W.uM s r=(W.xU s r.t).map fun x=>(r,if W.left s then ⟨s.i+r.f.length,s.j,x.1,x.2⟩ else ⟨s.i,s.j+r.f.length,x.1,x.2⟩):=by
 unfold Wd.uM;exact if_pos h
theorem Ll{q:Bs}(h:q.isPrefixOf s.a=true):W.xU s q=some (s.a.drop q.length,s.r&&decide (s.a.drop q.length≠[])):=by unfold Wd.xU;rw[if_pos h]
theorem Lm{q:Bs}(h1:¬ q.isPrefixOf s.a=true)(h:s.a.isPrefixOf q=true):W.xU s q=some (q.drop s.a.length,!W.left s):=by unfold Wd.xU;rw[if_neg h1,if_pos h]
theorem Lp{q:Bs}(h1:¬ q.isPrefixOf s.a=true)(h:¬ s.a.isPrefixOf q=true):W.xU s q=none:=by unfold Wd.xU;rw[if_neg h1,if_neg h]
end
end Go.CH.Mtc
namespace Go.Proofs.YtbnnlpjpnihheaaGreatDoor
open Go.RowKit Go.CH Go.CH.Scr Go.CH.eG Go.CH.Mtc
open Go.ChangeMaps (setBlock)
variable{F0:Nat->Prop}{w0 w W:World}{g c n:Nat}{t:TypeId}{X:CH.bq}{A:fj}{l:List (AR × St)}{ops:Array Oper}{a:Act}{Q:Exit->Act->World->Prop}{T:fy}
theorem bU{a b c d e:Value}(h:aI F0 w0 (aj (av g #[a,b,c,d,e] t) X) w):w.cell? ⟨g,0,none⟩=some a/\w.cell? ⟨g,1,none⟩=some b/\w.cell? ⟨g,2,none⟩=some c/\w.cell? ⟨g,3,none⟩=some d/\w.cell? ⟨g,4,none⟩=some e/\∀ i,w.frozen? ⟨g,i,none⟩=false:=by
 obtain⟨F,p⟩:=h.fst;exact⟨aB p rfl,aB p rfl,aB p rfl,aB p rfl,aB p rfl,fun i=>aP p i⟩
def Az(p:AR × St):List Value:=[.int .i64 (p.1.ix:Nat),.int .i64 p.1.c,.int .i64 p.2.i,.int .i64 p.2.j,.string (bs p.2.a),.bool p.2.r,.int .i64 0]
def iw(A:fj)(c:Nat)(l:List (AR × St)):CH.bq:=aZ 201 7 (.slice A l.length c) l.length (l.flatMap Az)
theorem jd:(iw A c l).Ok:=cB
instance {A:fj} {c:Nat} {l:List (AR × St)}:(iw A c l).Ok:=jd
theorem Gu(l:List (AR × St)):∀ u ∈ l.flatMap Az,u.oneCell'=true:=by
 intro u hu;obtain⟨p,-,hp⟩:=List.mem_flatMap.1 hu;simp[Az] at hp;rcases hp with rfl|rfl|rfl|rfl|rfl|rfl|rfl<;>rfl
theorem XJ:d9 Tryz.prog 198 201 (.agg (rp 0 0 0 0 ⟨#[]⟩ false 0)) 7 64:=⟨by kernel_rfl,by kernel_rfl,by decide,by decide⟩
theorem QM{p:AR × St}:aZ 201 7 (.slice A (l.length+1) c) (l.length+1) (l.flatMap Az++Az p)=iw A c (l++[p]):=by
 unfold iw;rw[ZY,Yz,Y1,ZT]
theorem qW{Y:CH.bq}{rest:List Oper}{o:Oper}(M:o.guard=none)(s x:Operand)(ho:o.op=.call { callee:=.builtin .append,args:=#[s,x],argTypes:=#[198,198] })(p:AR × St)(hl:l.length=n)(hsv:a.eval s=.slice A n c)(hx:a.eval x=.slice (some ⟨W.heap.size,0,none⟩) 1 1)(hn:n<=1000000)(hY:Y.Ok)(h:aI F0 w0 (aj (iw A c l) Y) W)(hK:∀ V c' w',aI F0 w0 (aj (iw V c' (l++[p])) Y) w'->wpList Tryz.prog ops Q rest (a.put o.dst (.slice V (n+1) c')) w'):wpList Tryz.prog ops Q (o::rest) a (W.alloc (.cells (rp (p.1.ix:Nat) p.1.c p.2.i p.2.j (bs p.2.a) p.2.r 0) 201)):=by
 subst hl;obtain⟨F7,z,-,I⟩:=(h.below aQ ((YC _ _).alloc (YG _) (.cells (rp (p.1.ix:Nat) p.1.c p.2.i p.2.j (bs p.2.a) p.2.r 0) 201))).take jd hY;refine nH M s x ho XJ _ 0 (v:=.slice A l.length c) (n:=l.length) (xs:=l.flatMap Az) hsv z.1 (A:=some ⟨W.heap.size,0,none⟩) (m:=1) (c:=1) (news:=Az p) hx (lU (cs:=(rp (p.1.ix:Nat) p.1.c p.2.i p.2.j (bs p.2.a) p.2.r 0)) (fun u hu=>Gu [p] u (by simpa[Az] using hu))) (by unfold maxLen;omega) ff (YE _) ?_;intro v8 w8 q J F;have S8:=I _ _ (iy z q J F);obtain⟨A8,c8,rfl⟩:=fV q;rw[QM] at S8;exact hK A8 c8 w8 S8
def AA(W:Wd)(s:St)(w:World)(e:Ending)(w':World):Prop:=∃ A c,e=.returned (.slice A (W.cK s).length c)/\bS w fh (iw A c (W.cK s)) w'
theorem AB{W:Wd}{s:St}{a:TA}(hT:iR w T a)(hv:bC T=true)(bn:W.rs=T.rs){X Y:fj}{xc yc:Nat}(hX:fM w X W.l)(hY:fM w Y W.m)(hs:W.ok s)(ha:s.a.length<=1000000)(hl:W.l.length<=1000000)(hm:W.m.length<=1000000):
  Calls Tryz.prog 114 #[eu T a,.int .i64 W.ka,.slice X W.l.length xc,.int .i64 W.kb,.slice Y W.m.length yc,.agg (fR s.i s.j (bs s.a) s.r 0)] w (AA W s w):=by
 have h1:=aH (aI.begin w) aO (dh T a) 25;have h2:=aH h1 aQ (fR s.i s.j (bs s.a) s.r 0) 197;rw[YN] at h2;have h3:=h2.fresh aQ (⟨fun _=>False,fZ _ _ _,Mod.refl _ _,fun i hi=>.inl hi⟩:bS _ fh (iw none 0 []) _);have H3:=au h3;have HT:=au hT;have a2:=au bn;have HV:=au (fun k (hk:k<W.rs.length)=>(show word W.rs[k].k W.rs[k].f=true from zO hv (by rw[<-bn];exact YL hk)));have HX:=au hX;have HY:=au hY;have HS:=au hs;have HA:=au ha;have HL:=au hl;have HM:=au hm;clear hT hX hY hs ha hl hm hv h1 h2 h3;obtain⟨aA,ac,aD,ad,aE,ae⟩:=a;unfold eu;unfold dh at H3 ⊢;dsimp only at H3 ⊢;obtain⟨N,hN⟩:∃ N,N=T.rs.length:=⟨_,rfl⟩;have HN:=au (hN.trans (by rw[<-bn]):N=W.rs.length);rw[<-hN] at H3 ⊢;clear hN bn;obtain⟨nl,b1⟩:∃ n,n=W.l.length:=⟨_,rfl⟩;obtain⟨nm,bo⟩:∃ n,n=W.m.length:=⟨_,rfl⟩;rw[<-b1,<-bo];have bw:=au b1;have b3:=au bo;clear b1 bo;generalize T.ds.length=n2 at *
 generalize T.es.length=n3 at *
 go_enter Tryz.func114,Tryz.ntmps114
 go_upto_region 2 with (fail);generalize (w.alloc (.cells (fw aA N ac aD n2 ad aE n3 ae T.drop T.ord T.ini) 25)).alloc (.cells (fR s.i s.j (bs s.a) s.r 0) 197)=w1 at *
 generalize w.heap.size+1=z at *
 generalize w.heap.size=g6 at H3 ⊢;obtain⟨c0,c1,c2,c3,c4,cf⟩:=bU H3.o.drop;rename_i Kc bp;have cut:∀ (lf:Bool) (g23 g24 g25 g26 g27 g28 g29 g30 g31 g32 g33 g34 g35 g36:Value),W.left s=lf->Kc { tmps:=#[.agg (fw aA N ac aD n2 ad aE n3 ae T.drop T.ord T.ini),.int .i64 W.ka,.slice X nl xc,.int .i64 W.kb,.slice Y nm yc,.agg (fR s.i s.j (bs s.a) s.r 0),.pointer (some ⟨g6,0,none⟩),undef,undef,undef,undef,.pointer (some ⟨z,0,none⟩),.slice none 0 0,.slice none 0 0,.bool lf,undef,undef,undef,undef,undef,undef,undef,undef,g23,g24,g25,g26,g27,g28,g29,g30,g31,g32,g33,g34,g35,g36,undef,undef,undef,undef,undef,undef,undef,undef,undef,undef,undef,undef,undef,undef,undef,undef,undef,undef,undef,undef,undef,undef,undef,undef,undef,undef,undef,undef,undef,undef,undef,undef,undef,undef,undef,undef,undef,undef,undef,undef,undef,undef,undef,undef,undef,undef,undef,undef,undef,undef,undef,undef,undef,undef,undef,undef,undef,undef,undef,undef,undef,undef,undef,undef,undef,undef,undef,undef,undef,undef,undef,undef,undef,undef,undef,undef,undef,undef,undef,undef,undef,undef,undef,undef,undef,undef,undef,undef,undef,undef,undef,undef,undef,undef,undef,undef],defers:=[] } w1:=by
  intro lf g23 g24 g25 g26 g27 g28 g29 g30 g31 g32 g33 g34 g35 g36 b2;have ao:=au b2;refine bp _ _ ?_;clear bp Kc b2 c0 c1 c2 c3 c4 cf;cases lf with
  | true=>
   go_upto_region 3 with (fail);obtain⟨c0,c1,c2,c3,c4,cf⟩:=bU H3.o.drop;refine aK (fun w'=>(ja w' z (.int .i64 s.i) (.int .i64 s.j))) fi fi ⟨c0,c1⟩ ?_;have H4:=au (H3.o.drew (ay jd aQ));clear H3 c0 c1 c2 c3 c4 cf;generalize w1.drew=w4 at *
   (repeat(first|refine aW ?_|refine aX ?_))
   refine lex_nil ?_;go_upto_region 5 with (fail);obtain⟨c0,c1,c2,c3,c4,cf⟩:=bU H4.o.drop;refine aK (fun w'=>(ja w' z (.int .i64 s.i) (.int .i64 s.j))) fi fi ⟨c0,c1⟩ ?_;have H5:=au (H4.o.drew (ay jd aQ));clear H4 c0 c1 c2 c3 c4 cf;generalize w4.drew=w5 at *
   (repeat(first|refine aW ?_|refine aX ?_))
   refine lex_nil ?_;go_wp2_with fail;go_loopw [13,18] (fun v i wr=>∃ (k:Nat) (A:fj) (c:Nat),k<=N/\i=.int .i64 k/\v=.slice A (bG W s k).length c/\aI fh w (aj (iw A c (bG W s k)) (aj (av z (fR s.i s.j (bs s.a) s.r 0) 197) (aj (av g6 (fw aA N ac aD n2 ad aE n3 ae T.drop T.ord T.ini) 25) aS))) wr) (fun _ i _=>N-(intOf i).toNat)
   case atStart=>exact⟨0,none,0,YE _,rfl,rfl,H5.o⟩
   case round=>
    obtain⟨k,A,c,hk,rfl,rfl,hR⟩:=hrel;have HR:=au hR;clear hR H5;by_cases bc:k<N
    ·have ar:k<W.rs.length:=by rw[<-HN.o];exact bc
     have J:=au (show k+1<=N from bc);have bz:k<T.rs.length:=by rw[<-a2.o];exact ar
     obtain⟨b,o,rfl,hc⟩:=lD.at HT.o.rs ff;have bf:Below w.heap.size w wr:=HR.o.mod.below (fun _ _ h=>h);obtain⟨r0,r1,r2,r3⟩:=hc wr bf k bz;have bb:T.rs[k]=W.rs[k]:=by simp only[a2.o]
     rw[bb] at r0 r1 r2 r3;have ax:W.rs[k] ∈ W.rs:=YL ar;have af:=HT.o.sr W.rs[k] (by rw[<-a2.o];exact ax);have a4:W.rs[k].t.length<=1000000:=af.2;have bk:W.rs[k].f.length<=1000000:=af.1;have bj:=HV.o k ar;have b4:(k:Int)<1000000:=by have:=HT.o.lr;omega
     have HQ:=au (show W.rs.length<=1000000 by rw[a2.o];exact HT.o.lr);obtain⟨f6,aw⟩:=HR.o.drop.drop.fst;have b0:=aB (i:=0) aw rfl;clear aw f6;obtain⟨R,ba⟩:∃ R,R=W.rs[k]:=⟨_,rfl⟩;rw[<-ba] at r0 r1 r2 r3 ax a4 bk bj;have a0:=au ba.symm;clear ba bb af hc ax;go_upto_region 10 with (fail);have H1:=au (aH HR.o aQ (gO R.k (bs R.f) (bs R.t) R.c) 113);have a5:=au (show Below w.heap.size w (wr.alloc (.cells (gO R.k (bs R.f) (bs R.t) R.c) 113)) from H1.o.mod.below (fun _ _ h=>h));clear HR r0 r1 r2 r3 b0 bf;generalize wr.alloc (.cells (gO R.k (bs R.f) (bs R.t) R.c) 113)=w2 at *
     generalize wr.heap.size=I at *
     obtain⟨M,x1,V,x3,xf⟩:=aY H1.o;obtain⟨c0,c1,c2,c3,c4,cf⟩:=bU H1.o.drop.drop;by_cases hk:R.k=W.ka
     ·have az:word W.ka R.f=true:=hk ▸ bj
      have an:=au (show bG W s (k+1)=bG W s k++(W.uM s ⟨k,R.c,(aM W.ka R.f).1,R.t⟩).toList from by
       have e:EG W s=W.ka:=by unfold EG;rw[ao.o];rfl
       have:=CU (W:=W) (s:=s) ar (by rw[a0.o,e];exact hk) (by rw[a0.o,e];exact az);rw[a0.o,e] at this
       exact this)
      have KU:=au (CP (w:=w2) (lc:=xc) W.ka R.f (HX.o.below a5.o) HS.o.1 HL.o az bk);rw[<-bw.o] at KU;have bd:=au (fun (h:jA W.l (aM W.ka R.f).1 s.i=false)=>(show W.uM s ⟨k,R.c,(aM W.ka R.f).1,R.t⟩=none from QL (by rw[ao.o];exact h)));have a3:=au (fun (h:jA W.l (aM W.ka R.f).1 s.i=true)=>(show W.uM s ⟨k,R.c,(aM W.ka R.f).1,R.t⟩=_ from LD (by rw[ao.o];exact h)));have b5:(aM W.ka R.f).1.length<=12:=(eH.1 az).2.2;generalize (aM W.ka R.f).1=F at *
      generalize hn:F.length=n at *
      have bv:=au hn;have t1:(R.k != W.ka)=false:=by simp[hk]
      have be:(R.k==W.ka)=true:=by simp[hk]
      clear hk az hn;cases am:jA W.l F s.i with
      | false=>
       rw[am] at KU;have al:=au (show bG W s (k+1)=bG W s k from by rw[an.o,bd.o am];simp);clear am;simp only[ZG,if_false] at KU;go_wp2_with fail;refine KU.o.mono ?_;rintro e9 w3 ⟨rfl,hb⟩;have H2:=au (H1.o.below (ay aC aQ) hb);clear KU hb H1 a5 M x1 V x3 xf c0 c1 c2 c3 c4 cf;dsimp only;go_wp2
       go_roundw
       case rel=>exact⟨k+1,A,c,J.o,by go_num,by rw[al.o],by rw[al.o];exact H2.o.drop⟩
       case measure=>have:=J.o;simp[intOf];omega
      | true=>
       rw[am] at KU
       have bi:=au (fun (x:Bs × Bool) (hx:W.xU s R.t=some x)=>(show W.uM s ⟨k,R.c,F,R.t⟩=some (⟨k,R.c,F,R.t⟩,⟨s.i+n,s.j,x.1,x.2⟩) from by
        rw[a3.o am,hx,ao.o,<-bv.o];rfl))
       have bx:=au (fun (hx:W.xU s R.t=none)=>(show W.uM s ⟨k,R.c,F,R.t⟩=none from by rw[a3.o am,hx];rfl));clear am bd a3;simp only[if_true] at KU;go_wp2_with fail;refine KU.o.mono ?_;rintro e9 w3 ⟨rfl,hb⟩;have H2:=au (H1.o.below (ay aC aQ) hb);clear KU hb H1 a5 M x1 V x3 xf c0 c1 c2 c3 c4 cf t1 be;obtain⟨M,x1,V,x3,xf⟩:=aY H2.o;obtain⟨c0,c1,c2,c3,c4,cf⟩:=bU H2.o.drop.drop;dsimp only;go_upto_region 14 with (fail);have a8:=au (aH H2.o aQ (fR s.i s.j ⟨#[]⟩ false 0) 197);clear H2 M x1 V x3 xf c0 c1 c2 c3 c4 cf;generalize w3.alloc (.cells (fR s.i s.j ⟨#[]⟩ false 0) 197)=W3 at *
       generalize w3.heap.size=p at *
       obtain⟨y0,y1,y2,y3,y4,yf⟩:=bU a8.o;have br:(s.i:Int)<=1000000:=by have:=HS.o.1;have:=HL.o;omega
       have bu:(s.j:Int)<=1000000:=by have:=HS.o.2.1;have:=HM.o;omega
       go_upto_region 17 with (fail);clear br bu;have H4:=au (show aI fh w (aj (av p (fR ((s.i:Int)+(n:Int)) (s.j:Int) ⟨#[]⟩ false 0) 197) (aj (av I (gO R.k (bs R.f) (bs R.t) R.c) 113) (aj (iw A c (bG W s k)) (aj (av z (fR s.i s.j (bs s.a) s.r 0) 197) (aj (av g6 (fw (some ⟨b,o,none⟩) N ac aD n2 ad aE n3 ae T.drop T.ord T.ini) 25) aS))))) (W3.setCell ⟨p,0,none⟩ (.int .i64 ((s.i:Int)+(n:Int)))) from aJ a8.o aQ 0 (.int .i64 ((s.i:Int)+(n:Int))));clear a8 y0 y1 y2 y3 y4 yf;generalize W3.setCell ⟨p,0,none⟩ (.int .i64 ((s.i:Int)+(n:Int)))=W4 at *
       obtain⟨y0,y1,y2,y3,y4,yf⟩:=bU H4.o;obtain⟨M,x1,V,x3,xf⟩:=aY H4.o.drop;obtain⟨c0,c1,c2,c3,c4,cf⟩:=bU H4.o.drop.drop.drop;have K1:=au (nK s.a R.t W4 HA.o a4);go_wp2_with fail;refine K1.o.mono ?_;rintro e9 W5 ⟨rfl,hb⟩;have H5:=au (H4.o.below (ay aC aQ) hb);clear K1 hb H4 y0 y1 y2 y3 y4 yf M x1 V x3 xf c0 c1 c2 c3 c4 cf;obtain⟨y0,y1,y2,y3,y4,yf⟩:=bU H5.o;obtain⟨M,x1,V,x3,xf⟩:=aY H5.o.drop;obtain⟨c0,c1,c2,c3,c4,cf⟩:=bU H5.o.drop.drop.drop;dsimp only;by_cases h1:R.t.isPrefixOf s.a=true
       ·have ak:=au (bi.o _ (Ll h1));rw[h1];have ap:bs (s.a.drop R.t.length)=(bs s.a).extract (bs R.t).size (bs s.a).size:=by rw[bB];exact rR s.a R.t.length
        have a6:(bs R.t).size<=(bs s.a).size:=by rw[bB,bB];exact(List.isPrefixOf_iff_prefix.1 h1).length_le
        have aq:¬ (bs s.a).size<(bs R.t).size:=by omega
        generalize s.a.drop R.t.length=q at *
        clear h1;go_upto_region 19 with (fail);rw[<-ap];clear ap a6 aq;have H6:=au (show aI fh w (aj (av p (fR ((s.i:Int)+(n:Int)) (s.j:Int) (bs q) false 0) 197) (aj (av I (gO R.k (bs R.f) (bs R.t) R.c) 113) (aj (iw A c (bG W s k)) (aj (av z (fR s.i s.j (bs s.a) s.r 0) 197) (aj (av g6 (fw (some ⟨b,o,none⟩) N ac aD n2 ad aE n3 ae T.drop T.ord T.ini) 25) aS))))) (W5.setCell ⟨p,2,none⟩ (.string (bs q))) from aJ H5.o aQ 2 (.string (bs q)));clear H5 y0 y1 y2 y3 y4 yf M x1 V x3 xf c0 c1 c2 c3 c4 cf;generalize W5.setCell ⟨p,2,none⟩ (.string (bs q))=W6 at *
        obtain⟨y0,y1,y2,y3,y4,yf⟩:=bU H6.o;obtain⟨M,x1,V,x3,xf⟩:=aY H6.o.drop;obtain⟨c0,c1,c2,c3,c4,cf⟩:=bU H6.o.drop.drop.drop;by_cases af:s.r=true
        ·rw[af] at c3;by_cases hq:q=[]
         ·have e2:(bs q).toList.isEmpty=true:=by rw[Z9];exact dY.2 hq
          have aa:=au (show bG W s (k+1)=bG W s k++[(⟨k,R.c,F,R.t⟩,⟨s.i+n,s.j,q,false⟩)] from by have:=ak.o;rw[af,ZI,decide_eq_false (fun h=>h hq)] at this;rw[an.o,this];rfl);clear hq af ak;go_upto_region 23 with (fail);have H7:=au (show aI fh w (aj (av p (fR ((s.i:Int)+(n:Int)) (s.j:Int) (bs q) false 0) 197) (aj (av I (gO R.k (bs R.f) (bs R.t) R.c) 113) (aj (iw A c (bG W s k)) (aj (av z (fR s.i s.j (bs s.a) s.r 0) 197) (aj (av g6 (fw (some ⟨b,o,none⟩) N ac aD n2 ad aE n3 ae T.drop T.ord T.ini) 25) aS))))) (W6.setCell ⟨p,3,none⟩ (.bool false)) from aJ H6.o aQ 3 (.bool false));clear H6 y0 y1 y2 y3 y4 yf M x1 V x3 xf c0 c1 c2 c3 c4 cf;generalize W6.setCell ⟨p,3,none⟩ (.bool false)=W7 at *
          obtain⟨y0,y1,y2,y3,y4,yf⟩:=bU H7.o;obtain⟨M,x1,V,x3,xf⟩:=aY H7.o.drop;have ag:(bG W s k).length<=1000000:=by have:=jB (W:=W) (s:=s) (k:=k);have:=HQ.o;omega
          go_wp2_with (at_builtin;refine held ?_);refine ia.mk (qW rfl (.tmp 124) (.tmp 130) rfl (⟨k,R.c,F,R.t⟩,⟨s.i+n,s.j,q,false⟩) rfl rfl rfl ag (ay aC (ay aC aQ)) (H7.o.perm (by ac_rfl:_=aj (iw A c (bG W s k)) (aj (av p (fR ((s.i:Int)+(n:Int)) (s.j:Int) (bs q) false 0) 197) (aj (av I (gO R.k (bs R.f) (bs R.t) R.c) 113) (aj (av z (fR s.i s.j (bs s.a) s.r 0) 197) (aj (av g6 (fw (some ⟨b,o,none⟩) N ac aD n2 ad aE n3 ae T.drop T.ord T.ini) 25) aS)))))) ?_);intro A' c' w8 ai
          have H8:=au (show aI fh w (aj (iw A' c' (bG W s (k+1))) (aj (av z (fR s.i s.j (bs s.a) s.r 0) 197) (aj (av g6 (fw (some ⟨b,o,none⟩) N ac aD n2 ad aE n3 ae T.drop T.ord T.ini) 25) aS))) w8 from by
           rw[aa.o]
           exact(ai.perm (by ac_rfl:_=aj (av p (fR ((s.i:Int)+(n:Int)) (s.j:Int) (bs q) false 0) 197) (aj (av I (gO R.k (bs R.f) (bs R.t) R.c) 113) (aj (iw A' c' (bG W s k++[(⟨k,R.c,F,R.t⟩,⟨s.i+n,s.j,q,false⟩)])) (aj (av z (fR s.i s.j (bs s.a) s.r 0) 197) (aj (av g6 (fw (some ⟨b,o,none⟩) N ac aD n2 ad aE n3 ae T.drop T.ord T.ini) 25) aS)))))).drop.drop)
          have ab:(bG W s k).length+1=(bG W s (k+1)).length:=by rw[aa.o,Yz];rfl
          rw[ab];clear ai H7 y0 y1 y2 y3 y4 yf M x1 V x3 xf ab ag;go_wp2_with fail
          go_roundw
          case rel=>exact⟨k+1,A',c',J.o,by go_num,rfl,H8.o⟩
          case measure=>have:=J.o;simp[intOf];omega
         ·have e2:(bs q).toList.isEmpty=false:=by rw[Zo];exact fun h=>hq (dY.1 h)
          have aa:=au (show bG W s (k+1)=bG W s k++[(⟨k,R.c,F,R.t⟩,⟨s.i+n,s.j,q,true⟩)] from by have:=ak.o;rw[af,ZI,decide_eq_true hq] at this;rw[an.o,this];rfl);clear hq af ak;go_upto_region 23 with (fail);have H7:=au (show aI fh w (aj (av p (fR ((s.i:Int)+(n:Int)) (s.j:Int) (bs q) true 0) 197) (aj (av I (gO R.k (bs R.f) (bs R.t) R.c) 113) (aj (iw A c (bG W s k)) (aj (av z (fR s.i s.j (bs s.a) s.r 0) 197) (aj (av g6 (fw (some ⟨b,o,none⟩) N ac aD n2 ad aE n3 ae T.drop T.ord T.ini) 25) aS))))) (W6.setCell ⟨p,3,none⟩ (.bool true)) from aJ H6.o aQ 3 (.bool true));clear H6 y0 y1 y2 y3 y4 yf M x1 V x3 xf c0 c1 c2 c3 c4 cf;generalize W6.setCell ⟨p,3,none⟩ (.bool true)=W7 at *
          obtain⟨y0,y1,y2,y3,y4,yf⟩:=bU H7.o;obtain⟨M,x1,V,x3,xf⟩:=aY H7.o.drop;have ag:(bG W s k).length<=1000000:=by have:=jB (W:=W) (s:=s) (k:=k);have:=HQ.o;omega
          go_wp2_with (at_builtin;refine held ?_);refine ia.mk (qW rfl (.tmp 124) (.tmp 130) rfl (⟨k,R.c,F,R.t⟩,⟨s.i+n,s.j,q,true⟩) rfl rfl rfl ag (ay aC (ay aC aQ)) (H7.o.perm (by ac_rfl:_=aj (iw A c (bG W s k)) (aj (av p (fR ((s.i:Int)+(n:Int)) (s.j:Int) (bs q) true 0) 197) (aj (av I (gO R.k (bs R.f) (bs R.t) R.c) 113) (aj (av z (fR s.i s.j (bs s.a) s.r 0) 197) (aj (av g6 (fw (some ⟨b,o,none⟩) N ac aD n2 ad aE n3 ae T.drop T.ord T.ini) 25) aS)))))) ?_);intro A' c' w8 ai
          have H8:=au (show aI fh w (aj (iw A' c' (bG W s (k+1))) (aj (av z (fR s.i s.j (bs s.a) s.r 0) 197) (aj (av g6 (fw (some ⟨b,o,none⟩) N ac aD n2 ad aE n3 ae T.drop T.ord T.ini) 25) aS))) w8 from by
           rw[aa.o]
           exact(ai.perm (by ac_rfl:_=aj (av p (fR ((s.i:Int)+(n:Int)) (s.j:Int) (bs q) true 0) 197) (aj (av I (gO R.k (bs R.f) (bs R.t) R.c) 113) (aj (iw A' c' (bG W s k++[(⟨k,R.c,F,R.t⟩,⟨s.i+n,s.j,q,true⟩)])) (aj (av z (fR s.i s.j (bs s.a) s.r 0) 197) (aj (av g6 (fw (some ⟨b,o,none⟩) N ac aD n2 ad aE n3 ae T.drop T.ord T.ini) 25) aS)))))).drop.drop)
          have ab:(bG W s k).length+1=(bG W s (k+1)).length:=by rw[aa.o,Yz];rfl
          rw[ab];clear ai H7 y0 y1 y2 y3 y4 yf M x1 V x3 xf ab ag;go_wp2_with fail
          go_roundw
          case rel=>exact⟨k+1,A',c',J.o,by go_num,rfl,H8.o⟩
          case measure=>have:=J.o;simp[intOf];omega
        ·have a7:s.r=false:=Bool.eq_false_iff.2 af;rw[a7] at c3;have aa:=au (show bG W s (k+1)=bG W s k++[(⟨k,R.c,F,R.t⟩,⟨s.i+n,s.j,q,false⟩)] from by have:=ak.o;rw[a7,k5] at this;rw[an.o,this];rfl);clear af a7 ak;go_upto_region 23 with (fail);have H7:=au (show aI fh w (aj (av p (fR ((s.i:Int)+(n:Int)) (s.j:Int) (bs q) false 0) 197) (aj (av I (gO R.k (bs R.f) (bs R.t) R.c) 113) (aj (iw A c (bG W s k)) (aj (av z (fR s.i s.j (bs s.a) s.r 0) 197) (aj (av g6 (fw (some ⟨b,o,none⟩) N ac aD n2 ad aE n3 ae T.drop T.ord T.ini) 25) aS))))) (W6.setCell ⟨p,3,none⟩ (.bool false)) from aJ H6.o aQ 3 (.bool false));clear H6 y0 y1 y2 y3 y4 yf M x1 V x3 xf c0 c1 c2 c3 c4 cf;generalize W6.setCell ⟨p,3,none⟩ (.bool false)=W7 at *
         obtain⟨y0,y1,y2,y3,y4,yf⟩:=bU H7.o;obtain⟨M,x1,V,x3,xf⟩:=aY H7.o.drop;have ag:(bG W s k).length<=1000000:=by have:=jB (W:=W) (s:=s) (k:=k);have:=HQ.o;omega
         go_wp2_with (at_builtin;refine held ?_);refine ia.mk (qW rfl (.tmp 124) (.tmp 130) rfl (⟨k,R.c,F,R.t⟩,⟨s.i+n,s.j,q,false⟩) rfl rfl rfl ag (ay aC (ay aC aQ)) (H7.o.perm (by ac_rfl:_=aj (iw A c (bG W s k)) (aj (av p (fR ((s.i:Int)+(n:Int)) (s.j:Int) (bs q) false 0) 197) (aj (av I (gO R.k (bs R.f) (bs R.t) R.c) 113) (aj (av z (fR s.i s.j (bs s.a) s.r 0) 197) (aj (av g6 (fw (some ⟨b,o,none⟩) N ac aD n2 ad aE n3 ae T.drop T.ord T.ini) 25) aS)))))) ?_);intro A' c' w8 ai
         have H8:=au (show aI fh w (aj (iw A' c' (bG W s (k+1))) (aj (av z (fR s.i s.j (bs s.a) s.r 0) 197) (aj (av g6 (fw (some ⟨b,o,none⟩) N ac aD n2 ad aE n3 ae T.drop T.ord T.ini) 25) aS))) w8 from by
          rw[aa.o]
          exact(ai.perm (by ac_rfl:_=aj (av p (fR ((s.i:Int)+(n:Int)) (s.j:Int) (bs q) false 0) 197) (aj (av I (gO R.k (bs R.f) (bs R.t) R.c) 113) (aj (iw A' c' (bG W s k++[(⟨k,R.c,F,R.t⟩,⟨s.i+n,s.j,q,false⟩)])) (aj (av z (fR s.i s.j (bs s.a) s.r 0) 197) (aj (av g6 (fw (some ⟨b,o,none⟩) N ac aD n2 ad aE n3 ae T.drop T.ord T.ini) 25) aS)))))).drop.drop)
         have ab:(bG W s k).length+1=(bG W s (k+1)).length:=by rw[aa.o,Yz];rfl
         rw[ab];clear ai H7 y0 y1 y2 y3 y4 yf M x1 V x3 xf ab ag;go_wp2_with fail
         go_roundw
         case rel=>exact⟨k+1,A',c',J.o,by go_num,rfl,H8.o⟩
         case measure=>have:=J.o;simp[intOf];omega
       ·rw[Bool.eq_false_iff.2 h1];have K2:=au (nK R.t s.a W5 a4 HA.o);go_wp2_with fail;refine K2.o.mono ?_;rintro e9 W5 ⟨rfl,hb⟩;have bh:=au (H5.o.below (ay aC aQ) hb);clear K2 hb H5 y0 y1 y2 y3 y4 yf M x1 V x3 xf c0 c1 c2 c3 c4 cf;have H5:=bh;clear bh;obtain⟨y0,y1,y2,y3,y4,yf⟩:=bU H5.o;obtain⟨M,x1,V,x3,xf⟩:=aY H5.o.drop;obtain⟨c0,c1,c2,c3,c4,cf⟩:=bU H5.o.drop.drop.drop;dsimp only;by_cases h2:s.a.isPrefixOf R.t=true
        ·have ak:=au (bi.o _ (Lm h1 h2));rw[h2];have ap:bs (R.t.drop s.a.length)=(bs R.t).extract (bs s.a).size (bs R.t).size:=by rw[bB];exact rR R.t s.a.length
         have a6:(bs s.a).size<=(bs R.t).size:=by rw[bB,bB];exact(List.isPrefixOf_iff_prefix.1 h2).length_le
         have aq:¬ (bs R.t).size<(bs s.a).size:=by omega
         generalize R.t.drop s.a.length=q at *
         clear h1 h2;go_upto_region 22 with (fail);rw[<-ap];clear ap a6 aq;have H6:=au (show aI fh w (aj (av p (fR ((s.i:Int)+(n:Int)) (s.j:Int) (bs q) false 0) 197) (aj (av I (gO R.k (bs R.f) (bs R.t) R.c) 113) (aj (iw A c (bG W s k)) (aj (av z (fR s.i s.j (bs s.a) s.r 0) 197) (aj (av g6 (fw (some ⟨b,o,none⟩) N ac aD n2 ad aE n3 ae T.drop T.ord T.ini) 25) aS))))) (W5.setCell ⟨p,2,none⟩ (.string (bs q))) from aJ H5.o aQ 2 (.string (bs q)));clear H5 y0 y1 y2 y3 y4 yf M x1 V x3 xf c0 c1 c2 c3 c4 cf;generalize W5.setCell ⟨p,2,none⟩ (.string (bs q))=W6 at *
         obtain⟨y0,y1,y2,y3,y4,yf⟩:=bU H6.o;obtain⟨M,x1,V,x3,xf⟩:=aY H6.o.drop;obtain⟨c0,c1,c2,c3,c4,cf⟩:=bU H6.o.drop.drop.drop;have aa:=au (show bG W s (k+1)=bG W s k++[(⟨k,R.c,F,R.t⟩,⟨s.i+n,s.j,q,false⟩)] from by have:=ak.o;rw[ao.o,oB] at this;rw[an.o,this];rfl);clear ak;go_upto_region 23 with (fail);have H7:=au (show aI fh w (aj (av p (fR ((s.i:Int)+(n:Int)) (s.j:Int) (bs q) false 0) 197) (aj (av I (gO R.k (bs R.f) (bs R.t) R.c) 113) (aj (iw A c (bG W s k)) (aj (av z (fR s.i s.j (bs s.a) s.r 0) 197) (aj (av g6 (fw (some ⟨b,o,none⟩) N ac aD n2 ad aE n3 ae T.drop T.ord T.ini) 25) aS))))) (W6.setCell ⟨p,3,none⟩ (.bool false)) from aJ H6.o aQ 3 (.bool false));clear H6 y0 y1 y2 y3 y4 yf M x1 V x3 xf c0 c1 c2 c3 c4 cf;generalize W6.setCell ⟨p,3,none⟩ (.bool false)=W7 at *
         obtain⟨y0,y1,y2,y3,y4,yf⟩:=bU H7.o;obtain⟨M,x1,V,x3,xf⟩:=aY H7.o.drop;have ag:(bG W s k).length<=1000000:=by have:=jB (W:=W) (s:=s) (k:=k);have:=HQ.o;omega
         go_wp2_with (at_builtin;refine held ?_);refine ia.mk (qW rfl (.tmp 124) (.tmp 130) rfl (⟨k,R.c,F,R.t⟩,⟨s.i+n,s.j,q,false⟩) rfl rfl rfl ag (ay aC (ay aC aQ)) (H7.o.perm (by ac_rfl:_=aj (iw A c (bG W s k)) (aj (av p (fR ((s.i:Int)+(n:Int)) (s.j:Int) (bs q) false 0) 197) (aj (av I (gO R.k (bs R.f) (bs R.t) R.c) 113) (aj (av z (fR s.i s.j (bs s.a) s.r 0) 197) (aj (av g6 (fw (some ⟨b,o,none⟩) N ac aD n2 ad aE n3 ae T.drop T.ord T.ini) 25) aS)))))) ?_);intro A' c' w8 ai
         have H8:=au (show aI fh w (aj (iw A' c' (bG W s (k+1))) (aj (av z (fR s.i s.j (bs s.a) s.r 0) 197) (aj (av g6 (fw (some ⟨b,o,none⟩) N ac aD n2 ad aE n3 ae T.drop T.ord T.ini) 25) aS))) w8 from by
          rw[aa.o]
          exact(ai.perm (by ac_rfl:_=aj (av p (fR ((s.i:Int)+(n:Int)) (s.j:Int) (bs q) false 0) 197) (aj (av I (gO R.k (bs R.f) (bs R.t) R.c) 113) (aj (iw A' c' (bG W s k++[(⟨k,R.c,F,R.t⟩,⟨s.i+n,s.j,q,false⟩)])) (aj (av z (fR s.i s.j (bs s.a) s.r 0) 197) (aj (av g6 (fw (some ⟨b,o,none⟩) N ac aD n2 ad aE n3 ae T.drop T.ord T.ini) 25) aS)))))).drop.drop)
         have ab:(bG W s k).length+1=(bG W s (k+1)).length:=by rw[aa.o,Yz];rfl
         rw[ab];clear ai H7 y0 y1 y2 y3 y4 yf M x1 V x3 xf ab ag;go_wp2_with fail
         go_roundw
         case rel=>exact⟨k+1,A',c',J.o,by go_num,rfl,H8.o⟩
         case measure=>have:=J.o;simp[intOf];omega
        ·have al:=au (show bG W s (k+1)=bG W s k from by rw[an.o,bx.o (Lp h1 h2)];simp);rw[Bool.eq_false_iff.2 h2];clear h1 h2;go_wp2
         go_roundw
         case rel=>exact⟨k+1,A,c,J.o,by go_num,by rw[al.o],by rw[al.o];exact H5.o.drop.drop⟩
         case measure=>have:=J.o;simp[intOf];omega
     ·have t1:(R.k != W.ka)=true:=by simp[hk]
      have be:(R.k==W.ka)=false:=by simp[hk]
      have al:=au (CS (W:=W) (s:=s) ar (by rw[a0.o];unfold EG;rw[ao.o];exact hk));clear hk;go_wp2
      go_roundw
      case rel=>exact⟨k+1,A,c,J.o,by go_num,by rw[al.o],by rw[al.o];exact H1.o.drop⟩
      case measure=>have:=J.o;simp[intOf];omega
    ·obtain rfl:k=N:=by omega
     obtain⟨f6,aw⟩:=HR.o.drop.drop.fst;have b0:=aB (i:=0) aw rfl;clear aw f6
     have HF:=au (show AA W s w (.returned (.slice A (bG W s k).length c)) wr from by
      have e:bG W s k=W.cK s:=by rw[HN.o,vH]
      refine⟨A,c,by rw[e],?_⟩;rw[<-e]
      exact(HR.o.perm (by ac_rfl:_=aj (aj (av z (fR s.i s.j (bs s.a) s.r 0) 197) (aj (av g6 (fw aA k ac aD n2 ad aE n3 ae T.drop T.ord T.ini) 25) aS)) (iw A c (bG W s k)))).drop.post jd)
     generalize (bG W s k).length=no at *
     go_wp2;go_ret;exact HF.o
  | false=>
   go_upto_region 3 with (fail);obtain⟨c0,c1,c2,c3,c4,cf⟩:=bU H3.o.drop;refine aK (fun w'=>(ja w' z (.int .i64 s.i) (.int .i64 s.j))) fi fi ⟨c0,c1⟩ ?_;have H4:=au (H3.o.drew (ay jd aQ));clear H3 c0 c1 c2 c3 c4 cf;generalize w1.drew=w4 at *
   (repeat(first|refine aW ?_|refine aX ?_))
   refine lex_nil ?_;go_wp2_with fail;go_loopw [13,18] (fun v i wr=>∃ (k:Nat) (A:fj) (c:Nat),k<=N/\i=.int .i64 k/\v=.slice A (bG W s k).length c/\aI fh w (aj (iw A c (bG W s k)) (aj (av z (fR s.i s.j (bs s.a) s.r 0) 197) (aj (av g6 (fw aA N ac aD n2 ad aE n3 ae T.drop T.ord T.ini) 25) aS))) wr) (fun _ i _=>N-(intOf i).toNat)
   case atStart=>exact⟨0,none,0,YE _,rfl,rfl,H4.o⟩
   case round=>
    obtain⟨k,A,c,hk,rfl,rfl,hR⟩:=hrel;have HR:=au hR;clear hR H4;by_cases bc:k<N
    ·have ar:k<W.rs.length:=by rw[<-HN.o];exact bc
     have J:=au (show k+1<=N from bc);have bz:k<T.rs.length:=by rw[<-a2.o];exact ar
     obtain⟨b,o,rfl,hc⟩:=lD.at HT.o.rs ff;have bf:Below w.heap.size w wr:=HR.o.mod.below (fun _ _ h=>h);obtain⟨r0,r1,r2,r3⟩:=hc wr bf k bz;have bb:T.rs[k]=W.rs[k]:=by simp only[a2.o]
     rw[bb] at r0 r1 r2 r3;have ax:W.rs[k] ∈ W.rs:=YL ar;have af:=HT.o.sr W.rs[k] (by rw[<-a2.o];exact ax);have a4:W.rs[k].t.length<=1000000:=af.2;have bk:W.rs[k].f.length<=1000000:=af.1;have bj:=HV.o k ar;have b4:(k:Int)<1000000:=by have:=HT.o.lr;omega
     have HQ:=au (show W.rs.length<=1000000 by rw[a2.o];exact HT.o.lr);obtain⟨f6,aw⟩:=HR.o.drop.drop.fst;have b0:=aB (i:=0) aw rfl;clear aw f6;obtain⟨R,ba⟩:∃ R,R=W.rs[k]:=⟨_,rfl⟩;rw[<-ba] at r0 r1 r2 r3 ax a4 bk bj;have a0:=au ba.symm;clear ba bb af hc ax;go_upto_region 10 with (fail);have H1:=au (aH HR.o aQ (gO R.k (bs R.f) (bs R.t) R.c) 113);have a5:=au (show Below w.heap.size w (wr.alloc (.cells (gO R.k (bs R.f) (bs R.t) R.c) 113)) from H1.o.mod.below (fun _ _ h=>h));clear HR r0 r1 r2 r3 b0 bf;generalize wr.alloc (.cells (gO R.k (bs R.f) (bs R.t) R.c) 113)=w2 at *
     generalize wr.heap.size=I at *
     obtain⟨M,x1,V,x3,xf⟩:=aY H1.o;obtain⟨c0,c1,c2,c3,c4,cf⟩:=bU H1.o.drop.drop;by_cases hk:R.k=W.kb
     ·have az:word W.kb R.f=true:=hk ▸ bj
      have an:=au (show bG W s (k+1)=bG W s k++(W.uM s ⟨k,R.c,(aM W.kb R.f).1,R.t⟩).toList from by
       have e:EG W s=W.kb:=by unfold EG;rw[ao.o];rfl
       have:=CU (W:=W) (s:=s) ar (by rw[a0.o,e];exact hk) (by rw[a0.o,e];exact az);rw[a0.o,e] at this
       exact this)
      have KU:=au (CP (w:=w2) (lc:=yc) W.kb R.f (HY.o.below a5.o) HS.o.2.1 HM.o az bk);rw[<-b3.o] at KU;have bd:=au (fun (h:jA W.m (aM W.kb R.f).1 s.j=false)=>(show W.uM s ⟨k,R.c,(aM W.kb R.f).1,R.t⟩=none from QL (by rw[ao.o];exact h)));have a3:=au (fun (h:jA W.m (aM W.kb R.f).1 s.j=true)=>(show W.uM s ⟨k,R.c,(aM W.kb R.f).1,R.t⟩=_ from LD (by rw[ao.o];exact h)));have b5:(aM W.kb R.f).1.length<=12:=(eH.1 az).2.2;generalize (aM W.kb R.f).1=F at *
      generalize hn:F.length=n at *
      have bv:=au hn;have t1:(R.k != W.kb)=false:=by simp[hk]
      have be:(R.k==W.kb)=true:=by simp[hk]
      clear hk az hn;cases am:jA W.m F s.j with
      | false=>
       rw[am] at KU;have al:=au (show bG W s (k+1)=bG W s k from by rw[an.o,bd.o am];simp);clear am;simp only[ZG,if_false] at KU;go_wp2_with fail;refine KU.o.mono ?_;rintro e9 w3 ⟨rfl,hb⟩;have H2:=au (H1.o.below (ay aC aQ) hb);clear KU hb H1 a5 M x1 V x3 xf c0 c1 c2 c3 c4 cf;dsimp only;go_wp2
       go_roundw
       case rel=>exact⟨k+1,A,c,J.o,by go_num,by rw[al.o],by rw[al.o];exact H2.o.drop⟩
       case measure=>have:=J.o;simp[intOf];omega
      | true=>
       rw[am] at KU
       have bi:=au (fun (x:Bs × Bool) (hx:W.xU s R.t=some x)=>(show W.uM s ⟨k,R.c,F,R.t⟩=some (⟨k,R.c,F,R.t⟩,⟨s.i,s.j+n,x.1,x.2⟩) from by
        rw[a3.o am,hx,ao.o,<-bv.o];rfl))
       have bx:=au (fun (hx:W.xU s R.t=none)=>(show W.uM s ⟨k,R.c,F,R.t⟩=none from by rw[a3.o am,hx];rfl));clear am bd a3;simp only[if_true] at KU;go_wp2_with fail;refine KU.o.mono ?_;rintro e9 w3 ⟨rfl,hb⟩;have H2:=au (H1.o.below (ay aC aQ) hb);clear KU hb H1 a5 M x1 V x3 xf c0 c1 c2 c3 c4 cf t1 be;obtain⟨M,x1,V,x3,xf⟩:=aY H2.o;obtain⟨c0,c1,c2,c3,c4,cf⟩:=bU H2.o.drop.drop;dsimp only;go_upto_region 14 with (fail);have a8:=au (aH H2.o aQ (fR s.i s.j ⟨#[]⟩ false 0) 197);clear H2 M x1 V x3 xf c0 c1 c2 c3 c4 cf;generalize w3.alloc (.cells (fR s.i s.j ⟨#[]⟩ false 0) 197)=W3 at *
       generalize w3.heap.size=p at *
       obtain⟨y0,y1,y2,y3,y4,yf⟩:=bU a8.o;have br:(s.i:Int)<=1000000:=by have:=HS.o.1;have:=HL.o;omega
       have bu:(s.j:Int)<=1000000:=by have:=HS.o.2.1;have:=HM.o;omega
       go_upto_region 17 with (fail);clear br bu;have H4:=au (show aI fh w (aj (av p (fR (s.i:Int) ((s.j:Int)+(n:Int)) ⟨#[]⟩ false 0) 197) (aj (av I (gO R.k (bs R.f) (bs R.t) R.c) 113) (aj (iw A c (bG W s k)) (aj (av z (fR s.i s.j (bs s.a) s.r 0) 197) (aj (av g6 (fw (some ⟨b,o,none⟩) N ac aD n2 ad aE n3 ae T.drop T.ord T.ini) 25) aS))))) (W3.setCell ⟨p,1,none⟩ (.int .i64 ((s.j:Int)+(n:Int)))) from aJ a8.o aQ 1 (.int .i64 ((s.j:Int)+(n:Int))));clear a8 y0 y1 y2 y3 y4 yf;generalize W3.setCell ⟨p,1,none⟩ (.int .i64 ((s.j:Int)+(n:Int)))=W4 at *
       obtain⟨y0,y1,y2,y3,y4,yf⟩:=bU H4.o;obtain⟨M,x1,V,x3,xf⟩:=aY H4.o.drop;obtain⟨c0,c1,c2,c3,c4,cf⟩:=bU H4.o.drop.drop.drop;have K1:=au (nK s.a R.t W4 HA.o a4);go_wp2_with fail;refine K1.o.mono ?_;rintro e9 W5 ⟨rfl,hb⟩;have H5:=au (H4.o.below (ay aC aQ) hb);clear K1 hb H4 y0 y1 y2 y3 y4 yf M x1 V x3 xf c0 c1 c2 c3 c4 cf;obtain⟨y0,y1,y2,y3,y4,yf⟩:=bU H5.o;obtain⟨M,x1,V,x3,xf⟩:=aY H5.o.drop;obtain⟨c0,c1,c2,c3,c4,cf⟩:=bU H5.o.drop.drop.drop;dsimp only;by_cases h1:R.t.isPrefixOf s.a=true
       ·have ak:=au (bi.o _ (Ll h1));rw[h1];have ap:bs (s.a.drop R.t.length)=(bs s.a).extract (bs R.t).size (bs s.a).size:=by rw[bB];exact rR s.a R.t.length
        have a6:(bs R.t).size<=(bs s.a).size:=by rw[bB,bB];exact(List.isPrefixOf_iff_prefix.1 h1).length_le
        have aq:¬ (bs s.a).size<(bs R.t).size:=by omega
        generalize s.a.drop R.t.length=q at *
        clear h1;go_upto_region 19 with (fail);rw[<-ap];clear ap a6 aq;have H6:=au (show aI fh w (aj (av p (fR (s.i:Int) ((s.j:Int)+(n:Int)) (bs q) false 0) 197) (aj (av I (gO R.k (bs R.f) (bs R.t) R.c) 113) (aj (iw A c (bG W s k)) (aj (av z (fR s.i s.j (bs s.a) s.r 0) 197) (aj (av g6 (fw (some ⟨b,o,none⟩) N ac aD n2 ad aE n3 ae T.drop T.ord T.ini) 25) aS))))) (W5.setCell ⟨p,2,none⟩ (.string (bs q))) from aJ H5.o aQ 2 (.string (bs q)));clear H5 y0 y1 y2 y3 y4 yf M x1 V x3 xf c0 c1 c2 c3 c4 cf;generalize W5.setCell ⟨p,2,none⟩ (.string (bs q))=W6 at *
        obtain⟨y0,y1,y2,y3,y4,yf⟩:=bU H6.o;obtain⟨M,x1,V,x3,xf⟩:=aY H6.o.drop;obtain⟨c0,c1,c2,c3,c4,cf⟩:=bU H6.o.drop.drop.drop;by_cases af:s.r=true
        ·rw[af] at c3;by_cases hq:q=[]
         ·have e2:(bs q).toList.isEmpty=true:=by rw[Z9];exact dY.2 hq
          have aa:=au (show bG W s (k+1)=bG W s k++[(⟨k,R.c,F,R.t⟩,⟨s.i,s.j+n,q,false⟩)] from by have:=ak.o;rw[af,ZI,decide_eq_false (fun h=>h hq)] at this;rw[an.o,this];rfl);clear hq af ak;go_upto_region 23 with (fail);have H7:=au (show aI fh w (aj (av p (fR (s.i:Int) ((s.j:Int)+(n:Int)) (bs q) false 0) 197) (aj (av I (gO R.k (bs R.f) (bs R.t) R.c) 113) (aj (iw A c (bG W s k)) (aj (av z (fR s.i s.j (bs s.a) s.r 0) 197) (aj (av g6 (fw (some ⟨b,o,none⟩) N ac aD n2 ad aE n3 ae T.drop T.ord T.ini) 25) aS))))) (W6.setCell ⟨p,3,none⟩ (.bool false)) from aJ H6.o aQ 3 (.bool false));clear H6 y0 y1 y2 y3 y4 yf M x1 V x3 xf c0 c1 c2 c3 c4 cf;generalize W6.setCell ⟨p,3,none⟩ (.bool false)=W7 at *
          obtain⟨y0,y1,y2,y3,y4,yf⟩:=bU H7.o;obtain⟨M,x1,V,x3,xf⟩:=aY H7.o.drop;have ag:(bG W s k).length<=1000000:=by have:=jB (W:=W) (s:=s) (k:=k);have:=HQ.o;omega
          go_wp2_with (at_builtin;refine held ?_);refine ia.mk (qW rfl (.tmp 124) (.tmp 130) rfl (⟨k,R.c,F,R.t⟩,⟨s.i,s.j+n,q,false⟩) rfl rfl rfl ag (ay aC (ay aC aQ)) (H7.o.perm (by ac_rfl:_=aj (iw A c (bG W s k)) (aj (av p (fR (s.i:Int) ((s.j:Int)+(n:Int)) (bs q) false 0) 197) (aj (av I (gO R.k (bs R.f) (bs R.t) R.c) 113) (aj (av z (fR s.i s.j (bs s.a) s.r 0) 197) (aj (av g6 (fw (some ⟨b,o,none⟩) N ac aD n2 ad aE n3 ae T.drop T.ord T.ini) 25) aS)))))) ?_);intro A' c' w8 ai
          have H8:=au (show aI fh w (aj (iw A' c' (bG W s (k+1))) (aj (av z (fR s.i s.j (bs s.a) s.r 0) 197) (aj (av g6 (fw (some ⟨b,o,none⟩) N ac aD n2 ad aE n3 ae T.drop T.ord T.ini) 25) aS))) w8 from by
           rw[aa.o]
           exact(ai.perm (by ac_rfl:_=aj (av p (fR (s.i:Int) ((s.j:Int)+(n:Int)) (bs q) false 0) 197) (aj (av I (gO R.k (bs R.f) (bs R.t) R.c) 113) (aj (iw A' c' (bG W s k++[(⟨k,R.c,F,R.t⟩,⟨s.i,s.j+n,q,false⟩)])) (aj (av z (fR s.i s.j (bs s.a) s.r 0) 197) (aj (av g6 (fw (some ⟨b,o,none⟩) N ac aD n2 ad aE n3 ae T.drop T.ord T.ini) 25) aS)))))).drop.drop)
          have ab:(bG W s k).length+1=(bG W s (k+1)).length:=by rw[aa.o,Yz];rfl
          rw[ab];clear ai H7 y0 y1 y2 y3 y4 yf M x1 V x3 xf ab ag;go_wp2_with fail
          go_roundw
          case rel=>exact⟨k+1,A',c',J.o,by go_num,rfl,H8.o⟩
          case measure=>have:=J.o;simp[intOf];omega
         ·have e2:(bs q).toList.isEmpty=false:=by rw[Zo];exact fun h=>hq (dY.1 h)
          have aa:=au (show bG W s (k+1)=bG W s k++[(⟨k,R.c,F,R.t⟩,⟨s.i,s.j+n,q,true⟩)] from by have:=ak.o;rw[af,ZI,decide_eq_true hq] at this;rw[an.o,this];rfl);clear hq af ak;go_upto_region 23 with (fail);have H7:=au (show aI fh w (aj (av p (fR (s.i:Int) ((s.j:Int)+(n:Int)) (bs q) true 0) 197) (aj (av I (gO R.k (bs R.f) (bs R.t) R.c) 113) (aj (iw A c (bG W s k)) (aj (av z (fR s.i s.j (bs s.a) s.r 0) 197) (aj (av g6 (fw (some ⟨b,o,none⟩) N ac aD n2 ad aE n3 ae T.drop T.ord T.ini) 25) aS))))) (W6.setCell ⟨p,3,none⟩ (.bool true)) from aJ H6.o aQ 3 (.bool true));clear H6 y0 y1 y2 y3 y4 yf M x1 V x3 xf c0 c1 c2 c3 c4 cf;generalize W6.setCell ⟨p,3,none⟩ (.bool true)=W7 at *
          obtain⟨y0,y1,y2,y3,y4,yf⟩:=bU H7.o;obtain⟨M,x1,V,x3,xf⟩:=aY H7.o.drop;have ag:(bG W s k).length<=1000000:=by have:=jB (W:=W) (s:=s) (k:=k);have:=HQ.o;omega
          go_wp2_with (at_builtin;refine held ?_);refine ia.mk (qW rfl (.tmp 124) (.tmp 130) rfl (⟨k,R.c,F,R.t⟩,⟨s.i,s.j+n,q,true⟩) rfl rfl rfl ag (ay aC (ay aC aQ)) (H7.o.perm (by ac_rfl:_=aj (iw A c (bG W s k)) (aj (av p (fR (s.i:Int) ((s.j:Int)+(n:Int)) (bs q) true 0) 197) (aj (av I (gO R.k (bs R.f) (bs R.t) R.c) 113) (aj (av z (fR s.i s.j (bs s.a) s.r 0) 197) (aj (av g6 (fw (some ⟨b,o,none⟩) N ac aD n2 ad aE n3 ae T.drop T.ord T.ini) 25) aS)))))) ?_);intro A' c' w8 ai
          have H8:=au (show aI fh w (aj (iw A' c' (bG W s (k+1))) (aj (av z (fR s.i s.j (bs s.a) s.r 0) 197) (aj (av g6 (fw (some ⟨b,o,none⟩) N ac aD n2 ad aE n3 ae T.drop T.ord T.ini) 25) aS))) w8 from by
           rw[aa.o]
           exact(ai.perm (by ac_rfl:_=aj (av p (fR (s.i:Int) ((s.j:Int)+(n:Int)) (bs q) true 0) 197) (aj (av I (gO R.k (bs R.f) (bs R.t) R.c) 113) (aj (iw A' c' (bG W s k++[(⟨k,R.c,F,R.t⟩,⟨s.i,s.j+n,q,true⟩)])) (aj (av z (fR s.i s.j (bs s.a) s.r 0) 197) (aj (av g6 (fw (some ⟨b,o,none⟩) N ac aD n2 ad aE n3 ae T.drop T.ord T.ini) 25) aS)))))).drop.drop)
          have ab:(bG W s k).length+1=(bG W s (k+1)).length:=by rw[aa.o,Yz];rfl
          rw[ab];clear ai H7 y0 y1 y2 y3 y4 yf M x1 V x3 xf ab ag;go_wp2_with fail
          go_roundw
          case rel=>exact⟨k+1,A',c',J.o,by go_num,rfl,H8.o⟩
          case measure=>have:=J.o;simp[intOf];omega
        ·have a7:s.r=false:=Bool.eq_false_iff.2 af;rw[a7] at c3;have aa:=au (show bG W s (k+1)=bG W s k++[(⟨k,R.c,F,R.t⟩,⟨s.i,s.j+n,q,false⟩)] from by have:=ak.o;rw[a7,k5] at this;rw[an.o,this];rfl);clear af a7 ak;go_upto_region 23 with (fail);have H7:=au (show aI fh w (aj (av p (fR (s.i:Int) ((s.j:Int)+(n:Int)) (bs q) false 0) 197) (aj (av I (gO R.k (bs R.f) (bs R.t) R.c) 113) (aj (iw A c (bG W s k)) (aj (av z (fR s.i s.j (bs s.a) s.r 0) 197) (aj (av g6 (fw (some ⟨b,o,none⟩) N ac aD n2 ad aE n3 ae T.drop T.ord T.ini) 25) aS))))) (W6.setCell ⟨p,3,none⟩ (.bool false)) from aJ H6.o aQ 3 (.bool false));clear H6 y0 y1 y2 y3 y4 yf M x1 V x3 xf c0 c1 c2 c3 c4 cf;generalize W6.setCell ⟨p,3,none⟩ (.bool false)=W7 at *
         obtain⟨y0,y1,y2,y3,y4,yf⟩:=bU H7.o;obtain⟨M,x1,V,x3,xf⟩:=aY H7.o.drop;have ag:(bG W s k).length<=1000000:=by have:=jB (W:=W) (s:=s) (k:=k);have:=HQ.o;omega
         go_wp2_with (at_builtin;refine held ?_);refine ia.mk (qW rfl (.tmp 124) (.tmp 130) rfl (⟨k,R.c,F,R.t⟩,⟨s.i,s.j+n,q,false⟩) rfl rfl rfl ag (ay aC (ay aC aQ)) (H7.o.perm (by ac_rfl:_=aj (iw A c (bG W s k)) (aj (av p (fR (s.i:Int) ((s.j:Int)+(n:Int)) (bs q) false 0) 197) (aj (av I (gO R.k (bs R.f) (bs R.t) R.c) 113) (aj (av z (fR s.i s.j (bs s.a) s.r 0) 197) (aj (av g6 (fw (some ⟨b,o,none⟩) N ac aD n2 ad aE n3 ae T.drop T.ord T.ini) 25) aS)))))) ?_);intro A' c' w8 ai
         have H8:=au (show aI fh w (aj (iw A' c' (bG W s (k+1))) (aj (av z (fR s.i s.j (bs s.a) s.r 0) 197) (aj (av g6 (fw (some ⟨b,o,none⟩) N ac aD n2 ad aE n3 ae T.drop T.ord T.ini) 25) aS))) w8 from by
          rw[aa.o]
          exact(ai.perm (by ac_rfl:_=aj (av p (fR (s.i:Int) ((s.j:Int)+(n:Int)) (bs q) false 0) 197) (aj (av I (gO R.k (bs R.f) (bs R.t) R.c) 113) (aj (iw A' c' (bG W s k++[(⟨k,R.c,F,R.t⟩,⟨s.i,s.j+n,q,false⟩)])) (aj (av z (fR s.i s.j (bs s.a) s.r 0) 197) (aj (av g6 (fw (some ⟨b,o,none⟩) N ac aD n2 ad aE n3 ae T.drop T.ord T.ini) 25) aS)))))).drop.drop)
         have ab:(bG W s k).length+1=(bG W s (k+1)).length:=by rw[aa.o,Yz];rfl
         rw[ab];clear ai H7 y0 y1 y2 y3 y4 yf M x1 V x3 xf ab ag;go_wp2_with fail
         go_roundw
         case rel=>exact⟨k+1,A',c',J.o,by go_num,rfl,H8.o⟩
         case measure=>have:=J.o;simp[intOf];omega
       ·rw[Bool.eq_false_iff.2 h1];have K2:=au (nK R.t s.a W5 a4 HA.o);go_wp2_with fail;refine K2.o.mono ?_;rintro e9 W5 ⟨rfl,hb⟩;have bh:=au (H5.o.below (ay aC aQ) hb);clear K2 hb H5 y0 y1 y2 y3 y4 yf M x1 V x3 xf c0 c1 c2 c3 c4 cf;have H5:=bh;clear bh;obtain⟨y0,y1,y2,y3,y4,yf⟩:=bU H5.o;obtain⟨M,x1,V,x3,xf⟩:=aY H5.o.drop;obtain⟨c0,c1,c2,c3,c4,cf⟩:=bU H5.o.drop.drop.drop;dsimp only;by_cases h2:s.a.isPrefixOf R.t=true
        ·have ak:=au (bi.o _ (Lm h1 h2));rw[h2];have ap:bs (R.t.drop s.a.length)=(bs R.t).extract (bs s.a).size (bs R.t).size:=by rw[bB];exact rR R.t s.a.length
         have a6:(bs s.a).size<=(bs R.t).size:=by rw[bB,bB];exact(List.isPrefixOf_iff_prefix.1 h2).length_le
         have aq:¬ (bs R.t).size<(bs s.a).size:=by omega
         generalize R.t.drop s.a.length=q at *
         clear h1 h2;go_upto_region 22 with (fail);rw[<-ap];clear ap a6 aq;have H6:=au (show aI fh w (aj (av p (fR (s.i:Int) ((s.j:Int)+(n:Int)) (bs q) false 0) 197) (aj (av I (gO R.k (bs R.f) (bs R.t) R.c) 113) (aj (iw A c (bG W s k)) (aj (av z (fR s.i s.j (bs s.a) s.r 0) 197) (aj (av g6 (fw (some ⟨b,o,none⟩) N ac aD n2 ad aE n3 ae T.drop T.ord T.ini) 25) aS))))) (W5.setCell ⟨p,2,none⟩ (.string (bs q))) from aJ H5.o aQ 2 (.string (bs q)));clear H5 y0 y1 y2 y3 y4 yf M x1 V x3 xf c0 c1 c2 c3 c4 cf;generalize W5.setCell ⟨p,2,none⟩ (.string (bs q))=W6 at *
         obtain⟨y0,y1,y2,y3,y4,yf⟩:=bU H6.o;obtain⟨M,x1,V,x3,xf⟩:=aY H6.o.drop;obtain⟨c0,c1,c2,c3,c4,cf⟩:=bU H6.o.drop.drop.drop;have aa:=au (show bG W s (k+1)=bG W s k++[(⟨k,R.c,F,R.t⟩,⟨s.i,s.j+n,q,true⟩)] from by have:=ak.o;rw[ao.o,td] at this;rw[an.o,this];rfl);clear ak;go_upto_region 23 with (fail);have H7:=au (show aI fh w (aj (av p (fR (s.i:Int) ((s.j:Int)+(n:Int)) (bs q) true 0) 197) (aj (av I (gO R.k (bs R.f) (bs R.t) R.c) 113) (aj (iw A c (bG W s k)) (aj (av z (fR s.i s.j (bs s.a) s.r 0) 197) (aj (av g6 (fw (some ⟨b,o,none⟩) N ac aD n2 ad aE n3 ae T.drop T.ord T.ini) 25) aS))))) (W6.setCell ⟨p,3,none⟩ (.bool true)) from aJ H6.o aQ 3 (.bool true));clear H6 y0 y1 y2 y3 y4 yf M x1 V x3 xf c0 c1 c2 c3 c4 cf;generalize W6.setCell ⟨p,3,none⟩ (.bool true)=W7 at *
         obtain⟨y0,y1,y2,y3,y4,yf⟩:=bU H7.o;obtain⟨M,x1,V,x3,xf⟩:=aY H7.o.drop;have ag:(bG W s k).length<=1000000:=by have:=jB (W:=W) (s:=s) (k:=k);have:=HQ.o;omega
         go_wp2_with (at_builtin;refine held ?_);refine ia.mk (qW rfl (.tmp 124) (.tmp 130) rfl (⟨k,R.c,F,R.t⟩,⟨s.i,s.j+n,q,true⟩) rfl rfl rfl ag (ay aC (ay aC aQ)) (H7.o.perm (by ac_rfl:_=aj (iw A c (bG W s k)) (aj (av p (fR (s.i:Int) ((s.j:Int)+(n:Int)) (bs q) true 0) 197) (aj (av I (gO R.k (bs R.f) (bs R.t) R.c) 113) (aj (av z (fR s.i s.j (bs s.a) s.r 0) 197) (aj (av g6 (fw (some ⟨b,o,none⟩) N ac aD n2 ad aE n3 ae T.drop T.ord T.ini) 25) aS)))))) ?_);intro A' c' w8 ai
         have H8:=au (show aI fh w (aj (iw A' c' (bG W s (k+1))) (aj (av z (fR s.i s.j (bs s.a) s.r 0) 197) (aj (av g6 (fw (some ⟨b,o,none⟩) N ac aD n2 ad aE n3 ae T.drop T.ord T.ini) 25) aS))) w8 from by
          rw[aa.o]
          exact(ai.perm (by ac_rfl:_=aj (av p (fR (s.i:Int) ((s.j:Int)+(n:Int)) (bs q) true 0) 197) (aj (av I (gO R.k (bs R.f) (bs R.t) R.c) 113) (aj (iw A' c' (bG W s k++[(⟨k,R.c,F,R.t⟩,⟨s.i,s.j+n,q,true⟩)])) (aj (av z (fR s.i s.j (bs s.a) s.r 0) 197) (aj (av g6 (fw (some ⟨b,o,none⟩) N ac aD n2 ad aE n3 ae T.drop T.ord T.ini) 25) aS)))))).drop.drop)
         have ab:(bG W s k).length+1=(bG W s (k+1)).length:=by rw[aa.o,Yz];rfl
         rw[ab];clear ai H7 y0 y1 y2 y3 y4 yf M x1 V x3 xf ab ag;go_wp2_with fail
         go_roundw
         case rel=>exact⟨k+1,A',c',J.o,by go_num,rfl,H8.o⟩
         case measure=>have:=J.o;simp[intOf];omega
        ·have al:=au (show bG W s (k+1)=bG W s k from by rw[an.o,bx.o (Lp h1 h2)];simp);rw[Bool.eq_false_iff.2 h2];clear h1 h2;go_wp2
         go_roundw
         case rel=>exact⟨k+1,A,c,J.o,by go_num,by rw[al.o],by rw[al.o];exact H5.o.drop.drop⟩
         case measure=>have:=J.o;simp[intOf];omega
     ·have t1:(R.k != W.kb)=true:=by simp[hk]
      have be:(R.k==W.kb)=false:=by simp[hk]
      have al:=au (CS (W:=W) (s:=s) ar (by rw[a0.o];unfold EG;rw[ao.o];exact hk));clear hk;go_wp2
      go_roundw
      case rel=>exact⟨k+1,A,c,J.o,by go_num,by rw[al.o],by rw[al.o];exact H1.o.drop⟩
      case measure=>have:=J.o;simp[intOf];omega
    ·obtain rfl:k=N:=by omega
     obtain⟨f6,aw⟩:=HR.o.drop.drop.fst;have b0:=aB (i:=0) aw rfl;clear aw f6
     have HF:=au (show AA W s w (.returned (.slice A (bG W s k).length c)) wr from by
      have e:bG W s k=W.cK s:=by rw[HN.o,vH]
      refine⟨A,c,by rw[e],?_⟩;rw[<-e]
      exact(HR.o.perm (by ac_rfl:_=aj (aj (av z (fR s.i s.j (bs s.a) s.r 0) 197) (aj (av g6 (fw aA k ac aD n2 ad aE n3 ae T.drop T.ord T.ini) 25) aS)) (iw A c (bG W s k)))).drop.post jd)
     generalize (bG W s k).length=no at *
     go_wp2;go_ret;exact HF.o
 have HC:=au cut;clear cut bp;by_cases bm:s.r=true
 ·have hr:=bm;clear bm;rw[hr] at c3;have a9:=au (show W.left s=true by unfold Wd.left;rw[hr];rfl);clear hr;go_wp2;exact HC.o true _ _ _ _ _ _ _ _ _ _ _ _ _ _ a9.o
 ·have hr:s.r=false:=Bool.eq_false_iff.2 bm;clear bm;rw[hr] at c3;by_cases a1:s.a=[]
  ·have e1:(bs s.a).toList.isEmpty=true:=by rw[Z9];exact dY.2 a1
   by_cases hi:s.i<nl
   ·have e2:decide (s.i<nl)=true:=decide_eq_true hi;have a9:=au (show W.left s=true by unfold Wd.left;rw[hr,decide_eq_true a1];have:=bw.o;simp;omega);clear hr a1 hi;go_wp2;exact HC.o true _ _ _ _ _ _ _ _ _ _ _ _ _ _ a9.o
   ·have e2:decide (s.i<nl)=false:=decide_eq_false hi;have a9:=au (show W.left s=false by unfold Wd.left;rw[hr,decide_eq_true a1];have:=bw.o;have:=HS.o.1;simp;omega);clear hr a1 hi;go_wp2;exact HC.o false _ _ _ _ _ _ _ _ _ _ _ _ _ _ a9.o
  ·have e1:(bs s.a).toList.isEmpty=false:=by rw[Zo];exact fun h=>a1 (dY.1 h)
   have a9:=au (show W.left s=false by unfold Wd.left;rw[hr,decide_eq_false a1];rfl);clear hr a1;go_wp2;exact HC.o false _ _ _ _ _ _ _ _ _ _ _ _ _ _ a9.o
attribute [local go_sem] Zi
def Ob(s:St):Array Value:=(fR s.i s.j (bs s.a) s.r 0)
def Uu(s:St):Value:=.agg (Ob s)
theorem QN(s:St):tJ Tryz.prog [⟨"I",3,0,false, "", "",0⟩,⟨"J",3,1,false, "", "",8⟩,⟨"Ahead",9,2,false, "", "",16⟩,⟨"Right",4,3,false, "", "",32⟩,⟨"H",3,4,false, "", "",40⟩] (Ob s):=by
 intro f h;simp only[YV,sx,or_false] at h;rcases h with rfl|rfl|rfl|rfl|rfl
 ·exact⟨by decide,_,rfl,.int Tryz.underlying3 _⟩
 ·exact⟨by decide,_,rfl,.int Tryz.underlying3 _⟩
 ·exact⟨by decide,_,rfl,.str Tryz.underlying9 _⟩
 ·exact⟨by decide,_,rfl,.bool Tryz.underlying4 _⟩
 ·exact⟨by decide,_,rfl,.int Tryz.underlying3 _⟩
theorem Uv(a b:St):mI [⟨"I",3,0,false, "", "",0⟩,⟨"J",3,1,false, "", "",8⟩,⟨"Ahead",9,2,false, "", "",16⟩,⟨"Right",4,3,false, "", "",32⟩,⟨"H",3,4,false, "", "",40⟩] (Ob a) (Ob b)=decide (a=b):=by
 obtain⟨i,j,x,r⟩:=a;obtain⟨p,z,h,q⟩:=b;have e:mI [⟨"I",3,0,false, "", "",0⟩,⟨"J",3,1,false, "", "",8⟩,⟨"Ahead",9,2,false, "", "",16⟩,⟨"Right",4,3,false, "", "",32⟩,⟨"H",3,4,false, "", "",40⟩] (Ob ⟨i,j,x,r⟩) (Ob ⟨p,z,h,q⟩)=(((i:Int)==(p:Int))&&(((j:Int)==(z:Int))&&((bs x==bs h)&&((r==q)&&(((0:Int)==0)&&true))))):=rfl;rw[e,tZ];rw[ZH];simp[Int.natCast_inj]
theorem AJ:nJ Tryz.prog 197 Uu:=by
 refine pV (cs:=Ob) Tryz.underlying197 fi QN Uv (fun a=>?_);simp[Ob,Instr.sameBits,tZ]
def y9(b:Nat)(l:List (St × Int)):CH.bq:=iE Uu b (l.map fun p=>(p.1,.int .i64 p.2))
variable{b:Nat}{F:Nat->Prop}
theorem AL{L:List (St × Int)}:(y9 b L).Ok:=map_ok
instance {b:Nat} {L:List (St × Int)}:(y9 b L).Ok:=AL
theorem LG{L:List (St × Int)}(h:y9 b L w F)(s:St)(ok:Bool):
  (Instr.lookup 194 (.map (some b)) (Uu s) ok).run Tryz.prog w=.ok (if ok then .tuple #[(ny (L.map fun p=>(p.1,Value.int .i64 p.2)) s).getD (.int .i64 0),.bool (ny (L.map fun p=>(p.1,Value.int .i64 p.2)) s).isSome] else(ny (L.map fun p=>(p.1,Value.int .i64 p.2)) s).getD (.int .i64 0)) w:=by
 obtain⟨⟨es,q,I,z⟩,J⟩:=h;cases ok
 ·exact uq AJ Tryz.underlying194 Tryz.zeroValue3 z s w I
 ·exact nS AJ Tryz.underlying194 Tryz.zeroValue3 z s w I
theorem XK(h:iw A c l w F):tH Az 7 w A l:=iG h (Gu l)
theorem LH(h:iw A c l w F)(hn:0<l.length):∃ b o,A=some ⟨b,o,none⟩:=by
 obtain⟨b,o,e,-⟩:=tH.at (R:=Az) (fun _=>rfl) ff (XK h) hn;exact⟨b,o,e⟩
theorem Gv{o:Nat}(h:iw (some ⟨b,o,none⟩) c l w F){k:Nat}(p:k<l.length):
  w.cell? ⟨b,o+k*7,none⟩=some (.int .i64 (l[k].1.ix:Nat))/\w.cell? ⟨b,o+k*7+1,none⟩=some (.int .i64 l[k].1.c)/\w.cell? ⟨b,o+k*7+2,none⟩=some (.int .i64 l[k].2.i)/\w.cell? ⟨b,o+k*7+3,none⟩=some (.int .i64 l[k].2.j)/\w.cell? ⟨b,o+k*7+4,none⟩=some (.string (bs l[k].2.a))/\w.cell? ⟨b,o+k*7+5,none⟩=some (.bool l[k].2.r)/\w.cell? ⟨b,o+k*7+6,none⟩=some (.int .i64 0):=by
 obtain⟨I,z,e,q⟩:=tH.at (R:=Az) (fun _=>rfl) ff (XK h) ff;injection e with e
 injection e with e1 e2
 subst e1 e2;have g:=q w (YC _ _) k p;exact⟨g 0 _ rfl,g 1 _ rfl,g 2 _ rfl,g 3 _ rfl,g 4 _ rfl,g 5 _ rfl,g 6 _ rfl⟩
theorem nW{a b c d e f:Value}(h:aI F0 w0 (aj (av g #[a,b,c,d,e,f] t) X) w):(iz w g a b c d e f):=by
 obtain⟨F,hF⟩:=h.fst;exact⟨aB hF rfl,aB hF rfl,aB hF rfl,aB hF rfl,aB hF rfl,aB hF rfl⟩
def Gw(W:Wd)(s:St)(L:List (St × Int))(w0:World)(b:Nat)(Z:CH.bq)(e:Ending)(w':World):Prop:=
 ∃ L',e=.returned (.int .i64 (W.fS s))/\Kn W L'/\Ext W s L L'/\s ∈ fU L'/\aI fh w0 (aj (y9 b L') Z) w'
theorem Uw{W:Wd}{a:TA}{X Y:fj}{xc yc:Nat}(hT:iR w0 T a)(hv:bC T=true)(be:W.rs=T.rs)(hX:fM w0 X W.l)(hY:fM w0 Y W.m)(hl:W.l.length<=1000000)(hm:W.m.length<=1000000)(hg:W.good)(ht:W.xR)(aa:∀ s,W.ok s->(W.cK s).map (fun p=>(p.1.c,p.2))=W.moves s):
  ∀ (n:Nat) (s:St) (L:List (St × Int)) (Z:CH.bq) (w:World),W.gD s<n->W.ok s->s.a.length<=3->Kn W L->Z.Ok->aI fh w0 (aj (y9 b L) Z) w ->
  Calls Tryz.prog 135 #[eu T a,.int .i64 W.ka,.slice X W.l.length xc,.int .i64 W.kb,.slice Y W.m.length yc,Uu s,.map (some b)] w (Gw W s L w0 b Z):=by
 intro n
 induction n with
 | zero=>intro s L Z w h;exact absurd h (Zn _)
 | succ n ih=>
 intro s L Z w hn hs ha hk hZ hR;have KM:=au (fun (I:World) (hb:Below w0.heap.size w0 I)=>AB (xc:=xc) (yc:=yc) (hT.below hb) hv be (hX.below hb) (hY.below hb) hs (YQ ha ff) hl hm);have aw:(W.cK s).length<=1000000:=YQ (by rw[<-vH];exact jB) (by rw[be];exact hT.lr);have ca:=au aw;have h1:=aH hR aQ (dh T a) 25;have h2:=aH h1 (ay aC aQ) (Ob s) 197;rw[YN] at h2;have H2:=au h2;have IH:=au ih;have HG:=au hg;have HT:=au ht;have HN:=au hn;have HS:=au hs;have HA:=au ha;have HK:=au hk;have HZ:=au hZ;have HM:=au aa;have cd:=au (fun (I:World) (O:CH.bq) (h:aI fh w0 O I)=>(show Below w0.heap.size w0 I from h.bN));clear ih hT hv be hX hY hl hm hg ht aa hn hs ha hk hR h1 h2 aw;unfold eu Uu at *
 unfold dh Ob at *
 obtain⟨aA,ac,aD,ad,aE,ae⟩:=a;dsimp only at *
 generalize T.rs.length=n1 at *
 generalize T.ds.length=n2 at *
 generalize T.es.length=n3 at *
 obtain⟨nl,bh⟩:∃ n,n=W.l.length:=⟨_,rfl⟩;obtain⟨nm,ax⟩:∃ n,n=W.m.length:=⟨_,rfl⟩;simp only[<-bh,<-ax] at IH KM ⊢;have bz:=au bh;have bp:=au ax;clear bh ax
 go_enter Tryz.func135,Tryz.ntmps135
 go_upto_region 1 with (fail);generalize (w.alloc (.cells (fw aA n1 ac aD n2 ad aE n3 ae T.drop T.ord T.ini) 25)).alloc (.cells (fR s.i s.j (bs s.a) s.r 0) 197)=w2 at *
 generalize w.heap.size+1=q at *
 generalize w.heap.size=g7 at *
 obtain⟨c0,c1,c2,c3,c4,cf⟩:=bU H2.o;obtain⟨F,hF⟩:=H2.o.drop.drop.fst;have M:=LG hF s true;unfold Uu Ob at M;by_cases af:s ∈ fU L
 ·obtain⟨v,hv⟩:=mem_keys.1 af;have b6:v=W.fS s:=HK.o.val _ hv;subst b6;rw[DX HK.o.nd hv] at M;have ar:(Instr.lookup 194 (.map (some b)) (.agg (fR s.i s.j (bs s.a) s.r 0)) true).run Tryz.prog w2=.ok (.tuple (j7 (W.fS s) true)) w2:=M;have HF:=au (show Gw W s L w0 b Z (.returned (.int .i64 (W.fS s))) w2 from⟨L,rfl,HK.o,Ext.refl,af,H2.o.drop.drop⟩);clear M hF hv af;generalize W.fS s=d at *
  go_wp2;go_ret;exact HF.o
 ·rw[Lg af] at M;have ar:(Instr.lookup 194 (.map (some b)) (.agg (fR s.i s.j (bs s.a) s.r 0)) true).run Tryz.prog w2=.ok (.tuple (j7 0 false)) w2:=M;have b4:=au af;clear M hF af;go_upto_region 5 with (fail);clear ar;go_cut [43] (fun v wx=>v=.bool (decide (s=W.fin))/\wx=w2)
  case first=>
   by_cases t1:s.i=W.l.length
   ·have d1:((s.i:Int)==(nl:Int))=true:=by rw[bz.o];simp[t1]
    by_cases t2:s.j=W.m.length
    ·have d2:((s.j:Int)==(nm:Int))=true:=by rw[bp.o];simp[t2]
     by_cases t3:s.a=[]
     ·have d3:((bs s.a).toList==[])=true:=by rw[beq_iff_eq];exact dY.2 t3
      have d4:(bs s.a).toList.isEmpty=true:=by rw[Z9];exact dY.2 t3
      have z:=au (show decide (s=W.fin)=true from by
       have h3:=HS.o.2.2;obtain⟨si,sj,sa,sr⟩:=s;dsimp only at t1 t2 t3 h3;rw[decide_eq_true_eq];unfold Wd.fin;rw[t1,t2,t3];congr 1;cases sr with
       | false=>rfl
       | true=>exact absurd t3 (h3 rfl))
      clear t1 t2 t3;go_wp2;go_meet;exact⟨by rw[z.o],rfl⟩
     ·have d3:((bs s.a).toList==[])=false:=beq_eq_false_iff_ne.2 (fun e=>t3 (dY.1 e));have d4:(bs s.a).toList.isEmpty=false:=by rw[Zo];exact fun h=>t3 (dY.1 h)
      have z:=au (decide_eq_false (p:=s=W.fin) (fun e=>t3 (by rw[e];rfl)));clear t1 t2 t3;go_wp2;go_meet;exact⟨by rw[z.o],rfl⟩
    ·have d2:((s.j:Int)==(nm:Int))=false:=by rw[bp.o];rw[beq_eq_false_iff_ne];omega
     have z:=au (decide_eq_false (p:=s=W.fin) (fun e=>t2 (by rw[e];rfl)));clear t1 t2;go_wp2;go_meet;exact⟨by rw[z.o],rfl⟩
   ·have d1:((s.i:Int)==(nl:Int))=false:=by rw[bz.o];rw[beq_eq_false_iff_ne];omega
    have z:=au (decide_eq_false (p:=s=W.fin) (fun e=>t1 (by rw[e];rfl)));clear t1;go_wp2;go_meet;exact⟨by rw[z.o],rfl⟩
  case rest=>
   obtain⟨rfl,hw⟩:=hcut;have bb:=hw.symm;clear hw;subst bb;have z:=au (wM (W:=W) (s:=s));obtain⟨bf,a7⟩:∃ bf,bf=decide (s=W.fin):=⟨_,rfl⟩;rw[<-a7];have al:=au (show kK W s 0=if bf then 0 else 1099511627776 from by rw[z.o,a7];by_cases h:s=W.fin<;>simp[h,never]);clear z a7
   go_upto_if 43 with (fail)
   go_cut [15] (fun v wx=>v=.int .i64 (kK W s 0)/\wx=w2)
   case first=>
    cases bf with
    | true=>
     go_wp2;go_meet;exact⟨by rw[al.o];rfl,rfl⟩
    | false=>
     go_wp2;go_meet;exact⟨by rw[al.o];rfl,rfl⟩
   case rest=>
   obtain⟨rfl,hw⟩:=hcut;have bb:=hw.symm;clear hw al;subst bb;obtain⟨a0,a1,a2,a3,a4,a5⟩:=nW H2.o.drop;have bc:=au (KM.o w2 (cd.o _ _ H2.o));clear KM;unfold AA at bc;go_wp2_with fail;refine bc.o.mono ?_;rintro e9 w3 ⟨Am,cm,rfl,hp⟩;have H3:=au (show aI fh w0 (aj (iw Am cm (W.cK s)) (aj (av q (fR s.i s.j (bs s.a) s.r 0) 197) (aj (av g7 (fw aA n1 ac aD n2 ad aE n3 ae T.drop T.ord T.ini) 25) (aj (y9 b L) Z)))) w3 from H2.o.fresh aQ hp);clear bc H2 hp a0 a1 a2 a3 a4 a5 c0 c1 c2 c3 c4 cf;dsimp only;have bi:=au (HM.o s HS.o);generalize W.cK s=V at *
   obtain⟨mv,aa⟩:∃ n,n=V.length:=⟨_,rfl⟩;have b3:=au aa;have a6:=au (show mv=(W.moves s).length by rw[aa,<-bi.o,YI]);have ao:(mv:Int)<=1000000:=by have:=ca.o;omega
   have bv:=au ao;rw[<-aa];clear aa;go_wp2_with fail;clear ao;go_loopw [15,18] (fun v kk wr=>∃ (k:Nat) (L':List (St × Int)),kk=.int .i64 k/\k<=mv/\v=.int .i64 (kK W s k)/\Ua W s L k L'/\aI fh w0 (aj (iw Am cm V) (aj (av q (fR s.i s.j (bs s.a) s.r 0) 197) (aj (av g7 (fw aA n1 ac aD n2 ad aE n3 ae T.drop T.ord T.ini) 25) (aj (y9 b L') Z)))) wr) (fun _ kk _=>mv-(intOf kk).toNat)
   case atStart=>exact⟨0,L,rfl,YE _,rfl,Fq HK.o,H3.o⟩
   case round=>
    clear H3;obtain⟨k,L',rfl,hk,rfl,bo,hR⟩:=hrel;have HR:=au hR;have bd:=au bo;have b9:=au (ay jd (ay aC (ay aC (ay AL HZ.o))):(aj (iw Am cm V) (aj (av q (fR s.i s.j (bs s.a) s.r 0) 197) (aj (av g7 (fw aA n1 ac aD n2 ad aE n3 ae T.drop T.ord T.ini) 25) (aj (y9 b L') Z)))).Ok);clear hR bo;by_cases a8:k<mv
    ·have cg:decide ((k:Int)<(mv:Int))=true:=decide_eq_true ff;have ba:k<V.length:=by rw[<-b3.o];exact a8
     have an:k<(W.moves s).length:=by rw[<-a6.o];exact a8
     obtain⟨y,hy⟩:∃ y,y=V[k]:=⟨_,rfl⟩;have ap:(W.moves s)[k]=(y.1.c,y.2):=by
      have e:(W.moves s)[k]?=some (V[k].1.c,V[k].2):=by rw[<-bi.o,Y6,YH ba];rfl
      rw[YH an] at e;rw[hy];exact Option.some.inj e
     have ab:(y.1.c,y.2) ∈ W.moves s:=by rw[<-ap];exact YL an
     have ai:=fF HS.o ab;have b5:=jf HG.o ab;have gC:=gT HG.o ai.1;have ag:=iT ai.1;have b1:=Fp HG.o HS.o k;have b2:=Ld (W:=W) (s:=s) (i:=k);have bu:=au (Cn an);rw[ap] at bu;have bw:=au (fun L'' h1 h2 h3=>Fu (L'':=L'') an bd.o h1 (by rw[ap];exact h2) (by rw[ap];exact h3));obtain⟨F,hF⟩:=HR.o.fst;obtain⟨bm,J,rfl⟩:=LH hF ff;clear hF F;have bn:=au (HR.o.drew b9.o);have az:=au ((bn.o.perm (by ac_rfl:_=aj (y9 b L') (aj (iw (some ⟨bm,J,none⟩) cm V) (aj (av q (fR s.i s.j (bs s.a) s.r 0) 197) (aj (av g7 (fw aA n1 ac aD n2 ad aE n3 ae T.drop T.ord T.ini) 25) Z))))));have b7:=au (ay jd (ay aC (ay aC HZ.o)):(aj (iw (some ⟨bm,J,none⟩) cm V) (aj (av q (fR s.i s.j (bs s.a) s.r 0) 197) (aj (av g7 (fw aA n1 ac aD n2 ad aE n3 ae T.drop T.ord T.ini) 25) Z))).Ok);have KI:=au (IH.o y.2 L' _ wr.drew (by have:=HN.o;have:=ai.2;omega) ai.1 (pF HT.o HA.o ab) bd.o.kn b7.o az.o)
     have a9:=au (fun (I:World) (L1:List (St × Int)) (h:aI fh w0 (aj (y9 b L1) (aj (iw (some ⟨bm,J,none⟩) cm V) (aj (av q (fR s.i s.j (bs s.a) s.r 0) 197) (aj (av g7 (fw aA n1 ac aD n2 ad aE n3 ae T.drop T.ord T.ini) 25) Z)))) I)=>(show I.cell? ⟨bm,J+k*7+1,none⟩=some (.int .i64 y.1.c)/\I.cell? ⟨bm,J+k*7+2,none⟩=some (.int .i64 y.2.i)/\I.cell? ⟨bm,J+k*7+3,none⟩=some (.int .i64 y.2.j)/\I.cell? ⟨bm,J+k*7+4,none⟩=some (.string (bs y.2.a))/\I.cell? ⟨bm,J+k*7+5,none⟩=some (.bool y.2.r)/\I.cell? ⟨bm,J+k*7+6,none⟩=some (.int .i64 0)/\(iz I g7 (.slice aA n1 ac) (.slice aD n2 ad) (.slice aE n3 ae) (.int .i64 T.drop) (.int .i64 T.ord) (.int .i64 T.ini)) from by
      obtain⟨F,hF⟩:=h.drop.fst;obtain⟨-,m1,m2,m3,m4,m5,m6⟩:=Gv hF ba;obtain⟨a0,a1,a2,a3,a4,a5⟩:=nW (h.drop.drop.drop);rw[<-hy] at m1 m2 m3 m4 m5
      exact⟨m1,m2,m3,m4,m5,m6,a0,a1,a2,a3,a4,a5⟩))
     have bj:=a9.o _ _ az.o;unfold Gw at KI;have b8:IntKind.i64.wrap (y.1.c+W.fS y.2)=y.1.c+W.fS y.2:=by
      unfold never at ag;exact YZ _ ff
     have ch:(k:Int)<(mv:Int):=by omega
     have ao:=bv.o;obtain⟨⟨yx,yc,yf,yt⟩,⟨xi,xj,xa,xr⟩⟩:=y;dsimp only at *
     generalize W.fS ⟨xi,xj,xa,xr⟩=dd at *
     generalize kK W s k=mm at *
     clear hy ap ab ai ba an HR bn az b5 gC;go_upto_region 11 with (fail);refine aK (fun I=>I.cell? ⟨bm,J+k*7+1,none⟩=some (.int .i64 yc)/\I.cell? ⟨bm,J+k*7+2,none⟩=some (.int .i64 xi)/\I.cell? ⟨bm,J+k*7+3,none⟩=some (.int .i64 xj)/\I.cell? ⟨bm,J+k*7+4,none⟩=some (.string (bs xa))/\I.cell? ⟨bm,J+k*7+5,none⟩=some (.bool xr)/\I.cell? ⟨bm,J+k*7+6,none⟩=some (.int .i64 0)/\(iz I g7 (.slice aA n1 ac) (.slice aD n2 ad) (.slice aE n3 ae) (.int .i64 T.drop) (.int .i64 T.ord) (.int .i64 T.ini))) fi fi bj ?_;clear bj
     (repeat(first|refine aW ?_|refine aX ?_))
     refine bY rfl ft (fun K hK=>?_);go_wp2_with fail;refine KI.o.mono ?_;rintro cj w9 ⟨L'',rfl,k1,k2,k3,hR9⟩;have H9:=au (show aI fh w0 (aj (iw (some ⟨bm,J,none⟩) cm V) (aj (av q (fR s.i s.j (bs s.a) s.r 0) 197) (aj (av g7 (fw aA n1 ac aD n2 ad aE n3 ae T.drop T.ord T.ini) 25) (aj (y9 b L'') Z)))) w9 from hR9.perm (by ac_rfl));have cb:=au (bw.o L'' k1 k2 k3);refine hK.o _ _ (a9.o _ _ hR9) ?_;clear hK KI hR9 k1 k2 k3 bw a9
     (repeat(first|refine aW ?_|refine aX ?_))
     refine lex_nil ?_;clear b8 b1 b2 ag;go_wp2_with fail
     go_roundw
     case rel=>exact⟨k+1,L'',by go_num,a8,by rw[bu.o],cb.o,H9.o⟩
     case measure=>simp[intOf];omega
    ·obtain rfl:k=mv:=by omega
     have ak:=bd.o;rw[a6.o] at ak;obtain⟨k1,k2,k3,k4⟩:=Le ak HS.o b4.o;have br:kK W s k=W.fS s:=by rw[a6.o];exact Fj HS.o
     have ag:=iT HS.o;have ci:¬ (1099511627776:Int)<W.fS s:=by unfold never at ag;omega
     have ce:min (W.fS s) 1099511627776=W.fS s:=by unfold never at ag;omega
     rw[br];have h3:=HR.o.perm (by ac_rfl:_=aj (y9 b L') (aj (iw Am cm V) (aj (av q (fR s.i s.j (bs s.a) s.r 0) 197) (aj (av g7 (fw aA n1 ac aD n2 ad aE n3 ae T.drop T.ord T.ini) 25) Z))));have cc:=au (ay jd (ay aC (ay aC HZ.o)):(aj (iw Am cm V) (aj (av q (fR s.i s.j (bs s.a) s.r 0) 197) (aj (av g7 (fw aA n1 ac aD n2 ad aE n3 ae T.drop T.ord T.ini) 25) Z))).Ok);obtain⟨c0,c1,c2,c3,c4,cf⟩:=bU (h3.drop.drop);obtain⟨FM,bx,-,bk⟩:=h3.take AL cc.o;obtain⟨w',b0,am⟩:=oU AJ Tryz.underlying194 bx s (.int .i64 (W.fS s));have h4:=bk _ _ am;have aq:lG (L'.map fun p=>(p.1,Value.int .i64 p.2)) s (.int .i64 (W.fS s))=(L'++[(s,W.fS s)]).map fun p=>(p.1,Value.int .i64 p.2):=by
      rw[oV (by rw[lj];exact k4),YS];rfl
     rw[aq] at h4;have HF:=au (show Gw W s L w0 b Z (.returned (.int .i64 (W.fS s))) w' from⟨_,rfl,k1,k2,k3,((show aI fh w0 (aj (y9 b (L'++[(s,W.fS s)])) (aj (iw Am cm V) (aj (av q (fR s.i s.j (bs s.a) s.r 0) 197) (aj (av g7 (fw aA n1 ac aD n2 ad aE n3 ae T.drop T.ord T.ini) 25) Z)))) w' from h4).perm (by ac_rfl:_=aj (iw Am cm V) (aj (av q (fR s.i s.j (bs s.a) s.r 0) 197) (aj (av g7 (fw aA n1 ac aD n2 ad aE n3 ae T.drop T.ord T.ini) 25) (aj (y9 b (L'++[(s,W.fS s)])) Z))))).drop.drop.drop⟩);unfold Uu Ob at b0;clear ak k1 k2 k3 k4 br ag h3 bx bk am h4 aq HR;generalize W.fS s=d at *
     go_wp2;go_ret;exact HF.o
theorem oL(k:Int)(x:Bs):(iq k x).2=word k x:=by
 unfold iq;by_cases h:word k x=true
 ·rw[if_pos h,h]
 ·rw[if_neg h,Bool.eq_false_iff.2 h]
variable{k:Int}{a:TA}
theorem vI{x:Bs}(h:word k x=true):(iq k x).1=(aM k (lower x)).1:=by unfold iq;rw[if_pos h]
theorem Gx(hT:iR w T a)(k:Int)(x:Bs)(k2:Int)(y:Bs)(hx:x.length<=1000000)(hy:y.length<=1000000):
  Calls Tryz.prog 109 #[eu T a,.int .i64 k,.string (bs x),.int .i64 k2,.string (bs y)] w (aL w (.bool (okW T k x k2 y))):=by
 have h1:=aH (aI.begin w) aO (dh T a) 25;have M:=au h1;have z:=au (fun p=>iM k x p hx);have F:=au (fun p=>iM k2 y p hy);have KV:=au (fun p (I:Below w.heap.size w p)=>pX (hT.below I));unfold mR at z F;simp only[oL] at z F;have HO:=au (show okW T k x k2 y=(word k x&&(word k2 y&&bC T)) from rfl);generalize (iq k x).1=l1 at *
 generalize (iq k2 y).1=l2 at *
 generalize J:l1.length=m1 at *
 generalize V:l2.length=m2 at *
 clear J V h1;unfold eu at *
 unfold dh at *
 rw[HO.o];clear HO;generalize word k x=p1 at *
 generalize word k2 y=p2 at *
 generalize bC T=p3 at *
 obtain⟨aA,ac,aD,ad,aE,ae⟩:=a;dsimp only at *
 generalize T.rs.length=n1 at *
 generalize T.ds.length=n2 at *
 generalize T.es.length=n3 at *
 go_enter Tryz.func109,Tryz.ntmps109
 go_upto_region 1 with (fail);generalize w.alloc (.cells (fw aA n1 ac aD n2 ad aE n3 ae T.drop T.ord T.ini) 25)=w1 at *
 generalize w.heap.size=g5 at M ⊢;have KA:=au (z.o w1);clear z;go_wp2_with fail;refine KA.o.mono ?_;rintro e9 w2 ⟨A1,c1,rfl,hp⟩;have H2:=au (M.o.fresh aQ hp);clear KA hp M;dsimp only;have KB:=au (F.o w2);clear F;go_wp2_with fail;refine KB.o.mono ?_;rintro e9 w3 ⟨A2,c2,rfl,hp⟩;have H3:=au (H2.o.fresh (ay fq aQ) hp);clear KB hp H2;dsimp only;have q:=au (show Below w.heap.size w w3 from H3.o.bN);have h:=au (KV.o w3 q.o);clear KV;obtain⟨a0,a1,a2,a3,a4,a5⟩:=nW H3.o.drop.drop;cases p1 with
 | false=>
  clear h;go_wp2;go_ret;exact aN rfl q.o
 | true=>
  cases p2 with
  | false=>
   clear h;go_wp2;go_ret;exact aN rfl q.o
  | true=>
   go_wp2_with fail;refine h.o.mono ?_;rintro e9 w4 ⟨rfl,I⟩;have HF:=au (aG q.o I);clear h I a0 a1 a2 a3 a4 a5;cases p3 with
   | false=>
    go_wp2;go_ret;exact aN rfl HF.o
   | true=>
    go_wp2;go_ret;exact aN rfl HF.o
def JK(W:Wd)(w:World)(e:Ending)(w':World):Prop:=∃ b L,e=.returned (.map (some b))/\Kn W L/\gR ∈ fU L/\bS w fh (y9 b L) w'
theorem JL(hT:iR w T a){x:Bs}{k2:Int}{y:Bs}(F:okW T k x k2 y=true)(hx:x.length<=1000000)(hy:y.length<=1000000):
  Calls Tryz.prog 113 #[eu T a,.int .i64 k,.string (bs x),.int .i64 k2,.string (bs y)] w (JK (bP T k x k2 y) w):=by
 have h1:=aH (aI.begin w) aO (dh T a) 25;have H1:=au h1;obtain⟨I,J,hv⟩:=gI.1 F;have K1:=au (fun W1=>iM k x W1 hx);have V:=au (fun W1=>iM k2 y W1 hy);unfold mR at K1 V;simp only[oL,vI I,I] at K1;simp only[oL,vI J,J] at V;obtain⟨W,z⟩:∃ W,W=bP T k x k2 y:=⟨_,rfl⟩;have ao:W.ka=k:=by rw[z];rfl
 have am:W.kb=k2:=by rw[z];rfl
 have el:(aM k (lower x)).1=W.l:=by rw[z];rfl
 have em:(aM k2 (lower y)).1=W.m:=by rw[z];rfl
 have ab:W.rs=T.rs:=by rw[z];rfl
 rw[el] at K1;rw[em] at V;have aa:=yT F;rw[<-z] at aa ⊢;have M:W.good/\W.xR:=by rw[z];exact rV hv
 have ak:∀ s,W.ok s->(W.cK s).map (fun p=>(p.1.c,p.2))=W.moves s:=fun s hs=>by rw[z] at hs ⊢;exact oG hv hs
 have KR:=au (fun (h w4:World) (hb:Below w.heap.size w h) (A1 A2:fj) (c1 c2 b:Nat) (hA:fM h A1 W.l) (hB:fM h A2 W.m) (hR:aI fh h (aj (y9 b []) aS) w4)=>
  Uw (xc:=c1) (yc:=c2) (b:=b) (hT.below hb) hv ab hA hB ff ff M.1 M.2 ak (W.gD gR+1) gR [] aS w4 (sy _) kh (YE _) ⟨fun p q=>(by cases q),fun p q=>(by cases q),fun p q=>(by cases q),qT⟩ aO hR)
 clear hT h1 F I J hv hx hy el em ab M ak;rw[ao,am] at KR;clear z ao am;unfold Gw Uu Ob gR at KR;generalize al:W.l.length=m1 at *
 generalize aq:W.m.length=m2 at *
 have aw:=au al;have az:=au aq;clear al aq aa;unfold eu at *
 unfold dh at *
 obtain⟨aA,ac,aD,ad,aE,ae⟩:=a;dsimp only at *
 generalize T.rs.length=n1 at *
 generalize T.ds.length=n2 at *
 generalize T.es.length=n3 at *
 have ax:∀ w:World,(Instr.makeMap 194 none).run Tryz.prog w=.ok (.map (some w.heap.size)) (w.alloc (.map #[] 0)):=fun w=>by kernel_rfl
 go_enter Tryz.func113,Tryz.ntmps113
 go_upto_region 1 with (fail);generalize w.alloc (.cells (fw aA n1 ac aD n2 ad aE n3 ae T.drop T.ord T.ini) 25)=w1 at *
 generalize w.heap.size=g5 at H1 ⊢;have KA:=au (K1.o w1);clear K1;go_wp2_with fail;refine KA.o.mono ?_;rintro e9 w2 ⟨A1,c1,rfl,q⟩;rw[aw.o] at *
 have H2:=au (H1.o.fresh aQ q);clear KA q H1;dsimp only;have KB:=au (V.o w2);clear V;go_wp2_with fail;refine KB.o.mono ?_;rintro e9 h ⟨A2,c2,rfl,q⟩;rw[az.o] at *
 have H3:=au (H2.o.fresh (ay fq aQ) q);clear KB q H2;dsimp only;obtain⟨F1,ag⟩:=H3.o.drop.fst;obtain⟨F2,an⟩:=H3.o.fst;have ap:=au (jm ag);have ar:=au (jm an);clear ag an;have af:=(aI.begin h).fresh aO (lX (kv:=Uu) h);have KC:=au (KR.o h _ H3.o.bN A1 A2 c1 c2 h.heap.size ap.o ar.o af);have ai:Below h.heap.size h (h.alloc (.map #[] 0)):=(YC _ _).alloc (YG _) _;obtain⟨a0,a1,a2,a3,a4,a5⟩:=nW (H3.o.below (ay fq (ay fq aQ)) ai).drop.drop;clear KR af ai ap ar;go_upto_region 4 with (fail);generalize h.alloc (.map #[] 0)=w4 at *
 clear ax;go_wp2_with fail;refine KC.o.mono ?_;rintro e9 w5 ⟨L,rfl,k1,k2,k3,hR⟩;have HF:=au (show JK W w (.returned (.map (some h.heap.size))) w5 from⟨_,L,rfl,k1,k3,((H3.o.fresh aQ ((hR.perm (by ac_rfl:_=aj aS (y9 h.heap.size L))).drop.post AL)).perm (by ac_rfl:_=aj (aj (bO A2 c2 W.m) (aj (bO A1 c1 W.l) (aj (av g5 (fw aA n1 ac aD n2 ad aE n3 ae T.drop T.ord T.ini) 25) aS))) (y9 h.heap.size L))).drop.post AL⟩);clear KC hR k1 k2 k3 a0 a1 a2 a3 a4 a5;generalize h.heap.size=b at *
 go_wp2;go_ret;exact HF.o
variable{W:Wd}{i:Nat}{s:St}{v:Value}
theorem LJ{L:List (St × Int)}(h:Kn W L)(hF:y9 b L w F)(hs:s ∈ fU L):
  (Instr.lookup 194 (.map (some b)) (.agg (fR s.i s.j (bs s.a) s.r 0)) false).run Tryz.prog w=.ok (.int .i64 (W.fS s)) w:=by
 have:=LG hF s false;rw[Qj h hs] at this;exact this
theorem yD{V:World}{p:Addr}{o:Obj}(h:V.cell? p=some v):(V.alloc o).cell? p=some v:=by
 have hb:Below V.heap.size V (V.alloc o):=(YC _ _).alloc (YG _) _;rw[hb.cell (YW _ _ h)];exact h
def JM(W:Wd)(s:St)(l:List (AR × St))(i:Nat):Prop:=∀ j (hj:j<l.length),j<i->¬ l[j].1.c+W.fS l[j].2=W.fS s
theorem Oc:JM W s l 0:=fun j _ h=>absurd h (Zn _)
theorem Od(hi:i<l.length)(h:JM W s l i)(h2:¬ l[i].1.c+W.fS l[i].2=W.fS s):JM W s l (i+1):=fun j hj hji=>by
 by_cases e:j=i
 ·subst e;exact h2
 ·exact h j hj ff
theorem QO(hm:(W.cK s).map (fun p=>(p.1.c,p.2))=W.moves s)(J:W.ok s)(q:W.fS s<never)(z:s≠W.fin):¬ JM W s (W.cK s) (W.cK s).length:=fun h=>by
 have e:=jU (W:=W) J;rcases fold_eq (fun x:Int × St=>x.1+W.fS x.2) (W.moves s) (if s=W.fin then 0 else never) with h1|⟨p,hp,h1⟩
 ·rw[if_neg z] at h1;rw[e] at q;rw[if_neg z] at q;rw[h1] at q;omega
 ·rw[<-hm] at hp;obtain⟨y,I,rfl⟩:=List.mem_map.1 hp;obtain⟨j,F,rfl⟩:=List.mem_iff_getElem.1 I;refine h j F F ?_;rw[e];exact h1.symm
theorem XL(hi:i<(W.cK s).length)(hb:JM W s (W.cK s) i)(hg:(W.cK s)[i].1.c+W.fS (W.cK s)[i].2=W.fS s):W.pick s=some (W.cK s)[i]:=by
 unfold Wd.pick;rw[ZU];refine⟨decide_eq_true hg,i,hi,rfl,fun j hj=>?_⟩;rw[Z4];exact decide_eq_false (hb j ff hj)
theorem Oe{z:AR × St}(h:z ∈ W.cK s):∃ I:z.1.ix<W.rs.length,W.rs[z.1.ix].t=z.1.t:=by
 unfold Wd.cK at h;obtain⟨r,F,q⟩:=List.mem_filterMap.1 h;have e1:z.1=r:=by
  unfold Wd.uM at q;by_cases J:jw (if W.left s then W.l else W.m) r (if W.left s then s.i else s.j)=true
  ·rw[if_pos J] at q;obtain⟨x,-,V⟩:=Option.map_eq_some_iff.1 q;rw[<-V]
  ·rw[if_neg J] at q;cases q
 unfold fK at F;generalize (if W.left s=true then W.ka else W.kb)=K at F;obtain⟨p,hp,hq⟩:=List.mem_filterMap.1 F;obtain⟨g1,g2⟩:=List.mem_zipIdx' hp;unfold oF at hq;by_cases M:p.1.k=K
 ·rw[if_pos M] at hq;by_cases I:word K p.1.f=true
  ·rw[if_pos I] at hq;injection hq with hq
   rw[e1,<-hq];exact⟨g1,by rw[g2]⟩
  ·rw[if_neg I] at hq;cases hq
 ·rw[if_neg M] at hq;cases hq
def LK(W:Wd)(g:Nat)(w:World):Nat:=match w.cell? ⟨g,0,none⟩,w.cell? ⟨g,1,none⟩ with
 | some (.int _ i),some (.int _ j)=>(W.l.length-i.toNat)+(W.m.length-j.toNat)
 | _,_=>0
theorem JN{w1:World}(h:aI F w1 (aj (av g (fR s.i s.j (bs s.a) s.r 0) 197) X) w):LK W g w=W.gD s:=by
 obtain⟨c0,c1,-⟩:=bU h;unfold LK;rw[c0,c1];rfl
theorem LM{M J F a3 q:Value}(h:aI F0 w0 (aj (av g #[M,J,F,a3,q] t) X) w)(z:X.Ok)(p b1 b2 b3 I:Value):
  aI F0 w0 (aj (av g #[p,b1,b2,b3,I] t) X) (((((w.setCell ⟨g,0,none⟩ p).setCell ⟨g,1,none⟩ b1).setCell ⟨g,2,none⟩ b2).setCell ⟨g,3,none⟩ b3).setCell ⟨g,4,none⟩ I):=by
 have h0:aI F0 w0 (aj (av g #[p,J,F,a3,q] t) X) _:=aJ h z 0 p;have h1:aI F0 w0 (aj (av g #[p,b1,F,a3,q] t) X) _:=aJ h0 z 1 b1;have h2:aI F0 w0 (aj (av g #[p,b1,b2,a3,q] t) X) _:=aJ h1 z 2 b2;have V:aI F0 w0 (aj (av g #[p,b1,b2,b3,q] t) X) _:=aJ h2 z 3 b3;exact aJ V z 4 I
theorem QS{tmps:Array Value}{cs:Array Value}(h:tmps.getD 10 undef=.pointer (some ⟨g,0,none⟩))(z:cs.size=4)(q:av g cs 42 w F)(p:tmps.getD 11 undef=v):(results Tryz.f79 tmps).run Tryz.prog w=.ok (.tuple #[.agg cs,v]) w:=by
 subst p;exact dH rfl tmps w g 42 cs (0,0) h q.1 Tryz.underlying42 (by rw[z];kernel_rfl)
theorem Og{a:TA}(hT:iR w T a)(k:Int)(x:Bs)(k2:Int)(y:Bs)(hx:x.length<=1000000)(hy:y.length<=1000000):
  Calls Tryz.prog 79 #[eu T a,.int .i64 k,.string (bs x),.int .i64 k2,.string (bs y)] w (jZ w T k x k2 y):=by
 have h1:=aH (aI.begin w) aO (dh T a) 25;have h2:=aH h1 aQ (fY 0 none 0 0 none 0 0 ⟨#[]⟩) 42;rw[YN] at h2;have H2:=au h2;have KP:=au (fun W1 (hb:Below w.heap.size w W1)=>Gx (hT.below hb) k x k2 y hx hy);have KC:=au (fun (aa:okW T k x k2 y=true) W1 (hb:Below w.heap.size w W1)=>JL (hT.below hb) aa hx hy);have K1:=au (fun W1=>iM k x W1 hx);have K2:=au (fun W1=>iM k2 y W1 hy);have a9:=au (fun W1 (hb:Below w.heap.size w W1)=>hT.below hb);have ba:=au (fun (W1:World) (O:CH.bq) (h:aI fh w O W1)=>(show Below w.heap.size w W1 from h.bN));clear hT hx hy h1 h2;cases aa:okW T k x k2 y with
 | false=>
  rw[aa] at KP;have dE:=au (fun W1 (hb:Below w.heap.size w W1)=>(show jZ w T k x k2 y (.returned (.tuple #[.agg (fY 0 none 0 0 none 0 0 ⟨#[]⟩),.int .i64 1])) W1 from⟨⟨0,[],[],[]⟩,1,none,0,none,0,rfl,.arg aa,iL hb⟩));clear aa KC K1 K2 a9;unfold eu at *
  unfold dh at *
  obtain⟨aA,ac,aD,ad,aE,ae⟩:=a;dsimp only at *
  generalize T.rs.length=n1 at *
  generalize T.ds.length=n2 at *
  generalize T.es.length=n3 at *
  go_enter Tryz.func79,Tryz.ntmps79
  go_upto_region 1 with (fail);generalize (w.alloc (.cells (fw aA n1 ac aD n2 ad aE n3 ae T.drop T.ord T.ini) 25)).alloc (.cells (fY 0 none 0 0 none 0 0 ⟨#[]⟩) 42)=w1 at *
  generalize w.heap.size+1=an at *
  generalize w.heap.size=g5 at H2 ⊢;obtain⟨a0,a1,a2,a3,a4,a5⟩:=nW H2.o.drop;have KA:=au (KP.o w1 (ba.o _ _ H2.o));clear KP;go_wp2_with fail;refine KA.o.mono ?_;rintro e9 w2 ⟨rfl,hb⟩;have H3:=au (H2.o.below aQ hb);clear KA hb H2 a0 a1 a2 a3 a4 a5;obtain⟨d0,d1,d2,d3,-⟩:=aY H3.o;have H4:=au (jy H3.o aQ (.int .i64 0) (.slice none 0 0) (.slice none 0 0) (.string ⟨#[]⟩));have fz:=fun i=>(aP H3.o.fst.choose_spec i:w2.frozen? ⟨an,i,none⟩=false);clear H3;go_wp2;obtain⟨F,hF⟩:=H4.o.fst;refine bodyPost_ret (QS rfl rfl hF rfl) rfl ?_;exact dE.o _ (ba.o _ _ H4.o)
 | true=>
  rw[aa] at KP;obtain⟨cg,bf,hv⟩:=gI.1 aa;unfold mR at K1 K2;simp only[oL,vI cg,cg] at K1;simp only[oL,vI bf,bf] at K2;have b3:=au (KC.o aa);clear KC;obtain⟨W,hW⟩:∃ W,W=bP T k x k2 y:=⟨_,rfl⟩;have df:W.ka=k:=by rw[hW];rfl
  have dc:W.kb=k2:=by rw[hW];rfl
  have el:(aM k (lower x)).1=W.l:=by rw[hW];rfl
  have em:(aM k2 (lower y)).1=W.m:=by rw[hW];rfl
  have cd:W.rs=T.rs:=by rw[hW];rfl
  rw[el] at K1;rw[em] at K2;have du:=yT aa;have co:=au (fun (hd:(bP T k x k2 y).fS gR=never) W1 (hb:Below w.heap.size w W1)=>(show jZ w T k x k2 y (.returned (.tuple #[.agg (fY 0 none 0 0 none 0 0 ⟨#[]⟩),.int .i64 11])) W1 from⟨⟨0,[],[],[]⟩,11,none,0,none,0,rfl,.none aa hd,iL hb⟩));have cI:=au (fun (hd:(bP T k x k2 y).fS gR<never)=>qm.some aa hd);rw[<-hW] at du b3 co cI;have HG:=au (show W.good/\W.xR from by rw[hW];exact rV hv);have b9:=au (show ∀ s,W.ok s->(W.cK s).map (fun p=>(p.1.c,p.2))=W.moves s from fun s hs=>by rw[hW] at hs ⊢;exact oG hv hs);have bz:=au (show W.gD gR<=1000 by rw[hW];exact zQ aa)
  have ch:=au (fun (W1:World) (s:St) (hb:Below w.heap.size w W1) (X Y:fj) (xc yc:Nat) (hX:fM W1 X W.l) (hY:fM W1 Y W.m) (hs:W.ok s) (ha:s.a.length<=3)=>
   AB (xc:=xc) (yc:=yc) (a9.o W1 hb) hv cd hX hY hs (YQ ha ff) ff ff)
  have cw:=au (fun W1 (hb:Below w.heap.size w W1)=>(show lD W1 a.A T.rs/\T.rs.length<=1000000/\∀ R ∈ T.rs,R.t.length<=1000000 from⟨(a9.o W1 hb).rs,(a9.o W1 hb).lr,fun R hR=>((a9.o W1 hb).sr R hR).2⟩));have bp:=au cd;rw[df,dc] at ch;clear aa cg bf hv el em cd df dc hW a9;unfold AA at ch;unfold JK at b3;generalize c7:W.l.length=m1 at *
  generalize cR:W.m.length=m2 at *
  have b6:=au c7;have b5:=au cR;clear c7 cR;unfold eu at *
  unfold dh at *
  obtain⟨aA,ac,aD,ad,aE,ae⟩:=a;dsimp only at *
  generalize cC:T.rs.length=n1 at *
  have c8:=au cC;clear cC;generalize T.ds.length=n2 at *
  generalize T.es.length=n3 at *
  go_enter Tryz.func79,Tryz.ntmps79
  go_upto_region 1 with (fail);generalize (w.alloc (.cells (fw aA n1 ac aD n2 ad aE n3 ae T.drop T.ord T.ini) 25)).alloc (.cells (fY 0 none 0 0 none 0 0 ⟨#[]⟩) 42)=w1 at *
  generalize w.heap.size+1=an at *
  generalize dm:w.heap.size=g5 at H2 ⊢;clear dm;obtain⟨a0,a1,a2,a3,a4,a5⟩:=nW H2.o.drop;have KA:=au (KP.o w1 (ba.o _ _ H2.o));clear KP;go_wp2_with fail;refine KA.o.mono ?_;rintro e9 w2 ⟨rfl,hb⟩;have H3:=au (H2.o.below aQ hb);clear KA hb H2 a0 a1 a2 a3 a4 a5;have KA:=au (K1.o w2);clear K1;go_wp2_with fail;refine KA.o.mono ?_;rintro e9 w3 ⟨A1,c1,rfl,hp⟩
  try rw[b6.o]
  have H4:=au (H3.o.fresh aQ hp);clear KA hp H3;dsimp only;have KB:=au (K2.o w3);clear K2;go_wp2_with fail;refine KB.o.mono ?_;rintro e9 w4 ⟨A2,c2,rfl,hp⟩
  try rw[b5.o]
  have H5:=au (H4.o.fresh (ay fq aQ) hp);clear KB hp H4;dsimp only;obtain⟨a0,a1,a2,a3,a4,a5⟩:=nW H5.o.drop.drop.drop;have KD:=au (b3.o w4 (ba.o _ _ H5.o));clear b3;go_wp2_with fail;refine KD.o.mono ?_;rintro e9 w5 ⟨b,L,rfl,hkn,hst,hp⟩;have ci:=au hkn;have cP:=au hst;have H6:=au (H5.o.fresh (ay fq (ay fq aQ)) hp);clear KD hkn hst hp H5 a0 a1 a2 a3 a4 a5;dsimp only;have H7:=au (aH H6.o aQ (fR 0 0 ⟨#[]⟩ false 0) 197);go_upto_region 7 with (fail);clear H6;generalize w5.alloc (.cells (fR 0 0 ⟨#[]⟩ false 0) 197)=w6 at *
  generalize w5.heap.size=J at *
  obtain⟨s0,s1,s2,s3,s4,-⟩:=bU H7.o;obtain⟨F,hF⟩:=H7.o.drop.fst;have cQ:(Instr.lookup 194 (.map (some b)) (.agg (fR 0 0 ⟨#[]⟩ false 0)) false).run Tryz.prog w6=.ok (.int .i64 (W.fS gR)) w6:=LJ ci.o hF cP.o;clear hF F;obtain⟨dd,bh⟩:∃ d,d=W.fS gR:=⟨_,rfl⟩;rw[<-bh] at cQ;have b2:=au bh;have a8:dd<=1099511627776:=by rw[bh];exact iT kh
  have gC:0<=dd:=by rw[bh];exact gT HG.o.1 kh
  clear bh;by_cases hn:dd=1099511627776
  ·have dp:=au (co.o (by rw[<-b2.o];exact hn));have t1:decide (1099511627776<=dd)=true:=decide_eq_true ff;clear hn gC a8;obtain⟨d0,d1,d2,d3,-⟩:=aY (H7.o.drop.drop.drop.drop);have H8:=au (H7.o.perm (by ac_rfl:_=aj (av an (fY 0 none 0 0 none 0 0 ⟨#[]⟩) 42) (aj (av J (fR 0 0 ⟨#[]⟩ false 0) 197) (aj (y9 b L) (aj (bO A2 c2 W.m) (aj (bO A1 c1 W.l) (aj (av g5 (fw aA n1 ac aD n2 ad aE n3 ae T.drop T.ord T.ini) 25) aS)))))));have H9:=au (jy H8.o aQ (.int .i64 0) (.slice none 0 0) (.slice none 0 0) (.string ⟨#[]⟩));have fz:=fun i=>(aP H8.o.fst.choose_spec i:w6.frozen? ⟨an,i,none⟩=false);clear H7 H8;go_wp2;obtain⟨F,hF⟩:=H9.o.fst;refine bodyPost_ret (QS rfl rfl hF rfl) rfl ?_;exact dp.o _ (ba.o _ _ H9.o)
  ·have t1:decide (1099511627776<=dd)=false:=decide_eq_false ff;have cY:=au (show dd<never by unfold never;omega);have R6:=au (aH H7.o (ay aC aQ) (fY dd none 0 0 none 0 0 ⟨#[]⟩) 42);clear hn gC a8;go_wp2_with fail;generalize w6.alloc (.cells (fY dd none 0 0 none 0 0 ⟨#[]⟩) 42)=w7 at *
   generalize w6.heap.size=I at *
   have bv:(aj (av I (fY dd none 0 0 none 0 0 ⟨#[]⟩) 42) (aj (av J (fR 0 0 ⟨#[]⟩ false 0) 197) (aj (y9 b L) (aj (bO A2 c2 W.m) (aj (bO A1 c1 W.l) (aj (av an (fY 0 none 0 0 none 0 0 ⟨#[]⟩) 42) (aj (av g5 (fw aA n1 ac aD n2 ad aE n3 ae T.drop T.ord T.ini) 25) aS))))))).Ok:=ay aC (ay aC aQ);have r7:=R6.o.fresh bv (⟨fun _=>False,oH _,Mod.refl _ _,fun i hi=>.inl hi⟩:bS _ fh (aV none 0 []) _);have r8:=r7.fresh (ay bV bv) (⟨fun _=>False,oH _,Mod.refl _ _,fun i hi=>.inl hi⟩:bS _ fh (aV none 0 []) _);obtain⟨Y,hY⟩:∃ Y:CH.bq,Y=(aj (y9 b L) (aj (bO A2 c2 W.m) (aj (bO A1 c1 W.l) (aj (av an (fY 0 none 0 0 none 0 0 ⟨#[]⟩) 42) (aj (av g5 (fw aA n1 ac aD n2 ad aE n3 ae T.drop T.ord T.ini) 25) aS))))):=⟨_,rfl⟩;have az:=au (show Y.Ok from by rw[hY];exact aQ);have R7:=au (show aI fh w (aj (av J (fR 0 0 ⟨#[]⟩ false 0) 197) (aj (av I (fY dd none 0 0 none 0 0 ⟨#[]⟩) 42) (aj (aV none 0 []) (aj (aV none 0 []) Y)))) w7 from r8.perm (by rw[hY];ac_rfl))
   have ct:=au (fun V (h:aI fh w Y V)=>(show(iz V g5 (.slice aA n1 ac) (.slice aD n2 ad) (.slice aE n3 ae) (.int .i64 T.drop) (.int .i64 T.ord) (.int .i64 T.ini))/\fM V A1 W.l/\fM V A2 W.m/\∀ s,s ∈ fU L->(Instr.lookup 194 (.map (some b)) (.agg (fR s.i s.j (bs s.a) s.r 0)) false).run Tryz.prog V=.ok (.int .i64 (W.fS s)) V from by
    rw[hY] at h;obtain⟨F1,h1⟩:=h.fst;obtain⟨F2,h2⟩:=h.drop.fst;obtain⟨F3,h3⟩:=h.drop.drop.fst
    exact⟨nW h.drop.drop.drop.drop,jm h3,jm h2,fun s hs=>LJ ci.o h1 hs⟩))
   have dk:=au hY;have cU:=au (show Te W L gR ⟨none,0,[],none,0,[],[]⟩ from⟨kh,YE _,cP.o,by rw[<-b2.o];exact cY.o,by simp,by simp,by simp,Cv⟩);clear R6 bv r7 r8 hY H7 s0 s1 s2 s3 s4 cQ t1 co;go_loopw [19,20] (fun v u wr=>∃ (s:St) (q:DD),Te W L s q/\aI fh w (aj (av J (fR s.i s.j (bs s.a) s.r 0) 197) (aj (av I (fY dd q.A q.l.length q.ac q.B q.m.length q.bc (bs q.f)) 42) (aj (aV q.A q.ac q.l) (aj (aV q.B q.bc q.m) Y)))) wr) (fun _ _ wr=>LK W J wr)
   case atStart=>exact⟨gR,⟨none,0,[],none,0,[],[]⟩,cU.o,R7.o⟩
   case round=>
    clear R7 cU;obtain⟨s,q,hp,hR⟩:=hrel;have HP:=au hp;have HR:=au hR;have da:=au (JN hR:LK W J wr=W.gD s);have okW:=au (ay aC (ay aC (ay bV (ay bV az.o))):(aj (av J (fR s.i s.j (bs s.a) s.r 0) 197) (aj (av I (fY dd q.A q.l.length q.ac q.B q.m.length q.bc (bs q.f)) 42) (aj (aV q.A q.ac q.l) (aj (aV q.B q.bc q.m) Y)))).Ok);clear hp hR;go_upto_region 10 with (fail);obtain⟨c0,af,ab,c3,c4,cf⟩:=bU HR.o;go_cut [73] (fun v wx=>v=.bool (!decide (s=W.fin))/\wx=wr)
    case first=>
     by_cases t1:s.i<m1
     ·have e1:decide (s.i<m1)=true:=decide_eq_true t1
      have aw:=au (show(!decide (s=W.fin))=true from by
       rw[decide_eq_false];rfl
       intro h;rw[h] at t1;have:=b6.o;unfold Wd.fin at t1;dsimp only at t1;omega)
      clear t1;go_wp2;go_meet;exact⟨by rw[aw.o],rfl⟩
     ·have e1:decide (s.i<m1)=false:=decide_eq_false t1;by_cases t2:s.j<m2
      ·have e2:decide (s.j<m2)=true:=decide_eq_true t2
       have aw:=au (show(!decide (s=W.fin))=true from by
        rw[decide_eq_false];rfl
        intro h;rw[h] at t2;have:=b5.o;unfold Wd.fin at t2;dsimp only at t2;omega)
       clear t1 t2;go_wp2;go_meet;exact⟨by rw[aw.o],rfl⟩
      ·have e2:decide (s.j<m2)=false:=decide_eq_false t2;by_cases t3:s.a=[]
       ·have e3:(bs s.a).toList.isEmpty=true:=by rw[Z9];exact dY.2 t3
        have aw:=au (show(!decide (s=W.fin))=false from by
         have h3:=HP.o.ok;obtain⟨g1,g2,g3⟩:=h3;rw[b6.o] at g1;rw[b5.o] at g2;rw[decide_eq_true];rfl;obtain⟨si,sj,sa,sr⟩:=s;dsimp only at t1 t2 t3 g1 g2 g3;unfold Wd.fin;rw[b6.o,b5.o,t3];have q1:si=m1:=by omega
         have q2:sj=m2:=by omega
         rw[q1,q2];congr 1;cases sr with
         | false=>rfl
         | true=>exact absurd t3 (g3 rfl))
        clear t1 t2 t3;go_wp2;go_meet;exact⟨by rw[aw.o],rfl⟩
       ·have e3:(bs s.a).toList.isEmpty=false:=by rw[Zo];exact fun h=>t3 (dY.1 h)
        have aw:=au (show(!decide (s=W.fin))=true from by
         rw[decide_eq_false];rfl
         intro h;rw[h] at t3;exact t3 rfl)
        clear t1 t2 t3;go_wp2;go_meet;exact⟨by rw[aw.o],rfl⟩
    case rest=>
     obtain⟨rfl,hw⟩:=hcut;have bf:=hw.symm;clear hw;subst bf;by_cases hf:s=W.fin
     ·have hd:(!decide (s=W.fin))=false:=by simp[hf]
      rw[hd];have bk:W.mx=⟨dd,q.l,q.m,q.f⟩:=by unfold Wd.mx;rw[Ls HP.o.bn hf,b2.o]
      have dy:=au (show qm T k x k2 y ⟨dd,q.l,q.m,q.f⟩ 0 from by rw[<-bk];exact cI.o (by rw[<-b2.o];exact cY.o));have h1:=HR.o.perm (by rw[dk.o];ac_rfl:_=aj (av an (fY 0 none 0 0 none 0 0 ⟨#[]⟩) 42) (aj (av I (fY dd q.A q.l.length q.ac q.B q.m.length q.bc (bs q.f)) 42) (aj (av J (fR s.i s.j (bs s.a) s.r 0) 197) (aj (aj (y9 b L) (aj (bO A2 c2 W.m) (aj (bO A1 c1 W.l) (aj (av g5 (fw aA n1 ac aD n2 ad aE n3 ae T.drop T.ord T.ini) 25) aS)))) (aj (aV q.A q.ac q.l) (aV q.B q.bc q.m))))));have cG:(aj (av I (fY dd q.A q.l.length q.ac q.B q.m.length q.bc (bs q.f)) 42) (aj (av J (fR s.i s.j (bs s.a) s.r 0) 197) (aj (aj (y9 b L) (aj (bO A2 c2 W.m) (aj (bO A1 c1 W.l) (aj (av g5 (fw aA n1 ac aD n2 ad aE n3 ae T.drop T.ord T.ini) 25) aS)))) (aj (aV q.A q.ac q.l) (aV q.B q.bc q.m))))).Ok:=ay aC aQ;obtain⟨d0,d1,d2,d3,-⟩:=aY h1.drop;have fz:=fun i=>(aP h1.fst.choose_spec i:wr.frozen? ⟨an,i,none⟩=false);obtain⟨z0,z1,z2,z3,-⟩:=aY h1;have H9:=au (jy h1 cG (.int .i64 dd) (.slice q.A q.l.length q.ac) (.slice q.B q.m.length q.bc) (.string (bs q.f)));clear hf hd bk h1 cG HR c0 af ab c3 c4 cf;go_wp2;obtain⟨F,hF⟩:=H9.o.fst;refine bodyPost_ret (QS rfl rfl hF rfl) rfl ?_;exact⟨⟨dd,q.l,q.m,q.f⟩,0,q.A,q.ac,q.B,q.bc,rfl,dy.o,H9.o.drop.drop.drop.drop.post aQ⟩
     ·have hd:(!decide (s=W.fin))=true:=by simp[hf]
      rw[hd];have c5:=au hf;clear hf hd;have ce:=ct.o wr HR.o.drop.drop.drop.drop;have KM:=au (ch.o wr s (ba.o _ _ HR.o) A1 A2 c1 c2 ce.2.1 ce.2.2.1 HP.o.ok HP.o.a3);obtain⟨⟨a0,a1,a2,a3,a4,a5⟩,-⟩:=ce;go_wp2_with fail;refine KM.o.mono ?_;rintro e9 w8 ⟨Am,cm,rfl,hp⟩;have H8:=au (show aI fh w (aj (iw Am cm (W.cK s)) (aj (av J (fR s.i s.j (bs s.a) s.r 0) 197) (aj (av I (fY dd q.A q.l.length q.ac q.B q.m.length q.bc (bs q.f)) 42) (aj (aV q.A q.ac q.l) (aj (aV q.B q.bc q.m) Y))))) w8 from HR.o.fresh okW.o hp);clear KM hp HR c0 af ab c3 c4 cf a0 a1 a2 a3 a4 a5;dsimp only;have dt:=au (QO (b9.o s HP.o.ok) HP.o.ok HP.o.lt c5.o);have dw:=au (fun (i:Nat) (hi:i<(W.cK s).length) (hb:JM W s (W.cK s) i) (hg:(W.cK s)[i].1.c+W.fS (W.cK s)[i].2=W.fS s)=>(show W.pick s=some ((W.cK s)[i].1,(W.cK s)[i].2) from XL hi hb hg));have dg:=au (b9.o s HP.o.ok);have dF:=au (fun (z:AR × St) (hz:z ∈ W.cK s)=>Oe hz);have dB:(W.cK s).length<=1000000:=YQ (by rw[<-vH];exact jB) (by rw[bp.o,c8.o];exact(cw.o _ (YC _ _)).2.1);generalize W.cK s=ms at *
      obtain⟨mv,cc⟩:∃ n,n=ms.length:=⟨_,rfl⟩;have cE:=au cc;have dA:=au (show(mv:Int)<=1000000 from by omega);rw[<-cc];clear cc dB;go_wp2_with fail;go_loopw [20] (fun u wi=>∃ i:Nat,u=.int .i64 i/\i<=mv/\JM W s ms i/\aI fh w (aj (iw Am cm ms) (aj (av J (fR s.i s.j (bs s.a) s.r 0) 197) (aj (av I (fY dd q.A q.l.length q.ac q.B q.m.length q.bc (bs q.f)) 42) (aj (aV q.A q.ac q.l) (aj (aV q.B q.bc q.m) Y))))) wi) (fun u _=>mv-(intOf u).toNat)
      case atStart=>exact⟨0,rfl,YE _,Oc,H8.o⟩
      case round=>
       clear H8;obtain⟨i,rfl,hi,hb,hR⟩:=hrel;have HB:=au hb;have cv:=au hR;clear hb hR;by_cases c6:i<mv
       ·have ap:i<ms.length:=by rw[<-cE.o];exact c6
        obtain⟨F,hF⟩:=cv.o.fst;obtain⟨bm,M,rfl⟩:=LH hF ff;clear hF F;obtain⟨z,hz⟩:∃ z,z=ms[i]:=⟨_,rfl⟩;have cr:z ∈ ms:=by rw[hz];exact YL ap
        have ao:(z.1.c,z.2) ∈ W.moves s:=by rw[<-dg.o];exact List.mem_map.2 ⟨z,cr,rfl⟩
        have bj:=fF HP.o.ok ao;have db:=jf HG.o.1 ao;have b8:z.2 ∈ fU L:=by
         obtain⟨v,hv⟩:=mem_keys.1 HP.o.inL;exact ci.o.cl _ hv _ ao
        have gC:=gT HG.o.1 bj.1;have a8:=iT bj.1;have b4:=au (fun h=>Od ap HB.o h);have b7:=au (fun hg=>FW HP.o.bn c5.o (dw.o i ap HB.o hg) (by rw[<-hz];exact bj.2));rw[<-hz] at b4 b7;have cN:=au (pF HG.o.2 HP.o.a3 ao);have dj:=au (dF.o z cr);have ai:=au bj;have cj:=au b8;have cW:=au db;have qD:=au (ay jd okW.o:(aj (iw (some ⟨bm,M,none⟩) cm ms) (aj (av J (fR s.i s.j (bs s.a) s.r 0) 197) (aj (av I (fY dd q.A q.l.length q.ac q.B q.m.length q.bc (bs q.f)) 42) (aj (aV q.A q.ac q.l) (aj (aV q.B q.bc q.m) Y))))).Ok)
        have bu:=au (fun V (h:aI fh w (aj (iw (some ⟨bm,M,none⟩) cm ms) (aj (av J (fR s.i s.j (bs s.a) s.r 0) 197) (aj (av I (fY dd q.A q.l.length q.ac q.B q.m.length q.bc (bs q.f)) 42) (aj (aV q.A q.ac q.l) (aj (aV q.B q.bc q.m) Y))))) V)=>(show V.cell? ⟨bm,M+i*7,none⟩=some (.int .i64 (z.1.ix:Nat))/\V.cell? ⟨bm,M+i*7+1,none⟩=some (.int .i64 z.1.c)/\V.cell? ⟨bm,M+i*7+2,none⟩=some (.int .i64 z.2.i)/\V.cell? ⟨bm,M+i*7+3,none⟩=some (.int .i64 z.2.j)/\V.cell? ⟨bm,M+i*7+4,none⟩=some (.string (bs z.2.a))/\V.cell? ⟨bm,M+i*7+5,none⟩=some (.bool z.2.r)/\V.cell? ⟨bm,M+i*7+6,none⟩=some (.int .i64 0)/\V.cell? ⟨J,0,none⟩=some (.int .i64 s.i)/\V.cell? ⟨J,1,none⟩=some (.int .i64 s.j)/\V.cell? ⟨J,2,none⟩=some (.string (bs s.a))/\V.cell? ⟨J,3,none⟩=some (.bool s.r)/\V.cell? ⟨J,4,none⟩=some (.int .i64 0)/\V.cell? ⟨I,0,none⟩=some (.int .i64 dd)/\V.cell? ⟨I,1,none⟩=some (.slice q.A q.l.length q.ac)/\V.cell? ⟨I,2,none⟩=some (.slice q.B q.m.length q.bc)/\V.cell? ⟨I,3,none⟩=some (.string (bs q.f))/\(Instr.lookup 194 (.map (some b)) (.agg (fR z.2.i z.2.j (bs z.2.a) z.2.r 0)) false).run Tryz.prog V=.ok (.int .i64 (W.fS z.2)) V/\(Instr.lookup 194 (.map (some b)) (.agg (fR s.i s.j (bs s.a) s.r 0)) false).run Tryz.prog V=.ok (.int .i64 (W.fS s)) V/\V.cell? ⟨g5,0,none⟩=some (.slice aA n1 ac) from by
         obtain⟨F,hF⟩:=h.fst;obtain⟨m0,ag,ak,m3,m4,m5,m6⟩:=Gv hF ap;rw[<-hz] at m0 ag ak m3 m4 m5;obtain⟨c0,af,ab,c3,c4,-⟩:=bU h.drop;obtain⟨d0,d1,d2,d3,-⟩:=aY h.drop.drop;obtain⟨⟨a0,-⟩,-,-,hl⟩:=ct.o V h.drop.drop.drop.drop.drop
         exact⟨m0,ag,ak,m3,m4,m5,m6,c0,af,ab,c3,c4,d0,d1,d2,d3,hl _ cj.o,hl _ HP.o.inL,a0⟩))
        have HV:=au (cv.o.drew qD.o);have bb:=bu.o _ HV.o;have ck:=au hz.symm;obtain⟨⟨yx,yc,yf,yt⟩,⟨xi,xj,xa,xr⟩⟩:=z;dsimp only at *
        obtain⟨dn,cq⟩:∃ d,d=W.fS { i:=xi,j:=xj,a:=xa,r:=xr }:=⟨_,rfl⟩;obtain⟨ds,cp⟩:∃ d,d=W.fS s:=⟨_,rfl⟩;simp only[<-cq,<-cp] at bu bb b4 b7 gC a8;have cT:=au cq;have de:=au cp;have t1:IntKind.i64.wrap (yc+dn)=yc+dn:=by
         unfold never at a8;exact YZ _ ff
        have d5:(i:Int)<(mv:Int):=by omega
        have dT:=dA.o;clear hz cr ao bj b8 cq cp db gC a8 cv;go_upto_region 15 with (fail);by_cases ax:yc+dn=ds
        case neg=>
         have t2:(yc+dn != ds)=true:=by simp[ax]
         have di:=au (b4.o ax);clear ax;refine aK (fun V=>V.cell? ⟨bm,M+i*7,none⟩=some (.int .i64 (yx:Nat))/\V.cell? ⟨bm,M+i*7+1,none⟩=some (.int .i64 yc)/\V.cell? ⟨bm,M+i*7+2,none⟩=some (.int .i64 xi)/\V.cell? ⟨bm,M+i*7+3,none⟩=some (.int .i64 xj)/\V.cell? ⟨bm,M+i*7+4,none⟩=some (.string (bs xa))/\V.cell? ⟨bm,M+i*7+5,none⟩=some (.bool xr)/\V.cell? ⟨bm,M+i*7+6,none⟩=some (.int .i64 0)/\V.cell? ⟨J,0,none⟩=some (.int .i64 s.i)/\V.cell? ⟨J,1,none⟩=some (.int .i64 s.j)/\V.cell? ⟨J,2,none⟩=some (.string (bs s.a))/\V.cell? ⟨J,3,none⟩=some (.bool s.r)/\V.cell? ⟨J,4,none⟩=some (.int .i64 0)/\V.cell? ⟨I,0,none⟩=some (.int .i64 dd)/\V.cell? ⟨I,1,none⟩=some (.slice q.A q.l.length q.ac)/\V.cell? ⟨I,2,none⟩=some (.slice q.B q.m.length q.bc)/\V.cell? ⟨I,3,none⟩=some (.string (bs q.f))/\(Instr.lookup 194 (.map (some b)) (.agg (fR xi xj (bs xa) xr 0)) false).run Tryz.prog V=.ok (.int .i64 dn) V/\(Instr.lookup 194 (.map (some b)) (.agg (fR s.i s.j (bs s.a) s.r 0)) false).run Tryz.prog V=.ok (.int .i64 ds) V/\V.cell? ⟨g5,0,none⟩=some (.slice aA n1 ac)) fi fi bb ?_;clear bb;generalize wr.drew=V0 at *
         (repeat(first|refine aW ?_|refine aX ?_))
         refine lex_nil ?_;clear t1 t2;go_wp2_with fail
         go_roundw
         case rel=>exact⟨i+1,by go_num,c6,di.o,HV.o⟩
         case measure=>simp[intOf];omega
        case pos=>
         have t2:(yc+dn != ds)=false:=by simp[ax]
         have cS:=au ax;have cX:=au (b7.o ax);clear ax b7 b4;refine aK (fun V=>V.cell? ⟨bm,M+i*7,none⟩=some (.int .i64 (yx:Nat))/\V.cell? ⟨bm,M+i*7+1,none⟩=some (.int .i64 yc)/\V.cell? ⟨bm,M+i*7+2,none⟩=some (.int .i64 xi)/\V.cell? ⟨bm,M+i*7+3,none⟩=some (.int .i64 xj)/\V.cell? ⟨bm,M+i*7+4,none⟩=some (.string (bs xa))/\V.cell? ⟨bm,M+i*7+5,none⟩=some (.bool xr)/\V.cell? ⟨bm,M+i*7+6,none⟩=some (.int .i64 0)/\V.cell? ⟨J,0,none⟩=some (.int .i64 s.i)/\V.cell? ⟨J,1,none⟩=some (.int .i64 s.j)/\V.cell? ⟨J,2,none⟩=some (.string (bs s.a))/\V.cell? ⟨J,3,none⟩=some (.bool s.r)/\V.cell? ⟨J,4,none⟩=some (.int .i64 0)/\V.cell? ⟨I,0,none⟩=some (.int .i64 dd)/\V.cell? ⟨I,1,none⟩=some (.slice q.A q.l.length q.ac)/\V.cell? ⟨I,2,none⟩=some (.slice q.B q.m.length q.bc)/\V.cell? ⟨I,3,none⟩=some (.string (bs q.f))/\(Instr.lookup 194 (.map (some b)) (.agg (fR xi xj (bs xa) xr 0)) false).run Tryz.prog V=.ok (.int .i64 dn) V/\(Instr.lookup 194 (.map (some b)) (.agg (fR s.i s.j (bs s.a) s.r 0)) false).run Tryz.prog V=.ok (.int .i64 ds) V/\V.cell? ⟨g5,0,none⟩=some (.slice aA n1 ac)) fi fi bb ?_;clear bb;generalize wr.drew=V0 at *
         (repeat(first|refine aW ?_|refine aX ?_))
         refine lex_nil ?_;clear t1 t2;go_upto_region 16 with (fail);have H3:=au (HV.o.drew qD.o);have b1:=bu.o _ H3.o;clear HV;by_cases i7:s.i<xi
         case pos=>
          have e1:decide (s.i<xi)=true:=decide_eq_true i7;refine aK (fun V=>V.cell? ⟨bm,M+i*7,none⟩=some (.int .i64 (yx:Nat))/\V.cell? ⟨bm,M+i*7+1,none⟩=some (.int .i64 yc)/\V.cell? ⟨bm,M+i*7+2,none⟩=some (.int .i64 xi)/\V.cell? ⟨bm,M+i*7+3,none⟩=some (.int .i64 xj)/\V.cell? ⟨bm,M+i*7+4,none⟩=some (.string (bs xa))/\V.cell? ⟨bm,M+i*7+5,none⟩=some (.bool xr)/\V.cell? ⟨bm,M+i*7+6,none⟩=some (.int .i64 0)/\V.cell? ⟨J,0,none⟩=some (.int .i64 s.i)/\V.cell? ⟨J,1,none⟩=some (.int .i64 s.j)/\V.cell? ⟨J,2,none⟩=some (.string (bs s.a))/\V.cell? ⟨J,3,none⟩=some (.bool s.r)/\V.cell? ⟨J,4,none⟩=some (.int .i64 0)/\V.cell? ⟨I,0,none⟩=some (.int .i64 dd)/\V.cell? ⟨I,1,none⟩=some (.slice q.A q.l.length q.ac)/\V.cell? ⟨I,2,none⟩=some (.slice q.B q.m.length q.bc)/\V.cell? ⟨I,3,none⟩=some (.string (bs q.f))/\(Instr.lookup 194 (.map (some b)) (.agg (fR xi xj (bs xa) xr 0)) false).run Tryz.prog V=.ok (.int .i64 dn) V/\(Instr.lookup 194 (.map (some b)) (.agg (fR s.i s.j (bs s.a) s.r 0)) false).run Tryz.prog V=.ok (.int .i64 ds) V/\V.cell? ⟨g5,0,none⟩=some (.slice aA n1 ac)) fi fi b1 ?_;clear b1;generalize V0.drew=V1 at *
          (repeat(first|refine aW ?_|refine aX ?_))
          refine lex_nil ?_;clear e1;go_upto_region 17 with (fail);have H4:=au (H3.o.drew qD.o);obtain⟨m0,ag,ak,m3,m4,m5,m6,c0,af,ab,c3,c4,d0,d1,d2,d3,-,-,a0⟩:=bu.o _ H4.o;have dC:q.l.length<=1000:=by have:=HP.o.nl;have:=bz.o;omega
          refine gW [7,8,10] [1,1,0,0,0,0,0,1,2,2,3] (fun V=>V.cell? ⟨bm,M+i*7,none⟩=some (.int .i64 (yx:Nat))/\V.cell? ⟨I,1,none⟩=some (.slice q.A q.l.length q.ac)) (fun V=>V.cell? ⟨I,1,none⟩=some (.slice q.A q.l.length q.ac)) (fun _=>True) (fun _=>True) (fun _ h=>h.2) (fun _ _=>trivial) (fun _ h=>h) fi fi fi fi (by exact⟨m0,d1⟩) ?_;generalize V1.drew=V2 at *
          (repeat((first|refine fu ft ft ?_|((first|refine dR (v:=?_) ft ft ?_ ?_|refine dS (v:=?_) ft ft ?_ ?_|refine dU (v:=?_) ft ft ?_ ?_|refine dV (v:=?_) ft ft ?_ ?_|refine dW (v:=?_) ft ft ?_ ?_);rotate_left;(focus(intro w' bi;go_simp;(try with_reducible rfl);done))));try simp only[Act.put,Yy,YA,YB]))
          refine jI rfl ft (fun K hK=>?_);go_wp2_with fail;have bw:(V2.alloc (.cells (gb (yx:Nat)) 3)).cell? ⟨I,1,none⟩=some (.slice q.A q.l.length q.ac):=yD d1;have h5:=aH H4.o qD.o (gb (yx:Nat)) 3;obtain⟨f5,bx⟩:=h5.fst;have cn:(V2.alloc (.cells (gb (yx:Nat)) 3)).cell? ⟨V2.heap.size,0,none⟩=some (.int .i64 (yx:Int)):=aB bx rfl;have H5:=au (h5.perm (by ac_rfl:_=aj (aV q.A q.ac q.l) (aj (av V2.heap.size (gb (yx:Nat)) 3) (aj (iw (some ⟨bm,M,none⟩) cm ms) (aj (av J (fR s.i s.j (bs s.a) s.r 0) 197) (aj (av I (fY dd q.A q.l.length q.ac q.B q.m.length q.bc (bs q.f)) 42) (aj (aV q.B q.bc q.m) Y)))))));have bo:=au (ay aC (ay jd (ay aC (ay aC (ay bV az.o)))):(aj (av V2.heap.size (gb (yx:Nat)) 3) (aj (iw (some ⟨bm,M,none⟩) cm ms) (aj (av J (fR s.i s.j (bs s.a) s.r 0) 197) (aj (av I (fY dd q.A q.l.length q.ac q.B q.m.length q.bc (bs q.f)) 42) (aj (aV q.B q.bc q.m) Y))))).Ok);refine hK.o _ _ bw ?_;clear hK bw h5 bx H3 H4 m0 ag ak m3 m4 m5 m6 c0 af ab c3 c4 d0 d1 d2 d3 a0
          (repeat((first|refine fu ft ft ?_|((first|refine dR (v:=?_) ft ft ?_ ?_|refine dS (v:=?_) ft ft ?_ ?_|refine dU (v:=?_) ft ft ?_ ?_|refine dV (v:=?_) ft ft ?_ ?_|refine dW (v:=?_) ft ft ?_ ?_);rotate_left;(focus(intro w' bi;go_simp;(try with_reducible rfl);done))));try simp only[Act.put,Yy,YA,YB]))
          refine jJ rfl ft (fun K hK=>?_);refine DZ (.tmp 114) (.tmp 120) rfl (g:=V2.heap.size) (yx:Int) rfl rfl rfl ff bo.o H5.o cn ?_;intro A9 c9 aq hr;have H6:=au ((hr.perm (by ac_rfl:_=aj (av V2.heap.size (gb (yx:Nat)) 3) (aj (av I (fY dd q.A q.l.length q.ac q.B q.m.length q.bc (bs q.f)) 42) (aj (aV A9 c9 (q.l++[(yx:Int)])) (aj (iw (some ⟨bm,M,none⟩) cm ms) (aj (av J (fR s.i s.j (bs s.a) s.r 0) 197) (aj (aV q.B q.bc q.m) Y))))))).drop);have bd:=au (ay bV (ay jd (ay aC (ay bV az.o))):(aj (aV A9 c9 (q.l++[(yx:Int)])) (aj (iw (some ⟨bm,M,none⟩) cm ms) (aj (av J (fR s.i s.j (bs s.a) s.r 0) 197) (aj (aV q.B q.bc q.m) Y)))).Ok);obtain⟨d0,d1,d2,d3,-⟩:=aY H6.o;have fz:=fun i=>(aP H6.o.fst.choose_spec i:aq.frozen? ⟨I,i,none⟩=false);have be:(q.l++[(yx:Int)]).length=q.l.length+1:=by simp
          have h7:=aJ H6.o bd.o 1 (.slice A9 (q.l.length+1) c9);have H7:=au (show aI fh w (aj (av I (fY dd A9 (q.l++[(yx:Int)]).length c9 q.B q.m.length q.bc (bs q.f)) 42) (aj (aV A9 c9 (q.l++[(yx:Int)])) (aj (iw (some ⟨bm,M,none⟩) cm ms) (aj (av J (fR s.i s.j (bs s.a) s.r 0) 197) (aj (aV q.B q.bc q.m) Y))))) (aq.setCell ⟨I,1,none⟩ (.slice A9 (q.l.length+1) c9)) from by rw[be];exact h7);refine hK.o _ _ trivial ?_;clear hK hr H5 cn bo h7 H6
          (repeat((first|refine fu ft ft ?_|((first|refine dR (v:=?_) ft ft ?_ ?_|refine dS (v:=?_) ft ft ?_ ?_|refine dU (v:=?_) ft ft ?_ ?_|refine dV (v:=?_) ft ft ?_ ?_|refine dW (v:=?_) ft ft ?_ ?_);rotate_left;(focus(intro w' bi;go_simp;(try with_reducible rfl);done))));try simp only[Act.put,Yy,YA,YB]))
          refine mJ rfl ft (fun K hK=>?_);go_wp2_with fail;refine hK.o _ _ trivial (pW ?_);clear hK d0 d1 d2 d3 fz;generalize aq.setCell ⟨I,1,none⟩ (.slice A9 (q.l.length+1) c9)=a7 at *
          obtain⟨dl,cD⟩:=dj.o;have cL:yx<T.rs.length:=by rw[<-bp.o];exact dl
          obtain⟨br,cy,dr,cA⟩:=lD.at (cw.o a7 H7.o.bN).1 ff;subst dr;have H8:=au (H7.o.drew (ay aC bd.o));obtain⟨-,-,rt,-⟩:=cA a7.drew (dO (YC _ _)) yx cL;have b0:T.rs[yx].t=yt:=by rw[<-cD];simp only[bp.o]
          rw[b0] at rt;have cV:=au (show yt.length<=1000000 from by rw[<-b0];exact(cw.o a7 H7.o.bN).2.2 _ (YL cL));have dq:(yx:Int)<(n1:Int):=by have:=c8.o;omega
          have dL:q.f.length<=1000000000:=by have:=HP.o.nf;have:=bz.o;omega
          have cH:¬ 9223372036854775807<(bs q.f).size+(bs yt).size:=by rw[bB,bB];have:=cV.o;omega
          go_upto_region 18 with (fail);obtain⟨e0,e1,e2,e3,-⟩:=aY H8.o;have cJ:=fun i=>(aP H8.o.fst.choose_spec i:a7.drew.frozen? ⟨I,i,none⟩=false);obtain⟨f9,am⟩:=H8.o.drop.drop.fst;obtain⟨m0,-⟩:=Gv am ap;obtain⟨⟨a0,-⟩,-⟩:=ct.o _ H8.o.drop.drop.drop.drop.drop;rw[ck.o] at m0;refine gu (fun V:World=>V.cell? ⟨I,3,none⟩=some (.string (bs q.f))/\V.frozen? ⟨I,3,none⟩=false/\V.cell? ⟨bm,M+i*7,none⟩=some (.int .i64 (yx:Nat))/\V.cell? ⟨g5,0,none⟩=some (.slice (some ⟨br,cy,none⟩) n1 ac)/\V.cell? ⟨br,cy+yx*4+2,none⟩=some (.string (bs yt))) rfl fi fi (by exact⟨e3,cJ 3,m0,a0,rt⟩) ?_;generalize a7.drew=cz at *
          (repeat(first|refine uX ?_|refine uY ?_))
          refine kY rfl ft (fun K hK=>?_);go_wp2_with fail;refine hK.o _ _ ?_;have h9:=aJ H8.o bd.o 3 (.string (bs q.f++bs yt));have H9:=au (show aI fh w (aj (av I (fY dd A9 (q.l++[(yx:Int)]).length c9 q.B q.m.length q.bc (bs (q.f++yt))) 42) (aj (aV A9 c9 (q.l++[(yx:Int)])) (aj (iw (some ⟨bm,M,none⟩) cm ms) (aj (av J (fR s.i s.j (bs s.a) s.r 0) 197) (aj (aV q.B q.bc q.m) Y))))) (cz.setCell ⟨I,3,none⟩ (.string (bs q.f++bs yt))) from by rw[D5];exact h9);clear hK h9 H8 H7 e0 e1 e2 e3 cJ am m0 a0 rt cA dq cD b0 dL cH;generalize cz.setCell ⟨I,3,none⟩ (.string (bs q.f++bs yt))=d4 at *
          obtain⟨f9,am⟩:=H9.o.drop.drop.fst;obtain⟨m0,ag,ak,m3,m4,m5,m6⟩:=Gv am ap;rw[ck.o] at m0 ag ak m3 m4 m5;have a6:=H9.o.perm (by ac_rfl:_=aj (av J (fR s.i s.j (bs s.a) s.r 0) 197) (aj (iw (some ⟨bm,M,none⟩) cm ms) (aj (av I (fY dd A9 (q.l++[(yx:Int)]).length c9 q.B q.m.length q.bc (bs (q.f++yt))) 42) (aj (aV A9 c9 (q.l++[(yx:Int)])) (aj (aV q.B q.bc q.m) Y)))));have al:(aj (iw (some ⟨bm,M,none⟩) cm ms) (aj (av I (fY dd A9 (q.l++[(yx:Int)]).length c9 q.B q.m.length q.bc (bs (q.f++yt))) 42) (aj (aV A9 c9 (q.l++[(yx:Int)])) (aj (aV q.B q.bc q.m) Y)))).Ok:=ay jd (ay aC (ay bV (ay bV az.o)));obtain⟨c0,af,ab,c3,c4,cf⟩:=bU a6;have ar:=LM a6 al (.int .i64 (xi:Int)) (.int .i64 (xj:Int)) (.string (bs xa)) (.bool xr) (.int .i64 0);have cx:=au (ar.perm (by ac_rfl:_=aj (iw (some ⟨bm,M,none⟩) cm ms) (aj (av J (fR xi xj (bs xa) xr 0) 197) (aj (av I (fY dd A9 (q.l++[(yx:Int)]).length c9 q.B q.m.length q.bc (bs (q.f++yt))) 42) (aj (aV A9 c9 (q.l++[(yx:Int)])) (aj (aV q.B q.bc q.m) Y)))))).drop;have cb:=au (JN (W:=W) (s:=⟨xi,xj,xa,xr⟩) ar);have ca:=au (show Te W L ⟨xi,xj,xa,xr⟩ ⟨A9,c9,q.l++[(yx:Int)],q.B,q.bc,q.m,q.f++yt⟩ from⟨ai.o.1,cN.o,cj.o,by have:=HP.o.lt;have:=cS.o;have:=cW.o;rw[<-cT.o];rw[<-de.o] at *;omega,by have:=HP.o.nl;have:=ai.o.2;simp only[Yz,Y1];omega,by have:=HP.o.nm;have:=ai.o.2;dsimp only;omega,by have:=HP.o.nf;have:=ai.o.2;have:=cV.o;simp only[Yz];omega,cX.o.1 i7⟩);clear a6 ar al am H9 i7;go_wp2_with fail
          go_roundw
          case rel=>exact⟨⟨xi,xj,xa,xr⟩,⟨A9,c9,q.l++[(yx:Int)],q.B,q.bc,q.m,q.f++yt⟩,ca.o,cx.o⟩
          case measure=>rw[cb.o,da.o];exact ai.o.2
         case neg=>
          have e1:decide (s.i<xi)=false:=decide_eq_false i7;refine aK (fun V=>V.cell? ⟨bm,M+i*7,none⟩=some (.int .i64 (yx:Nat))/\V.cell? ⟨bm,M+i*7+1,none⟩=some (.int .i64 yc)/\V.cell? ⟨bm,M+i*7+2,none⟩=some (.int .i64 xi)/\V.cell? ⟨bm,M+i*7+3,none⟩=some (.int .i64 xj)/\V.cell? ⟨bm,M+i*7+4,none⟩=some (.string (bs xa))/\V.cell? ⟨bm,M+i*7+5,none⟩=some (.bool xr)/\V.cell? ⟨bm,M+i*7+6,none⟩=some (.int .i64 0)/\V.cell? ⟨J,0,none⟩=some (.int .i64 s.i)/\V.cell? ⟨J,1,none⟩=some (.int .i64 s.j)/\V.cell? ⟨J,2,none⟩=some (.string (bs s.a))/\V.cell? ⟨J,3,none⟩=some (.bool s.r)/\V.cell? ⟨J,4,none⟩=some (.int .i64 0)/\V.cell? ⟨I,0,none⟩=some (.int .i64 dd)/\V.cell? ⟨I,1,none⟩=some (.slice q.A q.l.length q.ac)/\V.cell? ⟨I,2,none⟩=some (.slice q.B q.m.length q.bc)/\V.cell? ⟨I,3,none⟩=some (.string (bs q.f))/\(Instr.lookup 194 (.map (some b)) (.agg (fR xi xj (bs xa) xr 0)) false).run Tryz.prog V=.ok (.int .i64 dn) V/\(Instr.lookup 194 (.map (some b)) (.agg (fR s.i s.j (bs s.a) s.r 0)) false).run Tryz.prog V=.ok (.int .i64 ds) V/\V.cell? ⟨g5,0,none⟩=some (.slice aA n1 ac)) fi fi b1 ?_;clear b1;generalize V0.drew=V1 at *
          (repeat(first|refine aW ?_|refine aX ?_))
          refine lex_nil ?_;clear e1;go_upto_region 19 with (fail);have H4:=au (H3.o.drew qD.o);obtain⟨m0,ag,ak,m3,m4,m5,m6,c0,af,ab,c3,c4,d0,d1,d2,d3,-,-,a0⟩:=bu.o _ H4.o;have dC:q.m.length<=1000:=by have:=HP.o.nm;have:=bz.o;omega
          refine gW [7,8,10] [1,1,0,0,0,0,0,1,2,2,3] (fun V=>V.cell? ⟨bm,M+i*7,none⟩=some (.int .i64 (yx:Nat))/\V.cell? ⟨I,2,none⟩=some (.slice q.B q.m.length q.bc)) (fun V=>V.cell? ⟨I,2,none⟩=some (.slice q.B q.m.length q.bc)) (fun _=>True) (fun _=>True) (fun _ h=>h.2) (fun _ _=>trivial) (fun _ h=>h) fi fi fi fi (by exact⟨m0,d2⟩) ?_;generalize V1.drew=V2 at *
          (repeat((first|refine fu ft ft ?_|((first|refine dR (v:=?_) ft ft ?_ ?_|refine dS (v:=?_) ft ft ?_ ?_|refine dU (v:=?_) ft ft ?_ ?_|refine dV (v:=?_) ft ft ?_ ?_|refine dW (v:=?_) ft ft ?_ ?_);rotate_left;(focus(intro w' bi;go_simp;(try with_reducible rfl);done))));try simp only[Act.put,Yy,YA,YB]))
          refine jI rfl ft (fun K hK=>?_);go_wp2_with fail;have bw:(V2.alloc (.cells (gb (yx:Nat)) 3)).cell? ⟨I,2,none⟩=some (.slice q.B q.m.length q.bc):=yD d2;have h5:=aH H4.o qD.o (gb (yx:Nat)) 3;obtain⟨f5,bx⟩:=h5.fst;have cn:(V2.alloc (.cells (gb (yx:Nat)) 3)).cell? ⟨V2.heap.size,0,none⟩=some (.int .i64 (yx:Int)):=aB bx rfl;have H5:=au (h5.perm (by ac_rfl:_=aj (aV q.B q.bc q.m) (aj (av V2.heap.size (gb (yx:Nat)) 3) (aj (iw (some ⟨bm,M,none⟩) cm ms) (aj (av J (fR s.i s.j (bs s.a) s.r 0) 197) (aj (av I (fY dd q.A q.l.length q.ac q.B q.m.length q.bc (bs q.f)) 42) (aj (aV q.A q.ac q.l) Y)))))));have bo:=au (ay aC (ay jd (ay aC (ay aC (ay bV az.o)))):(aj (av V2.heap.size (gb (yx:Nat)) 3) (aj (iw (some ⟨bm,M,none⟩) cm ms) (aj (av J (fR s.i s.j (bs s.a) s.r 0) 197) (aj (av I (fY dd q.A q.l.length q.ac q.B q.m.length q.bc (bs q.f)) 42) (aj (aV q.A q.ac q.l) Y))))).Ok);refine hK.o _ _ bw ?_;clear hK bw h5 bx H3 H4 m0 ag ak m3 m4 m5 m6 c0 af ab c3 c4 d0 d1 d2 d3 a0
          (repeat((first|refine fu ft ft ?_|((first|refine dR (v:=?_) ft ft ?_ ?_|refine dS (v:=?_) ft ft ?_ ?_|refine dU (v:=?_) ft ft ?_ ?_|refine dV (v:=?_) ft ft ?_ ?_|refine dW (v:=?_) ft ft ?_ ?_);rotate_left;(focus(intro w' bi;go_simp;(try with_reducible rfl);done))));try simp only[Act.put,Yy,YA,YB]))
          refine jJ rfl ft (fun K hK=>?_);refine DZ (.tmp 138) (.tmp 144) rfl (g:=V2.heap.size) (yx:Int) rfl rfl rfl ff bo.o H5.o cn ?_;intro A9 c9 aq hr;have H6:=au ((hr.perm (by ac_rfl:_=aj (av V2.heap.size (gb (yx:Nat)) 3) (aj (av I (fY dd q.A q.l.length q.ac q.B q.m.length q.bc (bs q.f)) 42) (aj (aV A9 c9 (q.m++[(yx:Int)])) (aj (iw (some ⟨bm,M,none⟩) cm ms) (aj (av J (fR s.i s.j (bs s.a) s.r 0) 197) (aj (aV q.A q.ac q.l) Y))))))).drop);have bd:=au (ay bV (ay jd (ay aC (ay bV az.o))):(aj (aV A9 c9 (q.m++[(yx:Int)])) (aj (iw (some ⟨bm,M,none⟩) cm ms) (aj (av J (fR s.i s.j (bs s.a) s.r 0) 197) (aj (aV q.A q.ac q.l) Y)))).Ok);obtain⟨d0,d1,d2,d3,-⟩:=aY H6.o;have fz:=fun i=>(aP H6.o.fst.choose_spec i:aq.frozen? ⟨I,i,none⟩=false);have be:(q.m++[(yx:Int)]).length=q.m.length+1:=by simp
          have h7:=aJ H6.o bd.o 2 (.slice A9 (q.m.length+1) c9);have H7:=au (show aI fh w (aj (av I (fY dd q.A q.l.length q.ac A9 (q.m++[(yx:Int)]).length c9 (bs q.f)) 42) (aj (aV A9 c9 (q.m++[(yx:Int)])) (aj (iw (some ⟨bm,M,none⟩) cm ms) (aj (av J (fR s.i s.j (bs s.a) s.r 0) 197) (aj (aV q.A q.ac q.l) Y))))) (aq.setCell ⟨I,2,none⟩ (.slice A9 (q.m.length+1) c9)) from by rw[be];exact h7);refine hK.o _ _ trivial ?_;clear hK hr H5 cn bo h7 H6
          (repeat((first|refine fu ft ft ?_|((first|refine dR (v:=?_) ft ft ?_ ?_|refine dS (v:=?_) ft ft ?_ ?_|refine dU (v:=?_) ft ft ?_ ?_|refine dV (v:=?_) ft ft ?_ ?_|refine dW (v:=?_) ft ft ?_ ?_);rotate_left;(focus(intro w' bi;go_simp;(try with_reducible rfl);done))));try simp only[Act.put,Yy,YA,YB]))
          refine mJ rfl ft (fun K hK=>?_);go_wp2_with fail;refine hK.o _ _ trivial (pW ?_);clear hK d0 d1 d2 d3 fz;generalize aq.setCell ⟨I,2,none⟩ (.slice A9 (q.m.length+1) c9)=a7 at *
          have H9:=H7;clear H7;obtain⟨f9,am⟩:=H9.o.drop.drop.fst;obtain⟨m0,ag,ak,m3,m4,m5,m6⟩:=Gv am ap;rw[ck.o] at m0 ag ak m3 m4 m5;have a6:=H9.o.perm (by ac_rfl:_=aj (av J (fR s.i s.j (bs s.a) s.r 0) 197) (aj (iw (some ⟨bm,M,none⟩) cm ms) (aj (av I (fY dd q.A q.l.length q.ac A9 (q.m++[(yx:Int)]).length c9 (bs q.f)) 42) (aj (aV A9 c9 (q.m++[(yx:Int)])) (aj (aV q.A q.ac q.l) Y)))));have al:(aj (iw (some ⟨bm,M,none⟩) cm ms) (aj (av I (fY dd q.A q.l.length q.ac A9 (q.m++[(yx:Int)]).length c9 (bs q.f)) 42) (aj (aV A9 c9 (q.m++[(yx:Int)])) (aj (aV q.A q.ac q.l) Y)))).Ok:=ay jd (ay aC (ay bV (ay bV az.o)));obtain⟨c0,af,ab,c3,c4,cf⟩:=bU a6;have ar:=LM a6 al (.int .i64 (xi:Int)) (.int .i64 (xj:Int)) (.string (bs xa)) (.bool xr) (.int .i64 0);have cx:=au (ar.perm (by ac_rfl:_=aj (iw (some ⟨bm,M,none⟩) cm ms) (aj (av J (fR xi xj (bs xa) xr 0) 197) (aj (av I (fY dd q.A q.l.length q.ac A9 (q.m++[(yx:Int)]).length c9 (bs q.f)) 42) (aj (aV q.A q.ac q.l) (aj (aV A9 c9 (q.m++[(yx:Int)])) Y)))))).drop;have cb:=au (JN (W:=W) (s:=⟨xi,xj,xa,xr⟩) ar);have ca:=au (show Te W L ⟨xi,xj,xa,xr⟩ ⟨q.A,q.ac,q.l,A9,c9,q.m++[(yx:Int)],q.f⟩ from⟨ai.o.1,cN.o,cj.o,by have:=HP.o.lt;have:=cS.o;have:=cW.o;rw[<-cT.o];rw[<-de.o] at *;omega,by have:=HP.o.nl;have:=ai.o.2;dsimp only;omega,by have:=HP.o.nm;have:=ai.o.2;simp only[Yz,Y1];omega,by have:=HP.o.nf;have:=ai.o.2;dsimp only;omega,cX.o.2 i7⟩);clear a6 ar al am H9 i7;go_wp2_with fail
          go_roundw
          case rel=>exact⟨⟨xi,xj,xa,xr⟩,⟨q.A,q.ac,q.l,A9,c9,q.m++[(yx:Int)],q.f⟩,ca.o,cx.o⟩
          case measure=>rw[cb.o,da.o];exact ai.o.2
       ·exfalso;have e:i=ms.length:=by have:=cE.o;omega
        have:=HB.o;rw[e] at this;exact dt.o this
variable{lc:Nat}{l:List Bs}
theorem Ux{L G:fj}{gc:Nat}{F:List Bs}(hL:fM w L l)(hG:fM w G F)(hi:i<=l.length)(an:l.length<=1000000)(ao:F.length<=1000000):
  Calls Tryz.prog 112 #[.slice L l.length lc,.int .i64 (i:Int),.slice G F.length gc] w (aL w (.bool (jA l F i))):=by
 obtain⟨n,hn⟩:∃ n,n=F.length:=⟨_,rfl⟩;obtain⟨m,hm⟩:∃ m,m=l.length:=⟨_,rfl⟩;obtain⟨b,hb⟩:∃ b,b=jA l F i:=⟨_,rfl⟩;rw[<-hb,<-hn,<-hm];rw[<-hn] at ao;rw[<-hm] at hi an;have HL:=au hL;have HV:=au hG;have HN:=au hn;have HM:=au hm;have HB:=au hb;generalize hV:Value.bool b=V;have ae:=au hV.symm;clear hL hG hn hm hb hV;have hs:IntKind.i64.wrap ((i:Int)+(n:Int))=(i:Int)+(n:Int):=YZ _ ff;have ap:¬ (i:Int)<0:=by omega
 go_enter Tryz.func112,Tryz.ntmps112
 by_cases ac:i+n<=m
 ·have ad:¬ ((m:Int)<(i:Int)+(n:Int)):=by omega
  have af:=au ac;clear ac;go_wp2_with fail;clear ad hs;go_loopw [7] (fun v wr=>∃ q:Nat,q<=n/\v=.int .i64 q/\(∀ p,p<q->l[i+p]?=F[p]?)/\Below w.heap.size w wr) (fun v _=>n-(intOf v).toNat)
  case atStart=>exact⟨0,YE _,rfl,fun p h=>absurd h (Zn p),YC _ _⟩
  case round=>
   obtain⟨q,hq,rfl,al,hR⟩:=hrel;have HP:=au al;have HR:=au hR;clear al hR;by_cases ak:q<n
   ·have ab:q<F.length:=by rw[<-HN.o];exact ak
    have aa:i+q<l.length:=by rw[<-HM.o];have:=af.o;omega
    obtain⟨b1,o1,rfl,ai⟩:=fM.at HL.o ff;obtain⟨b2,o2,rfl,am⟩:=fM.at HV.o ff;have y1:=ai wr HR.o (i+q) aa;have y2:=am wr HR.o q ab;have I:=au (fun h=>Gs (l:=l) (F:=F) (i:=i) (k:=q) ab aa h);have J:=au (fun (h:l[i+q]=F[q])=>(show l[i+q]?=F[q]? from by rw[YH aa,YH ab,h]));obtain⟨x,hx⟩:∃ x,x=l[i+q]:=⟨_,rfl⟩;obtain⟨y,hy⟩:∃ y,y=F[q]:=⟨_,rfl⟩;rw[<-hx] at y1 I J;rw[<-hy] at y2 I J;obtain⟨j,hj⟩:∃ j,j=i+q:=⟨_,rfl⟩;rw[<-hj] at y1;have ar:(j:Int)<(m:Int):=by have:=af.o;omega
    have tw:IntKind.i64.wrap ((i:Int)+(q:Int))=(j:Int):=by rw[hj];push_cast;exact YZ _ ff
    have aq:(q:Int)<(n:Int):=by omega
    clear ai am hx hy hj ab aa;go_upto_region 6 with (fail);by_cases z:x=y
    ·have t1:((bs x).toList==(bs y).toList)=true:=by rw[dI];simp[z]
     have HE:=au (J.o z);clear z J I;refine aK (fun w'=>w'.cell? ⟨b1,o1+j,none⟩=some (.string (bs x))/\w'.cell? ⟨b2,o2+q,none⟩=some (.string (bs y))) fi fi ⟨y1,y2⟩ ?_;clear y1 y2
     (repeat(first|refine aW ?_|refine aX ?_))
     refine lex_nil ?_;clear tw t1;go_wp2_with fail
     go_roundw
     case rel=>exact⟨q+1,ak,by go_num,fun p hp=>(by
      rcases j9 p q with h|h
      ·exact HP.o p h
      ·obtain rfl:p=q:=by omega
       exact HE.o),HR.o.drew⟩
     case measure=>simp[intOf];omega
    ·have t1:((bs x).toList==(bs y).toList)=false:=by rw[dI];simpa using fun h=>z (nO h)
     have M:=HB.o.trans (I.o z);have HF:=au M;have HE:=au HR.o.drew;clear z J I M;refine aK (fun w'=>w'.cell? ⟨b1,o1+j,none⟩=some (.string (bs x))/\w'.cell? ⟨b2,o2+q,none⟩=some (.string (bs y))) fi fi ⟨y1,y2⟩ ?_;clear y1 y2
     (repeat(first|refine aW ?_|refine aX ?_))
     refine lex_nil ?_;clear tw t1;go_wp2;go_ret;rw[ae.o,HF.o];exact⟨rfl,HE.o⟩
   ·obtain rfl:q=n:=by omega
    have ag:b=true:=HB.o.trans (CO (by rw[<-HN.o,<-HM.o];exact af.o) (by rw[<-HN.o];exact HP.o));have HT:=au ag;have HE:=au HR.o;clear ag;go_wp2;go_ret;rw[ae.o,HT.o];exact⟨rfl,HE.o⟩
 ·have ad:(m:Int)<(i:Int)+(n:Int):=by omega
  have M:b=false:=HB.o.trans (Av (by rw[<-HN.o,<-HM.o];exact ac));have HF:=au M;clear ac M;go_wp2;go_ret;rw[ae.o,HF.o];exact⟨rfl,YC _ _⟩
theorem yE{L:fj}(hL:fM w L l)(V:l.length<=1000000)(hs:∀ x ∈ l,x.length<=1000000):
  Calls Tryz.prog 75 #[.slice L l.length lc] w (aL w (.string (bs l.flatten))):=by
 obtain⟨n,hn⟩:∃ n,n=l.length:=⟨_,rfl⟩;rw[<-hn];rw[<-hn] at V;have HL:=au hL;have HN:=au hn;have HS:=au hs
 have aa:=au (show ∀ j,((l.take j).flatten).length<=j*1000000 from fun j=>by
  have h:∀ (l:List Bs),(∀ x ∈ l,x.length<=1000000)->l.flatten.length<=l.length*1000000:=fun l=>by
   induction l with
   | nil=>intro _;simp
   | cons a l ih=>
    intro h;have h1:=h a Ze;have h2:=ih fun x F=>h x (Zj _ F);rw[qq,Yz,YR,Nat.add_mul];omega
  refine YQ (h _ fun x F=>hs x (ZC F)) (pN _ ?_)
  rw[YU];omega)
 clear hL hn hs
 go_enter Tryz.func75,Tryz.ntmps75
 go_wp2_with fail;go_loopw [3,4] (fun v u wr=>∃ q:Nat,q<=n/\u=.int .i64 q/\v=.string (bs (l.take q).flatten)/\Below w.heap.size w wr) (fun _ u _=>n-(intOf u).toNat)
 case atStart=>exact⟨0,YE _,rfl,rfl,YC _ _⟩
 case round=>
  obtain⟨q,hq,rfl,rfl,hR⟩:=hrel;have HR:=au hR;clear hR;by_cases J:q<n
  ·have p:q<l.length:=by rw[<-HN.o];exact J
   obtain⟨b1,o1,rfl,I⟩:=fM.at HL.o ff;have y1:=I wr HR.o q p
   have z:=au (show bs (l.take (q+1)).flatten=bs (l.take q).flatten++bs l[q] from by
    rw[YD p,mS,D5];simp)
   have h1:=aa.o q;have h2:=HS.o l[q] (YL p);obtain⟨x,F⟩:∃ x,x=l[q]:=⟨_,rfl⟩;rw[<-F] at y1 z h2;obtain⟨f,hf⟩:∃ f,f=(l.take q).flatten:=⟨_,rfl⟩;rw[<-hf] at h1 z ⊢;have h3:q*1000000<=1000000*1000000:=pN _ ff;have M:¬ 9223372036854775807<(bs f).size+(bs x).size:=by rw[bB,bB];omega
   have ab:(q:Int)<(n:Int):=by omega
   clear I F hf p h1 h2 h3;go_wp2_with fail;clear M y1
   go_roundw
   case rel=>exact⟨q+1,J,by go_num,by rw[z.o],HR.o⟩
   case measure=>simp[intOf];omega
  ·obtain rfl:q=n:=by omega
   have HE:=au (show(l.take q).flatten=l.flatten from by rw[HN.o,YO]);rw[HE.o];generalize l.flatten=f at *
   go_wp2;go_ret;exact⟨rfl,HR.o⟩
theorem Gy(k:Int)(x:Bs):(iq k x).1=bg k x:=by
 unfold iq bg;split<;>rfl
theorem Oh{E:List Bs}{m:Nat}(h:m+E.length=l.length):jA l E m=decide (l.drop m=E):=by
 unfold jA;rw[decide_eq_true ff,ZI];have e:(l.drop m).take E.length=l.drop m:=ZR (by rw[Y8];omega);rw[e]
theorem CV{x:Bs}(hx:x.length<=1000000):(bg k x).length<=12/\∀ z ∈ bg k x,z.length<=1000000:=by
 by_cases hw:word k x=true
 ·exact⟨(gV hw).2,fun z hz=>YQ (Dq z hz) hx⟩
 ·unfold bg;rw[if_neg hw];exact⟨YE _,fun z hz=>by cases hz⟩
theorem tL{a:TA}(hT:iR w T a)(k:Int)(x:Bs)(hx:x.length<=1000000):
  Calls Tryz.prog 78 #[eu T a,.int .i64 k,.string (bs x)] w (nY w T k x):=by
 have h1:=aH (aI.begin w) aO (dh T a) 25;have H1:=au h1;have bu:=au (fun W (y:Bs) (hy:y.length<=1000000)=>vo k y W hy);have KL:=au (fun W=>vo k x W hx);have aq:=au (fun W (kd:Int) (y:Bs) (hy:y.length<=1000000)=>vo kd y W hy);unfold yY at KL aq;simp only[Gy] at KL aq;have KV:=au (fun W (J:Below w.heap.size w W)=>pX (hT.below J));have bx:=au hT.es;have bk:=au hT.le;have bw:=au hT.se;have ap:=au (CV (k:=k) hx);have a5:=au (fun W X (h:aI fh w X W)=>(show Below w.heap.size w W from h.bN))
 have bn:=au (show word k x=true->bC T=true->∀ W' A c,bS w fh (jS A c (eP T k x)) W'->nY w T k x (.returned (.tuple (j1 A (eP T k x).length c 0))) W' from fun hw h W' A c hp=>by
  have e:jE T k x=(eP T k x,0):=by unfold jE;rw[hw,h];rfl
  exact⟨A,c,by rw[e],by rw[e];exact hp⟩)
 have a4:=au (show(word k x&&bC T)=false->∀ W',Below w.heap.size w W'->nY w T k x (.returned (.tuple (j1 none 0 0 1))) W' from fun h W' J=>by
  have e:jE T k x=([],1):=by unfold jE;rw[h];rfl
  exact⟨none,0,by rw[e];rfl,by rw[e];exact Ez J⟩)
 have a6:=au (show word k x=true↔0<(bg k x).length from⟨fun h=>(gV h).1,fun h=>by
  by_cases hw:word k x=true
  ·exact hw
  ·unfold bg at h;rw[if_neg hw] at h;cases h⟩)
 clear hT h1 hx bu;unfold eu at *
 unfold dh at *
 generalize T.rs.length=n1 at *
 generalize T.ds.length=n2 at *
 obtain⟨n3,ar⟩:∃ n,n=T.es.length:=⟨_,rfl⟩;have be:=au ar;rw[<-ar] at H1 KV bk ⊢;clear ar;obtain⟨aA,ac,aD,ad,aE,ae⟩:=a;dsimp only at *
 obtain⟨nl,a7⟩:∃ n,n=(bg k x).length:=⟨_,rfl⟩;have F:=au a7;simp only[<-a7] at KL ap a6;have b8:=ap.o.1;clear a7
 go_enter Tryz.func78,Tryz.ntmps78
 go_upto_region 1 with (fail);generalize w.alloc (.cells (fw aA n1 ac aD n2 ad aE n3 ae T.drop T.ord T.ini) 25)=w1 at *
 generalize hg:w.heap.size=g3 at H1 ⊢;clear hg;have KA:=au (KL.o w1);clear KL;go_wp2_with fail;refine KA.o.mono ?_;rintro e9 w2 ⟨A,c,rfl,hp⟩;have H2:=au (H1.o.fresh aQ hp);clear KA hp H1;dsimp only;obtain⟨b0,b1,b2,b3,b4,b5⟩:=bZ H2.o.drop;have bi:=au (KV.o w2 (a5.o _ _ H2.o));clear KV;go_wp2_with fail;refine bi.o.mono ?_;rintro e9 w3 ⟨rfl,J⟩;have H3:=au (H2.o.below aQ J);clear bi H2 J b0 b1 b2 b3 b4 b5;dsimp only;cases hv:bC T with
 | false=>
  have HF:=au (a4.o (by rw[hv,Bool.and_false]) _ (a5.o _ _ H3.o));clear hv;go_wp2;refine bodyPost_ret (results_tmp2 rfl _ _ _) rfl ?_;exact HF.o
 | true=>
  by_cases h0:0<nl
  case neg=>
   have t0:((nl:Int)==0)=true:=by simp;omega
   have HF:=au (a4.o (by rw[Bool.eq_false_iff.2 (fun h=>h0 (a6.o.1 h)),k5]) _ (a5.o _ _ H3.o));clear h0 hv;go_wp2;refine bodyPost_ret (results_tmp2 rfl _ _ _) rfl ?_;exact HF.o
  case pos=>
   have t0:((nl:Int)==0)=false:=by simp;omega
   have ca:=au (bn.o (a6.o.2 h0) hv);clear hv a4 bn h0;have ab:=au (jm H3.o.fst.choose_spec)
   have KJ:=au (show Calls Tryz.prog 75 #[.slice A nl c] w3 (aL w3 (.string (bs (bg k x).flatten))) from by
    have:=yE (lc:=c) ab.o (by rw[<-F.o];omega) ap.o.2;rw[<-F.o] at this
    exact this)
   go_wp2_with fail;refine KJ.o.mono ?_;rintro e9 w4 ⟨rfl,J⟩;have H4:=au (H3.o.below aQ J);clear KJ H3 ab J t0;dsimp only;go_upto_region 5 with (fail);have bh:=H4.o.fresh aQ (MN (p:=⟨(bg k x).flatten,-1,0⟩));have H5:=au (show aI fh w (aj (jS (some ⟨w4.heap.size,0,none⟩) 1 (dz T k x 0)) (aj (bO A c (bg k x)) (aj (av g3 (fw aA n1 ac aD n2 ad aE n3 ae T.drop T.ord T.ini) 25) aS))) (w4.alloc (.cells (il (bs (bg k x).flatten) (-1) 0) 60)) from by rw[sU];exact bh);have e0:=au (show(1:Nat)=(dz T k x 0).length by rw[sU];rfl);clear bh H4;generalize w4.alloc (.cells (il (bs (bg k x).flatten) (-1) 0) 60)=w5 at *
   generalize (⟨w4.heap.size,0,none⟩:Addr)=a9 at *
   go_wp2_with fail;go_loopw [9,10] (fun v kk wr=>∃ (n:Nat) (A':fj) (c':Nat),kk=.int .i64 n/\n<=n3/\v=.slice A' (dz T k x n).length c'/\aI fh w (aj (jS A' c' (dz T k x n)) (aj (bO A c (bg k x)) (aj (av g3 (fw aA n1 ac aD n2 ad aE n3 ae T.drop T.ord T.ini) 25) aS))) wr) (fun _ kk _=>n3-(intOf kk).toNat)
   case atStart=>exact⟨0,_,1,rfl,YE _,by rw[<-e0.o],H5.o⟩
   case round=>
    clear H5 e0;obtain⟨n,A',c',rfl,hn,rfl,hR⟩:=hrel;have HR:=au hR;clear hR;obtain⟨b0,b1,b2,b3,b4,b5⟩:=bZ HR.o.drop.drop;by_cases ak:n<n3
    ·have an:n<T.es.length:=by rw[<-be.o];exact ak
     obtain⟨b,o,rfl,bc⟩:=jV.at bx.o ff;have bd:=au (fun V (J:Below w.heap.size w V)=>bc V J n an);have cg:(n:Int)<1000000:=by have:=bk.o;omega
     have cc:(n:Int)<(n3:Int):=by omega
     have aa:=au (show n+1<=n3 from ak);have a2:=au (bw.o _ (YL an));have M:=au (Dn (T:=T) (k:=k) (x:=x) an);have bz:=au (Iw (T:=T) (k:=k) (x:=x) (n:=n));clear bc hn;generalize T.es[n]=d at *
     clear an;obtain⟨dk,dw,dc⟩:=d;dsimp only at bd a2;have H6:=au (HR.o.drew aQ)
     have ai:=au (fun V (h:aI fh w (aj (jS A' c' (dz T k x n)) (aj (bO A c (bg k x)) (aj (av g3 (fw aA n1 ac aD n2 ad (some ⟨b,o,none⟩) n3 ae T.drop T.ord T.ini) 25) aS))) V)=>(show V.cell? ⟨g3,2,none⟩=some (.slice (some ⟨b,o,none⟩) n3 ae)/\V.cell? ⟨b,o+n*3,none⟩=some (.int .i64 dk)/\V.cell? ⟨b,o+n*3+1,none⟩=some (.string (bs dw))/\V.cell? ⟨b,o+n*3+2,none⟩=some (.int .i64 dc) from by
      obtain⟨d0,d1,d2⟩:=bd.o V h.bN;obtain⟨-,-,b2,-⟩:=bZ h.drop.drop
      exact⟨b2,d0,d1,d2⟩))
     have ba:=ai.o wr.drew H6.o;have KD:=au (aq.o wr.drew dk dw a2.o);go_upto_region 8 with (fail);clear HR b0 b1 b2 b3 b4 b5;refine aK (fun w'=>w'.cell? ⟨g3,2,none⟩=some (.slice (some ⟨b,o,none⟩) n3 ae)/\w'.cell? ⟨b,o+n*3,none⟩=some (.int .i64 dk)/\w'.cell? ⟨b,o+n*3+1,none⟩=some (.string (bs dw))/\w'.cell? ⟨b,o+n*3+2,none⟩=some (.int .i64 dc)) fi fi ba ?_;clear ba;generalize wr.drew=w6 at *
     (repeat(first|refine aW ?_|refine aX ?_))
     refine bY rfl ft (fun K hK=>?_);go_wp2_with fail;refine KD.o.mono ?_;rintro e9 w8 ⟨A2,c2,rfl,hp⟩;have H8:=au (H6.o.fresh aQ hp);refine hK.o _ _ (ai.o _ H8.o.drop) ?_;clear hK KD H6 hp
     (repeat(first|refine aW ?_|refine aX ?_))
     refine lex_nil ?_;obtain⟨ne,ao⟩:∃ n,n=(bg dk dw).length:=⟨_,rfl⟩;have af:=au ao;rw[<-ao];have cd:ne<=12:=by rw[ao];exact(CV a2.o).1
     clear ao;have b6:=ai.o _ H8.o.drop;obtain⟨b2,d0,d1,d2⟩:=b6;by_cases I:dk=k
     ·have k1:(dk==k)=true:=by simp[I]
      by_cases am:ne<nl
      ·obtain⟨m,hm⟩:∃ m,m+ne=nl:=⟨nl-ne,by omega⟩;have HM:=au hm;have t2:decide (ne<nl)=true:=decide_eq_true am;have ax:0<m:=by omega
       have tw:wrap64 ((nl:Int)-(ne:Int))=(m:Int):=by rw[Zr _ ff];omega
       have te:(nl:Int)-(ne:Int)=(m:Int):=by omega
       have ab:=au (jm H8.o.drop.drop.fst.choose_spec);have br:=au (jm H8.o.fst.choose_spec)
       have KE:=au (show Calls Tryz.prog 112 #[.slice A nl c,.int .i64 (m:Int),.slice A2 ne c2] w8 (aL w8 (.bool (decide ((bg k x).drop m=bg dk dw)))) from by
        have:=Ux (lc:=c) (gc:=c2) (i:=m) ab.o br.o (by rw[<-F.o];omega) (by rw[<-F.o];omega) (by rw[<-af.o];omega);rw[Oh (by rw[<-F.o,<-af.o];exact hm),<-F.o,<-af.o] at this
        exact this)
       clear hm am;go_wp2_with fail;refine KE.o.mono ?_;rintro e9 w9 ⟨rfl,J⟩;have H9:=au (H8.o.below aQ J);clear KE H8 J b2 d0 d1 d2 ab br tw te t2;dsimp only;by_cases ag:(bg k x).drop m=bg dk dw
       ·rw[decide_eq_true ag]
        have q:=au (show dz T k x (n+1)=dz T k x n++[⟨((bg k x).take m).flatten,n,dc⟩] from by
         subst I;have e:=MO (k:=dk) (l:=bg dk x) (d:=⟨dk,dw,dc⟩) (n:=n) (m:=m) rfl (by have:=HM.o;have:=F.o;have:=af.o;dsimp only;omega) ax ag
         rw[M.o,e])
        have aw:m<=nl:=by have:=HM.o;omega
        have bb:=au aw;have bo:m<=c:=YQ aw (by rw[F.o];exact(zh H9.o.drop.drop.fst.choose_spec.1).1);have ab:=au (jm H9.o.drop.drop.fst.choose_spec)
        have bm:=au (fun W (J:Below w9.heap.size w9 W)=>(show Calls Tryz.prog 75 #[.slice A m c] W (aL W (.string (bs ((bg k x).take m).flatten))) from by
         have ak:((bg k x).take m).length=m:=by rw[YU,<-F.o];have:=bb.o;omega
         have:=yE (lc:=c) (zY m (aT ab.o J)) (by rw[ak];have:=bb.o;omega) (fun z hz=>ap.o.2 z (ZC hz));rw[ak] at this
         exact this))
        have bp:∀ W',(Instr.slice 26 (.slice A nl c) none (some (.int .i64 (m:Int))) none).run Tryz.prog W'=.ok (.slice A m c) W':=fun W'=>vJ wK A nl c m .i64 (m:Int) rfl bo W';have a3:=au (H9.o.drew aQ);have b7:(dz T k x n).length<=1000000:=by have:=bz.o;omega
        have a8:=au (bm.o _ ((YC w9.heap.size w9).drew));have bv:IntKind.i64.wrap ((nl:Int)-(ne:Int))=(m:Int):=by rw[YZ _ ff];have:=HM.o;omega
        have b9:=ai.o _ a3.o.drop;clear ag M I k1 ax bm aw ab bo;obtain⟨b2,d0,d1,d2⟩:=b9;go_upto_region 10 with (fail);refine nQ [8,17,18] [2,0,0,0,0,0,0,0,1,1,1,1,1,1,1,1,1,2,3,3] (fun w'=>w'.cell? ⟨g3,2,none⟩=some (.slice (some ⟨b,o,none⟩) n3 ae)/\w'.cell? ⟨b,o+n*3+2,none⟩=some (.int .i64 dc)) [fun w'=>w'.cell? ⟨g3,2,none⟩=some (.slice (some ⟨b,o,none⟩) n3 ae)/\w'.cell? ⟨b,o+n*3+2,none⟩=some (.int .i64 dc),fun _=>True,fun _=>True] ⟨fun _ h=>h,fun _ _=>trivial,fun _ _=>trivial,trivial⟩ rfl fi fi fi (by exact⟨b2,d2⟩) ?_;clear b2 d0 d1 d2 H9;generalize World.drew _=ch at *
        (repeat(first|refine kE ?_|refine kF ?_))
        refine eD rfl ft (fun K hK=>?_);go_wp2_with fail;refine a8.o.mono ?_;rintro e9 bf ⟨rfl,J⟩;have a0:=au (a3.o.below aQ J);clear a8 a3 J bp;dsimp only;obtain⟨b2,-,-,d2⟩:=ai.o _ a0.o.drop;refine hK.o _ _ (by exact⟨b2,d2⟩) ?_;clear hK
        (repeat(first|refine kE ?_|refine kF ?_))
        refine eD rfl ft (fun K hK=>?_);go_wp2_with fail;have az:=au (aH a0.o aQ (il (bs ((bg k x).take m).flatten) (n:Int) dc) 60);clear a0 b2 d2;generalize bf.alloc (.cells (il (bs ((bg k x).take m).flatten) (n:Int) dc) 60)=ce at *
        generalize bf.heap.size=gN at *
        refine hK.o _ _ trivial ?_;clear hK
        (repeat(first|refine kE ?_|refine kF ?_))
        refine eD rfl ft (fun K hK=>?_);obtain⟨p0,p1,p2⟩:=dZ az.o
        refine sS VU fW (.tmp 72) (.tmp 89) rfl (A:=A') (c:=c') (n:=(dz T k x n).length) (g:=gN) (xs:=(dz T k x n).flatMap gZ) (cs:=gZ ⟨((bg k x).take m).flatten,n,dc⟩) rfl rfl b7 (ay aC (ay fq aQ)) (az.o.perm (by unfold jS;ac_rfl:_=aj (aZ 60 3 (.slice A' (dz T k x n).length c') (dz T k x n).length ((dz T k x n).flatMap gZ)) (aj (av gN (il (bs ((bg k x).take m).flatten) (n:Int) dc) 60) (aj (bO A2 c2 (bg dk dw)) (aj (bO A c (bg k x)) (aj (av g3 (fw aA n1 ac aD n2 ad (some ⟨b,o,none⟩) n3 ae T.drop T.ord T.ini) 25) aS)))))) rfl (fun u hu=>uJ [⟨((bg k x).take m).flatten,n,dc⟩] u (by simpa[gZ] using hu)) (fun j u hu=>by
         unfold gZ at hu
         match j,hu with
         | 0,hu=>simp at hu;subst hu;exact p0
         | 1,hu=>simp at hu;subst hu;exact p1
         | 2,hu=>simp at hu;subst hu;exact p2
         | j+3,hu=>simp at hu) ?_
        intro A9 c9 cf al;rw[Ir rfl] at al;have cb:=au al;clear al az p0 p1 p2;refine hK.o _ _ trivial ?_;clear hK
        (repeat(first|refine kE ?_|refine kF ?_))
        refine rZ ?_;have bj:(dz T k x n).length+1=(dz T k x (n+1)).length:=by rw[q.o,Yz];rfl
        rw[bj];clear bj bv;go_wp2_with fail
        go_roundw
        case rel=>exact⟨n+1,A9,c9,by go_num,aa.o,rfl,by rw[q.o];exact(cb.o.perm (by ac_rfl:_=aj (av gN (il (bs ((bg k x).take m).flatten) (n:Int) dc) 60) (aj (bO A2 c2 (bg dk dw)) (aj (jS A9 c9 (dz T k x n++[⟨((bg k x).take m).flatten,n,dc⟩])) (aj (bO A c (bg k x)) (aj (av g3 (fw aA n1 ac aD n2 ad (some ⟨b,o,none⟩) n3 ae T.drop T.ord T.ini) 25) aS)))))).drop.drop⟩
        case measure=>have:=aa.o;simp[intOf];omega
       ·rw[decide_eq_false ag]
        have q:=au (show dz T k x (n+1)=dz T k x n from by
         subst I
         rw[M.o,MR (by have:=HM.o;have:=F.o;have:=af.o;dsimp only;omega) ag,Y2])
        clear ag M I k1 ax;obtain⟨b2,d0,d1,d2⟩:=ai.o _ H9.o.drop;go_wp2_with fail
        go_roundw
        case rel=>exact⟨n+1,A',c',by go_num,aa.o,by rw[q.o],by rw[q.o];exact H9.o.drop⟩
        case measure=>have:=aa.o;simp[intOf];omega
      ·have t2:decide (ne<nl)=false:=decide_eq_false am
       have q:=au (show dz T k x (n+1)=dz T k x n from by
        subst I
        rw[M.o,MQ (by have:=F.o;have:=af.o;dsimp only;omega),Y2])
       clear M am I;go_wp2_with fail
       go_roundw
       case rel=>exact⟨n+1,A',c',by go_num,aa.o,by rw[q.o],by rw[q.o];exact H8.o.drop⟩
       case measure=>have:=aa.o;simp[intOf];omega
     ·have k1:(dk==k)=false:=by simp[I]
      have q:=au (show dz T k x (n+1)=dz T k x n from by
       rw[M.o,MP I,Y2])
      clear I M;go_wp2_with fail
      go_roundw
      case rel=>exact⟨n+1,A',c',by go_num,aa.o,by rw[q.o],by rw[q.o];exact H8.o.drop⟩
      case measure=>have:=aa.o;simp[intOf];omega
    ·have a1:=Iu (T:=T) (k:=k) (x:=x) (n:=n) (by have:=be.o;omega);have HF:=au (ca.o wr A' c' (by rw[<-a1];exact(HR.o.perm (by ac_rfl:_=aj (aj (bO A c (bg k x)) (aj (av g3 (fw aA n1 ac aD n2 ad aE n3 ae T.drop T.ord T.ini) 25) aS)) (jS A' c' (dz T k x n)))).drop.post rM));rw[a1];clear a1 HR;generalize (eP T k x).length=nv at *
     go_wp2;refine bodyPost_ret (results_tmp2 rfl _ _ _) rfl ?_;exact HF.o
end Go.Proofs.YtbnnlpjpnihheaaGreatDoor
namespace Go.CH.Mtc
open Go.CH.Scr Go.CH.eG
section
variable{T:fy}{k k2:Int}{us vs:List Vr}{i j:Nat}
def GA(T:fy)(k k2:Int)(u:Vr)(vs:List Vr):List Pr:=vs.filterMap fun v=>nA T k k2 (uD u v)
def jK(T:fy)(k k2:Int)(us vs:List Vr)(i j:Nat):List Pr:=(us.take i).flatMap (fun u=>GA T k k2 u vs)++(us[i]?.toList.flatMap fun u=>GA T k k2 u (vs.take j))
theorem Oi:jK T k k2 us vs 0 0=[]:=by
 unfold jK GA;cases us[0]?<;>simp
theorem QV(hi:i<us.length):jK T k k2 us vs i vs.length=jK T k k2 us vs (i+1) 0:=by
 unfold jK;rw[YD hi,ZY,YH hi,YO];have e:(us[i+1]?.toList.flatMap fun u=>GA T k k2 u (vs.take 0))=[]:=by
  unfold GA;cases us[i+1]?<;>simp
 rw[e,Y2]
 try simp
theorem Oj(hi:i<us.length)(hj:j<vs.length):jK T k k2 us vs i (j+1)=jK T k k2 us vs i j++(nA T k k2 (uD us[i] vs[j])).toList:=by
 unfold jK;rw[YH hi];simp only[Option.toList_some,Zm,sC,Y2,Y3];congr 1;unfold GA;rw[YD hj,Zh];congr 1
theorem QW:jK T k k2 us vs us.length 0=(oJ us vs).filterMap (nA T k k2):=by
 unfold jK oJ GA;rw[YO,Z6 (YG _)];simp only[Option.toList_none,sC,Y2,List.filterMap_flatMap,List.filterMap_map];rfl
end
variable{T:fy}{k k2:Int}{i:Nat}{y:Bs}
theorem vF{us vs:List Vr}{j:Nat}:(jK T k k2 us vs i j).length<=(i+1)*vs.length:=by
 unfold jK GA;rw[Yz,jz];refine Nat.add_le_add ?_ ?_
 ·have:∀ l:List Vr,(l.flatMap fun u=>vs.filterMap fun v=>nA T k k2 (uD u v)).length<=l.length*vs.length:=fun l=>by
   induction l with
   | nil=>simp
   | cons u l ih=>
    rw[Zm,Yz,YR,jz];have:=ZJ (fun v=>nA T k k2 (uD u v)) vs;omega
  exact YQ (this _) (pN _ (by rw[YU];omega))
 ·cases us[i]? with
  | none=>simp
  | some u=>
   simp only[Option.toList_some,Zm,sC,Y2];exact YQ (ZJ _ _) (by rw[YU];omega)
def nV(T:fy)(k k2 kd:Int)(p q:List Bs)(f:Bool):List Pr:=if f then(nA T k k2 (iH kd T.ini p q)).toList else []
theorem Aw{kd:Int}{p q:List Bs}{f:Bool}:(nV T k k2 kd p q f).length<=1:=by
 unfold nV;split
 ·cases nA T k k2 (iH kd T.ini p q)<;>simp
 ·simp
theorem CQ{x:Bs}:jc T k x k2 y=(jK T k k2 (eP T k x) (eP T k2 y) (eP T k x).length 0++nV T k k2 2 (bg k x) (bg k2 y) (decide ((bg k x).length=1)))++nV T k k2 3 (bg k x) (bg k2 y) (decide ((bg k2 y).length=1)):=by
 unfold jc gJ gy nV;rw[QW,Zh,Zh,Y3];congr 2
 ·by_cases h:(bg k x).length=1
  ·rw[if_pos h,decide_eq_true h,if_pos rfl];cases p:nA T k k2 (iH 2 T.ini (bg k x) (bg k2 y))<;>simp[p]
  ·rw[if_neg h,decide_eq_false h];rfl
 ·by_cases h:(bg k2 y).length=1
  ·rw[if_pos h,decide_eq_true h,if_pos rfl];cases p:nA T k k2 (iH 3 T.ini (bg k x) (bg k2 y))<;>simp[p]
  ·rw[if_neg h,decide_eq_false h];rfl
end Go.CH.Mtc
namespace Go.Proofs.YtbnnlpjpnihheaaGreatDoor
open Go.RowKit Go.CH Go.CH.Scr Go.CH.eG Go.CH.Mtc
open Go.ChangeMaps (setBlock)
section
variable{α:Type}(a b:α)(l:List α)(n:Nat)
theorem yj(h:n<l.toArray.size):l.toArray[n]'h=l[n]'(by simpa using h):=YM h
theorem ij(h:n+1<(a::l).length):(a::l)[n+1]'h=l[n]'(by simpa using h):=YJ ..
theorem ik(h:0<(a::l).length):(a::l)[0]'h=a:=YK ..
theorem yu:l.toArray.setIfInBounds n a=(l.set n a).toArray:=Yy ..
theorem yw:(a::l).set 0 b=b::l:=YA ..
theorem yC:(a::l).set (n+1) b=a::l.set n b:=YB ..
end
variable{ops:Array Oper}{Q:Exit->Act->World->Prop}{S:World->Prop}{fuel2 c n:Nat}{a:Act}{w:World}{v:Value}{A:fj}{l:List Bs}{T:fy}{k k2:Int}{y:Bs}
theorem Ec{P:Program}{h:Nat}{ls ls2:Array Bool}(I:Act->World->Act->Prop)(q:∀ W' p,I a W' p->wpAnyH P .any ops Q S fuel2 ls2 p W')(z:(∀ W' p,I a W' p->wpAnyH P .any ops Q S fuel2 ls2 p W')->wpAnyH P .any ops Q S h ls a w):wpAnyH P .any ops Q S h ls a w:=z q
theorem lC{q:Nat}{p:Array Bool}{b:Act}{z:Oper}(i:Nat)(F:S w)(h:wpAnyH Tryz.prog .any ops Q S q (p.setIfInBounds i true) b w)(hi:ops[i]?=some z:=by rfl)(hs:Region.noSelect ops=true:=by kernel_rfl)(hf:Region.free .any ops p i=true:=by kernel_rfl)(hr:(Region.ready .any ops p).contains i=true:=by kernel_rfl)(hQ:∀ c a w,Q (.panic c) (a.put z.dst v) w->Q (.panic c) a w:=by exact fun _ _ _ h=>h)(hw:Region.wanted z (yielded ops a.tmps)=true:=by rfl)(hv:∀ w',S w'->(execOp a.eval z).run Tryz.prog w'=.ok (.value v) w':=by(intro w' I;go_simp;(try with_reducible rfl);done))(hb:a.put z.dst v=b:=by(first|(simp only[Act.put,yj,ij,ik,yu,yw,yC];done)|(simp only[Act.put,yj,ij,ik,yu,yw,yC];rfl)|rfl)):wpAnyH Tryz.prog .any ops Q S (q+1) p a w:=wpAnyH_take hi hs hf hr hQ (.inl ⟨hw,hv⟩) F (hb ▸ h)
def jh(A:fj)(c:Nat)(l:List (Pr × PA)):CH.bq:=aj (o7 A c l) (aR (l.map nC))
theorem uE{l:List (Pr × PA)}:(jh A c l).Ok:=ay Bo Es
instance {A:fj} {c:Nat} {l:List (Pr × PA)}:(jh A c l).Ok:=uE
theorem Us(w:World):jh none 0 [] w fh:=⟨fun _=>False,fun _=>False,fZ w 44 10,fun _ h=>h,fun _ h=>h.elim,fun i=>by simp⟩
section
variable{F0:Nat→Prop}{w0 W:World}{Y:CH.bq}
theorem Ay{l:List (Pr × PA)}{e:Pr × PA}(hn:l.length=n)(h:aI F0 w0 (aj (aZ 44 10 (.slice A (n+1) c) (n+1) (l.flatMap mY++mY e)) (aj (aR (l.map nC)) (aj (nC e) Y))) W):aI F0 w0 (aj (jh A c (l++[e])) Y) W:=by
 subst hn
 have q:aI F0 w0 (aj (aj (nC e) (aR (l.map nC))) (aj (o7 A c (l++[e])) Y)) W:=h.perm (by
  unfold o7;rw[ZY,Yz,Y1,ZT]
  ac_rfl)
 have p:aI F0 w0 (aj (aR ((l++[e]).map nC)) (aj (o7 A c (l++[e])) Y)) W:=q.imp fun w F z=>bK z (fun F h=>by rw[YS];exact Bf h) (fun _ h=>h);exact p.perm (by unfold jh;ac_rfl)
theorem Ed(p:0<l.length)(h:aI F0 w0 (aj (bO A c l) Y) W):∃ b o,A=some ⟨b,o,none⟩/\W.cell? ⟨b,o,none⟩=some (.string (bs (gC l))):=by
 obtain⟨F,I⟩:=h.fst;obtain⟨b,o,e,z⟩:=fM.at (jm I) p;have q:=z W (YC _ _) 0 p;refine⟨b,o,e,?_⟩;rw[ZM] at q;rw[q];cases l with
 | nil=>cases p
 | cons a l=>rfl
end
def Gt(w:World)(T:fy)(k:Int)(x:Bs)(k2:Int)(y:Bs)(e:Ending)(w':World):Prop:=
 ∃ A c l,e=.returned (.slice A l.length c)/\l.map (·.1)=jc T k x k2 y/\bS w fh (jh A c l) w'
theorem N7{a:TA}(hT:iR w T a){x:Bs}(ck:okW T k x k2 y=true)(hx:x.length<=1000000)(hy:y.length<=1000000):
  Calls Tryz.prog 45 #[eu T a,.int .i64 k,.string (bs x),.int .i64 k2,.string (bs y)] w (Gt w T k x k2 y):=by
 obtain⟨cb,cc,an⟩:=gI.1 ck;have h1:=aH (aI.begin w) aO (dh T a) 25;have H1:=au h1;have KX:=au (fun W (hb:Below w.heap.size w W)=>tL (hT.below hb) k x hx);have KY:=au (fun W (hb:Below w.heap.size w W)=>tL (hT.below hb) k2 y hy);have EX:jE T k x=(eP T k x,0):=by unfold jE;rw[cb,an];rfl
 have EY:jE T k2 y=(eP T k2 y,0):=by unfold jE;rw[cc,an];rfl
 unfold nY at KX KY;simp only[EX,EY] at KX KY;clear EX EY;have KP:=au (fun W=>iM k x W hx);have KQ:=au (fun W=>iM k2 y W hy);unfold mR at KP KQ;simp only[Gy] at KP KQ;have KB:=au (fun W (hb:Below w.heap.size w W) (u v:Bs) (hu:u.length<=x.length) (hv:v.length<=y.length)=>Og (hT.below hb) k u k2 v (YQ hu hx) (YQ hv hy));have bz:=au (fun W X (h:aI fh w X W)=>(show Below w.heap.size w W from h.bN));have bv:=au (gV cb);have bx:=au (gV cc);have cR:=au (fun z (hz:z ∈ eP T k x)=>(show(0<=z.c/\z.c<=1000)/\z.w.length<=x.length from⟨kZ an hz,zm hz⟩));have cG:=au (fun z (hz:z ∈ eP T k2 y)=>(show(0<=z.c/\z.c<=1000)/\z.w.length<=y.length from⟨kZ an hz,zm hz⟩));have br:=au (lq (k:=k) (x:=x) an);have bp:=au (lq (k:=k2) (x:=y) an);have cm:=au (show 0<=T.ini/\T.ini<=1000 from by have h1:=eY.1 (eU.1 an).1.2.2.2.2;omega);have cq:=au (fun W A c (l:List (Pr × PA)) (h:l.map (·.1)=jc T k x k2 y) (hp:bS w fh (jh A c l) W)=>(show Gt w T k x k2 y (.returned (.slice A l.length c)) W from⟨A,c,l,rfl,h,hp⟩));have ce:=au (CQ (T:=T) (k:=k) (k2:=k2) (x:=x) (y:=y));have a4:=au (show(gC (bg k x)).length<=x.length/\(gC (bg k2 y)).length<=y.length from⟨sV,sV⟩);clear hT ck hx hy cb cc an h1;generalize bg k x=p at *
 generalize bg k2 y=q at *
 generalize eP T k x=us at *
 generalize eP T k2 y=vs at *
 unfold eu at *
 unfold dh at *
 generalize T.rs.length=n1 at *
 generalize T.ds.length=n2 at *
 generalize T.es.length=n3 at *
 obtain⟨nu,cf⟩:∃ n,n=us.length:=⟨_,rfl⟩;obtain⟨nv,b9⟩:∃ n,n=vs.length:=⟨_,rfl⟩;obtain⟨np,ca⟩:∃ n,n=p.length:=⟨_,rfl⟩;obtain⟨nq,b7⟩:∃ n,n=q.length:=⟨_,rfl⟩;have HU:=au cf;have HV:=au b9;have HP:=au ca;have HQ:=au b7;rw[<-cf] at KX br;rw[<-b9] at KY bp;rw[<-ca] at KP bv;rw[<-b7] at KQ bx;clear cf b9 ca b7;obtain⟨aA,ac,aD,ad,aE,ae⟩:=a;dsimp only at *
 go_enter Tryz.func45,Tryz.ntmps45
 go_upto_region 1 with (fail);generalize w.alloc (.cells (fw aA n1 ac aD n2 ad aE n3 ae T.drop T.ord T.ini) 25)=w1 at *
 generalize hg:w.heap.size=g5 at H1 ⊢;clear hg;obtain⟨t0,t1,t2,t3,t4,t5⟩:=bZ H1.o;have cw:=au (KX.o w1 (bz.o _ _ H1.o));clear KX;go_wp2_with fail;refine cw.o.mono ?_;rintro e9 w2 ⟨A1,c1,rfl,hp⟩;have H2:=au (H1.o.fresh aQ hp);clear cw H1 hp t0 t1 t2 t3 t4 t5;dsimp only;obtain⟨t0,t1,t2,t3,t4,t5⟩:=bZ H2.o.drop;have cr:=au (KY.o w2 (bz.o _ _ H2.o));clear KY;go_wp2_with fail;refine cr.o.mono ?_;rintro e9 w3 ⟨A2,c2,rfl,hp⟩;have H3:=au (H2.o.fresh (ay rM aQ) hp);clear cr H2 hp t0 t1 t2 t3 t4 t5;dsimp only;have cd:=au (bz.o _ _ H3.o);have cH:=au (Kg H3.o.fst.choose_spec);have cP:=au (Kg H3.o.drop.fst.choose_spec);have bo:=au (fun V (hb:Below w3.heap.size w3 V)=>(bZ (H3.o.below (ay rM (ay rM aQ)) hb).drop.drop));have cv:=au (fun V (hb:Below w3.heap.size w3 V)=>aG cd.o hb);clear H3 bz;have ba:=au (fun V (hb:Below w3.heap.size w3 V)=>KB.o V (cv.o V hb));have bm:=au (fun W A c (l:List (Pr × PA)) (h:l.map (·.1)=jc T k x k2 y) (hp:bS w3 fh (jh A c l) W)=>cq.o W A c l h (mQ cd.o hp uE));clear KB cq cd cv;have ar:=au ((aI.begin w3).fresh aO (⟨fun _=>False,Us w3,Mod.refl _ _,fun i hi=>.inl hi⟩:bS w3 fh (jh none 0 []) w3));have b3:(([]:List (Pr × PA)).map (·.1))=jK T k k2 us vs 0 0:=by rw[Oi];rfl
 have b3:=au b3;go_wp2_with fail;go_loopw [11,16] (fun v kk wr=>∃ (i:Nat) (A:fj) (c:Nat) (l:List (Pr × PA)),kk=.int .i64 i/\i<=nu/\v=.slice A l.length c/\Hid (l.map (·.1)=jK T k k2 us vs i 0/\aI fh w3 (aj (jh A c l) aS) wr)) (fun _ kk _=>nu-(intOf kk).toNat)
 case atStart=>exact⟨0,none,0,[],rfl,YE _,rfl,au ⟨b3.o,ar.o⟩⟩
 case round=>
  clear ar b3;obtain⟨i,A,c,l,rfl,hi,rfl,hH⟩:=hrel;by_cases az:i<nu
  case pos=>
   have a6:i<us.length:=by rw[<-HU.o];exact az
   obtain⟨b1,o1,rfl,b6⟩:=tH.at (R:=gZ) (fun _=>rfl) fW cP.o ff;have co:=au (fun V (hb:Below w3.heap.size w3 V)=>(show V.cell? ⟨b1,o1+i*3,none⟩=some (.string (bs us[i].w))/\V.cell? ⟨b1,o1+i*3+1,none⟩=some (.int .i64 us[i].e)/\V.cell? ⟨b1,o1+i*3+2,none⟩=some (.int .i64 us[i].c) from⟨b6 V hb i a6 0 _ rfl,b6 V hb i a6 1 _ rfl,b6 V hb i a6 2 _ rfl⟩));have b8:=au (cR.o _ (YL a6));have cA:=au (fun (j:Nat) (hj:j<vs.length)=>Oj (T:=T) (k:=k) (k2:=k2) a6 hj);have cJ:=au (QV (T:=T) (k:=k) (k2:=k2) (vs:=vs) a6);generalize us[i]=u at *
   clear b6 a6;have cE:(i:Int)<(nu:Int):=by omega
   have bn:(i:Int)<1000000:=by have:=br.o;omega
   have cj:=au (show i+1<=nu from az);have cL:=au az;clear az hi;go_wp2_with fail;go_loopw [11,17] (fun v kk wr=>∃ (j:Nat) (A:fj) (c:Nat) (l:List (Pr × PA)),kk=.int .i64 j/\j<=nv/\v=.slice A l.length c/\Hid (l.map (·.1)=jK T k k2 us vs i j/\aI fh w3 (aj (jh A c l) aS) wr)) (fun _ kk _=>nv-(intOf kk).toNat)
   case atStart=>exact⟨0,A,c,l,rfl,YE _,rfl,hH⟩
   case round=>
    clear hH;obtain⟨j,A,c,l,rfl,hj,rfl,hH⟩:=hrel;by_cases az:j<nv
    case pos=>
     have bb:j<vs.length:=by rw[<-HV.o];exact az
     obtain⟨b2,o2,rfl,bw⟩:=tH.at (R:=gZ) (fun _=>rfl) fW cH.o ff;have cz:=au (fun V (hb:Below w3.heap.size w3 V)=>(show V.cell? ⟨b2,o2+j*3,none⟩=some (.string (bs vs[j].w))/\V.cell? ⟨b2,o2+j*3+1,none⟩=some (.int .i64 vs[j].e)/\V.cell? ⟨b2,o2+j*3+2,none⟩=some (.int .i64 vs[j].c) from⟨bw V hb j bb 0 _ rfl,bw V hb j bb 1 _ rfl,bw V hb j bb 2 _ rfl⟩));have cg:=au (cG.o _ (YL bb));have bu:=au (cA.o j bb)
     have a1:=au (show l.length<=1764 from by
      have h:=hH.o.1;have h2:=vF (T:=T) (k:=k) (k2:=k2) (us:=us) (vs:=vs) (i:=i) (j:=j);have h3:l.length=(jK T k k2 us vs i j).length:=by rw[<-h,YI]
      rw[h3]
      refine YQ h2 (YQ (oA (show i+1<=42 from by have:=br.o;have:=cL.o;omega) (show vs.length<=42 from by rw[<-HV.o];exact nF bp.o)) fW))
     generalize vs[j]=v at *
     clear bw bb;have cC:(j:Int)<(nv:Int):=by omega
     have cT:(j:Int)<1000000:=by have:=bp.o;omega
     have b0:=au (show j+1<=nv from az);have am:=au hH.o.1;have HR:=au hH.o.2;clear az hj hH
     have bj:=au (fun V (hb:Below w3.heap.size w3 V)=>(show V.cell? ⟨g5,0,none⟩=some (.slice aA n1 ac)/\V.cell? ⟨g5,1,none⟩=some (.slice aD n2 ad)/\V.cell? ⟨g5,2,none⟩=some (.slice aE n3 ae)/\V.cell? ⟨g5,3,none⟩=some (.int .i64 T.drop)/\V.cell? ⟨g5,4,none⟩=some (.int .i64 T.ord)/\V.cell? ⟨g5,5,none⟩=some (.int .i64 T.ini)/\V.cell? ⟨b1,o1+i*3,none⟩=some (.string (bs u.w))/\V.cell? ⟨b2,o2+j*3,none⟩=some (.string (bs v.w)) from by
      obtain⟨t0,t1,t2,t3,t4,t5⟩:=bo.o V hb
      exact⟨t0,t1,t2,t3,t4,t5,(co.o V hb).1,(cz.o V hb).1⟩))
     go_wp2_with fail;go_upto_region 10 with (fail);obtain⟨C,hC⟩:∃ C:World->Prop,C=fun w'=>w'.cell? ⟨g5,0,none⟩=some (.slice aA n1 ac)/\w'.cell? ⟨g5,1,none⟩=some (.slice aD n2 ad)/\w'.cell? ⟨g5,2,none⟩=some (.slice aE n3 ae)/\w'.cell? ⟨g5,3,none⟩=some (.int .i64 T.drop)/\w'.cell? ⟨g5,4,none⟩=some (.int .i64 T.ord)/\w'.cell? ⟨g5,5,none⟩=some (.int .i64 T.ini)/\w'.cell? ⟨b1,o1+i*3,none⟩=some (.string (bs u.w))/\w'.cell? ⟨b2,o2+j*3,none⟩=some (.string (bs v.w)):=⟨_,rfl⟩
     have ab:=au (fun V (h:Below w3.heap.size w3 V)=>(show C V from by
      rw[hC]
      exact bj.o V h))
     have al:=au (HR.o.drew aQ);have I:=ab.o _ al.o.bN;refine wp_region_held (S:=C) fi (show wpAnyH _ _ _ _ _ _ _ _ wr.drew from ?_);generalize wr.drew=V0 at *
     subst hC;refine lC 0 I ?_;refine lC 1 I ?_;refine lC 2 I ?_;refine lC 3 I ?_;refine lC 4 I ?_;refine lC 5 I ?_;refine lC 6 I ?_;refine lC 7 I ?_;refine lC 8 I ?_;refine lC 9 I ?_;refine lC 10 I ?_;refine lC 11 I ?_;refine lC 12 I ?_;clear I;refine Ec (fuel2:=2) (ls2:=#[true,true,true,true,true,true,true,true,true,true,true,true,true,true,true,true,true,true,false,false]) (fun a0 W' a'=>∃ (d:Dv) (er:Int) (dA:fj) (dac:Nat) (dB:fj) (dbc:Nat) (g:Nat),a'=(((((a0.put (some 68) (.tuple #[.agg (fY d.c dA d.L.length dac dB d.M.length dbc (bs d.F)),.int .i64 er])).put (some 54) (.tuple #[.agg (fY d.c dA d.L.length dac dB d.M.length dbc (bs d.F)),.int .i64 er])).put (some 69) (.agg (fY d.c dA d.L.length dac dB d.M.length dbc (bs d.F)))).put (some 70) (.int .i64 er)).put (some 18) (.pointer (some ⟨g,0,none⟩)))/\Hid (qm T k u.w k2 v.w d er/\aI fh w3 (aj (av g (fY 0 none 0 0 none 0 0 ⟨#[]⟩) 42) (aj (iP dA dac dB dbc d) (aj (jh A c l) aS))) W')) ?_ (fun ao=>?_);rotate_left;refine wpAnyH_all (rs:=[13,17]) fi fW (fun i hi=>?_);simp only[YV,YT,or_false] at hi;rcases hi with rfl|rfl
     ·refine bA rfl rfl ?_;go_wp2_with fail;refine(ba.o V0 al.o.bN u.w v.w b8.o.2 cg.o.2).mono ?_;rintro e9 V2 ⟨d,er,dA,dac,dB,dbc,rfl,J,hp⟩;have ak:=au (show aI fh w3 (aj (iP dA dac dB dbc d) (aj (jh A c l) aS)) V2 from al.o.fresh aQ hp);have aa:=au J;clear J hp
      try simp only[Act.put,yj,ij,ik,yu,yw,yC]
      have I:=ab.o _ ak.o.bN;refine⟨I,?_⟩;refine lC 14 I ?_;refine lC 15 I ?_;refine lC 16 I ?_;clear I;refine wpAnyH_all (rs:=[17]) fi fW (fun i hi=>?_);simp only[YV,YT,or_false] at hi;subst hi;refine bA rfl rfl ?_;go_wp2_with fail;have ar:=au (aH ak.o aQ (fY 0 none 0 0 none 0 0 ⟨#[]⟩) 42)
      try simp only[Act.put,yj,ij,ik,yu,yw,yC]
      refine⟨ab.o _ ar.o.bN,?_⟩;refine ao _ _ ⟨d,er,dA,dac,dB,dbc,V2.heap.size,?_,au ⟨aa.o,ar.o⟩⟩;simp only[Act.put,yj,ij,ik,yu,yw,yC]
     ·refine bA rfl rfl ?_;go_wp2_with fail;have ax:=au (aH al.o aQ (fY 0 none 0 0 none 0 0 ⟨#[]⟩) 42)
      try simp only[Act.put,yj,ij,ik,yu,yw,yC]
      refine⟨ab.o _ ax.o.bN,?_⟩;generalize V0.alloc (.cells (fY 0 none 0 0 none 0 0 ⟨#[]⟩) 42)=V1 at *
      generalize V0.heap.size=g at *
      refine wpAnyH_all (rs:=[13]) fi fW (fun i hi=>?_);simp only[YV,YT,or_false] at hi;subst hi;refine bA rfl rfl ?_;go_wp2_with fail;refine(ba.o V1 ax.o.bN u.w v.w b8.o.2 cg.o.2).mono ?_;rintro e9 V2 ⟨d,er,dA,dac,dB,dbc,rfl,J,hp⟩;have ak:=au (show aI fh w3 (aj (iP dA dac dB dbc d) (aj (av g (fY 0 none 0 0 none 0 0 ⟨#[]⟩) 42) (aj (jh A c l) aS))) V2 from ax.o.fresh aQ hp);have aa:=au J;clear J hp
      try simp only[Act.put,yj,ij,ik,yu,yw,yC]
      have I:=ab.o _ ak.o.bN;refine⟨I,?_⟩;refine lC 14 I ?_;refine lC 15 I ?_;refine lC 16 I ?_;clear I;refine ao _ _ ⟨d,er,dA,dac,dB,dbc,g,?_,au ⟨aa.o,(ak.o.perm (by ac_rfl))⟩⟩;simp only[Act.put,yj,ij,ik,yu,yw,yC]
     rintro V a9 ⟨d,er,dA,dac,dB,dbc,g9,rfl,hH⟩;obtain⟨J,h9⟩:=hH.o;have aa:=au (sF J);obtain⟨z0,z1,z2,z3,zf⟩:=aY h9;have af:=au (jy h9 aQ (.int .i64 d.c) (.slice dA d.L.length dac) (.slice dB d.M.length dbc) (.string (bs d.F)));clear hH J h9
     try simp only[Act.put,yj,ij,ik,yu,yw,yC]
     have I:=ab.o _ af.o.bN;refine wpAnyH_all (rs:=[18]) fi fW (fun i hi=>?_);simp only[YV,YT,or_false] at hi;subst hi;refine bA rfl rfl ?_;go_wp2_with fail;generalize (((V.setCell ⟨g9,0,none⟩ (.int .i64 d.c)).setCell ⟨g9,1,none⟩ (.slice dA d.L.length dac)).setCell ⟨g9,2,none⟩ (.slice dB d.M.length dbc)).setCell ⟨g9,3,none⟩ (.string (bs d.F))=w9 at *
     clear z0 z1 z2 z3 zf
     try simp only[Act.put,yj,ij,ik,yu,yw,yC]
     refine lC 19 I ?_;refine wpAnyH_done fi ?_ _;clear I ab al
     try dsimp only
     clear HR bj;rcases aa.o with⟨rfl,ag⟩|⟨a5,ag⟩
     ·have be:=oK ag;have cI:=b8.o.1;have cS:=cg.o.1
      have bk:=au (show jK T k k2 us vs i (j+1)=jK T k k2 us vs i j++[⟨0,0,1,u.e,v.e,u.c+v.c+d.c,d⟩] from by
       rw[bu.o];unfold nA
       show _++((jl T k u.w k2 v.w).map _).toList=_
       rw[ag];rfl)
      have bf:IntKind.i64.wrap (u.c+v.c)=u.c+v.c:=YZ _ ff;have cD:IntKind.i64.wrap (u.c+v.c+d.c)=u.c+v.c+d.c:=YZ _ ff;clear ag be cI cS aa bu
      have a8:=au (fun V X (h:aI fh w3 (aj (av g9 (fY d.c dA d.L.length dac dB d.M.length dbc (bs d.F)) 42) X) V)=>(show V.cell? ⟨b1,o1+i*3+1,none⟩=some (.int .i64 u.e)/\V.cell? ⟨b2,o2+j*3+1,none⟩=some (.int .i64 v.e)/\V.cell? ⟨b1,o1+i*3+2,none⟩=some (.int .i64 u.c)/\V.cell? ⟨b2,o2+j*3+2,none⟩=some (.int .i64 v.c)/\(i6 V g9 (.int .i64 d.c) (.slice dA d.L.length dac) (.slice dB d.M.length dbc) (.string (bs d.F))) from by
       obtain⟨-,u1,u2⟩:=co.o V h.bN;obtain⟨-,v1,v2⟩:=cz.o V h.bN;obtain⟨z0,z1,z2,z3,-⟩:=aY h
       exact⟨u1,v1,u2,v2,z0,z1,z2,z3⟩))
      have H5:=au (af.o.drew aQ);clear af;have bi:=a1.o;go_wp2_with fail;go_upto_region 12 with (fail);refine aK (fun w'=>w'.cell? ⟨b1,o1+i*3+1,none⟩=some (.int .i64 u.e)/\w'.cell? ⟨b2,o2+j*3+1,none⟩=some (.int .i64 v.e)/\w'.cell? ⟨b1,o1+i*3+2,none⟩=some (.int .i64 u.c)/\w'.cell? ⟨b2,o2+j*3+2,none⟩=some (.int .i64 v.c)/\(i6 w' g9 (.int .i64 d.c) (.slice dA d.L.length dac) (.slice dB d.M.length dbc) (.string (bs d.F)))) fi fi (a8.o _ _ H5.o) ?_;generalize World.drew _=cp at *
      (repeat(first|refine aW ?_|refine aX ?_))
      refine bY rfl ft (fun K hK=>?_);go_wp2_with fail;have H6:=au (aH H5.o aQ (fX 0 0 1 u.e v.e (u.c+v.c+d.c) d.c dA d.L.length dac dB d.M.length dbc (bs d.F)) 44);clear H5;generalize cp.alloc (.cells (fX 0 0 1 u.e v.e (u.c+v.c+d.c) d.c dA d.L.length dac dB d.M.length dbc (bs d.F)) 44)=bh at *
      generalize cp.heap.size=gN at *
      refine hK.o _ _ (a8.o _ _ H6.o.drop) ?_;clear hK
      (repeat(first|refine aW ?_|refine aX ?_))
      refine bY rfl ft (fun K hK=>?_);obtain⟨bc,ap⟩:=H6.o.fst;have a3:∀ (j:Nat) z,(mY (⟨0,0,1,u.e,v.e,u.c+v.c+d.c,d⟩,PA.mk dA dac dB dbc))[j]?=some z->bh.cell? ⟨gN,j,none⟩=some z:=fun j z hz=>aB ap (by unfold mY at hz;simpa using hz);refine sS vW fW (.tmp 73) (.tmp 100) rfl (A:=A) (c:=c) (n:=l.length) (g:=gN) (xs:=l.flatMap mY) (cs:=mY (⟨0,0,1,u.e,v.e,u.c+v.c+d.c,d⟩,PA.mk dA dac dB dbc)) rfl rfl ff aQ (H6.o.perm (by unfold jh o7;ac_rfl:_=aj (aZ 44 10 (.slice A l.length c) l.length (l.flatMap mY)) (aj (av g9 (fY d.c dA d.L.length dac dB d.M.length dbc (bs d.F)) 42) (aj (av gN (fX 0 0 1 u.e v.e (u.c+v.c+d.c) d.c dA d.L.length dac dB d.M.length dbc (bs d.F)) 44) (aj (iP dA dac dB dbc d) (aj (aR (l.map nC)) aS)))))) rfl (by have:=sN [(⟨0,0,1,u.e,v.e,u.c+v.c+d.c,d⟩,PA.mk dA dac dB dbc)];simpa using this) a3 ?_;intro A9 c9 ci aq;have H7:=au (aq.perm (by ac_rfl:_=aj (av g9 (fY d.c dA d.L.length dac dB d.M.length dbc (bs d.F)) 42) (aj (av gN (fX 0 0 1 u.e v.e (u.c+v.c+d.c) d.c dA d.L.length dac dB d.M.length dbc (bs d.F)) 44) (aj (aZ 44 10 (.slice A9 (l.length+1) c9) (l.length+1) (l.flatMap mY++mY (⟨0,0,1,u.e,v.e,u.c+v.c+d.c,d⟩,PA.mk dA dac dB dbc))) (aj (aR (l.map nC)) (aj (iP dA dac dB dbc d) aS))))));clear aq H6 ap bc a3;refine hK.o _ _ (a8.o _ _ H7.o) ?_;clear hK
      (repeat(first|refine aW ?_|refine aX ?_))
      refine lex_nil ?_;have H8:=au (Ay (e:=(⟨0,0,1,u.e,v.e,u.c+v.c+d.c,d⟩,PA.mk dA dac dB dbc)) rfl H7.o.drop.drop);have ai:=au (show(l++[((⟨0,0,1,u.e,v.e,u.c+v.c+d.c,d⟩:Pr),PA.mk dA dac dB dbc)]).map (·.1)=jK T k k2 us vs i (j+1) from by rw[YS,am.o,bk.o];rfl);have a2:l.length+1=(l++[((⟨0,0,1,u.e,v.e,u.c+v.c+d.c,d⟩:Pr),PA.mk dA dac dB dbc)]).length:=by rw[Yz];rfl
      rw[a2];clear a2 bf cD bi H7 a1 a8;generalize (l++[((⟨0,0,1,u.e,v.e,u.c+v.c+d.c,d⟩:Pr),PA.mk dA dac dB dbc)])=l8 at *
      go_wp2_with fail
      go_roundw
      case rel=>exact⟨j+1,A9,c9,l8,by go_num,b0.o,rfl,au ⟨ai.o,H8.o⟩⟩
      case measure=>have:=b0.o;simp[intOf];omega
     ·have te:(er==0)=false:=by simpa using a5
      have ai:=au (show l.map (·.1)=jK T k k2 us vs i (j+1) from by
       rw[bu.o];unfold nA
       show _=_++((jl T k u.w k2 v.w).map _).toList
       rw[ag,am.o]
       exact(Y2 _).symm)
      have H8:=au af.o.drop.drop;clear a5 ag aa af bu;go_wp2_with fail
      go_roundw
      case rel=>exact⟨j+1,A,c,l,by go_num,b0.o,rfl,au ⟨ai.o,H8.o⟩⟩
      case measure=>have:=b0.o;simp[intOf];omega
    case neg=>
     obtain rfl:j=nv:=by omega
     have cC:¬ (j:Int)<(j:Int):=by omega
     have ai:=au (show l.map (·.1)=jK T k k2 us vs (i+1) 0 from by rw[<-cJ.o,<-HV.o];exact hH.o.1);have cN:=au hH.o.2;clear hH az hj;go_wp2_with fail
     go_roundw
     case rel=>exact⟨i+1,A,c,l,by go_num,cj.o,rfl,au ⟨ai.o,cN.o⟩⟩
     case measure=>have:=cj.o;simp[intOf];omega
  case neg=>
   obtain rfl:i=nu:=by omega
   have cE:¬ (i:Int)<(i:Int):=by omega
   have am:=au (show l.map (·.1)=jK T k k2 us vs us.length 0 from by rw[<-HU.o];exact hH.o.1);have HR:=au hH.o.2
   have a1:=au (show l.length<=1764 from by
    have h:=am.o;have h2:=vF (T:=T) (k:=k) (k2:=k2) (us:=us) (vs:=vs) (i:=us.length) (j:=0);have h3:l.length=(jK T k k2 us vs us.length 0).length:=by rw[<-h,YI]
    rw[h3]
    refine YQ h2 (YQ (oA (show us.length+1<=42 from by rw[<-HU.o];have:=br.o;omega) (show vs.length<=42 from by rw[<-HV.o];exact nF bp.o)) fW))
   clear hH az hi;have ct:=au (KP.o wr);clear KP;go_wp2_with fail;refine ct.o.mono ?_;rintro e9 w4 ⟨A4,c4,rfl,hp⟩;have H4:=au (HR.o.fresh aQ hp);clear ct HR hp;dsimp only;have cy:=au (KQ.o w4);clear KQ;go_wp2_with fail;refine cy.o.mono ?_;rintro e9 w5 ⟨A5,c5,rfl,hp⟩;have H5:=au ((H4.o.fresh aQ hp).perm (by ac_rfl:_=aj (jh A c l) (aj (bO A4 c4 p) (aj (bO A5 c5 q) aS))));clear cy H4 hp;dsimp only;obtain⟨b4,o4,rfl,-⟩:=Ed (by rw[<-HP.o];exact bv.o.1) H5.o.drop;obtain⟨b5,o5,rfl,-⟩:=Ed (by rw[<-HQ.o];exact bx.o.1) H5.o.drop.drop
   have bj:=au (fun V (h:∃ X,aI fh w3 (aj X (aj (bO (some ⟨b4,o4,none⟩) c4 p) (aj (bO (some ⟨b5,o5,none⟩) c5 q) aS))) V)=>(show V.cell? ⟨g5,0,none⟩=some (.slice aA n1 ac)/\V.cell? ⟨g5,1,none⟩=some (.slice aD n2 ad)/\V.cell? ⟨g5,2,none⟩=some (.slice aE n3 ae)/\V.cell? ⟨g5,3,none⟩=some (.int .i64 T.drop)/\V.cell? ⟨g5,4,none⟩=some (.int .i64 T.ord)/\V.cell? ⟨g5,5,none⟩=some (.int .i64 T.ini)/\V.cell? ⟨b4,o4,none⟩=some (.string (bs (gC p)))/\V.cell? ⟨b5,o5,none⟩=some (.string (bs (gC q))) from by
    obtain⟨X,h⟩:=h;obtain⟨t0,t1,t2,t3,t4,t5⟩:=bo.o V h.bN;obtain⟨b,o,e1,s1⟩:=Ed (by rw[<-HP.o];exact bv.o.1) h.drop;injection e1 with e1;injection e1 with e1 e2;subst e1 e2
    obtain⟨b,o,e1,s2⟩:=Ed (by rw[<-HQ.o];exact bx.o.1) h.drop.drop;injection e1 with e1;injection e1 with e1 e2;subst e1 e2
    exact⟨t0,t1,t2,t3,t4,t5,s1,s2⟩))
   have cV:0<np:=bv.o.1;have cU:0<nq:=bx.o.1;have ch:=au (show decide (p.length=1)=decide (np=1) from by rw[<-HP.o]);have cn:=au (show decide (q.length=1)=decide (nq=1) from by rw[<-HQ.o])
   go_upto_if 116 with (fail)
   go_cut [11] (fun v wx=>∃ (A:fj) (c:Nat) (l8:List (Pr × PA)),v=.slice A l8.length c/\Hid (l8.map (·.1)=jK T k k2 us vs us.length 0++nV T k k2 2 p q (decide (p.length=1))/\aI fh w3 (aj (jh A c l8) (aj (bO (some ⟨b4,o4,none⟩) c4 p) (aj (bO (some ⟨b5,o5,none⟩) c5 q) aS))) wx/\l8.length<=1765))
   case first=>
    by_cases aw:np=1
    ·have a7:((np:Int)==1)=true:=by simp[aw]
     have bd:=au (show decide (p.length=1)=true from by rw[ch.o];exact decide_eq_true aw);clear aw;go_wp2_with fail
     try rw[a7]
     clear a7;go_upto_region 16 with (fail);obtain⟨C,hC⟩:∃ C:World->Prop,C=fun w'=>w'.cell? ⟨g5,0,none⟩=some (.slice aA n1 ac)/\w'.cell? ⟨g5,1,none⟩=some (.slice aD n2 ad)/\w'.cell? ⟨g5,2,none⟩=some (.slice aE n3 ae)/\w'.cell? ⟨g5,3,none⟩=some (.int .i64 T.drop)/\w'.cell? ⟨g5,4,none⟩=some (.int .i64 T.ord)/\w'.cell? ⟨g5,5,none⟩=some (.int .i64 T.ini)/\w'.cell? ⟨b4,o4,none⟩=some (.string (bs (gC p)))/\w'.cell? ⟨b5,o5,none⟩=some (.string (bs (gC q))):=⟨_,rfl⟩
     have ab:=au (fun V (h:∃ X,aI fh w3 (aj X (aj (bO (some ⟨b4,o4,none⟩) c4 p) (aj (bO (some ⟨b5,o5,none⟩) c5 q) aS))) V)=>(show C V from by
      rw[hC]
      exact bj.o V h))
     have al:=au (H5.o.drew aQ);have I:=ab.o _ ⟨_,al.o⟩;refine wp_region_held (S:=C) fi (show wpAnyH _ _ _ _ _ _ _ _ w5.drew from ?_);generalize w5.drew=V0 at *
     subst hC;refine lC 0 I ?_;refine lC 1 I ?_;refine lC 2 I ?_;refine lC 3 I ?_;refine lC 4 I ?_;refine lC 5 I ?_;refine lC 6 I ?_;refine lC 7 I ?_;refine lC 8 I ?_;clear I;refine Ec (fuel2:=2) (ls2:=#[true,true,true,true,true,true,true,true,true,true,true,true,true,true,false,false]) (fun a0 W' a'=>∃ (d:Dv) (er:Int) (dA:fj) (dac:Nat) (dB:fj) (dbc:Nat) (g:Nat),a'=(((((a0.put (some 127) (.tuple #[.agg (fY d.c dA d.L.length dac dB d.M.length dbc (bs d.F)),.int .i64 er])).put (some 117) (.tuple #[.agg (fY d.c dA d.L.length dac dB d.M.length dbc (bs d.F)),.int .i64 er])).put (some 128) (.agg (fY d.c dA d.L.length dac dB d.M.length dbc (bs d.F)))).put (some 129) (.int .i64 er)).put (some 24) (.pointer (some ⟨g,0,none⟩)))/\Hid (qm T k (gC p) k2 (gC q) d er/\aI fh w3 (aj (av g (fY 0 none 0 0 none 0 0 ⟨#[]⟩) 42) (aj (iP dA dac dB dbc d) (aj (jh A c l) (aj (bO (some ⟨b4,o4,none⟩) c4 p) (aj (bO (some ⟨b5,o5,none⟩) c5 q) aS))))) W')) ?_ (fun ao=>?_);rotate_left;refine wpAnyH_all (rs:=[9,13]) fi fW (fun i hi=>?_);simp only[YV,YT,or_false] at hi;rcases hi with rfl|rfl
     ·refine bA rfl rfl ?_;go_wp2_with fail;refine(ba.o V0 al.o.bN (gC p) (gC q) a4.o.1 a4.o.2).mono ?_;rintro e9 V2 ⟨d,er,dA,dac,dB,dbc,rfl,J,hp⟩;have ak:=au (show aI fh w3 (aj (iP dA dac dB dbc d) (aj (jh A c l) (aj (bO (some ⟨b4,o4,none⟩) c4 p) (aj (bO (some ⟨b5,o5,none⟩) c5 q) aS)))) V2 from al.o.fresh aQ hp);have aa:=au J;clear J hp
      try simp only[Act.put,yj,ij,ik,yu,yw,yC]
      have I:=ab.o _ ⟨_,ak.o.drop⟩;refine⟨I,?_⟩;refine lC 10 I ?_;refine lC 11 I ?_;refine lC 12 I ?_;clear I;refine wpAnyH_all (rs:=[13]) fi fW (fun i hi=>?_);simp only[YV,YT,or_false] at hi;subst hi;refine bA rfl rfl ?_;go_wp2_with fail;have ar:=au (aH ak.o aQ (fY 0 none 0 0 none 0 0 ⟨#[]⟩) 42)
      try simp only[Act.put,yj,ij,ik,yu,yw,yC]
      refine⟨ab.o _ ⟨_,ar.o.drop.drop⟩,?_⟩;refine ao _ _ ⟨d,er,dA,dac,dB,dbc,V2.heap.size,?_,au ⟨aa.o,ar.o⟩⟩;simp only[Act.put,yj,ij,ik,yu,yw,yC]
     ·refine bA rfl rfl ?_;go_wp2_with fail;have ax:=au (aH al.o aQ (fY 0 none 0 0 none 0 0 ⟨#[]⟩) 42)
      try simp only[Act.put,yj,ij,ik,yu,yw,yC]
      refine⟨ab.o _ ⟨_,ax.o.drop⟩,?_⟩;generalize V0.alloc (.cells (fY 0 none 0 0 none 0 0 ⟨#[]⟩) 42)=V1 at *
      generalize V0.heap.size=g at *
      refine wpAnyH_all (rs:=[9]) fi fW (fun i hi=>?_);simp only[YV,YT,or_false] at hi;subst hi;refine bA rfl rfl ?_;go_wp2_with fail;refine(ba.o V1 ax.o.bN (gC p) (gC q) a4.o.1 a4.o.2).mono ?_;rintro e9 V2 ⟨d,er,dA,dac,dB,dbc,rfl,J,hp⟩;have ak:=au (show aI fh w3 (aj (iP dA dac dB dbc d) (aj (av g (fY 0 none 0 0 none 0 0 ⟨#[]⟩) 42) (aj (jh A c l) (aj (bO (some ⟨b4,o4,none⟩) c4 p) (aj (bO (some ⟨b5,o5,none⟩) c5 q) aS))))) V2 from ax.o.fresh aQ hp);have aa:=au J;clear J hp
      try simp only[Act.put,yj,ij,ik,yu,yw,yC]
      have I:=ab.o _ ⟨_,ak.o.drop.drop⟩;refine⟨I,?_⟩;refine lC 10 I ?_;refine lC 11 I ?_;refine lC 12 I ?_;clear I;refine ao _ _ ⟨d,er,dA,dac,dB,dbc,g,?_,au ⟨aa.o,(ak.o.perm (by ac_rfl))⟩⟩;simp only[Act.put,yj,ij,ik,yu,yw,yC]
     rintro V a9 ⟨d,er,dA,dac,dB,dbc,g9,rfl,hH⟩;obtain⟨J,h9⟩:=hH.o;have aa:=au (sF J);obtain⟨z0,z1,z2,z3,zf⟩:=aY h9;have af:=au (jy h9 aQ (.int .i64 d.c) (.slice dA d.L.length dac) (.slice dB d.M.length dbc) (.string (bs d.F)));clear hH J h9
     try simp only[Act.put,yj,ij,ik,yu,yw,yC]
     have I:=ab.o _ ⟨_,af.o.drop.drop⟩;refine wpAnyH_all (rs:=[14]) fi fW (fun i hi=>?_);simp only[YV,YT,or_false] at hi;subst hi;refine bA rfl rfl ?_;go_wp2_with fail;generalize (((V.setCell ⟨g9,0,none⟩ (.int .i64 d.c)).setCell ⟨g9,1,none⟩ (.slice dA d.L.length dac)).setCell ⟨g9,2,none⟩ (.slice dB d.M.length dbc)).setCell ⟨g9,3,none⟩ (.string (bs d.F))=w9 at *
     clear z0 z1 z2 z3 zf
     try simp only[Act.put,yj,ij,ik,yu,yw,yC]
     refine lC 15 I ?_;refine wpAnyH_done fi ?_ _;clear I ab al
     try dsimp only
     rcases aa.o with⟨rfl,ag⟩|⟨a5,ag⟩
     ·have be:=oK ag;have bn:=cm.o
      have bk:=au (show nV T k k2 2 p q (decide (p.length=1))=[⟨0,0,2,-1,-1,T.ini+d.c,d⟩] from by
       rw[bd.o];unfold nV nA
       show((jl T k (gC p) k2 (gC q)).map _).toList=_
       rw[ag];rfl)
      have bf:wrap64 (T.ini+d.c)=T.ini+d.c:=Zr _ ff;have bi:=a1.o;clear ag be bn aa;obtain⟨z0,z1,z2,z3,-⟩:=aY af.o;obtain⟨t0,t1,t2,t3,t4,t5⟩:=bo.o _ af.o.bN;have H6:=au (aH af.o aQ (fX 0 0 2 (-1) (-1) (T.ini+d.c) d.c dA d.L.length dac dB d.M.length dbc (bs d.F)) 44);clear af;go_wp2_with (at_builtin;refine held ?_);clear z0 z1 z2 z3 t0 t1 t2 t3 t4 t5 bf;generalize w9.alloc (.cells (fX 0 0 2 (-1) (-1) (T.ini+d.c) d.c dA d.L.length dac dB d.M.length dbc (bs d.F)) 44)=bh at *
      generalize w9.heap.size=gN at *
      obtain⟨bc,ap⟩:=H6.o.fst;have a3:∀ (j:Nat) z,(mY (⟨0,0,2,-1,-1,T.ini+d.c,d⟩,PA.mk dA dac dB dbc))[j]?=some z->bh.cell? ⟨gN,j,none⟩=some z:=fun j z hz=>aB ap (by unfold mY at hz;simpa using hz);refine ia.mk (rF rfl vW fW (.tmp 132) (.tmp 140) rfl (A:=A) (c:=c) (n:=l.length) (g:=gN) (xs:=l.flatMap mY) (cs:=mY (⟨0,0,2,-1,-1,T.ini+d.c,d⟩,PA.mk dA dac dB dbc)) rfl rfl ff aQ (H6.o.perm (by unfold jh o7;ac_rfl:_=aj (aZ 44 10 (.slice A l.length c) l.length (l.flatMap mY)) (aj (av g9 (fY d.c dA d.L.length dac dB d.M.length dbc (bs d.F)) 42) (aj (av gN (fX 0 0 2 (-1) (-1) (T.ini+d.c) d.c dA d.L.length dac dB d.M.length dbc (bs d.F)) 44) (aj (iP dA dac dB dbc d) (aj (aR (l.map nC)) (aj (bO (some ⟨b4,o4,none⟩) c4 p) (aj (bO (some ⟨b5,o5,none⟩) c5 q) aS)))))))) rfl (by have:=sN [(⟨0,0,2,-1,-1,T.ini+d.c,d⟩,PA.mk dA dac dB dbc)];simpa using this) a3 ?_);intro A9 c9 ci aq;have H7:=au ((aq.perm (by ac_rfl:_=aj (av g9 (fY d.c dA d.L.length dac dB d.M.length dbc (bs d.F)) 42) (aj (av gN (fX 0 0 2 (-1) (-1) (T.ini+d.c) d.c dA d.L.length dac dB d.M.length dbc (bs d.F)) 44) (aj (aZ 44 10 (.slice A9 (l.length+1) c9) (l.length+1) (l.flatMap mY++mY (⟨0,0,2,-1,-1,T.ini+d.c,d⟩,PA.mk dA dac dB dbc))) (aj (aR (l.map nC)) (aj (iP dA dac dB dbc d) (aj (bO (some ⟨b4,o4,none⟩) c4 p) (aj (bO (some ⟨b5,o5,none⟩) c5 q) aS)))))))).drop.drop);clear aq H6 ap bc a3;have H8:=au (Ay (e:=(⟨0,0,2,-1,-1,T.ini+d.c,d⟩,PA.mk dA dac dB dbc)) rfl H7.o);have ai:=au (show(l++[((⟨0,0,2,-1,-1,T.ini+d.c,d⟩:Pr),PA.mk dA dac dB dbc)]).map (·.1)=jK T k k2 us vs us.length 0++nV T k k2 2 p q (decide (p.length=1)) from by rw[YS,am.o,bk.o];rfl);have a2:l.length+1=(l++[((⟨0,0,2,-1,-1,T.ini+d.c,d⟩:Pr),PA.mk dA dac dB dbc)]).length:=by rw[Yz];rfl
      have cQ:=au (show(l++[((⟨0,0,2,-1,-1,T.ini+d.c,d⟩:Pr),PA.mk dA dac dB dbc)]).length<=1766 from by rw[<-a2];omega);rw[a2];clear a2 bi H7;generalize (l++[((⟨0,0,2,-1,-1,T.ini+d.c,d⟩:Pr),PA.mk dA dac dB dbc)])=l8 at *
      have cx:=au (show l8.length<=1765 from by have:=congrArg List.length ai.o;have h4:=vF (T:=T) (k:=k) (k2:=k2) (us:=us) (vs:=vs) (i:=us.length) (j:=0);have h5:=Aw (T:=T) (k:=k) (k2:=k2) (kd:=2) (p:=p) (q:=q) (f:=decide (p.length=1));rw[YI,Yz] at this;have h6:=congrArg List.length am.o;rw[YI] at h6;have:=a1.o;omega);go_wp2;go_meet;exact⟨A9,c9,l8,rfl,au ⟨ai.o,H8.o,cx.o⟩⟩
     ·have te:(er==0)=false:=by simpa using a5
      have ai:=au (show l.map (·.1)=jK T k k2 us vs us.length 0++nV T k k2 2 p q (decide (p.length=1)) from by
       rw[bd.o];unfold nV nA
       show _=_++((jl T k (gC p) k2 (gC q)).map _).toList
       rw[ag,am.o]
       exact(Y2 _).symm)
      have H8:=au af.o.drop.drop;clear a5 ag aa af;go_wp2;go_meet;exact⟨A,c,l,rfl,au ⟨ai.o,H8.o,nF a1.o⟩⟩
    ·have a7:((np:Int)==1)=false:=by simp;omega
     have ai:=au (show l.map (·.1)=jK T k k2 us vs us.length 0++nV T k k2 2 p q (decide (p.length=1)) from by
      rw[ch.o,decide_eq_false aw,am.o]
      exact(Y2 _).symm)
     clear aw;go_wp2;go_meet;exact⟨A,c,l,rfl,au ⟨ai.o,H5.o,nF a1.o⟩⟩
   case rest=>
    clear am a1 H5;obtain⟨A,c,l,rfl,hH⟩:=hcut;have am:=au hH.o.1;have H5:=au hH.o.2.1;have a1:=au hH.o.2.2;clear hH;by_cases aw:nq=1
    ·have a7:((nq:Int)==1)=true:=by simp[aw]
     have bd:=au (show decide (q.length=1)=true from by rw[cn.o];exact decide_eq_true aw);clear aw;go_wp2_with fail
     try rw[a7]
     clear a7;go_upto_region 20 with (fail);obtain⟨C,hC⟩:∃ C:World->Prop,C=fun w'=>w'.cell? ⟨g5,0,none⟩=some (.slice aA n1 ac)/\w'.cell? ⟨g5,1,none⟩=some (.slice aD n2 ad)/\w'.cell? ⟨g5,2,none⟩=some (.slice aE n3 ae)/\w'.cell? ⟨g5,3,none⟩=some (.int .i64 T.drop)/\w'.cell? ⟨g5,4,none⟩=some (.int .i64 T.ord)/\w'.cell? ⟨g5,5,none⟩=some (.int .i64 T.ini)/\w'.cell? ⟨b4,o4,none⟩=some (.string (bs (gC p)))/\w'.cell? ⟨b5,o5,none⟩=some (.string (bs (gC q))):=⟨_,rfl⟩
     have ab:=au (fun V (h:∃ X,aI fh w3 (aj X (aj (bO (some ⟨b4,o4,none⟩) c4 p) (aj (bO (some ⟨b5,o5,none⟩) c5 q) aS))) V)=>(show C V from by
      rw[hC]
      exact bj.o V h))
     have al:=au (H5.o.drew aQ);have I:=ab.o _ ⟨_,al.o⟩;refine wp_region_held (S:=C) fi (show wpAnyH _ _ _ _ _ _ _ _ wc.drew from ?_);generalize wc.drew=V0 at *
     subst hC;refine lC 0 I ?_;refine lC 1 I ?_;refine lC 2 I ?_;refine lC 3 I ?_;refine lC 4 I ?_;refine lC 5 I ?_;refine lC 6 I ?_;refine lC 7 I ?_;refine lC 8 I ?_;clear I;refine Ec (fuel2:=2) (ls2:=#[true,true,true,true,true,true,true,true,true,true,true,true,true,true,false,false]) (fun a0 W' a'=>∃ (d:Dv) (er:Int) (dA:fj) (dac:Nat) (dB:fj) (dbc:Nat) (g:Nat),a'=(((((a0.put (some 155) (.tuple #[.agg (fY d.c dA d.L.length dac dB d.M.length dbc (bs d.F)),.int .i64 er])).put (some 145) (.tuple #[.agg (fY d.c dA d.L.length dac dB d.M.length dbc (bs d.F)),.int .i64 er])).put (some 156) (.agg (fY d.c dA d.L.length dac dB d.M.length dbc (bs d.F)))).put (some 157) (.int .i64 er)).put (some 26) (.pointer (some ⟨g,0,none⟩)))/\Hid (qm T k (gC p) k2 (gC q) d er/\aI fh w3 (aj (av g (fY 0 none 0 0 none 0 0 ⟨#[]⟩) 42) (aj (iP dA dac dB dbc d) (aj (jh A c l) (aj (bO (some ⟨b4,o4,none⟩) c4 p) (aj (bO (some ⟨b5,o5,none⟩) c5 q) aS))))) W')) ?_ (fun ao=>?_);rotate_left;refine wpAnyH_all (rs:=[9,13]) fi fW (fun i hi=>?_);simp only[YV,YT,or_false] at hi;rcases hi with rfl|rfl
     ·refine bA rfl rfl ?_;go_wp2_with fail;refine(ba.o V0 al.o.bN (gC p) (gC q) a4.o.1 a4.o.2).mono ?_;rintro e9 V2 ⟨d,er,dA,dac,dB,dbc,rfl,J,hp⟩;have ak:=au (show aI fh w3 (aj (iP dA dac dB dbc d) (aj (jh A c l) (aj (bO (some ⟨b4,o4,none⟩) c4 p) (aj (bO (some ⟨b5,o5,none⟩) c5 q) aS)))) V2 from al.o.fresh aQ hp);have aa:=au J;clear J hp
      try simp only[Act.put,yj,ij,ik,yu,yw,yC]
      have I:=ab.o _ ⟨_,ak.o.drop⟩;refine⟨I,?_⟩;refine lC 10 I ?_;refine lC 11 I ?_;refine lC 12 I ?_;clear I;refine wpAnyH_all (rs:=[13]) fi fW (fun i hi=>?_);simp only[YV,YT,or_false] at hi;subst hi;refine bA rfl rfl ?_;go_wp2_with fail;have ar:=au (aH ak.o aQ (fY 0 none 0 0 none 0 0 ⟨#[]⟩) 42)
      try simp only[Act.put,yj,ij,ik,yu,yw,yC]
      refine⟨ab.o _ ⟨_,ar.o.drop.drop⟩,?_⟩;refine ao _ _ ⟨d,er,dA,dac,dB,dbc,V2.heap.size,?_,au ⟨aa.o,ar.o⟩⟩;simp only[Act.put,yj,ij,ik,yu,yw,yC]
     ·refine bA rfl rfl ?_;go_wp2_with fail;have ax:=au (aH al.o aQ (fY 0 none 0 0 none 0 0 ⟨#[]⟩) 42)
      try simp only[Act.put,yj,ij,ik,yu,yw,yC]
      refine⟨ab.o _ ⟨_,ax.o.drop⟩,?_⟩;generalize V0.alloc (.cells (fY 0 none 0 0 none 0 0 ⟨#[]⟩) 42)=V1 at *
      generalize V0.heap.size=g at *
      refine wpAnyH_all (rs:=[9]) fi fW (fun i hi=>?_);simp only[YV,YT,or_false] at hi;subst hi;refine bA rfl rfl ?_;go_wp2_with fail;refine(ba.o V1 ax.o.bN (gC p) (gC q) a4.o.1 a4.o.2).mono ?_;rintro e9 V2 ⟨d,er,dA,dac,dB,dbc,rfl,J,hp⟩;have ak:=au (show aI fh w3 (aj (iP dA dac dB dbc d) (aj (av g (fY 0 none 0 0 none 0 0 ⟨#[]⟩) 42) (aj (jh A c l) (aj (bO (some ⟨b4,o4,none⟩) c4 p) (aj (bO (some ⟨b5,o5,none⟩) c5 q) aS))))) V2 from ax.o.fresh aQ hp);have aa:=au J;clear J hp
      try simp only[Act.put,yj,ij,ik,yu,yw,yC]
      have I:=ab.o _ ⟨_,ak.o.drop.drop⟩;refine⟨I,?_⟩;refine lC 10 I ?_;refine lC 11 I ?_;refine lC 12 I ?_;clear I;refine ao _ _ ⟨d,er,dA,dac,dB,dbc,g,?_,au ⟨aa.o,(ak.o.perm (by ac_rfl))⟩⟩;simp only[Act.put,yj,ij,ik,yu,yw,yC]
     rintro V a9 ⟨d,er,dA,dac,dB,dbc,g9,rfl,hH⟩;obtain⟨J,h9⟩:=hH.o;have aa:=au (sF J);obtain⟨z0,z1,z2,z3,zf⟩:=aY h9;have af:=au (jy h9 aQ (.int .i64 d.c) (.slice dA d.L.length dac) (.slice dB d.M.length dbc) (.string (bs d.F)));clear hH J h9
     try simp only[Act.put,yj,ij,ik,yu,yw,yC]
     have I:=ab.o _ ⟨_,af.o.drop.drop⟩;refine wpAnyH_all (rs:=[14]) fi fW (fun i hi=>?_);simp only[YV,YT,or_false] at hi;subst hi;refine bA rfl rfl ?_;go_wp2_with fail;generalize (((V.setCell ⟨g9,0,none⟩ (.int .i64 d.c)).setCell ⟨g9,1,none⟩ (.slice dA d.L.length dac)).setCell ⟨g9,2,none⟩ (.slice dB d.M.length dbc)).setCell ⟨g9,3,none⟩ (.string (bs d.F))=w9 at *
     clear z0 z1 z2 z3 zf
     try simp only[Act.put,yj,ij,ik,yu,yw,yC]
     refine lC 15 I ?_;refine wpAnyH_done fi ?_ _;clear I ab al
     try dsimp only
     rcases aa.o with⟨rfl,ag⟩|⟨a5,ag⟩
     ·have be:=oK ag;have bn:=cm.o
      have bk:=au (show nV T k k2 3 p q (decide (q.length=1))=[⟨0,0,3,-1,-1,T.ini+d.c,d⟩] from by
       rw[bd.o];unfold nV nA
       show((jl T k (gC p) k2 (gC q)).map _).toList=_
       rw[ag];rfl)
      have bf:wrap64 (T.ini+d.c)=T.ini+d.c:=Zr _ ff;have bi:=a1.o;clear ag be bn aa;obtain⟨z0,z1,z2,z3,-⟩:=aY af.o;obtain⟨t0,t1,t2,t3,t4,t5⟩:=bo.o _ af.o.bN;have H6:=au (aH af.o aQ (fX 0 0 3 (-1) (-1) (T.ini+d.c) d.c dA d.L.length dac dB d.M.length dbc (bs d.F)) 44);clear af;go_wp2_with (at_builtin;refine held ?_);clear z0 z1 z2 z3 t0 t1 t2 t3 t4 t5 bf;generalize w9.alloc (.cells (fX 0 0 3 (-1) (-1) (T.ini+d.c) d.c dA d.L.length dac dB d.M.length dbc (bs d.F)) 44)=bh at *
      generalize w9.heap.size=gN at *
      obtain⟨bc,ap⟩:=H6.o.fst;have a3:∀ (j:Nat) z,(mY (⟨0,0,3,-1,-1,T.ini+d.c,d⟩,PA.mk dA dac dB dbc))[j]?=some z->bh.cell? ⟨gN,j,none⟩=some z:=fun j z hz=>aB ap (by unfold mY at hz;simpa using hz);refine ia.mk (rF rfl vW fW (.tmp 160) (.tmp 168) rfl (A:=A) (c:=c) (n:=l.length) (g:=gN) (xs:=l.flatMap mY) (cs:=mY (⟨0,0,3,-1,-1,T.ini+d.c,d⟩,PA.mk dA dac dB dbc)) rfl rfl ff aQ (H6.o.perm (by unfold jh o7;ac_rfl:_=aj (aZ 44 10 (.slice A l.length c) l.length (l.flatMap mY)) (aj (av g9 (fY d.c dA d.L.length dac dB d.M.length dbc (bs d.F)) 42) (aj (av gN (fX 0 0 3 (-1) (-1) (T.ini+d.c) d.c dA d.L.length dac dB d.M.length dbc (bs d.F)) 44) (aj (iP dA dac dB dbc d) (aj (aR (l.map nC)) (aj (bO (some ⟨b4,o4,none⟩) c4 p) (aj (bO (some ⟨b5,o5,none⟩) c5 q) aS)))))))) rfl (by have:=sN [(⟨0,0,3,-1,-1,T.ini+d.c,d⟩,PA.mk dA dac dB dbc)];simpa using this) a3 ?_);intro A9 c9 ci aq;have H7:=au ((aq.perm (by ac_rfl:_=aj (av g9 (fY d.c dA d.L.length dac dB d.M.length dbc (bs d.F)) 42) (aj (av gN (fX 0 0 3 (-1) (-1) (T.ini+d.c) d.c dA d.L.length dac dB d.M.length dbc (bs d.F)) 44) (aj (aZ 44 10 (.slice A9 (l.length+1) c9) (l.length+1) (l.flatMap mY++mY (⟨0,0,3,-1,-1,T.ini+d.c,d⟩,PA.mk dA dac dB dbc))) (aj (aR (l.map nC)) (aj (iP dA dac dB dbc d) (aj (bO (some ⟨b4,o4,none⟩) c4 p) (aj (bO (some ⟨b5,o5,none⟩) c5 q) aS)))))))).drop.drop);clear aq H6 ap bc a3;have H8:=au (Ay (e:=(⟨0,0,3,-1,-1,T.ini+d.c,d⟩,PA.mk dA dac dB dbc)) rfl H7.o);have ai:=au (show(l++[((⟨0,0,3,-1,-1,T.ini+d.c,d⟩:Pr),PA.mk dA dac dB dbc)]).map (·.1)=jK T k k2 us vs us.length 0++nV T k k2 2 p q (decide (p.length=1))++nV T k k2 3 p q (decide (q.length=1)) from by rw[YS,am.o,bk.o];rfl);have a2:l.length+1=(l++[((⟨0,0,3,-1,-1,T.ini+d.c,d⟩:Pr),PA.mk dA dac dB dbc)]).length:=by rw[Yz];rfl
      have cQ:=au (show(l++[((⟨0,0,3,-1,-1,T.ini+d.c,d⟩:Pr),PA.mk dA dac dB dbc)]).length<=1766 from by rw[<-a2];omega);rw[a2];clear a2 bi H7;generalize (l++[((⟨0,0,3,-1,-1,T.ini+d.c,d⟩:Pr),PA.mk dA dac dB dbc)])=l8 at *
      have HF:=au (bm.o _ A9 c9 l8 (by rw[ce.o,<-ai.o]) ((H8.o).perm (by ac_rfl:_=aj (aj (bO (some ⟨b4,o4,none⟩) c4 p) (aj (bO (some ⟨b5,o5,none⟩) c5 q) aS)) (jh A9 c9 (l8)))|>.drop.post uE));go_wp2;go_ret;exact HF.o
     ·have te:(er==0)=false:=by simpa using a5
      have ai:=au (show l.map (·.1)=jK T k k2 us vs us.length 0++nV T k k2 2 p q (decide (p.length=1))++nV T k k2 3 p q (decide (q.length=1)) from by
       rw[bd.o];unfold nV nA
       show _=_++((jl T k (gC p) k2 (gC q)).map _).toList
       rw[ag,am.o]
       exact(Y2 _).symm)
      have H8:=au af.o.drop.drop;clear a5 ag aa af;have HF:=au (bm.o _ A c l (by rw[ce.o,<-ai.o]) ((H8.o).perm (by ac_rfl:_=aj (aj (bO (some ⟨b4,o4,none⟩) c4 p) (aj (bO (some ⟨b5,o5,none⟩) c5 q) aS)) (jh A c (l)))|>.drop.post uE));go_wp2;go_ret;exact HF.o
    ·have a7:((nq:Int)==1)=false:=by simp;omega
     have ai:=au (show l.map (·.1)=jK T k k2 us vs us.length 0++nV T k k2 2 p q (decide (p.length=1))++nV T k k2 3 p q (decide (q.length=1)) from by
      rw[cn.o,decide_eq_false aw,am.o]
      exact(Y2 _).symm)
     clear aw;have HF:=au (bm.o _ A c l (by rw[ce.o,<-ai.o]) ((H5.o).perm (by ac_rfl:_=aj (aj (bO (some ⟨b4,o4,none⟩) c4 p) (aj (bO (some ⟨b5,o5,none⟩) c5 q) aS)) (jh A c (l)))|>.drop.post uE));go_wp2;go_ret;exact HF.o
end Go.Proofs.YtbnnlpjpnihheaaGreatDoor
namespace Go.CH.Mtc
open Go.CH.Scr Go.CH.eG
variable{l:List Pr}{i:Nat}{T:fy}{k:Int}
theorem N8{p:Pr}(h:0<l.length)(hp:l[0]=p):first (l.take 1)=some p:=by
 cases l with
 | nil=>cases h
 | cons a l=>subst hp;rfl
theorem JJ(h:i<l.length):first (l.take (i+1))=qQ (first (l.take i)) l[i]:=by
 unfold first
 rw[YD h,rS];rfl
theorem N9{k2:Int}{x y:Bs}(h:bC T=true):(jc T k x k2 y).length<=1766:=by
 rw[CQ,Yz,Yz];have I:=vF (T:=T) (k:=k) (k2:=k2) (us:=eP T k x) (vs:=eP T k2 y) (i:=(eP T k x).length) (j:=0);have F:=Aw (T:=T) (k:=k) (k2:=k2) (kd:=2) (p:=bg k x) (q:=bg k2 y) (f:=decide ((bg k x).length=1));have z:=Aw (T:=T) (k:=k) (k2:=k2) (kd:=3) (p:=bg k x) (q:=bg k2 y) (f:=decide ((bg k2 y).length=1));have J:((eP T k x).length+1)*(eP T k2 y).length<=42*42:=oA (Nat.succ_le_succ (lq h)) (nF (lq h));omega
end Go.CH.Mtc
namespace Go.Proofs.YtbnnlpjpnihheaaGreatDoor
open Go.RowKit Go.CH Go.CH.Scr Go.CH.eG Go.CH.Mtc
open Go.ChangeMaps (setBlock)
variable{w:World}{g:Nat}{v:Value}{T:fy}
theorem vG{tmps:Array Value}{cs:Array Value}(h:tmps.getD 10 undef=.pointer (some ⟨g,0,none⟩))(z:cs.size=10)(q:w.heap[g]?=some (.cells cs 44))(p:tmps.getD 11 undef=v):(results Tryz.f19 tmps).run Tryz.prog w=.ok (.tuple #[.agg cs,v]) w:=by
 subst p;exact dH rfl tmps w g 44 cs (0,0) h q Tryz.underlying44 (by rw[z];kernel_rfl)
section
variable{F0:Nat→Prop}{w0 W:World}{Y:CH.bq}{A:fj}{c:Nat}{l:List (Pr × PA)}
theorem Ut{e:Pr × PA}(M:e ∈ l)(h:aI F0 w0 (aj (jh A c l) Y) W):∃ Z,aI F0 w0 (aj (nC e) Z) W:=by
 obtain⟨k,z,rfl⟩:=List.mem_iff_getElem.1 M;have I:aI F0 w0 (aj (aR (l.map nC)) (aj (o7 A c l) Y)) W:=h.perm (by unfold jh;ac_rfl);have p:k<(l.map nC).length:=by rw[YI];exact z
 have q:aI F0 w0 (aj (aj (l.map nC)[k] (aR ((l.map nC).eraseIdx k))) (aj (o7 A c l) Y)) W:=I.imp fun w F J=>bK J (fun F h=>Eo p h) (fun _ h=>h);rw[ZA] at q;exact⟨_,q.perm (kP _ _ _)⟩
theorem xD(z:0<l.length)(h:aI F0 w0 (aj (jh A c l) Y) W):∃ b o,A=some ⟨b,o,none⟩/\∀ i (hi:i<l.length),(W.cell? ⟨b,o+i*10,none⟩=some (.int .i64 l[i].1.i)/\W.cell? ⟨b,o+i*10+1,none⟩=some (.int .i64 l[i].1.j)/\W.cell? ⟨b,o+i*10+2,none⟩=some (.int .i64 l[i].1.kd)/\W.cell? ⟨b,o+i*10+3,none⟩=some (.int .i64 l[i].1.l)/\W.cell? ⟨b,o+i*10+4,none⟩=some (.int .i64 l[i].1.r))/\(W.cell? ⟨b,o+i*10+5,none⟩=some (.int .i64 l[i].1.c)/\W.cell? ⟨b,o+i*10+6,none⟩=some (.int .i64 l[i].1.d.c)/\W.cell? ⟨b,o+i*10+7,none⟩=some (.slice l[i].2.A l[i].1.d.L.length l[i].2.ac)/\W.cell? ⟨b,o+i*10+8,none⟩=some (.slice l[i].2.B l[i].1.d.M.length l[i].2.bc)/\W.cell? ⟨b,o+i*10+9,none⟩=some (.string (bs l[i].1.d.F))):=by
 obtain⟨F,I,J,q,-⟩:=h.fst;obtain⟨b,o,e,p⟩:=tH.at (R:=mY) (fun _=>rfl) fW (iG q (sN l)) z;have p:=p W (YC _ _);exact⟨b,o,e,fun i hi=>⟨⟨p i hi 0 _ rfl,p i hi 1 _ rfl,p i hi 2 _ rfl,p i hi 3 _ rfl,p i hi 4 _ rfl⟩,⟨p i hi 5 _ rfl,p i hi 6 _ rfl,p i hi 7 _ rfl,p i hi 8 _ rfl,p i hi 9 _ rfl⟩⟩⟩
end
theorem Oa{a:TA}(hT:iR w T a)(k:Int)(x:Bs)(k2:Int)(y:Bs)(hx:x.length<=1000000)(hy:y.length<=1000000):
  Calls Tryz.prog 19 #[eu T a,.int .i64 k,.string (bs x),.int .i64 k2,.string (bs y)] w (nN w T k x k2 y):=by
 have h1:=aH (aI.begin w) aO (dh T a) 25;have h2:=aH h1 aQ (fX 0 0 0 0 0 0 0 none 0 0 none 0 0 ⟨#[]⟩) 44;rw[YN] at h2;have H2:=au h2;have K1:=au (fun W1=>iM k x W1 hx);have K2:=au (fun W1=>iM k2 y W1 hy);have KV:=au (fun W1 (hb:Below w.heap.size w W1)=>pX (hT.below hb));unfold mR at K1 K2;simp only[oL] at K1 K2;have KW:=au (fun (a6:okW T k x k2 y=true) W1 (hb:Below w.heap.size w W1)=>N7 (hT.below hb) a6 hx hy);have HO:=au (show okW T k x k2 y=(word k x&&(word k2 y&&bC T)) from rfl);have HA:=au (fun (h:okW T k x k2 y=false) W (hb:Below w.heap.size w W)=>(show nN w T k x k2 y (.returned (.tuple #[.agg (fX 0 0 0 0 0 0 0 none 0 0 none 0 0 ⟨#[]⟩),.int .i64 1])) W from⟨CB,1,none,0,none,0,rfl,.arg h,iL hb⟩));have HN:=au (fun (h:okW T k x k2 y=true) (h2:jc T k x k2 y=[]) W (hb:Below w.heap.size w W)=>(show nN w T k x k2 y (.returned (.tuple #[.agg (fX 0 0 0 0 0 0 0 none 0 0 none 0 0 ⟨#[]⟩),.int .i64 11])) W from⟨CB,11,none,0,none,0,rfl,.none h (by unfold iB;rw[h2];rfl),iL hb⟩));have HS:=au (fun (h:okW T k x k2 y=true) (e:Pr × PA) (h2:first (jc T k x k2 y)=some e.1) W (hp:bS w fh (nC e) W)=>(show nN w T k x k2 y (.returned (.tuple #[.agg (fX e.1.i e.1.j e.1.kd e.1.l e.1.r e.1.c e.1.d.c e.2.A e.1.d.L.length e.2.ac e.2.B e.1.d.M.length e.2.bc (bs e.1.d.F)),.int .i64 0])) W from⟨e.1,0,e.2.A,e.2.ac,e.2.B,e.2.bc,rfl,.some h h2,hp⟩));have a7:=au (fun (h:okW T k x k2 y=true)=>N9 (T:=T) (k:=k) (k2:=k2) (x:=x) (y:=y) (gI.1 h).2.2);clear hT hx hy h1 h2;generalize (iq k x).1=l1 at *
 generalize (iq k2 y).1=l2 at *
 generalize bd:l1.length=m1 at *
 generalize be:l2.length=m2 at *
 clear bd be;unfold eu at *
 unfold dh at *
 generalize word k x=p1 at *
 generalize word k2 y=p2 at *
 generalize bC T=p3 at *
 obtain⟨aA,ac,aD,ad,aE,ae⟩:=a;dsimp only at *
 generalize T.rs.length=n1 at *
 generalize T.ds.length=n2 at *
 generalize T.es.length=n3 at *
 go_enter Tryz.func19,Tryz.ntmps19
 go_upto_region 1 with (fail);generalize (w.alloc (.cells (fw aA n1 ac aD n2 ad aE n3 ae T.drop T.ord T.ini) 25)).alloc (.cells (fX 0 0 0 0 0 0 0 none 0 0 none 0 0 ⟨#[]⟩) 44)=w1 at *
 generalize w.heap.size+1=ap at *
 generalize hg:w.heap.size=g5 at H2 ⊢;clear hg;have KA:=au (K1.o w1);clear K1;go_wp2_with fail;refine KA.o.mono ?_;rintro e9 w2 ⟨A1,c1,rfl,hp⟩;have H3:=au ((H2.o.fresh aQ hp).drop);clear KA hp H2;dsimp only;have KB:=au (K2.o w2);clear K2;go_wp2_with fail;refine KB.o.mono ?_;rintro e9 w3 ⟨A2,c2,rfl,hp⟩;have H4:=au ((H3.o.fresh aQ hp).drop);clear KB hp H3;dsimp only;have ak:=au (KV.o w3 H4.o.bN);clear KV;cases p1 with
 | false=>
  clear ak;have H9:=au (gM H4.o aQ (.int .i64 0) (.int .i64 0) (.int .i64 0) (.int .i64 0) (.int .i64 0) (.int .i64 0) (.int .i64 0) (.slice none 0 0) (.slice none 0 0) (.string ⟨#[]⟩));obtain⟨⟨z0,z1,z2,z3,z4⟩,⟨z5,z6,z7,z8,z9⟩,zf⟩:=bE H4.o;clear KW;go_wp2;obtain⟨f2,q⟩:=H9.o.fst;refine bodyPost_ret (vG rfl rfl q.1 rfl) rfl ?_;exact HA.o (by rw[HO.o];rfl) _ H9.o.bN
 | true=>
  cases p2 with
  | false=>
   clear ak;have H9:=au (gM H4.o aQ (.int .i64 0) (.int .i64 0) (.int .i64 0) (.int .i64 0) (.int .i64 0) (.int .i64 0) (.int .i64 0) (.slice none 0 0) (.slice none 0 0) (.string ⟨#[]⟩));obtain⟨⟨z0,z1,z2,z3,z4⟩,⟨z5,z6,z7,z8,z9⟩,zf⟩:=bE H4.o;clear KW;go_wp2;obtain⟨f2,q⟩:=H9.o.fst;refine bodyPost_ret (vG rfl rfl q.1 rfl) rfl ?_;exact HA.o (by rw[HO.o];rfl) _ H9.o.bN
  | true=>
   obtain⟨a0,a1,a2,a3,a4,a5⟩:=nW H4.o.drop;go_wp2_with fail;refine ak.o.mono ?_;rintro e9 w4 ⟨rfl,hb⟩;have H5:=au (H4.o.below aQ hb);clear ak hb H4 a0 a1 a2 a3 a4 a5;cases p3 with
   | false=>
    have H9:=au (gM H5.o aQ (.int .i64 0) (.int .i64 0) (.int .i64 0) (.int .i64 0) (.int .i64 0) (.int .i64 0) (.int .i64 0) (.slice none 0 0) (.slice none 0 0) (.string ⟨#[]⟩));obtain⟨⟨z0,z1,z2,z3,z4⟩,⟨z5,z6,z7,z8,z9⟩,zf⟩:=bE H5.o;clear KW;go_wp2;obtain⟨f2,q⟩:=H9.o.fst;refine bodyPost_ret (vG rfl rfl q.1 rfl) rfl ?_;exact HA.o (by rw[HO.o];rfl) _ H9.o.bN
   | true=>
    have am:=au (show okW T k x k2 y=true from HO.o);obtain⟨a0,a1,a2,a3,a4,a5⟩:=nW H5.o.drop;have ar:=au (KW.o am.o w4 H5.o.bN);clear KW HO HA;go_wp2_with fail;refine ar.o.mono ?_;rintro e9 w5 ⟨A,c,l,rfl,hl,hp⟩;have H6:=au (H5.o.fresh aQ hp);have HL:=au hl;clear ar hp H5 a0 a1 a2 a3 a4 a5 hl;dsimp only;obtain⟨n,hn⟩:∃ n,n=l.length:=⟨_,rfl⟩;have I:=au hn;rw[<-hn];clear hn;by_cases h0:n=0
    ·subst h0;have HZ:=au (show jc T k x k2 y=[] from by rw[<-HL.o,Y0 I.o.symm];rfl);have H7:=au H6.o.drop;clear H6;have H9:=au (gM H7.o aQ (.int .i64 0) (.int .i64 0) (.int .i64 0) (.int .i64 0) (.int .i64 0) (.int .i64 0) (.int .i64 0) (.slice none 0 0) (.slice none 0 0) (.string ⟨#[]⟩));obtain⟨⟨z0,z1,z2,z3,z4⟩,⟨z5,z6,z7,z8,z9⟩,zf⟩:=bE H7.o;go_wp2;obtain⟨f2,q⟩:=H9.o.fst;refine bodyPost_ret (vG rfl rfl q.1 rfl) rfl ?_;exact HN.o am.o HZ.o _ H9.o.bN
    ·have t0:((n:Int)==0)=false:=by simp;exact h0
     have aa:0<n:=by omega
     have bb:=au aa;have bi:n<=1766:=by rw[I.o,<-YI (f:=(·.1)),HL.o];exact a7.o am.o
     obtain⟨b,o,rfl,-⟩:=xD (by rw[<-I.o];exact aa) H6.o
     have a8:=au (fun V X (h:aI fh w (aj X (aj (jh (some ⟨b,o,none⟩) c l) (aj (av ap (fX 0 0 0 0 0 0 0 none 0 0 none 0 0 ⟨#[]⟩) 44) (aj (av g5 (fw aA n1 ac aD n2 ad aE n3 ae T.drop T.ord T.ini) 25) aS)))) V) i (hi:i<l.length)=>(show(V.cell? ⟨b,o+i*10,none⟩=some (.int .i64 l[i].1.i)/\V.cell? ⟨b,o+i*10+1,none⟩=some (.int .i64 l[i].1.j)/\V.cell? ⟨b,o+i*10+2,none⟩=some (.int .i64 l[i].1.kd)/\V.cell? ⟨b,o+i*10+3,none⟩=some (.int .i64 l[i].1.l)/\V.cell? ⟨b,o+i*10+4,none⟩=some (.int .i64 l[i].1.r))/\(V.cell? ⟨b,o+i*10+5,none⟩=some (.int .i64 l[i].1.c)/\V.cell? ⟨b,o+i*10+6,none⟩=some (.int .i64 l[i].1.d.c)/\V.cell? ⟨b,o+i*10+7,none⟩=some (.slice l[i].2.A l[i].1.d.L.length l[i].2.ac)/\V.cell? ⟨b,o+i*10+8,none⟩=some (.slice l[i].2.B l[i].1.d.M.length l[i].2.bc)/\V.cell? ⟨b,o+i*10+9,none⟩=some (.string (bs l[i].1.d.F))) from by
      obtain⟨b',o',e1,hc⟩:=xD (Nat.lt_of_le_of_lt (YE _) hi) h.drop;injection e1 with e1;injection e1 with e1 e2;subst e1 e2
      exact hc i hi))
     obtain⟨e,he⟩:∃ e,e=l[0]'(by rw[<-I.o];exact aa):=⟨_,rfl⟩;have af:=au (show e ∈ l from by rw[he];exact YL _);have aw:=au (show first ((l.map (·.1)).take 1)=some e.1 from N8 (by rw[YI,<-I.o];exact aa) (by rw[ZA,he]));clear h0
     obtain⟨⟨r0,r1,r2,r3,r4⟩,⟨r5,r6,r7,r8,r9⟩⟩:=(show(w5.cell? ⟨b,o,none⟩=some (.int .i64 e.1.i)/\w5.cell? ⟨b,o+1,none⟩=some (.int .i64 e.1.j)/\w5.cell? ⟨b,o+2,none⟩=some (.int .i64 e.1.kd)/\w5.cell? ⟨b,o+3,none⟩=some (.int .i64 e.1.l)/\w5.cell? ⟨b,o+4,none⟩=some (.int .i64 e.1.r))/\(w5.cell? ⟨b,o+5,none⟩=some (.int .i64 e.1.c)/\w5.cell? ⟨b,o+6,none⟩=some (.int .i64 e.1.d.c)/\w5.cell? ⟨b,o+7,none⟩=some (.slice e.2.A e.1.d.L.length e.2.ac)/\w5.cell? ⟨b,o+8,none⟩=some (.slice e.2.B e.1.d.M.length e.2.bc)/\w5.cell? ⟨b,o+9,none⟩=some (.string (bs e.1.d.F))) from by
      obtain⟨b',o',e1,hc⟩:=xD (by rw[<-I.o];exact aa) H6.o;injection e1 with e1;injection e1 with e1 e2;subst e1 e2
      rw[he];have:=hc 0 (by rw[<-I.o];exact aa)
      simpa using this)
     clear he aa;have H7:=au (aH H6.o (ay uE aQ) (fX e.1.i e.1.j e.1.kd e.1.l e.1.r e.1.c e.1.d.c e.2.A e.1.d.L.length e.2.ac e.2.B e.1.d.M.length e.2.bc (bs e.1.d.F)) 44);clear H6;go_upto_region 9 with (fail);clear r0 r1 r2 r3 r4 r5 r6 r7 r8 r9;generalize w5.alloc (.cells (fX e.1.i e.1.j e.1.kd e.1.l e.1.r e.1.c e.1.d.c e.2.A e.1.d.L.length e.2.ac e.2.B e.1.d.M.length e.2.bc (bs e.1.d.F)) 44)=w6 at *
     generalize w5.heap.size=p at *
     go_wp2_with fail;go_loopw [18] (fun kk wr=>∃ (i:Nat) (e:Pr × PA),kk=.int .i64 i/\1<=i/\i<=n/\Hid (e ∈ l/\first ((l.map (·.1)).take i)=some e.1/\aI fh w (aj (av p (fX e.1.i e.1.j e.1.kd e.1.l e.1.r e.1.c e.1.d.c e.2.A e.1.d.L.length e.2.ac e.2.B e.1.d.M.length e.2.bc (bs e.1.d.F)) 44) (aj (jh (some ⟨b,o,none⟩) c l) (aj (av ap (fX 0 0 0 0 0 0 0 none 0 0 none 0 0 ⟨#[]⟩) 44) (aj (av g5 (fw aA n1 ac aD n2 ad aE n3 ae T.drop T.ord T.ini) 25) aS)))) wr)) (fun kk _=>n-(intOf kk).toNat)
     case atStart=>exact⟨1,e,rfl,YG _,bb.o,au ⟨af.o,aw.o,H7.o⟩⟩
     case round=>
      clear af aw H7;obtain⟨i,e,rfl,aq,hi,hH⟩:=hrel;by_cases ag:i<n
      ·have ai:i<l.length:=by rw[<-I.o];exact ag
       have ax:=au (fun V X h=>a8.o V X h i ai);have az:=au (YL ai);have an:=au (JJ (l:=l.map (·.1)) (i:=i) (by rw[YI];exact ai));rw[ZA] at an;generalize l[i]=z at *
       have ab:=au (show 1<=i+1/\i+1<=n from⟨by omega,ag⟩);have a9:(i:Int)<(n:Int):=by omega
       have bf:i<n:=ag;have af:=au hH.o.1;have al:=au hH.o.2.1;have HR:=au hH.o.2.2;clear hH aq hi ag ai;have J:=au (HR.o.drew aQ);clear HR;go_upto_region 12 with (fail)
       refine aK (fun w'=>w'.cell? ⟨b,o+i*10+5,none⟩=some (.int .i64 z.1.c)/\w'.cell? ⟨p,5,none⟩=some (.int .i64 e.1.c)) fi fi (by
        exact⟨(ax.o _ _ J.o).2.1,(bE J.o).2.1.1⟩) ?_
       generalize wr.drew=ba at *
       (repeat(first|refine aW ?_|refine aX ?_))
       refine lex_nil ?_;by_cases hc:z.1.c<e.1.c
       ·have ao:=au (show first ((l.map (·.1)).take (i+1))=some z.1 from by
         rw[an.o,al.o]
         show(if z.1.c<e.1.c then some z.1 else some e.1)=_
         rw[if_pos hc])
        have H8:=au (gM J.o (ay uE aQ) (.int .i64 z.1.i) (.int .i64 z.1.j) (.int .i64 z.1.kd) (.int .i64 z.1.l) (.int .i64 z.1.r) (.int .i64 z.1.c) (.int .i64 z.1.d.c) (.slice z.2.A z.1.d.L.length z.2.ac) (.slice z.2.B z.1.d.M.length z.2.bc) (.string (bs z.1.d.F)));obtain⟨⟨z0,z1,z2,z3,z4⟩,⟨z5,z6,z7,z8,z9⟩,zf⟩:=bE J.o;obtain⟨⟨r0,r1,r2,r3,r4⟩,⟨r5,r6,r7,r8,r9⟩⟩:=ax.o _ _ J.o;clear J;go_wp2_with fail;clear r0 r1 r2 r3 r4 r5 r6 r7 r8 r9;clear z0 z1 z2 z3 z4 z5 z6 z7 z8 z9 zf;generalize (((((((((ba.setCell ⟨p,0,none⟩ (.int .i64 z.1.i)).setCell ⟨p,1,none⟩ (.int .i64 z.1.j)).setCell ⟨p,2,none⟩ (.int .i64 z.1.kd)).setCell ⟨p,3,none⟩ (.int .i64 z.1.l)).setCell ⟨p,4,none⟩ (.int .i64 z.1.r)).setCell ⟨p,5,none⟩ (.int .i64 z.1.c)).setCell ⟨p,6,none⟩ (.int .i64 z.1.d.c)).setCell ⟨p,7,none⟩ (.slice z.2.A z.1.d.L.length z.2.ac)).setCell ⟨p,8,none⟩ (.slice z.2.B z.1.d.M.length z.2.bc)).setCell ⟨p,9,none⟩ (.string (bs z.1.d.F))=bh at *
        go_roundw
        case rel=>exact⟨i+1,z,by go_num,ab.o.1,ab.o.2,au ⟨az.o,ao.o,H8.o⟩⟩
        case measure=>have:=ab.o;simp[intOf];omega
       ·have ao:=au (show first ((l.map (·.1)).take (i+1))=some e.1 from by
         rw[an.o,al.o]
         show(if z.1.c<e.1.c then some z.1 else some e.1)=_
         rw[if_neg hc])
        go_wp2_with fail
        go_roundw
        case rel=>exact⟨i+1,e,by go_num,ab.o.1,ab.o.2,au ⟨af.o,ao.o,J.o⟩⟩
        case measure=>have:=ab.o;simp[intOf];omega
      ·obtain rfl:i=n:=by omega
       have a9:¬ (i:Int)<(i:Int):=by omega
       have al:=au (show first (jc T k x k2 y)=some e.1 from by
        have h:=hH.o.2.1;rw[ZR (by rw[YI,<-I.o];exact YG _),HL.o] at h
        exact h)
       have af:=au hH.o.1;have HR:=au (hH.o.2.2.perm (by ac_rfl:_=aj (av ap (fX 0 0 0 0 0 0 0 none 0 0 none 0 0 ⟨#[]⟩) 44) (aj (av p (fX e.1.i e.1.j e.1.kd e.1.l e.1.r e.1.c e.1.d.c e.2.A e.1.d.L.length e.2.ac e.2.B e.1.d.M.length e.2.bc (bs e.1.d.F)) 44) (aj (jh (some ⟨b,o,none⟩) c l) (aj (av g5 (fw aA n1 ac aD n2 ad aE n3 ae T.drop T.ord T.ini) 25) aS)))));clear hH aq hi ag;have H8:=au (gM HR.o aQ (.int .i64 e.1.i) (.int .i64 e.1.j) (.int .i64 e.1.kd) (.int .i64 e.1.l) (.int .i64 e.1.r) (.int .i64 e.1.c) (.int .i64 e.1.d.c) (.slice e.2.A e.1.d.L.length e.2.ac) (.slice e.2.B e.1.d.M.length e.2.bc) (.string (bs e.1.d.F)));obtain⟨⟨z0,z1,z2,z3,z4⟩,⟨z5,z6,z7,z8,z9⟩,zf⟩:=bE HR.o;obtain⟨⟨r0,r1,r2,r3,r4⟩,⟨r5,r6,r7,r8,r9⟩,rf⟩:=bE HR.o.drop;clear HR;go_wp2;obtain⟨f2,q⟩:=H8.o.fst;refine bodyPost_ret (vG rfl rfl q.1 rfl) rfl ?_;obtain⟨Z,hZ⟩:=Ut af.o H8.o.drop.drop;exact HS.o am.o e al.o _ (hZ.swap.drop.post nM)
end Go.Proofs.YtbnnlpjpnihheaaGreatDoor
namespace Go.Proofs.YtbnnlpjpnihheaaGreatDoor.Rl
open Go.RowKit Go.CH Go.CH.bF
open Asn (bM eT lW BL Vec ints cF lF qE)
open Go.ChangeMaps (setBlock)
variable{a b:List Int}{w:World}{A B:fj}{c d:Nat}
theorem LP{k:Nat}(h:a.take k=b.take k)(ha:k<a.length)(hb:k<b.length)(he:a[k]=b[k]):a.take (k+1)=b.take (k+1):=by
 rw[YD ha,YD hb,h,he]
theorem QT(hA:Vec w A a)(hB:Vec w B b)(hl:a.length<=1000000):
  Calls Tryz.prog 80 #[.slice A a.length c,.slice B b.length d] w (aL w (.bool (decide (a=b)))):=by
 have HA:=au hA;have HB:=au hB;obtain⟨n,hn⟩:∃ n,n=a.length:=⟨_,rfl⟩;obtain⟨m,hm⟩:∃ m,m=b.length:=⟨_,rfl⟩;rw[<-hn] at hl;have HN:=au hn;have HM:=au hm;rw[<-hn,<-hm];clear hA hB hn hm;by_cases z:n=m
 ·subst z
  go_enter Tryz.func80,Tryz.ntmps80
  go_wp2;go_loopw [5] (fun i wr=>∃ k:Nat,k<=n/\i=.int .i64 k/\a.take k=b.take k/\Below w.heap.size w wr) (fun i _=>n-(intOf i).toNat)
  case atStart=>exact⟨0,YE _,rfl,rfl,YC _ _⟩
  case round=>
   obtain⟨k,hk,rfl,ht,hb⟩:=hrel;have HT:=au ht;have q:=au (dO hb);have ab:=au hb;clear ht hb;by_cases J:k<n
   ·have V:k<a.length:=by rw[<-HN.o];exact J
    have aa:k<b.length:=by rw[<-HM.o];exact J
    obtain⟨b1,o1,rfl,I⟩:=HA.o.at ff;obtain⟨b2,o2,rfl,M⟩:=HB.o.at ff;have c1:=I _ q.o k V;have c2:=M _ q.o k aa;have HX:=au (LP HT.o V aa);have HY:=au (show a[k]≠b[k]->a≠b from fun h e=>h (by subst e;rfl));generalize a[k]=x at *
    generalize b[k]=y at *
    clear I M;by_cases p:x=y
    ·have HS:=au (HX.o p);clear HX;subst p;go_wp2_with fail;refine aK (fun w'=>w'=wr.drew) fi fi rfl ?_;generalize wr.drew=wd at *
     (repeat(first|refine aW ?_|refine aX ?_))
     refine lex_nil ?_;go_wp2
     go_roundw
     case rel=>exact⟨k+1,by omega,by go_num,HS.o,q.o⟩
     case measure=>simp[intOf];omega
    ·have t1:(x==y)=false:=by simpa using p
     have t2:(x != y)=true:=by simpa using p
     have F:=au (decide_eq_false (HY.o p));clear p;go_wp2_with fail;refine aK (fun w'=>w'=wr.drew) fi fi rfl ?_;generalize wr.drew=wd at *
     (repeat(first|refine aW ?_|refine aX ?_))
     refine lex_nil ?_;go_wp2;go_ret;exact aN F.o q.o
   ·obtain rfl:k=n:=by omega
    have F:=au (show decide (a=b)=true by
     rw[decide_eq_true_eq];have:=HT.o;rw[HN.o,YO,<-HN.o,HM.o,YO] at this
     exact this)
    clear HT;go_wp2;go_ret;exact aN F.o ab.o
 ·have F:=au (show decide (a=b)=false by
   rw[decide_eq_false_iff_not];intro e
   exact z (by rw[HN.o,HM.o,e]))
  go_enter Tryz.func80,Tryz.ntmps80
  go_wp2;go_ret;exact aN F.o (YC _ _)
end Go.Proofs.YtbnnlpjpnihheaaGreatDoor.Rl
namespace Go.Proofs.YtbnnlpjpnihheaaGreatDoor
open Go.RowKit Go.CH Go.CH.Scr Go.CH.eG Go.CH.Mtc
open Go.ChangeMaps (setBlock)
variable{w:World}{A B:fj}{c d:Nat}
theorem Gz{l:List Int}(p:iD w A l)(q:iD w B l)(z:l.length<=1000000):
  Calls Tryz.prog 80 #[.slice A l.length c,.slice B l.length d] w (aL w (.bool true)):=by
 have h:=Rl.QT (c:=c) (d:=d) (show Asn.Vec w A l from p) (show Asn.Vec w B l from q) z;rw[decide_eq_true rfl] at h;exact h
theorem QU{I z:fj}{c2 e e2:Nat}{d:Dv}(h1:iD w A d.L)(h2:iD w I d.L)(h3:iD w B d.M)(h4:iD w z d.M)(hl:d.L.length<=1000000)(hm:d.M.length<=1000000):
  Calls Tryz.prog 46 #[.agg (fY d.c A d.L.length c B d.M.length e (bs d.F)),.agg (fY d.c I d.L.length c2 z d.M.length e2 (bs d.F))] w (aL w (.bool true)):=by
 have g1:=aH (aI.begin w) aO (fY d.c A d.L.length c B d.M.length e (bs d.F)) 42;have J:=aH g1 aQ (fY d.c I d.L.length c2 z d.M.length e2 (bs d.F)) 42;rw[YN] at J;have p:=au J;have K1:=au (fun W (h:Below w.heap.size w W)=>Gz (c:=c) (d:=c2) (h1.below h) (h2.below h) hl);have K2:=au (fun W (h:Below w.heap.size w W)=>Gz (c:=e) (d:=e2) (h3.below h) (h4.below h) hm);clear g1 J h1 h2 h3 h4;have t1:(d.c==d.c)=true:=by simp
 have t2:((bs d.F).toList==(bs d.F).toList)=true:=by simp
 generalize d.L.length=n at *
 generalize d.M.length=m at *
 generalize bs d.F=f at *
 generalize d.c=v at *
 go_enter Tryz.func46,Tryz.ntmps46
 go_upto_region 1 with (fail);generalize (w.alloc (.cells (fY v A n c B m e f) 42)).alloc (.cells (fY v I n c2 z m e2 f) 42)=w2 at *
 generalize w.heap.size+1=g3 at *
 generalize hg:w.heap.size=gg at p ⊢;clear hg;obtain⟨V,a1,a2,a3,-⟩:=aY p.o;obtain⟨b0,b1,b2,b3,-⟩:=aY p.o.drop;have KA:=au (K1.o w2 p.o.bN);go_wp2_with fail;refine KA.o.mono ?_;rintro e9 w3 ⟨rfl,h⟩;have q:=au (p.o.below aQ h);clear KA h p V a1 a2 a3 b0 b1 b2 b3 K1;dsimp only;obtain⟨V,a1,a2,a3,-⟩:=aY q.o;obtain⟨b0,b1,b2,b3,-⟩:=aY q.o.drop;have KB:=au (K2.o w3 q.o.bN);go_wp2_with fail;refine KB.o.mono ?_;rintro e9 w4 ⟨rfl,h⟩;have HE:=au (aG q.o.bN h);clear KB h q V a1 a2 a3 b0 b1 b2 b3 K2 t1 t2;dsimp only;go_wp2;go_ret;exact aN rfl HE.o
theorem Ee{V B z:fj}{c2 e e2:Nat}{p:Pr}(h1:iD w A p.d.L)(h2:iD w V p.d.L)(h3:iD w B p.d.M)(h4:iD w z p.d.M)(hl:p.d.L.length<=1000000)(hm:p.d.M.length<=1000000):
  Calls Tryz.prog 20 #[.agg (og p A c B e),.agg (og p V c2 z e2)] w (aL w (.bool true)):=by
 have g1:=aH (aI.begin w) aO (og p A c B e) 44;have J:=aH g1 aQ (og p V c2 z e2) 44;rw[YN] at J;have K1:=au (fun W (h:Below w.heap.size w W)=>QU (c:=c) (c2:=c2) (e:=e) (e2:=e2) (d:=p.d) (h1.below h) (h2.below h) (h3.below h) (h4.below h) hl hm);unfold og at J ⊢;have q:=au J;clear g1 J h1 h2 h3 h4;obtain⟨pi,F,I,pl,pr,pc,⟨dc,dL,dM,dF⟩⟩:=p;dsimp only at *
 have t1:(pi==pi)=true:=by simp
 have t2:(F==F)=true:=by simp
 have t3:(I==I)=true:=by simp
 have t4:(pl==pl)=true:=by simp
 have t5:(pr==pr)=true:=by simp
 have t6:(pc==pc)=true:=by simp
 generalize dL.length=n at *
 generalize dM.length=m at *
 generalize bs dF=f at *
 go_enter Tryz.func20,Tryz.ntmps20
 go_upto_region 1 with (fail);generalize (w.alloc (.cells (fX pi F I pl pr pc dc A n c B m e f) 44)).alloc (.cells (fX pi F I pl pr pc dc V n c2 z m e2 f) 44)=w2 at *
 generalize w.heap.size+1=g3 at *
 generalize hg:w.heap.size=gg at q ⊢;clear hg;obtain⟨⟨a0,a1,a2,a3,a4⟩,⟨a5,a6,a7,a8,a9⟩,-⟩:=bE q.o;obtain⟨⟨b0,b1,b2,b3,b4⟩,⟨b5,b6,b7,b8,b9⟩,-⟩:=bE q.o.drop;have KA:=au (K1.o w2 q.o.bN);go_wp2_with fail;refine KA.o.mono ?_;rintro e9 w3 ⟨rfl,h⟩;have HE:=au (aG q.o.bN h);clear KA h q a0 a1 a2 a3 a4 a5 a6 a7 a8 a9 b0 b1 b2 b3 b4 b5 b6 b7 b8 b9 K1 t1 t2 t3 t4 t5 t6;dsimp only;go_wp2;go_ret;exact aN rfl HE.o
end Go.Proofs.YtbnnlpjpnihheaaGreatDoor
