/- A part of the proof: lemmas. -/
import Derived.Test.YtbnnlpjpnihheaaGreatDoorMW1
import Derived.Test.YtbnnlpjpnihheaaGreatDoorProg
import Derived.Shelf.Strings.Trim
import Derived.Shelf.Small.Wraps
import Derived.Shelf.Utf8.AppendRune
import Derived.Shelf.Utf8.AppendRunePlain
import Derived.Shelf.Unicode.Latin
import Derived.Shelf.Unicode.Decode
import Derived.Shelf.Strings.Runes
import Derived.Shelf.Strings.AsciiSet
import Derived.Shelf.Unicode.DecodeLast
import Derived.Shelf.Strings.CaseAny
import Derived.Shelf.Strings.BuilderCap
import Derived.Shelf.Slices.Clone
import Derived.Shelf.Slices.Empties2
import Derived.Shelf.SlicesE.Clone
import Derived.RangeFuncNested
import Derived.RangeFuncBound
import Derived.OrdersIn
set_option maxHeartbeats 16000000
set_option maxRecDepth 100000
set_option linter.all false
namespace Go.Proofs
open Go.Shelf
def Tryz.yJ:Go.Shelf.Ren:=⟨fun|159=>51|165=>85|166=>86|167=>88|169=>87|230=>89|204=>90|240=>116|241=>117|197=>118|118=>119|168=>120|270=>121|262=>122|276=>144|277=>145|260=>146|242=>147|313=>148|278=>155|274=>156|275=>157|n=>n,fun|9=>9|4=>4|3=>3|5=>5|72=>152|0=>0|76=>156|75=>155|107=>161|70=>149|20=>20|37=>150|127=>203|21=>21|105=>204|164=>232|162=>238|203=>236|119=>243|46=>244|139=>247|138=>246|51=>248|160=>249|208=>256|206=>254|80=>158|n=>n,fun|13=>0|3=>2|4=>3|n=>n⟩
theorem Tryz.U5:Go.Proofs.Lays.n159 Tryz.prog Tryz.yJ:={
 mixed:=by kernel_rfl
 f118:=Tryz.func119.trans gv
 f159:=Tryz.func51.trans gv
 f165:=Tryz.func85.trans gv
 f166:=Tryz.func86.trans gv
 f167:=Tryz.func88.trans gv
 f168:=Tryz.func120.trans gv
 f169:=Tryz.func87.trans gv
 f197:=Tryz.func118.trans gv
 f204:=Tryz.func90.trans gv
 f230:=Tryz.func89.trans gv
 f240:=Tryz.func116.trans gv
 f241:=Tryz.func117.trans gv
 f242:=Tryz.func147.trans gv
 f260:=Tryz.func146.trans gv
 f262:=Tryz.func122.trans gv
 f270:=Tryz.func121.trans gv
 f274:=Tryz.func156.trans gv
 f275:=Tryz.func157.trans gv
 f276:=Tryz.func144.trans gv
 f277:=Tryz.func145.trans gv
 f278:=Tryz.func155.trans gv
 f313:=Tryz.func148.trans gv
 t0:=Tryz.underlying0
 a0:=Tryz.isAgg0
 z0:=Tryz.sizeOf0
 v0:=Tryz.zeroValue0
 t3:=Tryz.underlying3
 a3:=Tryz.isAgg3
 z3:=Tryz.sizeOf3
 v3:=Tryz.zeroValue3
 t4:=Tryz.underlying4
 a4:=Tryz.isAgg4
 z4:=Tryz.sizeOf4
 v4:=Tryz.zeroValue4
 t5:=Tryz.underlying5
 a5:=Tryz.isAgg5
 z5:=Tryz.sizeOf5
 v5:=Tryz.zeroValue5
 t9:=Tryz.underlying9
 a9:=Tryz.isAgg9
 z9:=Tryz.sizeOf9
 v9:=Tryz.zeroValue9
 t20:=Tryz.underlying20
 a20:=Tryz.isAgg20
 z20:=Tryz.sizeOf20
 v20:=Tryz.zeroValue20
 t21:=Tryz.underlying21
 a21:=Tryz.isAgg21
 z21:=Tryz.sizeOf21
 v21:=Tryz.zeroValue21
 t37:=Tryz.underlying150
 a37:=Tryz.isAgg150
 z37:=Tryz.sizeOf150
 v37:=Tryz.zeroValue150
 t46:=Tryz.underlying244
 a46:=Tryz.isAgg244
 z46:=Tryz.sizeOf244
 v46:=Tryz.zeroValue244
 t51:=Tryz.underlying248
 a51:=Tryz.isAgg248
 z51:=Tryz.sizeOf248
 v51:=Tryz.zeroValue248
 t70:=Tryz.underlying149
 a70:=Tryz.isAgg149
 z70:=Tryz.sizeOf149
 v70:=Tryz.zeroValue149
 t72:=Tryz.underlying152
 a72:=Tryz.isAgg152
 z72:=Tryz.sizeOf152
 v72:=Tryz.zeroValue152
 t75:=Tryz.underlying155
 a75:=Tryz.isAgg155
 z75:=Tryz.sizeOf155
 v75:=Tryz.zeroValue155
 t76:=Tryz.underlying156
 a76:=Tryz.isAgg156
 z76:=Tryz.sizeOf156
 v76:=Tryz.zeroValue156
 t105:=Tryz.underlying204
 a105:=Tryz.isAgg204
 z105:=Tryz.sizeOf204
 v105:=Tryz.zeroValue204
 t107:=Tryz.underlying161
 a107:=Tryz.isAgg161
 z107:=Tryz.sizeOf161
 v107:=Tryz.zeroValue161
 t119:=Tryz.underlying243
 a119:=Tryz.isAgg243
 z119:=Tryz.sizeOf243
 t127:=Tryz.underlying203
 a127:=Tryz.isAgg203
 z127:=Tryz.sizeOf203
 v127:=Tryz.zeroValue203
 t138:=Tryz.underlying246
 a138:=Tryz.isAgg246
 z138:=Tryz.sizeOf246
 v138:=Tryz.zeroValue246
 t139:=Tryz.underlying247
 a139:=Tryz.isAgg247
 z139:=Tryz.sizeOf247
 v139:=Tryz.zeroValue247
 t160:=Tryz.underlying249
 a160:=Tryz.isAgg249
 z160:=Tryz.sizeOf249
 v160:=Tryz.zeroValue249
 t162:=Tryz.underlying238
 a162:=Tryz.isAgg238
 z162:=Tryz.sizeOf238
 v162:=Tryz.zeroValue238
 t164:=Tryz.underlying232
 a164:=Tryz.isAgg232
 z164:=Tryz.sizeOf232
 v164:=Tryz.zeroValue232
 t203:=Tryz.underlying236
 a203:=Tryz.isAgg236
 z203:=Tryz.sizeOf236
 v203:=Tryz.zeroValue236
 t206:=Tryz.underlying254
 a206:=Tryz.isAgg254
 z206:=Tryz.sizeOf254
 v206:=Tryz.zeroValue254
 t208:=Tryz.underlying256
 a208:=Tryz.isAgg256
 z208:=Tryz.sizeOf256
 v208:=Tryz.zeroValue256
 g3:=by kernel_rfl
 g4:=by kernel_rfl
 g13:=by kernel_rfl }
theorem Tryz.vS:Builder.Extra Tryz.prog Tryz.yJ:={
 sizeBuilder:=by kernel_rfl
 liesBuilder:=by kernel_rfl
 t5:=Tryz.underlying5
 a5:=Tryz.isAgg5
 z5:=Tryz.sizeOf5
 v5:=Tryz.zeroValue5
 infoByte:=by kernel_rfl
 cellsByte:=by kernel_rfl
 sizeByte:=by kernel_rfl
 neB5:=by decide }
def Tryz.yK:Go.Shelf.Ren:=⟨fun|156=>49|165=>85|166=>86|169=>87|240=>116|241=>117|276=>144|277=>145|n=>n,fun|31=>26|9=>9|3=>3|4=>4|0=>0|20=>20|72=>152|76=>156|70=>149|37=>150|75=>155|127=>203|164=>232|5=>5|80=>158|n=>n,fun|n=>n⟩
theorem Tryz.Mk:Go.Proofs.Lays.n156 Tryz.prog Tryz.yK:={
 mixed:=by kernel_rfl
 f156:=Tryz.func49.trans gv
 f165:=Tryz.func85.trans gv
 f166:=Tryz.func86.trans gv
 f169:=Tryz.func87.trans gv
 f240:=Tryz.func116.trans gv
 f241:=Tryz.func117.trans gv
 f276:=Tryz.func144.trans gv
 f277:=Tryz.func145.trans gv
 t0:=Tryz.underlying0
 a0:=Tryz.isAgg0
 z0:=Tryz.sizeOf0
 v0:=Tryz.zeroValue0
 t3:=Tryz.underlying3
 a3:=Tryz.isAgg3
 z3:=Tryz.sizeOf3
 v3:=Tryz.zeroValue3
 t4:=Tryz.underlying4
 a4:=Tryz.isAgg4
 z4:=Tryz.sizeOf4
 v4:=Tryz.zeroValue4
 t9:=Tryz.underlying9
 a9:=Tryz.isAgg9
 z9:=Tryz.sizeOf9
 v9:=Tryz.zeroValue9
 t20:=Tryz.underlying20
 a20:=Tryz.isAgg20
 z20:=Tryz.sizeOf20
 v20:=Tryz.zeroValue20
 t31:=Tryz.underlying26
 a31:=Tryz.isAgg26
 z31:=Tryz.sizeOf26
 v31:=Tryz.zeroValue26
 t37:=Tryz.underlying150
 a37:=Tryz.isAgg150
 z37:=Tryz.sizeOf150
 v37:=Tryz.zeroValue150
 t70:=Tryz.underlying149
 a70:=Tryz.isAgg149
 z70:=Tryz.sizeOf149
 v70:=Tryz.zeroValue149
 t72:=Tryz.underlying152
 a72:=Tryz.isAgg152
 z72:=Tryz.sizeOf152
 v72:=Tryz.zeroValue152
 t75:=Tryz.underlying155
 a75:=Tryz.isAgg155
 z75:=Tryz.sizeOf155
 v75:=Tryz.zeroValue155
 t76:=Tryz.underlying156
 a76:=Tryz.isAgg156
 z76:=Tryz.sizeOf156
 v76:=Tryz.zeroValue156
 t127:=Tryz.underlying203
 a127:=Tryz.isAgg203
 z127:=Tryz.sizeOf203
 v127:=Tryz.zeroValue203
 t164:=Tryz.underlying232
 a164:=Tryz.isAgg232
 z164:=Tryz.sizeOf232
 v164:=Tryz.zeroValue232 }
theorem Tryz.nL:Builder.Extra Tryz.prog Tryz.yK:={
 sizeBuilder:=by kernel_rfl
 liesBuilder:=by kernel_rfl
 t5:=Tryz.underlying5
 a5:=Tryz.isAgg5
 z5:=Tryz.sizeOf5
 v5:=Tryz.zeroValue5
 infoByte:=by kernel_rfl
 cellsByte:=by kernel_rfl
 sizeByte:=by kernel_rfl
 neB5:=by decide }
open Go.RowKit in
theorem Tryz.strings_Join_none(a:fj)(c:Nat)(sep:ByteArray)(w:World):
  Calls Tryz.prog 49 #[.slice a 0 c,.string sep] w fun e w'=>e=.returned (.string ⟨#[]⟩)/\w'=w:=Any.strings_Join_none Tryz.Mk Tryz.nL a c sep w
open Go.RowKit in
theorem Tryz.strings_Join(F o c:Nat)(xs:List ByteArray)(p:ByteArray)(w:World)(h:∀ (j:Nat) x,xs[j]?=some x->w.cell? ⟨F,o+j,none⟩=some (.string x))(I:F<w.heap.size)(J:xs.length<=140737488355328)(z:xs.length<=c)(q:(Lib.join (xs.map (·.data.toList)) p.data.toList).length<=140737488355328):
  Calls Tryz.prog 49 #[.slice (some ⟨F,o,none⟩) xs.length c,.string p] w fun e w'=>e=.returned (.string ⟨(Lib.join (xs.map (·.data.toList)) p.data.toList).toArray⟩)/\Below w.heap.size w w':=Any.strings_Join Tryz.Mk Tryz.nL F o c xs p w h I J z q
def Tryz.Hg:Go.Shelf.Ren:=⟨fun|160=>115|232=>138|231=>137|227=>139|234=>141|233=>140|236=>143|235=>142|228=>152|271=>154|151=>153|197=>118|120=>161|152=>160|260=>146|137=>149|119=>163|224=>164|225=>165|217=>158|266=>162|n=>n,fun|9=>9|4=>4|3=>3|5=>5|117=>228|116=>227|0=>0|124=>231|21=>21|105=>204|46=>244|119=>243|139=>247|138=>246|n=>n,fun|3=>2|4=>3|n=>n⟩
theorem Tryz.U6:Go.Proofs.Lays.n160 Tryz.prog Tryz.Hg:={
 mixed:=by kernel_rfl
 f119:=Tryz.func163.trans gv
 f120:=Tryz.func161.trans gv
 f137:=Tryz.func149.trans gv
 f151:=Tryz.func153.trans gv
 f152:=Tryz.func160.trans gv
 f160:=Tryz.func115.trans gv
 f197:=Tryz.func118.trans gv
 f217:=Tryz.func158.trans gv
 f224:=Tryz.func164.trans gv
 f225:=Tryz.func165.trans gv
 f227:=Tryz.func139.trans gv
 f228:=Tryz.func152.trans gv
 f231:=Tryz.func137.trans gv
 f232:=Tryz.func138.trans gv
 f233:=Tryz.func140.trans gv
 f234:=Tryz.func141.trans gv
 f235:=Tryz.func142.trans gv
 f236:=Tryz.func143.trans gv
 f260:=Tryz.func146.trans gv
 f266:=Tryz.func162.trans gv
 f271:=Tryz.func154.trans gv
 t0:=Tryz.underlying0
 a0:=Tryz.isAgg0
 z0:=Tryz.sizeOf0
 v0:=Tryz.zeroValue0
 t3:=Tryz.underlying3
 a3:=Tryz.isAgg3
 z3:=Tryz.sizeOf3
 v3:=Tryz.zeroValue3
 t4:=Tryz.underlying4
 a4:=Tryz.isAgg4
 z4:=Tryz.sizeOf4
 v4:=Tryz.zeroValue4
 t5:=Tryz.underlying5
 a5:=Tryz.isAgg5
 z5:=Tryz.sizeOf5
 v5:=Tryz.zeroValue5
 t9:=Tryz.underlying9
 a9:=Tryz.isAgg9
 z9:=Tryz.sizeOf9
 v9:=Tryz.zeroValue9
 t21:=Tryz.underlying21
 a21:=Tryz.isAgg21
 z21:=Tryz.sizeOf21
 v21:=Tryz.zeroValue21
 t46:=Tryz.underlying244
 a46:=Tryz.isAgg244
 z46:=Tryz.sizeOf244
 v46:=Tryz.zeroValue244
 t105:=Tryz.underlying204
 a105:=Tryz.isAgg204
 z105:=Tryz.sizeOf204
 v105:=Tryz.zeroValue204
 t116:=Tryz.underlying227
 a116:=Tryz.isAgg227
 z116:=Tryz.sizeOf227
 t117:=Tryz.underlying228
 a117:=Tryz.isAgg228
 z117:=Tryz.sizeOf228
 v117:=Tryz.zeroValue228
 t119:=Tryz.underlying243
 a119:=Tryz.isAgg243
 z119:=Tryz.sizeOf243
 t124:=Tryz.underlying231
 a124:=Tryz.isAgg231
 z124:=Tryz.sizeOf231
 v124:=Tryz.zeroValue231
 t138:=Tryz.underlying246
 a138:=Tryz.isAgg246
 z138:=Tryz.sizeOf246
 v138:=Tryz.zeroValue246
 t139:=Tryz.underlying247
 a139:=Tryz.isAgg247
 z139:=Tryz.sizeOf247
 v139:=Tryz.zeroValue247
 g3:=by kernel_rfl
 g4:=by kernel_rfl }
def Tryz.Hl:Go.Shelf.Ren:=⟨fun|137=>149|217=>158|266=>162|n=>n,fun|9=>9|5=>5|3=>3|n=>n,fun|n=>n⟩
theorem Tryz.U7:Go.Proofs.Lays.n137 Tryz.prog Tryz.Hl:={
 mixed:=by kernel_rfl
 f137:=Tryz.func149.trans gv
 f217:=Tryz.func158.trans gv
 f266:=Tryz.func162.trans gv
 t3:=Tryz.underlying3
 a3:=Tryz.isAgg3
 z3:=Tryz.sizeOf3
 v3:=Tryz.zeroValue3
 t5:=Tryz.underlying5
 a5:=Tryz.isAgg5
 z5:=Tryz.sizeOf5
 v5:=Tryz.zeroValue5
 t9:=Tryz.underlying9
 a9:=Tryz.isAgg9
 z9:=Tryz.sizeOf9
 v9:=Tryz.zeroValue9 }
open Go.RowKit in
theorem Tryz.strings_IndexByte(s:ByteArray)(c:Int)(w:World):
  Calls Tryz.prog 149 #[.string s,.int .u8 c] w fun e w'=>e=.returned (.int .i64 (Lib.indexByte s.data.toList c.toNat.toUInt8))/\w'=w:=Any.strings_IndexByte Tryz.U7 s c w
def Tryz.Ho:Go.Shelf.Ren:=⟨fun|103=>128|210=>150|206=>159|n=>n,fun|9=>9|4=>4|24=>217|3=>3|n=>n,fun|n=>n⟩
theorem Tryz.U8:Go.Proofs.Lays.n103 Tryz.prog Tryz.Ho:={
 mixed:=by kernel_rfl
 f103:=Tryz.func128.trans gv
 f206:=Tryz.func159.trans gv
 f210:=Tryz.func150.trans gv
 t3:=Tryz.underlying3
 a3:=Tryz.isAgg3
 z3:=Tryz.sizeOf3
 v3:=Tryz.zeroValue3
 t4:=Tryz.underlying4
 a4:=Tryz.isAgg4
 z4:=Tryz.sizeOf4
 v4:=Tryz.zeroValue4
 t9:=Tryz.underlying9
 a9:=Tryz.isAgg9
 z9:=Tryz.sizeOf9
 v9:=Tryz.zeroValue9
 t24:=Tryz.underlying217
 a24:=Tryz.isAgg217
 z24:=Tryz.sizeOf217
 v24:=Tryz.zeroValue217 }
open Go.RowKit in
theorem Tryz.strings_CutPrefix(s p:ByteArray)(w:World):
  Calls Tryz.prog 128 #[.string s,.string p] w fun e w'=>e=.returned (.tuple #[.string ⟨(Lib.trimPrefix s.data.toList p.data.toList).toArray⟩,.bool (Lib.hasPrefix s.data.toList p.data.toList)])/\w'=w:=Any.strings_CutPrefix Tryz.U8 s p w
def Tryz.rC:Go.Shelf.Ren:=⟨fun|197=>118|260=>146|n=>n,fun|9=>9|21=>21|3=>3|4=>4|5=>5|105=>204|119=>243|0=>0|46=>244|139=>247|138=>246|n=>n,fun|3=>2|4=>3|n=>n⟩
theorem Tryz.U9:Go.Proofs.Lays.n197 Tryz.prog Tryz.rC:={
 mixed:=by kernel_rfl
 f197:=Tryz.func118.trans gv
 f260:=Tryz.func146.trans gv
 t0:=Tryz.underlying0
 a0:=Tryz.isAgg0
 z0:=Tryz.sizeOf0
 v0:=Tryz.zeroValue0
 t3:=Tryz.underlying3
 a3:=Tryz.isAgg3
 z3:=Tryz.sizeOf3
 v3:=Tryz.zeroValue3
 t4:=Tryz.underlying4
 a4:=Tryz.isAgg4
 z4:=Tryz.sizeOf4
 v4:=Tryz.zeroValue4
 t5:=Tryz.underlying5
 a5:=Tryz.isAgg5
 z5:=Tryz.sizeOf5
 v5:=Tryz.zeroValue5
 t9:=Tryz.underlying9
 a9:=Tryz.isAgg9
 z9:=Tryz.sizeOf9
 v9:=Tryz.zeroValue9
 t21:=Tryz.underlying21
 a21:=Tryz.isAgg21
 z21:=Tryz.sizeOf21
 v21:=Tryz.zeroValue21
 t46:=Tryz.underlying244
 a46:=Tryz.isAgg244
 z46:=Tryz.sizeOf244
 v46:=Tryz.zeroValue244
 t105:=Tryz.underlying204
 a105:=Tryz.isAgg204
 z105:=Tryz.sizeOf204
 v105:=Tryz.zeroValue204
 t119:=Tryz.underlying243
 a119:=Tryz.isAgg243
 z119:=Tryz.sizeOf243
 t138:=Tryz.underlying246
 a138:=Tryz.isAgg246
 z138:=Tryz.sizeOf246
 v138:=Tryz.zeroValue246
 t139:=Tryz.underlying247
 a139:=Tryz.isAgg247
 z139:=Tryz.sizeOf247
 v139:=Tryz.zeroValue247
 g3:=by kernel_rfl
 g4:=by kernel_rfl }
def Tryz.rD:Go.Shelf.Ren:=⟨fun|262=>122|313=>148|274=>156|275=>157|n=>n,fun|3=>3|21=>21|162=>238|203=>236|4=>4|160=>249|46=>244|0=>0|208=>256|51=>248|206=>254|n=>n,fun|13=>0|n=>n⟩
theorem Tryz.Va:Go.Proofs.Lays.n262 Tryz.prog Tryz.rD:={
 mixed:=by kernel_rfl
 f262:=Tryz.func122.trans gv
 f274:=Tryz.func156.trans gv
 f275:=Tryz.func157.trans gv
 f313:=Tryz.func148.trans gv
 t0:=Tryz.underlying0
 a0:=Tryz.isAgg0
 z0:=Tryz.sizeOf0
 v0:=Tryz.zeroValue0
 t3:=Tryz.underlying3
 a3:=Tryz.isAgg3
 z3:=Tryz.sizeOf3
 v3:=Tryz.zeroValue3
 t4:=Tryz.underlying4
 a4:=Tryz.isAgg4
 z4:=Tryz.sizeOf4
 v4:=Tryz.zeroValue4
 t21:=Tryz.underlying21
 a21:=Tryz.isAgg21
 z21:=Tryz.sizeOf21
 v21:=Tryz.zeroValue21
 t46:=Tryz.underlying244
 a46:=Tryz.isAgg244
 z46:=Tryz.sizeOf244
 v46:=Tryz.zeroValue244
 t51:=Tryz.underlying248
 a51:=Tryz.isAgg248
 z51:=Tryz.sizeOf248
 v51:=Tryz.zeroValue248
 t160:=Tryz.underlying249
 a160:=Tryz.isAgg249
 z160:=Tryz.sizeOf249
 v160:=Tryz.zeroValue249
 t162:=Tryz.underlying238
 a162:=Tryz.isAgg238
 z162:=Tryz.sizeOf238
 v162:=Tryz.zeroValue238
 t203:=Tryz.underlying236
 a203:=Tryz.isAgg236
 z203:=Tryz.sizeOf236
 v203:=Tryz.zeroValue236
 t206:=Tryz.underlying254
 a206:=Tryz.isAgg254
 z206:=Tryz.sizeOf254
 v206:=Tryz.zeroValue254
 t208:=Tryz.underlying256
 a208:=Tryz.isAgg256
 z208:=Tryz.sizeOf256
 v208:=Tryz.zeroValue256
 g13:=by kernel_rfl }
open Go.RowKit Go.Lib in
theorem Tryz.strings_ToLower_any(s:ByteArray)(w:World)(q:s.size<35184372088832)(p:CaseVar 0 caseA w)(h:Lib.Utf8Tabs 2 3 w):
  Calls Tryz.prog 51 #[.string s] w fun e w'=>e=.returned (.string ⟨(Lib.toLowerD s.data.toList).toArray⟩)/\Below w.heap.size w w':=Any.strings_ToLower_any Tryz.U5 Tryz.vS s w q p h
end Go.Proofs
namespace Go.CH
open Go.RowKit
def bQ(g:Nat)(o:Obj):bq:=fun w F=>w.heap[g]?=some o/\∀ i,F i↔i=g
variable{g:Nat}{w w0:World}{F F0:Nat->Prop}{assign:Code}{Q:Exit->Act->World->Prop}{a:Act}
theorem bX{o:Obj}:(bQ g o).Ok:=
 ⟨fun h i hi=>by rw[(h.2 i).1 hi];exact lt_of_block h.1,fun h hk=>⟨(hk g ((h.2 g).2 rfl)).trans h.1,h.2⟩⟩
instance {g:Nat} {o:Obj}:(bQ g o).Ok:=bX
theorem za(w:World)(o:Obj):bS w fh (bQ w.heap.size o) (w.alloc o):=
 ⟨fun i=>i=w.heap.size,⟨World.alloc_heap_new w o,fun i=>jq⟩,Mod.of_below ((YC _ _).alloc (YG _) _),fun i hi=>.inr (by subst hi;simp)⟩
theorem ji{o:Obj}(h:bQ g o w F)(o':Obj):bS w F (bQ g o') (w.putObj g o'):=by
 have hlt:g<w.heap.size:=lt_of_block h.1;exact⟨F,⟨World.putObj_heap_same hlt,h.2⟩,Mod.uZ (grownBy_putObj' w g o') (fun k e _=>by cases e;exact(h.2 g).2 rfl),fun i hi=>.inl hi⟩
def VI{α:Type}(P:Program)(gf:Nat)(lb:Array Value)(E:World->Prop)(Z:Nat->bq)(enc:α->Array Value)(xs:List α):Prop:=
 ∀ (n l:Nat) (W:World) (F0:Nat->Prop) (w0:World) (X:Nat->bq) (Y:bq),(∀ i,(X i).Ok)->Y.Ok->(∀ W,Mod F0 w0 W->E W)->aI F0 w0 (aj (Z 0) (X 0)) W ->
  (∀ i (hi:i<xs.length) W1,aI F0 w0 (aj (Z i) (X i)) W1->YieldAt Fence.wide (n-1) P l (enc xs[i]) W1 fun e W'=>
   (e=.returned (.bool true)/\aI F0 w0 (aj (Z i) (X (i+1))) W')\/(e=.returned (.bool false)/\aI F0 w0 (aj (Z i) Y) W')) ->
  CallsIn Fence.wide n P gf (#[.func (.yield l) #[] #[]]++lb) W fun e W'=>(∃ v,e=.returned v)/\(aI F0 w0 (aj (Z xs.length) (X xs.length)) W'\/∃ i,aI F0 w0 (aj (Z i) Y) W')
def Yc(O:Code->bq):bq:=fun w F=>∃ c,O c w F
theorem JQ{O:Code->bq}(h:∀ c,(O c).Ok):(Yc O).Ok:=⟨fun⟨c,h1⟩=>(h c).lt h1,fun⟨c,h1⟩ hk=>⟨c,(h c).keep h1 hk⟩⟩
instance {O:Code→bq} [h:∀ c,(O c).Ok]:(Yc O).Ok:=JQ h
def LV(F0:Nat->Prop)(w0:World)(R I:bq)(h:Code->bq):Exit->Act->World->Prop
 | .normal,_,W=>aI F0 w0 (aj I R) W
 | .ret,_,W=>aI F0 w0 (aj (h .ret) R) W
 | .exit id,_,W=>aI F0 w0 (aj (h (.exit id)) R) W
 | .goto t,_,W=>aI F0 w0 (aj (h (.goto t)) R) W
 | .panic _,_,_=>False
 | .outgrown,_,_=>False
theorem Om{α:Type}{P:Program}{g:Operand}{ps:Array Tmp}{body:Code}{gf:Nat}{lb:Array Value}(hg:a.eval g=.func (.func gf) #[] lb)(eg:∀ args w,(callFunc gf args).run P w=.ok (.enter gf args) w){E:World->Prop}{Z:Nat->bq}{enc:α->Array Value}{xs:List α}(ak:VI P gf lb E Z enc xs)(hZ:∀ i,(Z i).Ok)(al:∀ x,(enc x).size=ps.size)(hE:∀ W,Mod F0 w0 W->E W)(I:Nat->bq)(Ix:Code->bq)(hI:∀ i,(I i).Ok)(ab:∀ c,(Ix c).Ok)(h0:aI F0 w0 (aj (Z 0) (I 0)) w)(a₁:α->Act)(aa:∀ (l m:Nat) (x:α) (W:World) (K:Act->World->Prop),K (a₁ x) W ->
   assign.wpIn (Fence.wide.inRound l) m P (Exit.then K (fun _ _ _=>False)) { tmps:=(ps.zip (enc x)).foldl (fun t (p,v)=>t.setIfInBounds p v) a.tmps,defers:=[] } W)(hbody:∀ (l m i:Nat) (hi:i<xs.length) (R:bq) (W:World),R.Ok->aI F0 w0 (aj (I i) R) W->body.wpIn (Fence.wide.inRound l) m P (LV F0 w0 R (I (i+1)) Ix) (a₁ xs[i]) W)(hdone:∀ (D:Nat) (R:bq) (W:World),R.Ok->aI F0 w0 (aj (I xs.length) (aj (bQ D (.deferred (some []))) R)) W->Q .normal { a with defers:={ target:=.collected D,args:=#[] } :: a.defers } W)(hstop:∀ (D:Nat) (c:Code) (R:bq) (W:World),R.Ok->aI F0 w0 (aj (Ix c) (aj (bQ D (.deferred (some []))) R)) W->c.wp P Q { a with defers:={ target:=.collected D,args:=#[] } :: a.defers } W):
  (Code.rangeFunc g ps assign body).wp P Q a w:=by
 refine(wpIn_wide (n:=8)).1 ?_;refine wpIn_rangeFunc ?_;intro fn ag;obtain⟨q,J⟩:∃ q:LoopState->Option Code->Loop,q=fun st pe=>{ state:=st,pending:=pe,fn,tmps:=a.tmps,params:=ps,assign,body,defers:=w.heap.size }:=⟨_,rfl⟩;obtain⟨W1,ac⟩:∃ W1,(w.alloc (.deferred (some []))).alloc (.loop (q .ready none))=W1:=⟨_,rfl⟩;obtain⟨l,hl⟩:∃ l,l=w.heap.size+1:=⟨_,rfl⟩;obtain⟨D,hD⟩:∃ D,D=w.heap.size:=⟨_,rfl⟩;have R1:aI F0 w0 (aj (Z 0) (aj (bQ l (.loop (q .ready none))) (aj (bQ D (.deferred (some []))) (I 0)))) W1:=by
  have o1:=ay (hZ 0) (hI 0);have h1:=h0.fresh o1 (za w (.deferred (some [])));have h2:=h1.fresh (ay bX o1) (za (w.alloc (.deferred (some []))) (.loop (q .ready none)));have e1:(w.alloc (.deferred (some []))).heap.size=l:=by rw[hl];simp
  rw[e1,<-hD] at h2;rw[ac] at h2;exact h2.perm (by ac_rfl)
 have an:(bQ D (.deferred (some []))).Ok:=bX
 refine⟨l,[{ target:=.collected w.heap.size,args:=#[] }],W1,{ target:=.fn (.func gf) lb,args:=#[.func (.yield l) #[] #[]] },W1,gf,
  #[.func (.yield l) #[] #[]]++lb,W1,?_,?_,?_,?_,fun _=>by omega,?_⟩
 ·rw[<-ac,J,hl];exact run_enterLoop_outer _ _ _ _ _
 ·simp only[resolve,hg];simp[go_sem]
 ·intro f' am;trivial
 ·simp[invoke,go_sem,eg]
 ·refine(ak (8-1) l W1 F0 w0 (fun i=>aj (bQ l (.loop (q .ready none))) (aj (bQ D (.deferred (some []))) (I i)))
   (Yc fun c=>aj (bQ l (.loop (q .done (some c)))) (aj (bQ D (.deferred (some []))) (Ix c)))
   (fun i=>ay bX (ay bX (hI i))) (JQ fun c=>ay bX (ay bX (ab c))) hE R1 ?_).mono ?_
  ·-- one round
   intro i hi W hR;have ai:(aj (bQ D (.deferred (some []))) (aj (Z i) (I i))).Ok:=ay bX (ay (hZ i) (hI i));have ad:=hR.perm (by ac_rfl:_=aj (bQ l (.loop (q .ready none))) (aj (bQ D (.deferred (some []))) (aj (Z i) (I i))));obtain⟨FL,hL,-,bk⟩:=ad.take bX ai;have hy:=run_yield (P:=P) (args:=enc xs[i]) hL.1 (by rw[J];exact al _);rw[J] at hy;refine⟨fn,_,assign,body,hy,roundIn_of_wpIn ag (aa l _ xs[i] W _ ⟨_,run_beginRound hL.1 (by rw[J]),?_⟩)⟩;have hB:=bk _ _ (ji hL (.loop { q .ready none with state:=.busy }));have af:(aj (bQ l (.loop { q .ready none with state:=.busy })) (aj (bQ D (.deferred (some []))) (Z i))).Ok:=ay bX (ay bX (hZ i));refine wpIn_mono (hbody l _ i hi (aj (bQ l (.loop { q .ready none with state:=.busy })) (aj (bQ D (.deferred (some []))) (Z i))) _ af (hB.perm (by ac_rfl))) ?_;have fin:∀ (z:Option Code) (W3:World) (O:bq),O.Ok->aI F0 w0 (aj O (aj (bQ l (.loop { q .ready none with state:=.busy })) (aj (bQ D (.deferred (some []))) (Z i)))) W3 ->
     ∃ V,(Instr.endRound l z).run P W3=.ok (.bool z.isNone) V/\aI F0 w0 (aj (Z i) (aj (bQ l (.loop (q (if z.isNone then .ready else .done) z))) (aj (bQ D (.deferred (some []))) O))) V:=fun z W3 O hO h3=>by
    have M:=h3.perm (by ac_rfl:_=aj (bQ l (.loop { q .ready none with state:=.busy })) (aj (bQ D (.deferred (some []))) (aj (Z i) O)));obtain⟨FL,hL,-,bk⟩:=M.take bX (ay bX (ay (hZ i) hO));refine⟨_,run_endRound (P:=P) z hL.1,?_⟩;have h5:=bk _ _ (ji hL (.loop { { q .ready none with state:=.busy } with state:=if z.isNone then .ready else .done,pending:=z }));have e5:({ { q .ready none with state:=.busy } with state:=if z.isNone then .ready else .done,pending:=z }:Loop)=q (if z.isNone then .ready else .done) z:=by rw[J]
    rw[e5] at h5 ⊢;exact h5.perm (by ac_rfl)
   rintro e a3 W3 hp;cases e with
   | normal=>
    obtain⟨V,M,h5⟩:=fin none W3 _ (hI (i+1)) hp;exact⟨_,_,M,.inl ⟨rfl,h5⟩⟩
   | ret=>
    obtain⟨V,M,h5⟩:=fin (some .ret) W3 _ (ab .ret) hp;exact⟨_,_,M,.inr ⟨rfl,h5.imp fun w F hh=>bK hh (fun _ h=>h) (fun _ h=>⟨.ret,h⟩)⟩⟩
   | exit id=>
    obtain⟨V,M,h5⟩:=fin (some (.exit id)) W3 _ (ab (.exit id)) hp;exact⟨_,_,M,.inr ⟨rfl,h5.imp fun w F hh=>bK hh (fun _ h=>h) (fun _ h=>⟨.exit id,h⟩)⟩⟩
   | goto t=>
    obtain⟨V,M,h5⟩:=fin (some (.goto t)) W3 _ (ab (.goto t)) hp;exact⟨_,_,M,.inr ⟨rfl,h5.imp fun w F hh=>bK hh (fun _ h=>h) (fun _ h=>⟨.goto t,h⟩)⟩⟩
   | panic ch=>exact hp.elim
   | outgrown=>exact hp.elim
  ·-- behind the iterator
   have fin:∀ (st:LoopState) (pe:Option Code) (W2:World) (i:Nat) (O:bq),O.Ok->st≠.busy->aI F0 w0 (aj (Z i) (aj (bQ l (.loop (q st pe))) (aj (bQ D (.deferred (some []))) O))) W2 ->
     ∃ V R,R.Ok/\(Instr.endLoop l).run P W2=.ok pe V/\aI F0 w0 (aj O (aj (bQ D (.deferred (some []))) R)) V:=fun st pe W2 i O hO ae h3=>by
    have M:=h3.perm (by ac_rfl:_=aj (bQ l (.loop (q st pe))) (aj (bQ D (.deferred (some []))) (aj (Z i) O)));obtain⟨FL,hL,-,bk⟩:=M.take bX (ay bX (ay (hZ i) hO));have he:=run_endLoop (P:=P) hL.1 (by rw[J];exact ae);have e6:(q st pe).pending=pe:=by rw[J]
    have he:=he.trans (congrArg (fun p=>Result.ok p (W2.putObj l (.loop { q st pe with state:=.exhausted }))) e6);have hp:=ji hL (.loop { q st pe with state:=.exhausted });generalize Obj.loop { q st pe with state:=.exhausted }=o4 at he hp;have h5:=bk _ _ hp;exact⟨_,aj (bQ l o4) (Z i),ay bX (hZ i),he,h5.perm (by ac_rfl:_=aj O (aj (bQ D (.deferred (some []))) (aj (bQ l o4) (Z i))))⟩
   rintro e W2 ⟨⟨v,rfl⟩,h2|⟨i,h2⟩⟩
   ·obtain⟨V,R,hR,he,M⟩:=fin .ready none W2 _ _ (hI _) gw h2;rw[<-hD];exact⟨none,_,he,hdone D R V hR M⟩
   ·have h3:∃ c,aI F0 w0 (aj (Z i) (aj (bQ l (.loop (q .done (some c)))) (aj (bQ D (.deferred (some []))) (Ix c)))) W2:=by
     obtain⟨⟨F,⟨F1,F2,g1,⟨c,g2⟩,g3,g4⟩,hF⟩,hm⟩:=h2;exact⟨c,⟨⟨F,⟨F1,F2,g1,g2,g3,g4⟩,hF⟩,hm⟩⟩
    obtain⟨c,h3⟩:=h3;obtain⟨V,R,hR,he,M⟩:=fin .done (some c) W2 _ _ (ab c) gw h3;rw[<-hD];exact⟨some c,_,he,(wpIn_wide (n:=8)).2 (hstop D c R V hR M)⟩
section
variable{P:Program}{l n:Nat}{o:Oper}{ops:Array Oper}{a:Act}{w:World}{K:Act→World→Prop}{Q:Exit→Act→World→Prop}
def j6(o:Oper):Bool:=match o.op with|.defer _=>false|_=>true
theorem JO(h:j6 o=true):∀ c,o.op≠.defer c:=fun c e=>by unfold j6 at h;rw[e] at h;cases h
theorem LQ(hd:j6 o=true)(h:o.wp P a w K Q):o.wpIn (Fence.wide.inRound l) n P a w K Q:=by
 unfold Oper.wp at h;refine⟨fun _ _=>trivial,?_⟩;have e:(Fence.wide.inRound l).round=some l:=rfl;rw[e,Zi l _ _ (JO hd)];generalize (execOp a.eval o).run P w=r at h ⊢;have p:(Fence.wide.inRound l).depth.isSome=true->1<=n:=fun h=>by cases h
 cases r with
 | ok x w'=>
  cases x<;>first
   | exact h
   | exact h.elim
   | (refine⟨p,(CallsIn.inRound l (callsIn_wide.2 h)).mono fun e q z=>?_⟩
      cases e<;>exact z)
   | exact⟨p,fun c cs _=>let ⟨v,w',r,s⟩:=h c cs;⟨v,w',r,stepsIn_wide.2 s⟩⟩
 | halt x w'=>
  cases x<;>first|exact h|exact h.elim
variable{i:Nat}{r:List Oper}
theorem Uy(p:¬ LetsOut Q)(hd:∀ o:Oper,ops[i]?=some o->j6 o=true)(h:wpOp P ops Q i K a w):wpOpIn (Fence.wide.inRound l) n P ops Q i K a w:=by
 unfold wpOp at h;unfold wpOpIn;cases q:ops[i]? with
 | none=>simp only[q] at h;exact h
 | some o=>
  simp only[q] at h ⊢;by_cases z:Region.wanted o (yielded ops a.tmps)=true
  ·rw[if_pos z] at h ⊢;rcases h with h|⟨_,h⟩
   ·exact LQ (hd o q) h
   ·exact absurd h p
  ·rw[if_neg z] at h ⊢;exact⟨fun _ _=>trivial,h⟩
theorem GD(z:¬ LetsOut Q){F:Region.Mode}(hd:∀ (i:Nat) (o:Oper),ops[i]?=some o->j6 o=true):∀ (q:Nat) (p:Array Bool) (a:Act) (w:World),wpAny P F ops Q q p a w->wpAnyIn (Fence.wide.inRound l) n P F ops Q q p a w:=by
 intro q
 induction q with
 | zero=>intro p a w h;exact h
 | succ q ih=>
  intro p a w h;exact⟨h.1,fun i hi=>wpOpIn_mono (fun a w=>ih _ a w) (Uy z (hd i) (h.2 i hi))⟩
theorem Ol(p:¬ LetsOut Q):∀ (r:List Oper) (a:Act) (w:World),r.all j6=true->wpList P ops Q r a w->wpListIn (Fence.wide.inRound l) n P ops Q r a w:=by
 intro r
 induction r with
 | nil=>intro a w _ h;exact h
 | cons o r ih=>
  intro a w hd h;rw[rj,YF] at hd;unfold wpList at h;unfold wpListIn;by_cases q:Region.wanted o (yielded ops a.tmps)=true
  ·rw[if_pos q] at h ⊢;rcases h with h|⟨_,h⟩
   ·exact Oper.wpIn_mono (fun a w=>ih a w hd.2) (LQ hd.1 h)
   ·exact absurd h p
  ·rw[if_neg q] at h ⊢;exact⟨fun _ _=>trivial,ih _ _ hd.2 h⟩
theorem fC{q:Nat}(hd:r.all j6=true)(p:¬ LetsOut Q)(h:wpList P r.toArray Q r a w):(Code.region q r.toArray false).wpIn (Fence.wide.inRound l) n P Q a w:=by
 refine wpIn_region ?_;rw[ZE,<-Array.length_toList,wpOpsIn_eq_wpListIn r.toArray.toList 0 gw];simp only[List.toList_toArray];exact Ol p r a w hd h
theorem LU(hd:r.all j6=true):∀ (i:Nat) (o:Oper),r.toArray[i]?=some o->j6 o=true:=fun i o ho=>by
 rw[Y5] at ho;exact List.all_eq_true.1 hd o (Za ho)
theorem tN{z:Nat}(S:World->Prop)(hd:r.all j6=true)(p:¬ LetsOut Q)(hm:P.follows .mixedOrders=true)(I:qo r.toArray=true)(F:S w.drew)(h:lS P r.toArray S Q r a w.drew):(Code.region z r.toArray true).wpIn (Fence.wide.inRound l) n P Q a w:=by
 refine wpIn_region_any hm (GD p (LU hd) _ _ _ _ ?_);have q:mM r.toArray (Array.replicate r.toArray.size false)=List.range r.toArray.size:=by
  unfold mM;refine List.filter_eq_self.2 fun i hi=>?_;have:=List.mem_range.1 hi;simp at this;simp[this]
 refine xY (S:=S) I _ _ _ _ (by rw[q];simp) gw ?_ F ?_
 ·intro j o M J;have:j<r.length:=by have:=(Array.getElem?_eq_some_iff.1 M).1;simpa using this
  simp[this] at J
 ·rw[q];have:=wV (P:=P) (ops:=r.toArray) (S:=S) (Q:=Q) r 0 a w.drew gw h;simpa[ZE] using this
end
open Go.ChangeMaps (setBlock)
section
variable{P:Program}
theorem OE(a b:ByteArray):(a==b)=decide (a=b):=by
 rw[ZH,Go.MapKept.bytes_beq];simp
theorem toList_inj{a b:ByteArray}:a.toList=b.toList↔a=b:=by
 constructor
 ·intro h;rw[mN,mN] at h;cases a;cases b;simp at h;rw[h]
 ·rintro rfl;rfl
theorem dI(a b:ByteArray):(a.toList==b.toList)=decide (a=b):=by
 rw[ZH,beq_iff_eq,toList_inj];simp
end
section
variable{α:Type}[DecidableEq α]{P:Program}{kv:α→Value}{t K E:TypeId}
variable{b:Nat}{v:Value}
theorem oU(H:nJ P K kv)(ht:P.underlying t=some (.map K E)){l:List (α × Value)}(h:iE kv b l w F)(k:α)(v:Value):
  ∃ w',(Instr.mapUpdate t (.map (some b)) (kv k) v).run P w=.ok () w'/\bS w F (iE kv b (lG l k v)) w':=by
 obtain⟨⟨es,q,I,h2⟩,J⟩:=h;obtain⟨z,p,V,M⟩:=BN H ht h2 b k v;exact⟨_,M w I,F,⟨⟨z,p,uo I,V⟩,J⟩,(Mod.refl _ _).setBlock _ (fun _=>(J b).2 rfl),fun i hi=>.inl hi⟩
theorem Hq{z:Value}(H:nJ P K kv)(J:P.underlying t=some (.map K E))(M:∀ w,(zeroValue E).run P w=.ok z w){l:List (α × Value)}(h:iE kv b l w F)(k:α):
  (Instr.lookup t (.map (some b)) (kv k) false).run P w=.ok ((ny l k).getD z) w:=by
 obtain⟨⟨es,p,I,q⟩,V⟩:=h;exact uq H J M q k w I
theorem oV{l:List (α × Value)}{k:α}(h:k ∉ l.map (·.1)):lG l k v=l++[(k,v)]:=by
 cases hf:uN k l 0 with
 | none=>exact(u6 hf).2 v
 | some p=>
  obtain⟨j,u⟩:=p;obtain⟨n,h1,h2,h3⟩:=u7 hf;exact absurd (List.mem_map.2 ⟨(k,u),Za h2,rfl⟩) h
theorem Bb{k:α}:∀ {l:List (α × Value)},k ∉ l.map (·.1)->ny l k=none
 | [],_=>rfl
 | (a,u)::l,h=>by
  simp only[Zb,YV,not_or] at h;rw[su,if_neg h.1,Bb h.2]
theorem Bc{k:α}{v:Value}:∀ {l:List α},ny (l.map fun x=>(x,v)) k=if k ∈ l then some v else none
 | []=>rfl
 | a::l=>by
  rw[Zb,su,Bc];by_cases h:k=a
  ·simp[h]
  ·simp[h]
end
section
variable{P:Program}{ops:Array Oper}{Ts:List Nat}{St:Nat→World→Prop}{Q:Exit→Act→World→Prop}
def Tg:List (World->Prop)->Nat->World->Prop
 | [],_,_=>True
 | S::_,0,w=>S w
 | _::l,n+1,w=>Tg l n w
def Lx:List (World->Prop)->Prop
 | []=>True
 | [_]=>True
 | S::T::l=>(∀ w,S w->T w)/\Lx (T::l)
theorem Ae:∀ (l:List (World->Prop)),Lx l->∀ c w,Tg l c w->Tg l (c+1) w
 | [],_,_,_,_=>trivial
 | [_],_,0,_,_=>trivial
 | [_],_,_+1,_,_=>trivial
 | S::T::l,h,0,w,hs=>h.1 w hs
 | S::T::l,h,c+1,w,hs=>Ae (T::l) h.2 c w hs
def lQ(P:Program)(ops:Array Oper)(St:Nat->World->Prop)(Q:Exit->Act->World->Prop):List Nat->List Oper->Act->World->Prop
 | _,[],a,w=>Q .normal a w
 | [],_::_,_,_=>False
 | n::lv,o::r,a,w=>(cO o.op=false/\∃ v,YieldsIf P ops (St n) o v a/\lQ P ops St Q lv r (a.put o.dst v) w) \/
   (cO o.op=true/\Region.wanted o (yielded ops a.tmps)=true/\o.wp P a w (fun h w'=>St n w'/\lQ P ops St Q lv r h w') gX)
theorem wU:∀ (l:List Oper) (lv:List Nat) (k:Nat) (a:Act) (w:World),(∀ j,l[j]?=ops[k+j]?)->(∀ j,j<l.length->lv[j]?=some (WC ops Ts (k+j)))->lQ P ops St Q lv l a w->qC P ops Ts St Q (List.range' k l.length) a w
 | [],lv,_,_,_,_,_,h=>by cases lv<;>exact h
 | o::l,[],k,a,w,hl,hv,h=>h.elim
 | o::l,n::lv,k,a,w,hl,hv,h=>by
  have p:ops[k]?=some o:=by simpa using (hl 0).symm
  have hn:n=WC ops Ts k:=by have:=hv 0 gw;simpa using this
  have I:bW ops k=cO o.op:=by simp[bW,p]
  have ih:=fun a w=>wU l lv (k+1) a w (fun j=>by have:=hl (j+1);simpa[kq,k9 1 j] using this)
   (fun j M=>by have:=hv (j+1) (by simpa using M);simpa[kq,k9 1 j] using this)
  simp only[YR,ot];unfold qC;simp only[p];unfold WC at hn;rcases h with⟨p,v,q,z⟩|⟨q,z,J⟩
  ·rw[I,p] at hn;have hn:n=jb ops Ts k:=by simpa using hn
   subst hn;exact .inl ⟨p,v,q,ih _ _ z⟩
  ·rw[I,q] at hn;have hn:n=EF Ts k:=by simpa using hn
   subst hn;exact .inr ⟨q,z,Zg (fun V w' F=>⟨F.1,ih _ _ F.2⟩) J⟩
variable{b:Act}{n:Nat}{v:Value}
theorem nQ{I:Nat}{l:List Oper}(Ts lv:List Nat)(S0:World->Prop)(p:List (World->Prop))(z:Lx (S0::p))(hm:P.follows .mixedOrders=true)(J:qo l.toArray=true)(hL:Jq l.toArray Ts=true)(q:NK l.toArray Ts=lv)(hS:S0 w.drew)(h:lQ P l.toArray (Tg (S0::p)) Q lv l a w.drew):(Code.region I l.toArray true).wp P Q a w:=by
 refine wp_region_any hm ?_;have F:mM l.toArray (Array.replicate l.toArray.size false)=List.range l.toArray.size:=by
  unfold mM;refine List.filter_eq_self.2 fun i hi=>?_;have:=List.mem_range.1 hi;simp at this;simp[this]
 refine qN (Ts:=Ts) (St:=Tg (S0::p)) (Ae _ z) J hL _ _ _ _ (by rw[F];simp) gw ?_ ⟨0,hS,fun i _ _=>by split<;>omega⟩ ?_
 ·intro j o ho M;have:j<l.length:=by have:=(Array.getElem?_eq_some_iff.1 ho).1;simpa using this
  simp[this] at M
 ·rw[F]
  have:=wU (P:=P) (ops:=l.toArray) (Ts:=Ts) (St:=Tg (S0::p)) (Q:=Q) l lv 0 a w.drew gw (fun j V=>by
   rw[<-q];unfold NK;rw[Y6,mT (by simpa using V)];simp) h
  simpa[ZE] using this
theorem nR{l:Nat}{J:Nat}{r:List Oper}(Ts lv:List Nat)(S0:World->Prop)(q:List (World->Prop))(F:Lx (S0::q))(hd:r.all j6=true)(p:¬ LetsOut Q)(hm:P.follows .mixedOrders=true)(M:qo r.toArray=true)(hL:Jq r.toArray Ts=true)(z:NK r.toArray Ts=lv)(hS:S0 w.drew)(h:lQ P r.toArray (Tg (S0::q)) Q lv r a w.drew):(Code.region J r.toArray true).wpIn (Fence.wide.inRound l) n P Q a w:=by
 refine wpIn_region_any hm (GD p (LU hd) _ _ _ _ ?_);have I:mM r.toArray (Array.replicate r.toArray.size false)=List.range r.toArray.size:=by
  unfold mM;refine List.filter_eq_self.2 fun i hi=>?_;have:=List.mem_range.1 hi;simp at this;simp[this]
 refine qN (Ts:=Ts) (St:=Tg (S0::q)) (Ae _ F) M hL _ _ _ _ (by rw[I];simp) gw ?_ ⟨0,hS,fun i _ _=>by split<;>omega⟩ ?_
 ·intro j o ho V;have:j<r.length:=by have:=(Array.getElem?_eq_some_iff.1 ho).1;simpa using this
  simp[this] at V
 ·rw[I]
  have:=wU (P:=P) (ops:=r.toArray) (Ts:=Ts) (St:=Tg (S0::q)) (Q:=Q) r lv 0 a w.drew gw (fun j hj=>by
   rw[<-z];unfold NK;rw[Y6,mT (by simpa using hj)];simp) h
  simpa[ZE] using this
section
variable{o:Oper}{r:List Oper}{n:Nat}{lv:List Nat}{a:Act}{w:World}
theorem rZ(h:Q .normal a w):lQ P ops St Q lv [] a w:=by cases lv<;>exact h
theorem Qr(hc:cO o.op=false)(hw:Region.wanted o (yielded ops a.tmps)=false)(h:lQ P ops St Q lv r (a.put o.dst undef) w):lQ P ops St Q (n::lv) (o::r) a w:=.inl ⟨hc,undef,.inr ⟨hw,rfl⟩,h⟩
theorem Af(hc:cO o.op=false)(hw:Region.wanted o (yielded ops a.tmps)=true)(hv:∀ w',St n w'->(execOp a.eval o).run P w'=.ok (.value v) w')(h:lQ P ops St Q lv r (a.put o.dst v) w):lQ P ops St Q (n::lv) (o::r) a w:=
 .inl ⟨hc,v,.inl ⟨hw,hv⟩,h⟩
theorem eD(hc:cO o.op=true)(hw:Region.wanted o (yielded ops a.tmps)=true)(h:∀ K:Act->World->Prop,Hid (∀ a' w',St n w'->lQ P ops St Q lv r a' w'->K a' w')->o.wp P a w K gX):lQ P ops St Q (n::lv) (o::r) a w:=
 .inr ⟨hc,hw,h _ fun _ _ h1 h2=>⟨h1,h2⟩⟩
theorem kE(h:lQ P ops St Q lv r b w)(hc:cO o.op=false:=by rfl)(hw:Region.wanted o (yielded ops a.tmps)=false:=by rfl)(hb:a.put o.dst undef=b:=by(first|(simp only[Act.put,Yy,YA,YB];done)|(simp only[Act.put,Yy,YA,YB];rfl)|rfl)):lQ P ops St Q (n::lv) (o::r) a w:=Qr hc hw (hb ▸ h)
theorem kF(h:lQ P ops St Q lv r b w)(q:cO o.op=false:=by rfl)(hw:Region.wanted o (yielded ops a.tmps)=true:=by rfl)(hv:∀ w',St n w'->(execOp a.eval o).run P w'=.ok (.value v) w':=by(intro w' p;(try simp only[Tg] at p);go_simp;(try with_reducible rfl);done))(hb:a.put o.dst v=b:=by(first|(simp only[Act.put,Yy,YA,YB];done)|(simp only[Act.put,Yy,YA,YB];rfl)|rfl)):lQ P ops St Q (n::lv) (o::r) a w:=Af q hw hv (hb ▸ h)
end
end
section
variable{P:Program}
variable{t e:TypeId}{z v:Value}{n m c:Nat}{xs news:List Value}{A:fj}{K:Act->World->Prop}{ops:Array Oper}
theorem O6{size bytes:Nat}(S:d9 P t e z size bytes)(ty:TypeId)(w:World)(base:Nat)(p:w.ownsRow base e size v n xs)(I:Src w A m size news)(ab:n+m<=maxLen)(hb:(n+m)*bytes<=140737488355328)(q:base<=w.heap.size):
  ∃ F w',(Builtin.append_ #[t,t] ty #[v,.slice A m c]).run P w=.ok F w'/\w'.ownsRow base e size F (n+m) (xs++news)/\w.grownBy w' v.ownBlock /\
   (F.ownBlock=v.ownBlock\/F.ownBlock=some w.heap.size):=by
 obtain⟨ht,hi,hz,V⟩:=S;obtain⟨i,hi,J,ac,aa⟩:=info_parts hi;cases A with
 | some ad=>
  obtain⟨F,w',h1,h2,h3,_,h5⟩:=run_append_own_at (P:=P) w base t ty e i z size bytes ht hi J ac aa hz V v n xs p ad m c news I.1 (I.cells rfl) I.2.1 ab hb q;exact⟨F,w',h1,h2,h3,h5⟩
 | none=>
  have hm:m=0:=by
   rcases nn m with h0|h0
   ·exact h0
   ·obtain⟨ad,h,_⟩:=I.2.2 h0;cases h
  subst hm;have hn:news=[]:=Y0 (by simpa using I.1);subst hn;refine⟨v,w,?_,by simpa using p,⟨rfl,rfl,rfl,YG _,fun _ _ _=>rfl⟩,.inl rfl⟩;rcases p.2 with⟨rfl,rfl⟩|⟨g,cap,cur,rfl,_,_,M,_⟩
  ·simp[Builtin.append_,run_underlying ht,sizeOf,typeInfo,hi,Builtin.lenOf,Builtin.firstCells]
  ·simp[Builtin.append_,run_underlying ht,sizeOf,typeInfo,hi,Builtin.lenOf,Builtin.firstCells,M,storeCells]
theorem yR{o:Oper}(s x:Operand)(M:o.op=.call { callee:=.builtin .append,args:=#[s,x],argTypes:=#[t,t] }){size bytes:Nat}(S:d9 P t e z size bytes)(w:World)(base:Nat)(hsv:a.eval s=v)(hown:w.ownsRow base e size v n xs)(hx:a.eval x=.slice A m c)(hs:Src w A m size news)(h63:n+m<=maxLen)(hb:(n+m)*bytes<=140737488355328)(hbase:base<=w.heap.size)(h:∀ p w',w'.ownsRow base e size p (n+m) (xs++news)->w.grownBy w' v.ownBlock->(p.ownBlock=v.ownBlock\/p.ownBlock=some w.heap.size)->K (a.put o.dst p) w'):o.wp P a w K Q:=by
 obtain⟨p,w',q,I,F,J⟩:=O6 S o.type w base hown (c:=c) hs h63 hb hbase;unfold Oper.wp execOp;simp only[M,resolve,invoke,builtin,Zk,Zv,Y9,lO,Zb,Z7,hsv,hx,q];exact h p w' I F J
theorem nH{rest:List Oper}{o:Oper}(q:o.guard=none)(s x:Operand)(V:o.op=.call { callee:=.builtin .append,args:=#[s,x],argTypes:=#[t,t] }){size bytes:Nat}(S:d9 P t e z size bytes)(w:World)(base:Nat)(hsv:a.eval s=v)(hown:w.ownsRow base e size v n xs)(hx:a.eval x=.slice A m c)(hs:Src w A m size news)(h63:n+m<=maxLen)(hb:(n+m)*bytes<=140737488355328)(hbase:base<=w.heap.size)(h:∀ p w',w'.ownsRow base e size p (n+m) (xs++news)->w.grownBy w' v.ownBlock->(p.ownBlock=v.ownBlock\/p.ownBlock=some w.heap.size)->wpList P ops Q rest (a.put o.dst p) w'):wpList P ops Q (o::rest) a w:=
 wpList_plain q fun _ M=>yR s x V S w base hsv hown hx hs h63 hb hbase fun p w' F I J=>M _ _ (h p w' F I J)
end
def pG{α:Type}(O:α->bq):bq:=fun w F=>∃ x,O x w F
theorem eO{α:Type}{O:α->bq}(h:∀ x,(O x).Ok):(pG O).Ok:=⟨fun⟨c,h1⟩=>(h c).lt h1,fun⟨c,h1⟩ hk=>⟨c,(h c).keep h1 hk⟩⟩
instance {α:Type} {O:α→bq} [h:∀ x,(O x).Ok]:(pG O).Ok:=eO h
variable{W:World}{O:bq}
theorem aI.ex{α:Type}{O:α->bq}{R:bq}(h:aI F0 w0 (aj (pG O) R) W):∃ x,aI F0 w0 (aj (O x) R) W:=by
 obtain⟨⟨F,⟨F1,F2,⟨c,g1⟩,g2,g3,g4⟩,hF⟩,hm⟩:=h;exact⟨c,⟨⟨F,⟨F1,F2,g1,g2,g3,g4⟩,hF⟩,hm⟩⟩
theorem aI.uf{α:Type}{O:α->bq}{R:bq}(x:α)(h:aI F0 w0 (aj (O x) R) W):aI F0 w0 (aj (pG O) R) W:=
 h.imp fun _ _ hh=>bK hh (fun _ h=>⟨x,h⟩) (fun _ h=>h)
def yU(p:Prop)(O:bq):bq:=fun w F=>p/\O w F
theorem iW{p:Prop}(h:O.Ok):(yU p O).Ok:=⟨fun h1=>h.lt h1.2,fun h1 hk=>⟨h1.1,h.keep h1.2 hk⟩⟩
instance {p:Prop} {O:bq} [h:O.Ok]:(yU p O).Ok:=iW h
theorem aI.pure{p:Prop}{R:bq}(h:aI F0 w0 (aj (yU p O) R) W):p/\aI F0 w0 (aj O R) W:=by
 obtain⟨⟨F,⟨F1,F2,⟨c,g1⟩,g2,g3,g4⟩,hF⟩,hm⟩:=h;exact⟨c,⟨⟨F,⟨F1,F2,g1,g2,g3,g4⟩,hF⟩,hm⟩⟩
theorem aI.kD{p:Prop}{R:bq}(hp:p)(h:aI F0 w0 (aj O R) W):aI F0 w0 (aj (yU p O) R) W:=
 h.imp fun _ _ hh=>bK hh (fun _ h=>⟨hp,h⟩) (fun _ h=>h)
def Xt:bq:=fun _ _=>False
theorem Lh:Xt.Ok:=⟨fun h=>h.elim,fun h=>h.elim⟩
instance : Xt.Ok:=Lh
theorem aI.no{R:bq}(h:aI F0 w0 (aj Xt R) W):False:=by
 obtain⟨⟨F,⟨F1,F2,g1,g2,g3,g4⟩,hF⟩,hm⟩:=h;exact g1
theorem zS(W:World)(v:Value)(t:TypeId)(h:v.oneCell'=true):Src (W.alloc (.cells #[v] t)) (some ⟨W.heap.size,0,none⟩) 1 1 [v]:=Src.one (heap_alloc_new W _) h
section
variable{P:Program}
inductive Flat(P:Program):TypeId->Value->Prop
 | int {t:TypeId} {k:IntKind} (h:P.underlying t=some (.int k)) (a:Int):Flat P t (.int k a)
 | str {t:TypeId} (h:P.underlying t=some .string) (a:ByteArray):Flat P t (.string a)
 | bool {t:TypeId} (h:P.underlying t=some .bool) (a:Bool):Flat P t (.bool a)
def Ac:Value->Value->Bool
 | .int _ a,.int _ b=>a==b
 | .string a,.string b=>a==b
 | .bool a,.bool b=>a==b
 | _,_=>false
variable{t K:TypeId}{xs:Array Value}{fs:Array Field}
theorem Lv{x y:Value}(q:Flat P t x)(p:Flat P t y)(n:Nat)(w:World):(Op.equalIn (n+1) t x y).run P w=.ok (Ac x y) w:=by
 cases q with
 | int h a=>cases p with
  | int h2 b=>rw[h] at h2;injection h2 with h2;injection h2 with h2;subst h2;simp[Op.equalIn,run_underlying h,Ac]
  | str h2=>rw[h] at h2;cases h2
  | bool h2=>rw[h] at h2;cases h2
 | str h a=>cases p with
  | int h2=>rw[h] at h2;cases h2
  | str h2=>simp[Op.equalIn,run_underlying h,Ac]
  | bool h2=>rw[h] at h2;cases h2
 | bool h a=>cases p with
  | int h2=>rw[h] at h2;cases h2
  | str h2=>rw[h] at h2;cases h2
  | bool h2=>simp[Op.equalIn,run_underlying h,Ac]
theorem wT{x:Value}(hx:Flat P t x){cs:Array Value}{j:Nat}(hv:cs[j]?=some x)(w:World):(part t cs j).run P w=.ok x w:=by
 cases hx with
 | int h a=>simp[part,isAgg,run_underlying h,hv]
 | str h a=>simp[part,isAgg,run_underlying h,hv]
 | bool h a=>simp[part,isAgg,run_underlying h,hv]
theorem Ad{x:Value}(hx:Flat P t x)(e:Bool)(n:Nat)(w:World):(Instr.checkKey e (n+1) t x).run P w=.ok () w:=by
 cases hx with
 | int h a=>simp[Instr.checkKey,run_underlying h]
 | str h a=>simp[Instr.checkKey,run_underlying h]
 | bool h a=>simp[Instr.checkKey,run_underlying h]
def tJ(P:Program)(fs:List Field)(cs:Array Value):Prop:=∀ f ∈ fs,f.name ≠ "_" /\∃ v,cs[f.offset]?=some v/\Flat P f.type v
def mI(fs:List Field)(xs ys:Array Value):Bool:=fs.all fun f=>match xs[f.offset]?,ys[f.offset]? with|some x,some y=>Ac x y|_,_=>false
theorem Um{I:Array Value}(n:Nat)(w:World):∀ fs:List Field,tJ P fs xs->tJ P fs I ->
  (forIn fs ((none,()):Option Bool × Unit) (fun f aa=>
   if f.name ≠ "_" then do
    let a <-part f.type xs f.offset
    let b <-part f.type I f.offset
    let c <-Op.equalIn (n+1) f.type a b
    if(!c)=true then pure (ForInStep.done (some false,())) else pure (ForInStep.yield (none,()))
   else pure (ForInStep.yield (none,()))):Sem (Option Bool × Unit)).run P w=.ok (if mI fs xs I=true then(none,()) else(some false,())) w:=by
 intro fs
 induction fs with
 | nil=>intro _ _;rfl
 | cons f fs ih=>
  intro V hy;obtain⟨hn,x,F,q⟩:=V f (Ze ..);obtain⟨-,y,p,z⟩:=hy f (Ze ..);have M:=ih (fun g J=>V g (Zj _ J)) (fun g J=>hy g (Zj _ J));rw[qv];simp only[if_pos hn,Zk,wT q F,wT z p,Lv q z,Y9];have e:mI (f::fs) xs I=(Ac x y&&mI fs xs I):=by
   unfold mI;rw[rj,F,p]
  rw[e];cases h:Ac x y with
  | false=>simp[Zv]
  | true=>simp[Zv];simpa using M
theorem NG(I:P.underlying K=some (.struct fs))(z:P.stoodInHeld K=false){p:Array Value}(q:tJ P fs.toList xs)(F:tJ P fs.toList p)(n:Nat)(w:World):
  (Op.equalIn (n+2) K (.agg xs) (.agg p)).run P w=.ok (mI fs.toList xs p) w:=by
 unfold Op.equalIn;simp only[Zk,run_underlying I,Y9,run_program,z,ZG,if_false,Zv];rw[<-Array.forIn_toList,Um n w fs.toList q F];cases h:mI fs.toList xs p<;>simp[Zv]
theorem Jp(e:Bool)(n:Nat)(w:World):∀ fs:List Field,tJ P fs xs ->
  (forIn fs () (fun f F=>
   if f.name ≠ "_" then do
    let a <-part f.type xs f.offset
    Instr.checkKey e (n+1) f.type a
    pure (ForInStep.yield ())
   else pure (ForInStep.yield ())):Sem Unit).run P w=.ok () w:=by
 intro fs
 induction fs with
 | nil=>intro _;rfl
 | cons f fs ih=>
  intro z;obtain⟨hn,x,p,h⟩:=z f (Ze ..);have q:=ih (fun g I=>z g (Zj _ I));rw[qv];simp only[if_pos hn,Zk,wT h p,Ad h,Y9,Zv];exact q
theorem D6(q:P.underlying K=some (.struct fs))(p:tJ P fs.toList xs)(e:Bool)(n:Nat)(w:World):
  (Instr.checkKey e (n+2) K (.agg xs)).run P w=.ok () w:=by
 unfold Instr.checkKey;simp only[Zk,run_underlying q,Y9];rw[<-Array.forIn_toList];have h:=Jp e n w fs.toList p;refine Eq.trans (congrArg (fun z=>Result.andThen z _) h) ?_;simp[Zv]
theorem pV{α:Type}[DecidableEq α](z:P.underlying K=some (.struct fs))(F:P.stoodInHeld K=false){cs:α->Array Value}(p:∀ a,tJ P fs.toList (cs a))(q:∀ a b,mI fs.toList (cs a) (cs b)=decide (a=b))(h:∀ a,Instr.sameBits 10000 (.agg (cs a)) (.agg (cs a))=true):nJ P K (fun a=>.agg (cs a)):=by
 refine⟨fun a b w=>?_,fun e a w=>D6 z (p a) e 9998 w,h,_,z,fun a b=>.inl rfl⟩;rw[Op.equal,Op.maxDepth,NG z F (p a) (p b) 9998 w,q]
end
section
variable{P:Program}
end
def QX{α:Type}(P:Program)(gf:Nat)(lb:Array Value)(E:World->Prop)(h:bq)(enc:α->Array Value)(xs:List α):Prop:=
 ∀ (n l:Nat) (W:World) (F0:Nat->Prop) (w0:World) (X:Nat->bq) (Y:bq),(∀ i,(X i).Ok)->Y.Ok->(∀ W,Mod F0 w0 W->E W)->aI F0 w0 (aj h (X 0)) W ->
  (∀ Z:bq,Z.Ok->∀ i (hi:i<xs.length) W1,aI F0 w0 (aj Z (X i)) W1->YieldAt Fence.wide (n-1) P l (enc xs[i]) W1 fun e W'=>
   (e=.returned (.bool true)/\aI F0 w0 (aj Z (X (i+1))) W')\/(e=.returned (.bool false)/\aI F0 w0 (aj Z Y) W')) ->
  CallsIn Fence.wide n P gf (#[.func (.yield l) #[] #[]]++lb) W fun e W'=>(∃ v,e=.returned v)/\∃ Z:bq,Z.Ok/\(aI F0 w0 (aj Z (X xs.length)) W'\/aI F0 w0 (aj Z Y) W')
theorem qd{α:Type}{P:Program}{g:Operand}{ps:Array Tmp}{body:Code}{gf:Nat}{lb:Array Value}(hg:a.eval g=.func (.func gf) #[] lb)(eg:∀ args w,(callFunc gf args).run P w=.ok (.enter gf args) w){E:World->Prop}{Z0:bq}{enc:α->Array Value}{xs:List α}(ao:QX P gf lb E Z0 enc xs)(af:Z0.Ok)(aq:∀ x,(enc x).size=ps.size)(hE:∀ W,Mod F0 w0 W->E W)(I:Nat->bq)(Ix:Code->bq)(hI:∀ i,(I i).Ok)(I2:Nat->Act->bq)(al:∀ i a,(I2 i a).Ok)(ab:∀ c,(Ix c).Ok)(h0:aI F0 w0 (aj Z0 (I 0)) w)(aa:∀ (l m i:Nat) (hi:i<xs.length) (R:bq) (W:World) (K:Act->World->Prop),R.Ok->aI F0 w0 (aj (I i) R) W->(∀ a' W',aI F0 w0 (aj (I2 i a') R) W'->K a' W') ->
   assign.wpIn (Fence.wide.inRound l) m P (Exit.then K (fun _ _ _=>False)) { tmps:=(ps.zip (enc xs[i])).foldl (fun t (p,v)=>t.setIfInBounds p v) a.tmps,defers:=[] } W)(hbody:∀ (l m i:Nat) (hi:i<xs.length) (a':Act) (R:bq) (W:World),R.Ok->aI F0 w0 (aj (I2 i a') R) W->body.wpIn (Fence.wide.inRound l) m P (LV F0 w0 R (I (i+1)) Ix) a' W)(hdone:∀ (D:Nat) (R:bq) (W:World),R.Ok->aI F0 w0 (aj (I xs.length) (aj (bQ D (.deferred (some []))) R)) W->Q .normal { a with defers:={ target:=.collected D,args:=#[] } :: a.defers } W)(hstop:∀ (D:Nat) (c:Code) (R:bq) (W:World),R.Ok->aI F0 w0 (aj (Ix c) (aj (bQ D (.deferred (some []))) R)) W->c.wp P Q { a with defers:={ target:=.collected D,args:=#[] } :: a.defers } W):
  (Code.rangeFunc g ps assign body).wp P Q a w:=by
 refine(wpIn_wide (n:=8)).1 ?_;refine wpIn_rangeFunc ?_;intro fn ak;obtain⟨q,J⟩:∃ q:LoopState->Option Code->Loop,q=fun st pe=>{ state:=st,pending:=pe,fn,tmps:=a.tmps,params:=ps,assign,body,defers:=w.heap.size }:=⟨_,rfl⟩;obtain⟨W1,ae⟩:∃ W1,(w.alloc (.deferred (some []))).alloc (.loop (q .ready none))=W1:=⟨_,rfl⟩;obtain⟨l,hl⟩:∃ l,l=w.heap.size+1:=⟨_,rfl⟩;obtain⟨D,hD⟩:∃ D,D=w.heap.size:=⟨_,rfl⟩;have R1:aI F0 w0 (aj Z0 (aj (bQ l (.loop (q .ready none))) (aj (bQ D (.deferred (some []))) (I 0)))) W1:=by
  have o1:=ay af (hI 0);have h1:=h0.fresh o1 (za w (.deferred (some [])));have h2:=h1.fresh (ay bX o1) (za (w.alloc (.deferred (some []))) (.loop (q .ready none)));have e1:(w.alloc (.deferred (some []))).heap.size=l:=by rw[hl];simp
  rw[e1,<-hD] at h2;rw[ae] at h2;exact h2.perm (by ac_rfl)
 have ax:(bQ D (.deferred (some []))).Ok:=bX
 refine⟨l,[{ target:=.collected w.heap.size,args:=#[] }],W1,{ target:=.fn (.func gf) lb,args:=#[.func (.yield l) #[] #[]] },W1,gf,
  #[.func (.yield l) #[] #[]]++lb,W1,?_,?_,?_,?_,fun _=>by omega,?_⟩
 ·rw[<-ae,J,hl];exact run_enterLoop_outer _ _ _ _ _
 ·simp only[resolve,hg];simp[go_sem]
 ·intro f' ar;trivial
 ·simp[invoke,go_sem,eg]
 ·refine(ao (8-1) l W1 F0 w0 (fun i=>aj (bQ l (.loop (q .ready none))) (aj (bQ D (.deferred (some []))) (I i)))
   (Yc fun c=>aj (bQ l (.loop (q .done (some c)))) (aj (bQ D (.deferred (some []))) (Ix c)))
   (fun i=>ay bX (ay bX (hI i))) (JQ fun c=>ay bX (ay bX (ab c))) hE R1 ?_).mono ?_
  ·-- one round
   intro Z hZ i hi W hR;have am:(aj (bQ D (.deferred (some []))) (aj Z (I i))).Ok:=ay bX (ay hZ (hI i));have ac:=hR.perm (by ac_rfl:_=aj (bQ l (.loop (q .ready none))) (aj (bQ D (.deferred (some []))) (aj Z (I i))));obtain⟨FL,hL,-,bk⟩:=ac.take bX am;have hy:=run_yield (P:=P) (args:=enc xs[i]) hL.1 (by rw[J];exact aq _);rw[J] at hy;refine⟨fn,_,assign,body,hy,roundIn_of_wpIn ak (aa l _ i hi (aj (bQ l (.loop (q .ready none))) (aj (bQ D (.deferred (some []))) Z)) W _ aQ (ac.perm (by ac_rfl)) ?_)⟩;intro a' W' an;obtain⟨aw,ad,-,ap⟩:=(an.perm (by ac_rfl:_=aj (bQ l (.loop (q .ready none))) (aj (bQ D (.deferred (some []))) (aj Z (I2 i a'))))).take bX (ay bX (ay hZ (al i a')));refine⟨_,run_beginRound ad.1 (by rw[J]),?_⟩;have hB:=ap _ _ (ji ad (.loop { q .ready none with state:=.busy }));have ai:(aj (bQ l (.loop { q .ready none with state:=.busy })) (aj (bQ D (.deferred (some []))) Z)).Ok:=ay bX aQ;refine wpIn_mono (hbody l _ i hi a' (aj (bQ l (.loop { q .ready none with state:=.busy })) (aj (bQ D (.deferred (some []))) Z)) _ ai (hB.perm (by ac_rfl))) ?_;have fin:∀ (z:Option Code) (W3:World) (O:bq),O.Ok->aI F0 w0 (aj O (aj (bQ l (.loop { q .ready none with state:=.busy })) (aj (bQ D (.deferred (some []))) Z))) W3 ->
     ∃ V,(Instr.endRound l z).run P W3=.ok (.bool z.isNone) V/\aI F0 w0 (aj Z (aj (bQ l (.loop (q (if z.isNone then .ready else .done) z))) (aj (bQ D (.deferred (some []))) O))) V:=fun z W3 O hO h3=>by
    have M:=h3.perm (by ac_rfl:_=aj (bQ l (.loop { q .ready none with state:=.busy })) (aj (bQ D (.deferred (some []))) (aj Z O)));obtain⟨FL,hL,-,bk⟩:=M.take bX (ay bX (ay hZ hO));refine⟨_,run_endRound (P:=P) z hL.1,?_⟩;have h5:=bk _ _ (ji hL (.loop { { q .ready none with state:=.busy } with state:=if z.isNone then .ready else .done,pending:=z }));have e5:({ { q .ready none with state:=.busy } with state:=if z.isNone then .ready else .done,pending:=z }:Loop)=q (if z.isNone then .ready else .done) z:=by rw[J]
    rw[e5] at h5 ⊢;exact h5.perm (by ac_rfl)
   rintro e a3 W3 hp;cases e with
   | normal=>
    obtain⟨V,M,h5⟩:=fin none W3 _ (hI (i+1)) hp;exact⟨_,_,M,.inl ⟨rfl,h5⟩⟩
   | ret=>
    obtain⟨V,M,h5⟩:=fin (some .ret) W3 _ (ab .ret) hp;exact⟨_,_,M,.inr ⟨rfl,h5.imp fun w F hh=>bK hh (fun _ h=>h) (fun _ h=>⟨.ret,h⟩)⟩⟩
   | exit id=>
    obtain⟨V,M,h5⟩:=fin (some (.exit id)) W3 _ (ab (.exit id)) hp;exact⟨_,_,M,.inr ⟨rfl,h5.imp fun w F hh=>bK hh (fun _ h=>h) (fun _ h=>⟨.exit id,h⟩)⟩⟩
   | goto t=>
    obtain⟨V,M,h5⟩:=fin (some (.goto t)) W3 _ (ab (.goto t)) hp;exact⟨_,_,M,.inr ⟨rfl,h5.imp fun w F hh=>bK hh (fun _ h=>h) (fun _ h=>⟨.goto t,h⟩)⟩⟩
   | panic ch=>exact hp.elim
   | outgrown=>exact hp.elim
  ·-- behind the iterator
   have fin:∀ (st:LoopState) (pe:Option Code) (W2:World) (Z:bq) (O:bq),Z.Ok->O.Ok->st≠.busy->aI F0 w0 (aj Z (aj (bQ l (.loop (q st pe))) (aj (bQ D (.deferred (some []))) O))) W2 ->
     ∃ V R,R.Ok/\(Instr.endLoop l).run P W2=.ok pe V/\aI F0 w0 (aj O (aj (bQ D (.deferred (some []))) R)) V:=fun st pe W2 Z O hZ hO ag h3=>by
    have M:=h3.perm (by ac_rfl:_=aj (bQ l (.loop (q st pe))) (aj (bQ D (.deferred (some []))) (aj Z O)));obtain⟨FL,hL,-,bk⟩:=M.take bX (ay bX (ay hZ hO));have he:=run_endLoop (P:=P) hL.1 (by rw[J];exact ag);have e6:(q st pe).pending=pe:=by rw[J]
    have he:=he.trans (congrArg (fun p=>Result.ok p (W2.putObj l (.loop { q st pe with state:=.exhausted }))) e6);have hp:=ji hL (.loop { q st pe with state:=.exhausted });generalize Obj.loop { q st pe with state:=.exhausted }=o4 at he hp;have h5:=bk _ _ hp;exact⟨_,aj (bQ l o4) Z,ay bX hZ,he,h5.perm (by ac_rfl:_=aj O (aj (bQ D (.deferred (some []))) (aj (bQ l o4) Z)))⟩
   rintro e W2 ⟨⟨v,rfl⟩,Z,hZ,h2|h2⟩
   ·obtain⟨V,R,hR,he,M⟩:=fin .ready none W2 Z _ hZ (hI _) gw h2;rw[<-hD];exact⟨none,_,he,hdone D R V hR M⟩
   ·have h3:∃ c,aI F0 w0 (aj Z (aj (bQ l (.loop (q .done (some c)))) (aj (bQ D (.deferred (some []))) (Ix c)))) W2:=by
     obtain⟨⟨F,⟨F1,F2,g1,⟨c,g2⟩,g3,g4⟩,hF⟩,hm⟩:=h2;exact⟨c,⟨⟨F,⟨F1,F2,g1,g2,g3,g4⟩,hF⟩,hm⟩⟩
    obtain⟨c,h3⟩:=h3;obtain⟨V,R,hR,he,M⟩:=fin .done (some c) W2 Z _ hZ (ab c) gw h3;rw[<-hD];exact⟨some c,_,he,(wpIn_wide (n:=8)).2 (hstop D c R V hR M)⟩
def QG(D:Nat):Deferred:={ target:=.collected D,args:=#[] }
def fA(Ds:List Nat):bq:=aR (Ds.map fun D=>bQ D (.deferred (some [])))
theorem mP{Ds:List Nat}:(fA Ds).Ok:=rE (fun A hA=>by obtain⟨z,_,rfl⟩:=List.mem_map.1 hA;exact bX)
instance {Ds:List Nat}:(fA Ds).Ok:=mP
theorem Jz(D:Nat)(Ds:List Nat):fA (D::Ds)=aj (bQ D (.deferred (some []))) (fA Ds):=rfl
theorem vg{P:Program}{fn:Func}{tmps:Array Value}{R:Ending->World->Prop}{n:Nat}{F0:Nat->Prop}{w0:World}{X:bq}(M:X.Ok)(p:∀ W,aI F0 w0 X W->∃ v,(results fn tmps).run P W=.ok v W/\R (.returned v) W):∀ (q:List Nat) (W:World),aI F0 w0 (aj (fA q) X) W->LeavesInM Fence.wide n P fn tmps R (q.map QG) .returning W
 | [],W,h=>p W h.drop
 | D::q,W,h=>by
  have J:aI F0 w0 (aj (bQ D (.deferred (some []))) (aj (fA q) X)) W:=h.perm (by unfold fA;rw[Zb];show aj (aj _ _) _=_;ac_rfl);obtain⟨F,z,-,I⟩:=J.take bX aQ;refine⟨by simp,.inl ⟨_,_,rfl,run_takeDeferred z.1,?_⟩⟩;exact vg M p q _ (I _ _ (ji z (.deferred none))).drop
theorem WJ(tm:Array Value)(n:Nat)(h:tm.size=n):tm=((List.range n).map fun i=>tm.getD i undef).toArray:=by
 refine Array.ext (by simp[h]) fun i h1 h2=>?_;simp[h1]
section
variable{P:Program}{ops:Array Oper}{Q:Exit→Act→World→Prop}{S:World→Prop}{s:Nat}
def iZ(P:Program)(ops:Array Oper)(Q:Exit->Act->World->Prop)(S:World->Prop)(s:Nat):Nat->Array Bool->Act->World->Prop
 | 0,listed,a,w=>Region.ready .any ops listed=[]/\Q .normal a w
 | fuel+1,listed,a,w=>(Region.ready .any ops listed=[]->Q .normal a w) /\
  ∀ i ∈ Region.ready .any ops listed,wpOp P ops Q i (fun h w'=>((listed.setIfInBounds i true).getD s true=false->S w')/\iZ P ops Q S s fuel (listed.setIfInBounds i true) h w') a w
theorem Aq:∀ (fuel:Nat) (listed:Array Bool) (a:Act) (w:World),iZ P ops Q S s fuel listed a w->wpAny P .any ops Q fuel listed a w
 | 0,_,_,_,h=>h
 | fuel+1,_,_,_,h=>⟨h.1,fun i hi=>wpOp_mono (fun a' w' h'=>Aq fuel _ a' w' h'.2) (h.2 i hi)⟩
def waits(ops:Array Oper)(s i:Nat):Bool:=match ops[s]? with|some o=>o.after.any fun e=>Region.binds .any e&&e.on==i|none=>false
variable{i:Nat}{p listed:Array Bool}{oi:Oper}{v:Value}
theorem NW(h:waits ops s i=true)(hi:i ∈ Region.ready .any ops p):s ∉ Region.ready .any ops p:=by
 intro V;obtain⟨-,o,ho,z⟩:=mem_ready.1 V;unfold waits at h;rw[ho] at h;simp only[Array.any_eq_true,YF,beq_iff_eq] at h;obtain⟨k,I,J,M⟩:=h;have q:=z _ (Array.getElem_mem I) J;have F:=(mem_ready.1 hi).1;rw[M] at q;rcases j9 i p.size with h'|h'
 ·simp[h'] at F q;rw[F] at q;cases q
 ·simp[rL h'] at q
theorem vv{j:Nat}(h:i≠j)(h0:listed.getD j true=false):(listed.setIfInBounds i true).getD j true=false:=by
 rw[getD_set_ne true h];exact h0
theorem Eb(hi:ops[i]?=some oi)(V:∀ (j:Nat) (o:Oper) cs b,ops[j]?=some o->o.op≠.select cs b)(hQ:∀ c a w,Q (.panic c) (a.put oi.dst v) w->Q (.panic c) a w)(hw:waits ops s i=true)(al:i≠s):
  ∀ (q:Nat) (p:Array Bool) (a:Act) (w:World),
   (∀ j oj,ops[j]?=some oj->j≠i->p.getD j true=false->(∀ e ∈ oj.after,Region.binds .any e=true->e.on≠i)->oi.apart ops oj=true) ->
   i ∈ Region.ready .any ops p->p.getD s true=false->YieldsIf P ops S oi v a->S w->iZ P ops Q S s q (p.setIfInBounds i true) (a.put oi.dst v) w->iZ P ops Q S s (q+1) p a w:=by
 intro q
 induction q with
 | zero=>
  intro p a w _ J ab hy hS H;refine⟨fun h=>(by rw[h] at J;cases J),fun j hj=>?_⟩;by_cases z:j=i
  ·subst z;exact hy.wpOp hi hS ⟨fun _=>hS,H⟩
  ·have:=ready_mono hj z;rw[H.1] at this;cases this
 | succ q ih=>
  intro p a w F J ab hy hS H;refine⟨fun h=>(by rw[h] at J;cases J),fun j hj=>?_⟩;by_cases z:j=i
  ·subst z;exact hy.wpOp hi hS ⟨fun _=>hS,H⟩
  ·have ac:j≠s:=fun e=>NW hw J (e ▸ hj);have h1:=H.2 j (ready_mono hj z);obtain⟨M,oj,aa,ai⟩:=mem_ready.1 hj;have ad:∀ e ∈ oj.after,Region.binds .any e=true->e.on≠i:=fun e he hb am=>by
    have h1:=ai e he hb;have h0:=(mem_ready.1 J).1;rw[am] at h1;rcases j9 i p.size with h'|h'
    ·simp[h'] at h0 h1;rw[h0] at h1;cases h1
    ·simp[rL h'] at h1
   have h2:=wpOp_putIf aa (F j oj aa z M ad) (fun cs b=>V i oi cs b hi) (fun cs b=>V j oj cs b aa) hQ hy h1;have I:∀ k ok,ops[k]?=some ok->k≠i->(p.setIfInBounds j true).getD k true=false ->
     (∀ e ∈ ok.after,Region.binds .any e=true->e.on≠i)->oi.apart ops ok=true:=fun k ok hk an ae ak=>by
    refine F k ok hk an ?_ ak;by_cases af:j=k
    ·subst af;exact M
    ·rw[getD_set_ne true af] at ae;exact ae
   refine wpOp_mono (fun a' w' h3=>?_) h2;have ag:S w':=h3.2.1 (vv ac (vv al ab));refine⟨fun _=>ag,ih (p.setIfInBounds j true) a' w' I (ready_mono J (kl z)) (vv ac ab) h3.1 ag ?_⟩;rw[rK _ _ z];exact h3.2.2
theorem qP{F:Oper}{q:Nat}(hi:ops[i]?=some F)(hs:Region.noSelect ops=true)(M:Region.free .any ops p i=true)(V:(Region.ready .any ops p).contains i=true)(z:(waits ops s i&&(i != s && !(p.getD s true)))=true)(I:∀ c a w,Q (.panic c) (a.put F.dst v) w->Q (.panic c) a w)(hy:YieldsIf P ops S F v a)(J:S w)(h:iZ P ops Q S s q (p.setIfInBounds i true) (a.put F.dst v) w):iZ P ops Q S s (q+1) p a w:=by
 simp only[YF,bne_iff_ne,ne_eq,Z4] at z;exact Eb hi (ZP hs) I z.1 z.2.1 q p a w (Region.free_spec hi M) (by simpa using V) z.2.2 hy J h
theorem BO(hi:ops[i]?=some oi)(M:∀ (j:Nat) (o:Oper) cs b,ops[j]?=some o->o.op≠.select cs b)(hQ:∀ c a w,Q (.panic c) (a.put oi.dst v) w->Q (.panic c) a w)(ab:i≠s):
  ∀ (z:Nat) (p:Array Bool) (a:Act) (w:World),
   (∀ j oj,ops[j]?=some oj->j≠i->p.getD j true=false->(∀ e ∈ oj.after,Region.binds .any e=true->e.on≠i)->oi.apart ops oj=true) ->
   i ∈ Region.ready .any ops p->YieldsIf P ops (fun _=>True) oi v a->(p.getD s true=false->S w)->iZ P ops Q S s z (p.setIfInBounds i true) (a.put oi.dst v) w->iZ P ops Q S s (z+1) p a w:=by
 intro z
 induction z with
 | zero=>
  intro p a w _ V hy hS H;refine⟨fun h=>(by rw[h] at V;cases V),fun j hj=>?_⟩;by_cases q:j=i
  ·subst q;exact hy.wpOp hi trivial ⟨fun h=>hS (by rw[getD_set_ne true ab] at h;exact h),H⟩
  ·have:=ready_mono hj q;rw[H.1] at this;cases this
 | succ z ih=>
  intro p a w F V hy hS H;refine⟨fun h=>(by rw[h] at V;cases V),fun j hj=>?_⟩;by_cases q:j=i
  ·subst q;exact hy.wpOp hi trivial ⟨fun h=>hS (by rw[getD_set_ne true ab] at h;exact h),H⟩
  ·have h1:=H.2 j (ready_mono hj q);obtain⟨J,oj,aa,ag⟩:=mem_ready.1 hj;have ac:∀ e ∈ oj.after,Region.binds .any e=true->e.on≠i:=fun e he hb ak=>by
    have h1:=ag e he hb;have h0:=(mem_ready.1 V).1;rw[ak] at h1;rcases j9 i p.size with h'|h'
    ·simp[h'] at h0 h1;rw[h0] at h1;cases h1
    ·simp[rL h'] at h1
   have h2:=wpOp_putIf aa (F j oj aa q J ac) (fun cs b=>M i oi cs b hi) (fun cs b=>M j oj cs b aa) hQ hy h1;have I:∀ k ok,ops[k]?=some ok->k≠i->(p.setIfInBounds j true).getD k true=false ->
     (∀ e ∈ ok.after,Region.binds .any e=true->e.on≠i)->oi.apart ops ok=true:=fun k ok hk al ad ai=>by
    refine F k ok hk al ?_ ai;by_cases ae:j=k
    ·subst ae;exact J
    ·rw[getD_set_ne true ae] at ad;exact ad
   refine wpOp_mono (fun a' w' h3=>?_) h2;have af:(p.setIfInBounds j true).getD s true=false->S w':=fun h=>h3.2.1 (by rw[rK _ _ (kl q)];exact vv ab h);refine⟨af,ih (p.setIfInBounds j true) a' w' I (ready_mono V (kl q)) h3.1 af ?_⟩;rw[rK _ _ q];exact h3.2.2
theorem pY{z:Oper}{q:Nat}(hi:ops[i]?=some z)(hs:Region.noSelect ops=true)(M:Region.free .any ops p i=true)(V:(Region.ready .any ops p).contains i=true)(F:(i != s)=true)(I:∀ c a w,Q (.panic c) (a.put z.dst v) w->Q (.panic c) a w)(hy:YieldsIf P ops (fun _=>True) z v a)(J:p.getD s true=false->S w)(h:iZ P ops Q S s q (p.setIfInBounds i true) (a.put z.dst v) w):iZ P ops Q S s (q+1) p a w:=by
 simp only[bne_iff_ne,ne_eq] at F;exact BO hi (ZP hs) I F q p a w (Region.free_spec hi M) (by simpa using V) hy J h
theorem uz{rs:List Nat}{q:Nat}(F:Region.ready .any ops p=rs)(z:rs≠[])(h:∀ i ∈ rs,wpOp P ops Q i (fun J w'=>((p.setIfInBounds i true).getD s true=false->S w')/\iZ P ops Q S s q (p.setIfInBounds i true) J w') a w):iZ P ops Q S s (q+1) p a w:=
 ⟨fun I=>absurd (F ▸ I) z,F ▸ h⟩
theorem Gh(hr:Region.ready .any ops listed=[])(h:Q .normal a w):∀ fuel,iZ P ops Q S s fuel listed a w
 | 0=>⟨hr,h⟩
 | _+1=>⟨fun _=>h,by rw[hr];simp⟩
theorem Gi{id:Nat}(s:Nat)(S:World->Prop)(hm:P.follows .mixedOrders=true)(h:iZ P ops Q S s ops.size (Array.replicate ops.size false) a w.drew):(Code.region id ops true).wp P Q a w:=
 wp_region_any hm (Aq _ _ _ _ h)
end
section
variable{P:Program}{ops:Array Oper}{Q:Exit→Act→World→Prop}{S:World→Prop}{s:Nat}
theorem Hy{l0:Array Bool}{F:Act}{R:bq}(X Y:List Nat)(M J:List Value->bq)(q:Nat)(ad:Mq ops l0 X Y=true)(oX:∀ vs,(M vs).Ok)(oY:∀ vs,(J vs).Ok)(oR:R.Ok)(hS:∀ (O:bq) W,aI F0 w0 O W->S W)(hX:∀ i o vs us,X[vs.length]?=some i->ops[i]?=some o->us.length<=Y.length->∀ (Z:bq) W,Z.Ok->aI F0 w0 (aj (M vs) Z) W ->
   o.wp P (gd (gd F (dK ops X) vs) (dK ops Y) us) W (fun a' w'=>∃ v,a'=(gd (gd F (dK ops X) vs) (dK ops Y) us).put o.dst v/\aI F0 w0 (aj (M (vs++[v])) Z) w') Q)(hY:∀ i o vs us,Y[us.length]?=some i->ops[i]?=some o->vs.length<=X.length->∀ (Z:bq) W,Z.Ok->aI F0 w0 (aj (J us) Z) W ->
   o.wp P (gd (gd F (dK ops X) vs) (dK ops Y) us) W (fun a' w'=>∃ v,a'=(gd (gd F (dK ops X) vs) (dK ops Y) us).put o.dst v/\aI F0 w0 (aj (J (us++[v])) Z) w') Q)(ag:∀ vs us W,vs.length=X.length->us.length=Y.length->aI F0 w0 (aj (M vs) (aj (J us) R)) W->iZ P ops Q S s q (BQ l0 X Y X.length Y.length) (gd (gd F (dK ops X) vs) (dK ops Y) us) W)(h0:aI F0 w0 (aj (M []) (aj (J []) R)) W):iZ P ops Q S s (q+(X.length+Y.length)) l0 F W:=by
 simp only[Mq,YF,decide_eq_true_eq] at ad;obtain⟨⟨an,ak⟩,ao⟩:=ad;have key:∀ (N:Nat) (vs us:List Value) (W:World),vs.length<=X.length->us.length<=Y.length->N=(X.length-vs.length)+(Y.length-us.length)->aI F0 w0 (aj (M vs) (aj (J us) R)) W ->
   iZ P ops Q S s (q+N) (BQ l0 X Y vs.length us.length) (gd (gd F (dK ops X) vs) (dK ops Y) us) W:=by
  intro N
  induction N with
  | zero=>
   intro vs us W hv hu hN hR;have h1:vs.length=X.length:=by omega
   have h2:us.length=Y.length:=by omega
   rw[h1,h2];exact ag vs us W h1 h2 hR
  | succ N ih=>
   intro vs us W hv hu hN hR;have hc:=an;rw[YX] at hc;have ai:=hc vs.length (List.mem_range.2 ff);rw[YX] at ai;have ac:=ai us.length (List.mem_range.2 ff);simp only[YF] at ac;obtain⟨⟨⟨c1,c2⟩,c3⟩,c4⟩:=ac;have ap:(vs.length==X.length&&us.length==Y.length)=false:=by
    cases hb:(vs.length==X.length&&us.length==Y.length) with
    | false=>rfl
    | true=>simp only[YF,beq_iff_eq] at hb;omega
   rw[ap,ki] at c1 c2;have ae:∀ (Z:List Nat) i,i ∈ Z->(∀ j ∈ Z,j ∈ X++Y)->∃ o d,ops[i]?=some o/\o.guard=none/\o.dst=some d/\((ops[i]?.bind (·.dst))).getD 0=d:=by
    intro Z i hi hZ;rw[YX] at ak;have:=ak i (hZ i hi);cases I:ops[i]? with
    | none=>rw[I] at this;cases this
    | some o=>
     rw[I] at this;simp only[YF,tz,tB] at this;obtain⟨g1,d,g2⟩:=this;exact⟨o,d,rfl,g1,g2,by simp[g2]⟩
   refine⟨fun h=>by rw[h] at c1;simp at c1,fun i hi=>?_⟩;rw[YX] at c2;have p:=c2 i hi;simp only[ZQ,beq_iff_eq] at p;have af:=List.nodup_append.1 ao;rcases p with p|p
   ·-- the next of X
    have aa:vs.length<X.length:=(List.getElem?_eq_some_iff.1 p).1;obtain⟨o,d,I,hg,hd,z⟩:=ae X i (Za p) (fun j hj=>lL _ hj);refine bA I hg (Zg ?_ (hX i o vs us p I hu (aj (J us) R) W (ay (oY us) oR) hR));rintro a' w' ⟨v,rfl,hR'⟩;refine⟨fun _=>hS _ _ hR',?_⟩;rw[p] at c3;simp only[beq_iff_eq] at c3;have h3:=ih (vs++[v]) us w' ky hu ky hR';rw[Yz,Y1,<-c3] at h3;have e1:gd F (dK ops X) (vs++[v])=(gd F (dK ops X) vs).put (some d) v:=by
     have V:dK ops X=dK ops (X.take vs.length)++(d::dK ops (X.drop (vs.length+1))):=by
      have ab:X[vs.length]=i:=(List.getElem?_eq_some_iff.1 p).2;have e9:=sM (fun i=>((ops[i]?.bind (·.dst))).getD 0) X aa;simp only[ab,z] at e9;exact e9
     have hl:(dK ops (X.take vs.length)).length=vs.length:=by unfold dK;simp;omega
     rw[V];rw[show dK ops (X.take vs.length)++(d::dK ops (X.drop (vs.length+1)))=(dK ops (X.take vs.length)++[d])++dK ops (X.drop (vs.length+1)) by simp];rw[jQ _ _ _ (vs++[v]) (by simp[hl]),sK _ _ _ _ _ hl,Y3,jQ _ _ _ vs hl]
    have al:d ∉ dK ops Y:=by
     intro hm;refine af.2.2 d ?_ d hm rfl;unfold dK;exact List.mem_map.2 ⟨i,Za p,z⟩
    rw[hd,Bh d v _ us _ al,<-e1];exact h3
   ·have aa:us.length<Y.length:=(List.getElem?_eq_some_iff.1 p).1;obtain⟨o,d,I,hg,hd,z⟩:=ae Y i (Za p) (fun j hj=>mC _ hj);have am:aI F0 w0 (aj (J us) (aj (M vs) R)) W:=hR.oM;refine bA I hg (Zg ?_ (hY i o vs us p I hv (aj (M vs) R) W (ay (oX vs) oR) am));rintro a' w' ⟨v,rfl,hR'⟩;refine⟨fun _=>hS _ _ hR',?_⟩;rw[p] at c4;simp only[beq_iff_eq] at c4;have h3:=ih vs (us++[v]) w' hv ky ky hR'.oM;rw[Yz,Y1,<-c4] at h3;have e1:∀ b:Act,gd b (dK ops Y) (us++[v])=(gd b (dK ops Y) us).put (some d) v:=by
     intro b;have V:dK ops Y=dK ops (Y.take us.length)++(d::dK ops (Y.drop (us.length+1))):=by
      have ab:Y[us.length]=i:=(List.getElem?_eq_some_iff.1 p).2;have e9:=sM (fun i=>((ops[i]?.bind (·.dst))).getD 0) Y aa;simp only[ab,z] at e9;exact e9
     have hl:(dK ops (Y.take us.length)).length=us.length:=by unfold dK;simp;omega
     rw[V];rw[show dK ops (Y.take us.length)++(d::dK ops (Y.drop (us.length+1)))=(dK ops (Y.take us.length)++[d])++dK ops (Y.drop (us.length+1)) by simp];rw[jQ _ _ _ (us++[v]) (by simp[hl]),sK _ _ _ _ _ hl,Y3,jQ _ _ _ us hl]
    rw[hd,<-e1];exact h3
 have h1:=key (X.length+Y.length) [] [] W (YE _) (YE _) gw h0;have e:∀ (b:Act) (ds:List Nat),gd b ds []=b:=fun b ds=>by cases ds<;>rfl
 rw[e,e] at h1;exact h1
end
end Go.CH
