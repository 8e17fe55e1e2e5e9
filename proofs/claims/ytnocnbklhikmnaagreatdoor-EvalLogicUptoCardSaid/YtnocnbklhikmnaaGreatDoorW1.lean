/- Part 1 of the proof. -/
import Derived.Test.YtnocnbklhikmnaaGreatDoorW0
import Derived.Shelf.Strings.Builder1
import Derived.Shelf.Strings.Trim
import Derived.Shelf.Small.Utf8
import Derived.Shelf.Small.Strs
import Derived.Shelf.Small.Wraps
import Derived.Shelf.Strings.BuilderF
import Derived.Shelf.Strings.BuilderK
import Derived.Shelf.LaysM
import Derived.Shelf.Strconv.Clone
import Derived.Shelf.Strings.Search1
import Derived.Shelf.Strings.Search2
import Derived.Shelf.Strings.Search3
import Derived.Shelf.Strings.Cut
import Derived.Shelf.Strings.Count
import Derived.Shelf.Strings.Shaped
import Derived.Shelf.Strings.Prefix
import Derived.Shelf.Unicode.Decode
import Derived.Shelf.Strings.Runes
import Derived.Shelf.Strings.AsciiSet
import Derived.Shelf.Unicode.DecodeSlow
import Derived.Shelf.Unicode.DecodeAny
import Derived.Shelf.Unicode.DecodeLast
import Derived.Shelf.Strings.BuilderCap
import Derived.Shelf.Slices.Turned
import Derived.Shelf.Slices.Equal
import Derived.Shelf.Slices.Empties2
import Derived.Test.YtnocnbklhikmnaaGreatDoorProg
import Derived.Shelf.Strings.SlTrimAscii
import Derived.Control
import Derived.Scope
set_option linter.unusedVariables false
set_option maxRecDepth 1000000
set_option maxHeartbeats 16000000
namespace Go.Proofs
open Go.Shelf
def Tryz.lays170_ren:Go.Shelf.Ren:=⟨fun|170=>72|n=>n,fun|70=>115|3=>3|0=>0|72=>117|37=>82|5=>5|n=>n,fun|n=>n⟩
theorem Tryz.lays170:Go.Proofs.Lays.n170 Tryz.prog Tryz.lays170_ren:={
 mixed:=by kernel_rfl
 f170:=Tryz.func72.trans (congrArg some (by kernel_rfl))
 t0:=Tryz.underlying0
 a0:=Tryz.isAgg0
 z0:=Tryz.sizeOf0
 v0:=Tryz.zeroValue0
 t3:=Tryz.underlying3
 a3:=Tryz.isAgg3
 z3:=Tryz.sizeOf3
 v3:=Tryz.zeroValue3
 t37:=Tryz.underlying82
 a37:=Tryz.isAgg82
 z37:=Tryz.sizeOf82
 v37:=Tryz.zeroValue82
 t70:=Tryz.underlying115
 a70:=Tryz.isAgg115
 z70:=Tryz.sizeOf115
 v70:=Tryz.zeroValue115
 t72:=Tryz.underlying117
 a72:=Tryz.isAgg117
 z72:=Tryz.sizeOf117
 v72:=Tryz.zeroValue117}
open Go.RowKit in
theorem Tryz.Builder_Len(B b:Nat)(bs:List Value)(w:World)(h:Lib.IsBuilder 117 5 B b bs w):
 Calls Tryz.prog 72 #[.pointer (some ⟨b,0,none⟩)] w fun e w'=>e= .returned (.int .i64 bs.length)/\w'=w:=Any.Builder_Len Tryz.lays170 B b bs w h
def Tryz.lays169_ren:Go.Shelf.Ren:=⟨fun|169=>73|n=>n,fun|70=>115|9=>9|0=>0|72=>117|37=>82|127=>186|3=>3|5=>5|n=>n,fun|n=>n⟩
theorem Tryz.lays169:Go.Proofs.Lays.n169 Tryz.prog Tryz.lays169_ren:={
 mixed:=by kernel_rfl
 f169:=Tryz.func73.trans (congrArg some (by kernel_rfl))
 t0:=Tryz.underlying0
 a0:=Tryz.isAgg0
 z0:=Tryz.sizeOf0
 v0:=Tryz.zeroValue0
 t3:=Tryz.underlying3
 a3:=Tryz.isAgg3
 z3:=Tryz.sizeOf3
 v3:=Tryz.zeroValue3
 t9:=Tryz.underlying9
 a9:=Tryz.isAgg9
 z9:=Tryz.sizeOf9
 v9:=Tryz.zeroValue9
 t37:=Tryz.underlying82
 a37:=Tryz.isAgg82
 z37:=Tryz.sizeOf82
 v37:=Tryz.zeroValue82
 t70:=Tryz.underlying115
 a70:=Tryz.isAgg115
 z70:=Tryz.sizeOf115
 v70:=Tryz.zeroValue115
 t72:=Tryz.underlying117
 a72:=Tryz.isAgg117
 z72:=Tryz.sizeOf117
 v72:=Tryz.zeroValue117
 t127:=Tryz.underlying186
 a127:=Tryz.isAgg186
 z127:=Tryz.sizeOf186
 v127:=Tryz.zeroValue186}
theorem Tryz.Builder_Extra_169:Builder.Extra Tryz.prog Tryz.lays169_ren:={
 sizeBuilder:=by kernel_rfl
 liesBuilder:=by kernel_rfl
 t5:=Tryz.underlying5
 a5:=Tryz.isAgg5
 z5:=Tryz.sizeOf5
 v5:=Tryz.zeroValue5
 infoByte:=by kernel_rfl
 cellsByte:=by kernel_rfl
 sizeByte:=by kernel_rfl
 neB5:=by decide}
open Go.RowKit in
theorem Tryz.Builder_String_any(B b:Nat)(l:List UInt8)(w:World)(h:Lib.IsBuilder 117 5 B b (Lib.byteCells l) w)(hBw:B<=w.heap.size):
 Calls Tryz.prog 73 #[.pointer (some ⟨b,0,none⟩)] w fun e w'=>e= .returned (.string ⟨l.toArray⟩)/\Below B w w':=Any.Builder_String_any Tryz.lays169 Tryz.Builder_Extra_169 B b l w h hBw
def Tryz.lays160_ren:Go.Shelf.Ren:=⟨fun|160=>32|232=>98|231=>97|227=>99|234=>101|233=>100|236=>103|235=>102|228=>175|271=>178|151=>177|197=>176|120=>236|152=>235|260=>234|137=>108|119=>256|224=>257|225=>258|217=>179|266=>237|n=>n,fun|9=>9|4=>4|3=>3|5=>5|117=>163|116=>162|0=>0|124=>166|21=>21|105=>235|46=>185|119=>291|139=>294|138=>293|n=>n,fun|3=>0|4=>1|n=>n⟩
theorem Tryz.lays160:Go.Proofs.Lays.n160 Tryz.prog Tryz.lays160_ren:={
 mixed:=by kernel_rfl
 f119:=Tryz.func256.trans (congrArg some (by kernel_rfl))
 f120:=Tryz.func236.trans (congrArg some (by kernel_rfl))
 f137:=Tryz.func108.trans (congrArg some (by kernel_rfl))
 f151:=Tryz.func177.trans (congrArg some (by kernel_rfl))
 f152:=Tryz.func235.trans (congrArg some (by kernel_rfl))
 f160:=Tryz.func32.trans (congrArg some (by kernel_rfl))
 f197:=Tryz.func176.trans (congrArg some (by kernel_rfl))
 f217:=Tryz.func179.trans (congrArg some (by kernel_rfl))
 f224:=Tryz.func257.trans (congrArg some (by kernel_rfl))
 f225:=Tryz.func258.trans (congrArg some (by kernel_rfl))
 f227:=Tryz.func99.trans (congrArg some (by kernel_rfl))
 f228:=Tryz.func175.trans (congrArg some (by kernel_rfl))
 f231:=Tryz.func97.trans (congrArg some (by kernel_rfl))
 f232:=Tryz.func98.trans (congrArg some (by kernel_rfl))
 f233:=Tryz.func100.trans (congrArg some (by kernel_rfl))
 f234:=Tryz.func101.trans (congrArg some (by kernel_rfl))
 f235:=Tryz.func102.trans (congrArg some (by kernel_rfl))
 f236:=Tryz.func103.trans (congrArg some (by kernel_rfl))
 f260:=Tryz.func234.trans (congrArg some (by kernel_rfl))
 f266:=Tryz.func237.trans (congrArg some (by kernel_rfl))
 f271:=Tryz.func178.trans (congrArg some (by kernel_rfl))
 t0:=Tryz.underlying0
 a0:=Tryz.isAgg0
 z0:=Tryz.sizeOf0
 v0:=Tryz.zeroValue0
 t3:=Tryz.underlying3
 a3:=Tryz.isAgg3
 z3:=Tryz.sizeOf3
 v3:=Tryz.zeroValue3
 t4:=Tryz.underlying4
 a4:=Tryz.isAgg4
 z4:=Tryz.sizeOf4
 v4:=Tryz.zeroValue4
 t5:=Tryz.underlying5
 a5:=Tryz.isAgg5
 z5:=Tryz.sizeOf5
 v5:=Tryz.zeroValue5
 t9:=Tryz.underlying9
 a9:=Tryz.isAgg9
 z9:=Tryz.sizeOf9
 v9:=Tryz.zeroValue9
 t21:=Tryz.underlying21
 a21:=Tryz.isAgg21
 z21:=Tryz.sizeOf21
 v21:=Tryz.zeroValue21
 t46:=Tryz.underlying185
 a46:=Tryz.isAgg185
 z46:=Tryz.sizeOf185
 v46:=Tryz.zeroValue185
 t105:=Tryz.underlying235
 a105:=Tryz.isAgg235
 z105:=Tryz.sizeOf235
 v105:=Tryz.zeroValue235
 t116:=Tryz.underlying162
 a116:=Tryz.isAgg162
 z116:=Tryz.sizeOf162
 t117:=Tryz.underlying163
 a117:=Tryz.isAgg163
 z117:=Tryz.sizeOf163
 v117:=Tryz.zeroValue163
 t119:=Tryz.underlying291
 a119:=Tryz.isAgg291
 z119:=Tryz.sizeOf291
 t124:=Tryz.underlying166
 a124:=Tryz.isAgg166
 z124:=Tryz.sizeOf166
 v124:=Tryz.zeroValue166
 t138:=Tryz.underlying293
 a138:=Tryz.isAgg293
 z138:=Tryz.sizeOf293
 v138:=Tryz.zeroValue293
 t139:=Tryz.underlying294
 a139:=Tryz.isAgg294
 z139:=Tryz.sizeOf294
 v139:=Tryz.zeroValue294
 g3:=by kernel_rfl
 g4:=by kernel_rfl}
def Tryz.lays106_ren:Go.Shelf.Ren:=⟨fun|106=>255|213=>272|265=>279|n=>n,fun|9=>9|3=>3|n=>n,fun|n=>n⟩
theorem Tryz.lays106:Go.Proofs.Lays.n106 Tryz.prog Tryz.lays106_ren:={
 mixed:=by kernel_rfl
 f106:=Tryz.func255.trans (congrArg some (by kernel_rfl))
 f213:=Tryz.func272.trans (congrArg some (by kernel_rfl))
 f265:=Tryz.func279.trans (congrArg some (by kernel_rfl))
 t3:=Tryz.underlying3
 a3:=Tryz.isAgg3
 z3:=Tryz.sizeOf3
 v3:=Tryz.zeroValue3
 t9:=Tryz.underlying9
 a9:=Tryz.isAgg9
 z9:=Tryz.sizeOf9
 v9:=Tryz.zeroValue9}
open Go.RowKit in
theorem Tryz.strings_Compare(a b:ByteArray)(w:World):
 Calls Tryz.prog 255 #[.string a,.string b] w fun e w'=>e= .returned (.int .i64 (Lib.compareBytes a.data.toList b.data.toList))/\w'=w:=Any.strings_Compare Tryz.lays106 a b w
def Tryz.lays137_ren:Go.Shelf.Ren:=⟨fun|137=>108|217=>179|266=>237|n=>n,fun|9=>9|5=>5|3=>3|n=>n,fun|n=>n⟩
theorem Tryz.lays137:Go.Proofs.Lays.n137 Tryz.prog Tryz.lays137_ren:={
 mixed:=by kernel_rfl
 f137:=Tryz.func108.trans (congrArg some (by kernel_rfl))
 f217:=Tryz.func179.trans (congrArg some (by kernel_rfl))
 f266:=Tryz.func237.trans (congrArg some (by kernel_rfl))
 t3:=Tryz.underlying3
 a3:=Tryz.isAgg3
 z3:=Tryz.sizeOf3
 v3:=Tryz.zeroValue3
 t5:=Tryz.underlying5
 a5:=Tryz.isAgg5
 z5:=Tryz.sizeOf5
 v5:=Tryz.zeroValue5
 t9:=Tryz.underlying9
 a9:=Tryz.isAgg9
 z9:=Tryz.sizeOf9
 v9:=Tryz.zeroValue9}
open Go.RowKit in
theorem Tryz.strings_IndexByte(s:ByteArray)(c:Int)(w:World):
 Calls Tryz.prog 108 #[.string s,.int .u8 c] w fun e w'=>e= .returned (.int .i64 (Lib.indexByte s.data.toList c.toNat.toUInt8))/\w'=w:=Any.strings_IndexByte Tryz.lays137 s c w
def Tryz.lays103_ren:Go.Shelf.Ren:=⟨fun|103=>181|210=>238|206=>107|n=>n,fun|9=>9|4=>4|24=>174|3=>3|n=>n,fun|n=>n⟩
theorem Tryz.lays103:Go.Proofs.Lays.n103 Tryz.prog Tryz.lays103_ren:={
 mixed:=by kernel_rfl
 f103:=Tryz.func181.trans (congrArg some (by kernel_rfl))
 f206:=Tryz.func107.trans (congrArg some (by kernel_rfl))
 f210:=Tryz.func238.trans (congrArg some (by kernel_rfl))
 t3:=Tryz.underlying3
 a3:=Tryz.isAgg3
 z3:=Tryz.sizeOf3
 v3:=Tryz.zeroValue3
 t4:=Tryz.underlying4
 a4:=Tryz.isAgg4
 z4:=Tryz.sizeOf4
 v4:=Tryz.zeroValue4
 t9:=Tryz.underlying9
 a9:=Tryz.isAgg9
 z9:=Tryz.sizeOf9
 v9:=Tryz.zeroValue9
 t24:=Tryz.underlying174
 a24:=Tryz.isAgg174
 z24:=Tryz.sizeOf174
 v24:=Tryz.zeroValue174}
open Go.RowKit in
theorem Tryz.strings_CutPrefix(s p:ByteArray)(w:World):
 Calls Tryz.prog 181 #[.string s,.string p] w fun e w'=>e= .returned (.tuple #[.string ⟨(Lib.trimPrefix s.data.toList p.data.toList).toArray⟩,.bool (Lib.hasPrefix s.data.toList p.data.toList)])/\w'=w:=Any.strings_CutPrefix Tryz.lays103 s p w
def Tryz.laysM316_ren:Go.Shelf.Ren:=⟨fun|316=>110|n=>n,fun|9=>9|3=>3|4=>4|37=>82|0=>0|127=>186|5=>5|n=>n,fun|n=>n⟩
theorem Tryz.laysM316:Go.Proofs.LaysM.n316 Tryz.prog Tryz.laysM316_ren:={
 mixed:=by kernel_rfl
 f316:=Tryz.func110.trans (congrArg some (by kernel_rfl))
 t0:=Tryz.underlying0
 a0:=Tryz.isAgg0
 z0:=Tryz.sizeOf0
 v0:=Tryz.zeroValue0
 t3:=Tryz.underlying3
 a3:=Tryz.isAgg3
 z3:=Tryz.sizeOf3
 v3:=Tryz.zeroValue3
 t4:=Tryz.underlying4
 a4:=Tryz.isAgg4
 z4:=Tryz.sizeOf4
 v4:=Tryz.zeroValue4
 t9:=Tryz.underlying9
 a9:=Tryz.isAgg9
 z9:=Tryz.sizeOf9
 v9:=Tryz.zeroValue9
 t37:=Tryz.underlying82
 a37:=Tryz.isAgg82
 z37:=Tryz.sizeOf82
 v37:=Tryz.zeroValue82
 t127:=Tryz.underlying186
 a127:=Tryz.isAgg186
 z127:=Tryz.sizeOf186
 v127:=Tryz.zeroValue186
 t5:=Tryz.underlying5
 a5:=Tryz.isAgg5
 z5:=Tryz.sizeOf5
 v5:=Tryz.zeroValue5
 i0:=by kernel_rfl
 i3:=by kernel_rfl
 i4:=by kernel_rfl
 i5:=by kernel_rfl
 i9:=by kernel_rfl
 i37:=by kernel_rfl
 i127:=by kernel_rfl}
open Go.RowKit in
theorem Tryz.stringslite_Clone(s:ByteArray)(w:World)(hlim:s.size<=281474976710656):
 Calls Tryz.prog 110 #[.string s] w fun e w'=>e= .returned (.string s)/\Below w.heap.size w w':=Any.stringslite_Clone Tryz.laysM316 s w hlim
def Tryz.lays143_ren:Go.Shelf.Ren:=⟨fun|143=>185|219=>242|217=>179|225=>258|224=>257|267=>259|266=>237|314=>273|n=>n,fun|9=>9|3=>3|4=>4|5=>5|46=>185|146=>302|51=>301|n=>n,fun|1=>2|n=>n⟩
theorem Tryz.lays143:Go.Proofs.Lays.n143 Tryz.prog Tryz.lays143_ren:={
 mixed:=by kernel_rfl
 f143:=Tryz.func185.trans (congrArg some (by kernel_rfl))
 f217:=Tryz.func179.trans (congrArg some (by kernel_rfl))
 f219:=Tryz.func242.trans (congrArg some (by kernel_rfl))
 f224:=Tryz.func257.trans (congrArg some (by kernel_rfl))
 f225:=Tryz.func258.trans (congrArg some (by kernel_rfl))
 f266:=Tryz.func237.trans (congrArg some (by kernel_rfl))
 f267:=Tryz.func259.trans (congrArg some (by kernel_rfl))
 f314:=Tryz.func273.trans (congrArg some (by kernel_rfl))
 t3:=Tryz.underlying3
 a3:=Tryz.isAgg3
 z3:=Tryz.sizeOf3
 v3:=Tryz.zeroValue3
 t4:=Tryz.underlying4
 a4:=Tryz.isAgg4
 z4:=Tryz.sizeOf4
 v4:=Tryz.zeroValue4
 t5:=Tryz.underlying5
 a5:=Tryz.isAgg5
 z5:=Tryz.sizeOf5
 v5:=Tryz.zeroValue5
 t9:=Tryz.underlying9
 a9:=Tryz.isAgg9
 z9:=Tryz.sizeOf9
 v9:=Tryz.zeroValue9
 t46:=Tryz.underlying185
 a46:=Tryz.isAgg185
 z46:=Tryz.sizeOf185
 v46:=Tryz.zeroValue185
 t51:=Tryz.underlying301
 a51:=Tryz.isAgg301
 z51:=Tryz.sizeOf301
 v51:=Tryz.zeroValue301
 t146:=Tryz.underlying302
 a146:=Tryz.isAgg302
 z146:=Tryz.sizeOf302
 v146:=Tryz.zeroValue302
 g1:=by kernel_rfl}
open Go.RowKit Go.Lib in
theorem Tryz.strings_Index_one(s:ByteArray)(c:UInt8)(w:World):
 Calls Tryz.prog 185 #[.string s,.string ⟨#[c]⟩] w fun e w'=>e= .returned (.int .i64 (Lib.indexByte s.data.toList c))/\w'=w:=Any.strings_Index_one Tryz.lays143 s c w
open Go.RowKit Go.Lib in
theorem Tryz.strings_Index(s sub:ByteArray)(m:Int)(w:World)(hs:s.size<4294967281)(hm:w.cell? ⟨2,0,none⟩=some (.int .i64 m)):
 Calls Tryz.prog 185 #[.string s,.string sub] w fun e w'=>e= .returned (.int .i64 (Lib.index s.data.toList sub.data.toList))/\w'=w:=Any.strings_Index Tryz.lays143 s sub m w hs hm
def Tryz.lays145_ren:Go.Shelf.Ren:=⟨fun|145=>230|220=>254|219=>242|217=>179|225=>258|224=>257|267=>259|266=>237|314=>273|n=>n,fun|9=>9|4=>4|59=>269|3=>3|5=>5|46=>185|146=>302|51=>301|n=>n,fun|1=>2|n=>n⟩
theorem Tryz.lays145:Go.Proofs.Lays.n145 Tryz.prog Tryz.lays145_ren:={
 mixed:=by kernel_rfl
 f145:=Tryz.func230.trans (congrArg some (by kernel_rfl))
 f217:=Tryz.func179.trans (congrArg some (by kernel_rfl))
 f219:=Tryz.func242.trans (congrArg some (by kernel_rfl))
 f220:=Tryz.func254.trans (congrArg some (by kernel_rfl))
 f224:=Tryz.func257.trans (congrArg some (by kernel_rfl))
 f225:=Tryz.func258.trans (congrArg some (by kernel_rfl))
 f266:=Tryz.func237.trans (congrArg some (by kernel_rfl))
 f267:=Tryz.func259.trans (congrArg some (by kernel_rfl))
 f314:=Tryz.func273.trans (congrArg some (by kernel_rfl))
 t3:=Tryz.underlying3
 a3:=Tryz.isAgg3
 z3:=Tryz.sizeOf3
 v3:=Tryz.zeroValue3
 t4:=Tryz.underlying4
 a4:=Tryz.isAgg4
 z4:=Tryz.sizeOf4
 v4:=Tryz.zeroValue4
 t5:=Tryz.underlying5
 a5:=Tryz.isAgg5
 z5:=Tryz.sizeOf5
 v5:=Tryz.zeroValue5
 t9:=Tryz.underlying9
 a9:=Tryz.isAgg9
 z9:=Tryz.sizeOf9
 v9:=Tryz.zeroValue9
 t46:=Tryz.underlying185
 a46:=Tryz.isAgg185
 z46:=Tryz.sizeOf185
 v46:=Tryz.zeroValue185
 t51:=Tryz.underlying301
 a51:=Tryz.isAgg301
 z51:=Tryz.sizeOf301
 v51:=Tryz.zeroValue301
 t59:=Tryz.underlying269
 a59:=Tryz.isAgg269
 z59:=Tryz.sizeOf269
 v59:=Tryz.zeroValue269
 t146:=Tryz.underlying302
 a146:=Tryz.isAgg302
 z146:=Tryz.sizeOf302
 v146:=Tryz.zeroValue302
 g1:=by kernel_rfl}
open Go.RowKit Go.Lib in
theorem Tryz.strings_Cut(s sep:ByteArray)(m:Int)(w:World)(hs:s.size<4294967281)(hm:w.cell? ⟨2,0,none⟩=some (.int .i64 m)):
 Calls Tryz.prog 230 #[.string s,.string sep] w fun e w'=>e= .returned (.tuple #[.string ⟨(Lib.cut s.data.toList sep.data.toList).1.toArray⟩,.string ⟨(Lib.cut s.data.toList sep.data.toList).2.1.toArray⟩,.bool (Lib.cut s.data.toList sep.data.toList).2.2])/\∃n,w'=w.drewN n:=Any.strings_Cut Tryz.lays145 s sep m w hs hm
def Tryz.lays138_ren:Go.Shelf.Ren:=⟨fun|138=>184|195=>240|218=>241|143=>185|219=>242|217=>179|225=>258|224=>257|267=>259|266=>237|314=>273|n=>n,fun|9=>9|3=>3|4=>4|5=>5|0=>0|46=>185|146=>302|51=>301|n=>n,fun|1=>2|n=>n⟩
theorem Tryz.lays138:Go.Proofs.Lays.n138 Tryz.prog Tryz.lays138_ren:={
 mixed:=by kernel_rfl
 f138:=Tryz.func184.trans (congrArg some (by kernel_rfl))
 f143:=Tryz.func185.trans (congrArg some (by kernel_rfl))
 f195:=Tryz.func240.trans (congrArg some (by kernel_rfl))
 f217:=Tryz.func179.trans (congrArg some (by kernel_rfl))
 f218:=Tryz.func241.trans (congrArg some (by kernel_rfl))
 f219:=Tryz.func242.trans (congrArg some (by kernel_rfl))
 f224:=Tryz.func257.trans (congrArg some (by kernel_rfl))
 f225:=Tryz.func258.trans (congrArg some (by kernel_rfl))
 f266:=Tryz.func237.trans (congrArg some (by kernel_rfl))
 f267:=Tryz.func259.trans (congrArg some (by kernel_rfl))
 f314:=Tryz.func273.trans (congrArg some (by kernel_rfl))
 t0:=Tryz.underlying0
 a0:=Tryz.isAgg0
 z0:=Tryz.sizeOf0
 v0:=Tryz.zeroValue0
 t3:=Tryz.underlying3
 a3:=Tryz.isAgg3
 z3:=Tryz.sizeOf3
 v3:=Tryz.zeroValue3
 t4:=Tryz.underlying4
 a4:=Tryz.isAgg4
 z4:=Tryz.sizeOf4
 v4:=Tryz.zeroValue4
 t5:=Tryz.underlying5
 a5:=Tryz.isAgg5
 z5:=Tryz.sizeOf5
 v5:=Tryz.zeroValue5
 t9:=Tryz.underlying9
 a9:=Tryz.isAgg9
 z9:=Tryz.sizeOf9
 v9:=Tryz.zeroValue9
 t46:=Tryz.underlying185
 a46:=Tryz.isAgg185
 z46:=Tryz.sizeOf185
 v46:=Tryz.zeroValue185
 t51:=Tryz.underlying301
 a51:=Tryz.isAgg301
 z51:=Tryz.sizeOf301
 v51:=Tryz.zeroValue301
 t146:=Tryz.underlying302
 a146:=Tryz.isAgg302
 z146:=Tryz.sizeOf302
 v146:=Tryz.zeroValue302
 g1:=by kernel_rfl}
open Go.RowKit Go.Lib in
theorem Tryz.strings_Count_one(s:ByteArray)(c:UInt8)(w:World):
 Calls Tryz.prog 184 #[.string s,.string ⟨#[c]⟩] w fun e w'=>e= .returned (.int .i64 (Lib.countByte s.data.toList c))/\w'=w:=Any.strings_Count_one Tryz.lays138 s c w
def Tryz.lays99_ren:Go.Shelf.Ren:=⟨fun|99=>42|206=>107|n=>n,fun|9=>9|4=>4|3=>3|n=>n,fun|n=>n⟩
theorem Tryz.lays99:Go.Proofs.Lays.n99 Tryz.prog Tryz.lays99_ren:={
 mixed:=by kernel_rfl
 f99:=Tryz.func42.trans (congrArg some (by kernel_rfl))
 f206:=Tryz.func107.trans (congrArg some (by kernel_rfl))
 t3:=Tryz.underlying3
 a3:=Tryz.isAgg3
 z3:=Tryz.sizeOf3
 v3:=Tryz.zeroValue3
 t4:=Tryz.underlying4
 a4:=Tryz.isAgg4
 z4:=Tryz.sizeOf4
 v4:=Tryz.zeroValue4
 t9:=Tryz.underlying9
 a9:=Tryz.isAgg9
 z9:=Tryz.sizeOf9
 v9:=Tryz.zeroValue9}
open Go.RowKit Go.Lib in
theorem Tryz.strings_HasPrefix(s p:ByteArray)(w:World):
 Calls Tryz.prog 42 #[.string s,.string p] w fun e w'=>e= .returned (.bool (Lib.hasPrefix s.data.toList p.data.toList))/\w'=w:=Any.strings_HasPrefix Tryz.lays99 s p w
def Tryz.lays111_ren:Go.Shelf.Ren:=⟨fun|111=>132|n=>n,fun|28=>147|3=>3|4=>4|0=>0|n=>n,fun|n=>n⟩
theorem Tryz.lays111:Go.Proofs.Lays.n111 Tryz.prog Tryz.lays111_ren:={
 mixed:=by kernel_rfl
 f111:=Tryz.func132.trans (congrArg some (by kernel_rfl))
 t0:=Tryz.underlying0
 a0:=Tryz.isAgg0
 z0:=Tryz.sizeOf0
 v0:=Tryz.zeroValue0
 t3:=Tryz.underlying3
 a3:=Tryz.isAgg3
 z3:=Tryz.sizeOf3
 v3:=Tryz.zeroValue3
 t4:=Tryz.underlying4
 a4:=Tryz.isAgg4
 z4:=Tryz.sizeOf4
 v4:=Tryz.zeroValue4
 t28:=Tryz.underlying147
 a28:=Tryz.isAgg147
 z28:=Tryz.sizeOf147
 v28:=Tryz.zeroValue147}
open Go.RowKit Go.Lib in
theorem Tryz.slices_Equal_int(b1 o1 n c b2 o2 m d:Nat)(xs ys:List Int)(w:World)(hx:n<=xs.length)(hy:m<=ys.length)(hbig:n<=9223372036854775807)(hbig2:m<=9223372036854775807)(hc1:∀j,j<xs.length->w.cell? ⟨b1,o1+j,none⟩=some (.int .i64 (xs.getD j 0)))(hc2:∀j,j<ys.length->w.cell? ⟨b2,o2+j,none⟩=some (.int .i64 (ys.getD j 0))):
 Calls Tryz.prog 132 #[.slice (some ⟨b1,o1,none⟩) n c,.slice (some ⟨b2,o2,none⟩) m d] w fun e w'=>e= .returned (.bool (xs.take n==ys.take m))/\∃q,w'=w.drewN q:=Any.slices_Equal_int Tryz.lays111 b1 o1 n c b2 o2 m d xs ys w hx hy hbig hbig2 hc1 hc2
open Go.RowKit Go.Lib in
theorem Tryz.slices_Equal_int_empty(a1 a2:Option Addr)(c m d:Nat)(w:World)(hbig2:m<=9223372036854775807):
 Calls Tryz.prog 132 #[.slice a1 0 c,.slice a2 m d] w fun e w'=>e= .returned (.bool (decide (m=0)))/\w'=w:=Any.slices_Equal_int_empty Tryz.lays111 a1 a2 c m d w hbig2
open Go.RowKit Go.Lib in
theorem Tryz.slices_Equal_int_lens(a1 a2:Option Addr)(n c m d:Nat)(w:World)(hnm:n≠m):
 Calls Tryz.prog 132 #[.slice a1 n c,.slice a2 m d] w fun e w'=>e= .returned (.bool false)/\w'=w:=Any.slices_Equal_int_lens Tryz.lays111 a1 a2 n c m d w hnm
open Go.RowKit in
theorem Tryz.strings_Trim(h116:(Tryz.prog.info? 162).map (fun i=>(i.zero,i.size))=some (some (.agg (Array.replicate 256 (.bool false))),256))(s cutset:ByteArray)(w:World)(hs:s.size<=9223372036854775807)(hcs:cutset.size<4294967281)(hascii:∀(j:Nat) b,cutset.data.toList[j]? =some b->b.toNat<128):
 Calls Tryz.prog 32 #[.string s,.string cutset] w fun e w'=>e= .returned (.string ⟨(Lib.trimS s.data.toList cutset.data.toList).toArray⟩)/\Below w.heap.size w w':=Any.strings_Trim_laid Tryz.lays160 h116 s cutset w hs hcs hascii
end Go.Proofs
namespace Go.Proofs.YtnocnbklhikmnaaGreatDoor.Rk
open Go
inductive AV where
 |top
 |bool (b:Bool)
 |int (k:IntKind) (n:Int)
 |str (l:List Nat)
 |ptr (b off:Nat)
 |nilp
 |slice (b off len mc es:Nat)
 |nils
 |map (b:Nat)
 |nilm
 |func (f:FuncId) (first cap:List AV)
 |nilf
 |iface (t:TypeId) (v:AV)
 |nili
 |agg (cs:List AV)
 |tuple (vs:List AV)
 |yield (b:Nat)
deriving Inhabited
inductive Tr(α:Type) where
 |leaf
 |node (l:Tr α) (v:Option α) (r:Tr α)
namespace Tr
variable {α:Type}
def get:Tr α->Nat->Option α
 |leaf,_=>none
 |node l v r,k=>if k=0 then v else if k%2=1 then l.get (k/2) else r.get (k/2-1)
def setF:Nat->Tr α->Nat->α->Tr α
 |0,t,_,_=>t
 |f+1,leaf,k,v=>if k=0 then node leaf (some v) leaf else if k%2=1 then node (setF f leaf (k/2) v) none leaf else node leaf none (setF f leaf (k/2-1) v)
 |f+1,node l u r,k,v=>if k=0 then node l (some v) r else if k%2=1 then node (setF f l (k/2) v) u r else node l u (setF f r (k/2-1) v)
def set(t:Tr α)(k:Nat)(v:α):Tr α:=setF (k.log2+2) t k v
end Tr
structure ME where
 k:AV
 v:AV
 born:Nat
inductive ABlk where
 |cells (t:TypeId) (cs:List AV)
 |map (es:List ME) (clock:Nat)
 |miter (m:Option Nat) (since:Nat) (seen:List Nat) (last:Nat)
 |siter (l:List Nat) (pos:Nat)
 |pmap (es:List ME)
 |defd
 |loop (ready:Bool) (pending:Option Code) (sz:Nat) (tmps:Tr AV) (params:List Tmp) (assign body:Code) (d:Nat)
 |dead
inductive LE where
 |rd (b i n:Nat)
 |wr (b i n:Nat)
 |all (b:Nat)
def LE.blk:LE->Nat
 | .rd b _ _| .wr b _ _| .all b=>b
structure St where
 heap:Tr ABlk
 n:Nat
 log:List LE
def bytesOf(s:ByteArray):List Nat:=s.data.toList.map UInt8.toNat
def ofV:Nat->Value->AV
 |_,.bool b=> .bool b
 |_,.int k n=> .int k n
 |_,.string s=> .str (bytesOf s)
 |_,.pointer none=> .nilp
 |_,.slice none 0 0=> .nils
 |_,.map none=> .nilm
 |_,.nilFunc=> .nilf
 |_,.nilIface=> .nili
 |n+1,.agg cs=> .agg (cs.toList.map (ofV n))
 |n+1,.tuple cs=> .tuple (cs.toList.map (ofV n))
 |_,_=> .top
def cellsA:AV->Option (List AV)
 | .top=>none
 | .agg cs=>some cs
 |v=>some [v]
def one:AV->Bool
 | .top| .agg _| .tuple _=>false
 |_=>true
inductive DE where
 |fn (f:FuncId) (args:List AV)
 |mark (b:Nat)
structure AAct where
 sz:Nat
 tmps:Tr AV
 defs:List DE
def AAct.get(a:AAct)(t:Nat):AV:=(a.tmps.get t).getD (.tuple [])
def aeval(a:AAct):Operand->AV
 | .tmp t=>a.get t
 | .const v=>ofV 3 v
 | .global _=> .top
 | .func f=> .func f [] []
def AAct.putT(a:AAct)(d:Tmp)(v:AV):AAct:=if d<a.sz then{a with tmps:=a.tmps.set d v} else a
def AAct.put(a:AAct)(d:Option Tmp)(v:AV):AAct:=
 match d with
 |some d=>a.putT d v
 |none=>a
section
variable (P:Program)
def szOf(t:TypeId):Option Nat:=(P.info? t).map (·.size)
def aggD:TypeDesc->Bool
 | .struct _| .array _ _=>true
 |_=>false
def aggT(t:TypeId):Option Bool:=(P.underlying t).map aggD
def zeroA(t:TypeId):Option AV:=((P.info? t).bind (·.zero)).map (ofV 3)
def zeroC(t:TypeId):Option (List AV):=(zeroA P t).bind cellsA
def takeN:Nat->List AV->Option (List AV)
 |0,_=>some []
 |n+1,x::l=>match takeN n l with
  |some r=>some (x::r)
  |none=>none
 |_+1,[]=>none
def cutL(cs:List AV)(off n:Nat):Option (List AV):=takeN n (cs.drop off)
def setL:List AV->Nat->List AV->Option (List AV)
 |cs,_,[]=>some cs
 |[],_,_::_=>none
 |_::cs,0,v::vs=>match setL cs 0 vs with
  |some r=>some (v::r)
  |none=>none
 |c::cs,i+1,v::vs=>match setL cs i (v::vs) with
  |some r=>some (c::r)
  |none=>none
def St.note(s:St)(e:LE):St:={s with log:=e::s.log}
def St.put(s:St)(b:Nat)(x:ABlk):St:={s with heap:=s.heap.set b x}
def St.new(s:St)(x:ABlk):St:={s with heap:=s.heap.set s.n x,n:=s.n+1}
def rdCells(s:St)(b off n:Nat):Option (List AV×St):=
 match s.heap.get b with
 |some (.cells _ cs)=>match cutL cs off n with
  |some l=>some (l,s.note (.rd b off n))
  |none=>none
 |_=>none
def wrCells(s:St)(b off:Nat)(vs:List AV):Option St:=
 match s.heap.get b with
 |some (.cells t cs)=>if vs.all one&& !vs.isEmpty then match setL cs off vs with
  |some cs'=>some ((s.put b (.cells t cs')).note (.wr b off vs.length))
  |none=>none else none
 |_=>none
def eqT(d:TypeDesc)(known:Bool)(x y:AV):Option Bool:=match d,x,y with
 | .pointer _,.nilp,.nilp=>some true
 | .pointer _,.nilp,.ptr _ _=>some false
 | .pointer _,.ptr _ _,.nilp=>some false
 | .interface _,.nili,.nili=>if known then some true else none
 | .interface _,.nili,.iface _ _=>some false
 | .interface _,.iface _ _,.nili=>some false
 | .map _ _,.nilm,.nilm=>some true
 | .map _ _,.nilm,.map _=>some false
 | .map _ _,.map _,.nilm=>some false
 | .func _ _ _,.nilf,.nilf=>some true
 | .func _ _ _,.nilf,.func _ _ _=>some false
 | .func _ _ _,.func _ _ _,.nilf=>some false
 | .slice _,.nils,.nils=>some true
 | .slice _,.nils,.slice _ _ _ _ _=>some false
 | .slice _,.slice _ _ _ _ _,.nils=>some false
 | .bool,.bool a,.bool b=>some (a==b)
 |_,_,_=>none
def strLt:List Nat->List Nat->Bool
 |_,[]=>false
 |[],_::_=>true
 |a::x,b::y=>decide (a<b)||(decide (a=b)&&strLt x y)
def iop(op:BinOp)(k:IntKind)(x y:Int):Option AV:=
 match op with
 | .add=>some (.int k (k.wrap (x+y)))
 | .sub=>some (.int k (k.wrap (x-y)))
 | .mul=>some (.int k (k.wrap (x*y)))
 | .quo=>if y=0 then none else some (.int k (k.wrap (x.tdiv y)))
 | .rem=>if y=0 then none else some (.int k (x.tmod y))
 | .and=>some (.int k (k.wrap (BitVec.ofInt k.bits x&&&BitVec.ofInt k.bits y).toNat))
 | .or=>some (.int k (k.wrap (BitVec.ofInt k.bits x|||BitVec.ofInt k.bits y).toNat))
 | .xor=>some (.int k (k.wrap (BitVec.ofInt k.bits x^^^BitVec.ofInt k.bits y).toNat))
 | .andNot=>some (.int k (k.wrap (BitVec.ofInt k.bits x&&& ~~~BitVec.ofInt k.bits y).toNat))
 | .eql=>some (.bool (x==y))
 | .neq=>some (.bool (x !=y))
 | .lss=>some (.bool (decide (x<y)))
 | .leq=>some (.bool (decide (x<=y)))
 | .gtr=>some (.bool (decide (x>y)))
 | .geq=>some (.bool (decide (x>=y)))
 | .shl=>if y<0 then none else some (.int k (k.wrap (x*2^(min y.toNat k.bits))))
 | .shr=>if y<0 then none else some (.int k (x.fdiv (2^(min y.toNat k.bits))))
def sop(op:BinOp)(x y:List Nat):Option AV:=
 match op with
 | .add=>if x.length+y.length<1000000 then some (.str (x++y)) else none
 | .eql=>some (.bool (decide (x=y)))
 | .neq=>some (.bool (!decide (x=y)))
 | .lss=>some (.bool (strLt x y))
 | .leq=>some (.bool (strLt x y||decide (x=y)))
 | .gtr=>some (.bool !(strLt x y||decide (x=y)))
 | .geq=>some (.bool !strLt x y)
 |_=>none
def isShift:BinOp->Bool
 | .shl| .shr=>true
 |_=>false
def cellEq(a b:AV):Option Bool:=match a,b with
 | .str a,.str b=>some (decide (a=b))
 | .int k a,.int j b=>if k=j then some (a==b) else none
 | .bool a,.bool b=>some (a==b)
 |_,_=>none
def cellsEq:List AV->List AV->Option Bool
 |[],[]=>some true
 |a::l,b::m=>match cellEq a b with
  |some true=>cellsEq l m
  |r=>r
 |_,_=>none
def keyEq(a b:AV):Option Bool:=match a,b with
 | .agg a,.agg b=>cellsEq a b
 |a,b=>cellEq a b
def cellOk:TypeDesc->AV->Bool
 | .string,.str _=>true
 | .int _,.int _ _=>true
 | .bool,.bool _=>true
 |_,_=>false
def cellsOk:List Field->List AV->Nat->Bool
 |[],[],_=>true
 |f::fs,c::cs,i=>f.name != "_"&&decide (f.offset=i)&&(match P.underlying f.type with|some d=>cellOk d c|none=>false)&&cellsOk fs cs (i+1)
 |_,_,_=>false
def keyOk(t:TypeId)(d:TypeDesc)(k:AV):Bool:=match d,k with
 | .struct fs,.agg cs=> !P.stoodInHeld t&&cellsOk P fs.toList cs 0
 | .array 1 e,.agg [c]=>decide (szOf P e=some 1)&&(match P.underlying e with|some d=>cellOk d c|none=>false)
 |d,k=>cellOk d k
def partA(t:TypeId)(cs:List AV)(off:Nat):Option AV:=
 match aggT P t,szOf P t with
 |some true,some n=>match cutL cs off n with
  |some l=>some (.agg l)
  |none=>none
 |some false,_=>cs[off]?
 |_,_=>none
def eqFs(E:TypeId->AV->AV->Option Bool):List Field->List AV->List AV->Option Bool
 |[],_,_=>some true
 |f::fs,cs,ds=>if f.name != "_" then(match partA P f.type cs f.offset,partA P f.type ds f.offset with
  |some a,some b=>(match E f.type a b with
   |some true=>eqFs E fs cs ds
   |r=>r)
  |_,_=>none) else none
def eqD:Nat->TypeId->AV->AV->Option Bool
 |0,_,_,_=>none
 |d+1,t,x,y=>match P.underlying t,x,y with
  |some (.struct fs),.agg cs,.agg ds=>if P.stoodInHeld t then none else eqFs P (eqD d) fs.toList cs ds
  |some td,x,y=>if cellOk td x then cellEq x y else none
  |none,_,_=>none
def eqS(t:TypeId)(d:TypeDesc)(x y:AV):Option Bool:=match d,x,y with
 | .struct _,.agg _,.agg _=>if !P.eqGuardType P.depth t then eqD P 5 t x y else none
 |_,_,_=>none
def bop(t:TypeId)(op:BinOp)(d:Option TypeDesc)(known:Bool)(x y:AV):Option AV:=
 match x,y with
 | .int k a,.int j b=>if k=j||isShift op then iop op k a b else none
 | .str a,.str b=>sop op a b
 |x,y=>match op,d with
  | .eql,some d=>match eqT d known x y with
    |some b=>some (.bool b)
    |none=>match eqS P t d x y with
     |some b=>some (.bool b)
     |none=>none
  | .neq,some d=>match eqT d known x y with
    |some b=>some (.bool !b)
    |none=>match eqS P t d x y with
     |some b=>some (.bool !b)
     |none=>none
  |_,_=>none
def isConst:Operand->Bool
 | .const _=>true
 |_=>false
def uop(op:UnOp)(x:AV):Option AV:=
 match op,x with
 | .neg,.int k n=>some (.int k (k.wrap (0-n)))
 | .xor,.int k n=>some (.int k (k.wrap (BitVec.ofInt k.bits (if k.signed then-1 else k.max)^^^BitVec.ofInt k.bits n).toNat))
 | .not,.bool b=>some (.bool !b)
 |_,_=>none
def byteAt:List AV->Option (List Nat)
 |[]=>some []
 | .int .u8 (.ofNat n)::l=>match byteAt l with
   |some r=>some (n%256::r)
   |none=>none
 |_=>none
def bytesA(l:List Nat):List AV:=l.map fun n=> .int .u8 (Int.ofNat n)
def conv(src dst:TypeId)(x:AV)(s:St):Option (AV×St):=
 match P.underlying dst,x with
 |some (.int k),.int _ n=>some (.int k (k.wrap n),s)
 |some .string,.str l=>some (.str l,s)
 |some .string,.nils=>
  match P.underlying src with
  |some (.slice e)=>match P.underlying e with
   |some (.int .u8)=>some (.str [],s)
   |_=>none
  |_=>none
 |some .string,.slice b off len _ _=>
  match P.underlying src with
  |some (.slice e)=>match P.underlying e with
   |some (.int .u8)=>match rdCells s b off len with
    |some (cs,s)=>match byteAt cs with
     |some l=>some (.str l,s)
     |none=>none
    |none=>none
   |_=>none
  |_=>none
 |some (.slice e),.str l=>match P.underlying e,szOf P e with
  |some (.int .u8),some 1=>if l.length<1000000 then some (.slice s.n 0 l.length l.length 1,s.new (.cells (2*e) (bytesA l))) else none
  |_,_=>none
 |_,_=>none
def fillA(place:Nat->Option (Nat×Nat)):List AV->List (Nat×AV)->Option (List AV)
 |cells,[]=>some cells
 |cells,(i,v)::rest=>
  match place i with
  |some (off,size)=>match cellsA v with
   |some c=>if c.length=size/\0<size then match setL cells off c with
    |some c=>fillA place c rest
    |none=>none else none
   |none=>none
  |none=>none
def repL(z:List AV):Nat->List AV
 |0=>[]
 |n+1=>z++repL z n
def bnd(x:Option AV)(d:Nat):Option Nat:=match x with
 |none=>some d
 |some (.int _ (.ofNat n))=>some n
 |_=>none
def findK(k:AV):List ME->Nat->Option (Option (Nat×AV))
 |[],_=>some none
 |e::l,i=>match keyEq k e.k with
  |some true=>some (some (i,e.v))
  |some false=>findK k l (i+1)
  |none=>none
def newA(e:TypeId)(sz:Nat)(y:AV)(s:St):Option (Nat×List AV×St):=match y with
 | .nils=>some (0,[],s)
 | .str l=>if sz=1 then some (l.length,bytesA l,s) else none
 | .slice b off len _ es=>if es=sz then match rdCells s b off (len*sz) with
   |some (cs,s)=>some (len,cs,s)
   |none=>none else none
 |_=>none
def zOk(e:TypeId)(n:Nat):Bool:=match zeroC P e with
 |some z=>decide (z.length=n)
 |none=>false
def bAppend(t:TypeId)(x y:AV)(s:St):Option (AV×St):=
 match P.underlying t with
 |some (.slice e)=>match P.info? e with
  |some i=>match newA e i.size y s with
   |none=>none
   |some (n,cs,s)=>
    if cs.all one&&decide (i.bytes<=100000)&&decide (0<i.size)&&decide (n<1000000)&&zOk P e i.size then
    match x with
    | .nils=>if n=0 then some (x,s) else some (.slice s.n 0 n n i.size,s.new (.cells (2*e) cs))
    | .slice b off len mc es=>
      if n=0 then some (x,s) else
      match s.heap.get b with
      |some (.cells t cs0)=>
       if t=2*e/\es=i.size/\len<1000000 then
       if len+n<=mc then
        match setL (cs0++repL [.top] (off+(len+n)*i.size-cs0.length)) (off+len*i.size) cs with
        |some cs1=>some (.slice b off (len+n) mc es,(s.put b (.cells t cs1)).note (.all b))
        |none=>none
       else if off+len*i.size=cs0.length then
        some (.slice s.n 0 (len+n) (len+n) es,((s.put b .dead).note (.all b)).new (.cells t (cs0.drop off++cs)))
       else none
       else none
      |_=>none
    |_=>none
    else none
  |none=>none
 |_=>none
def minA(x y:AV):Option AV:=match x,y with
 | .int k a,.int _ b=>some (.int k (if b<a then b else a))
 |_,_=>none
def maxA(x y:AV):Option AV:=match x,y with
 | .int k a,.int _ b=>some (.int k (if b>a then b else a))
 |_,_=>none
def foldA(f:AV->AV->Option AV):AV->List AV->Option AV
 |x,[]=>some x
 |x,y::l=>match f x y with
  |some z=>foldA f z l
  |none=>none
def lenA(d:Option TypeDesc)(x:AV)(s:St):Option (AV×St):=match d,x with
 |some .string,.str l=>some (.int .i64 l.length,s)
 |some (.slice _),.nils=>some (.int .i64 0,s)
 |some (.slice _),.slice _ _ n _ _=>some (.int .i64 n,s)
 |some (.map _ _),.nilm=>some (.int .i64 0,s)
 |some (.map _ _),.map b=>match s.heap.get b with
  |some (.map es _)=>some (.int .i64 es.length,s.note (.rd b 0 1))
  |_=>none
 |some (.array n _),_=>some (.int .i64 n,s)
 |some (.pointer t),_=>match P.underlying t with
  |some (.array n _)=>some (.int .i64 n,s)
  |_=>none
 |_,_=>none
def sliceDataA:List AV->Option AV
 |[.nils]=>some .nilp
 |[.slice b off len _ _]=>if 0<len then some (.ptr b off) else none
 |_=>none
def stringA(t:TypeId)(args:List AV)(s:St):Option (AV×St):=match args with
 |[.nilp,.int .i64 n]=>if n=0 then some (.str [],s) else none
 |[.ptr b off,.int .i64 (.ofNat n)]=>match P.underlying t,s.heap.get b with
  |some (.pointer e),some (.cells t0 _)=>if t0/2=e/\P.cellsOf e=1/\0<n/\n<1000000 then
    match rdCells s b off n with
    |some (cs,s1)=>match byteAt cs with
     |some l=>some (.str l,(s1.put b .dead).note (.all b))
     |none=>none
    |none=>none
   else none
  |_,_=>none
 |_=>none
def undefA:AV:= .tuple []
def unit:Option St->Option (AV×St)
 |some s=>some (undefA,s)
 |none=>none
def opDelete(t:TypeId)(m k:AV)(s:St):Option St:=match P.underlying t,m with
 |some (.map kt _),.map b=>match P.underlying kt,s.heap.get b with
  |some d,some (.map es clock)=>if keyOk P kt d k then match findK k es 0 with
   |some (some (i,_))=>some ((s.put b (.map (es.eraseIdx i) clock)).note (.all b))
   |some none=>some ((s.put b (.map es clock)).note (.all b))
   |none=>none else none
  |_,_=>none
 |_,_=>none
def aBuiltin(b:Builtin)(ts:Array TypeId)(args:List AV)(s:St):Option (AV×St):=
 match b with
 | .len=>match args with
   |[x]=>lenA P ((ts[0]?).bind P.underlying) x s
   |_=>none
 | .append=>match ts[0]?,args,((ts[1]?).bind P.underlying) with
   |some t,[x,y],some (.slice _)=>bAppend P t x y s
   |some t,[x,y],some .string=>bAppend P t x y s
   |_,_,_=>none
 | .min=>match args with
   |x::l=>match foldA minA x l with
    |some v=>some (v,s)
    |none=>none
   |[]=>none
 | .max=>match args with
   |x::l=>match foldA maxA x l with
    |some v=>some (v,s)
    |none=>none
   |[]=>none
 | .unsafeSliceData=>match sliceDataA args with
   |some v=>some (v,s)
   |none=>none
 | .unsafeString=>match ts.toList with
   |[t,_]=>stringA P t args s
   |_=>none
 | .delete=>match ts[0]?,args with
   |some t,[m,k]=>unit (opDelete P t m k s)
   |_,_=>none
 |_=>none
def parts(a:AAct)(ps:Array (Nat×Operand)):List (Nat×AV):=ps.toList.map fun p=>(p.1,aeval a p.2)
def opBuild(t:TypeId)(ps:List (Nat×AV)):Option AV:=match zeroC P t,P.underlying t with
 |some z,some (.struct fs)=>match fs.toList.mapM (fun f=>(P.info? f.type).map fun i=>(f.offset,i.size)) with
  |some places=>match fillA (fun i=>places[i]?) z ps with
   |some cs=>some (.agg cs)
   |none=>none
  |none=>none
 |some z,some (.array _ e)=>match P.info? e with
  |some i=>match fillA (fun k=>some (k*i.size,i.size)) z ps with
   |some cs=>some (.agg cs)
   |none=>none
  |none=>none
 |_,_=>none
def opBuildSlice(t:TypeId)(len:Nat)(ps:List (Nat×AV))(s:St):Option (AV×St):=match P.underlying t with
 |some (.slice e)=>match szOf P e,zeroC P e with
  |some n,some z=>if len*n<=2^24/\0<n/\z.length=n then match fillA (fun i=>some (i*n,n)) (repL z len) ps with
   |some cs=>some (.slice s.n 0 len len n,s.new (.cells (2*e) cs))
   |none=>none else none
  |_,_=>none
 |_=>none
def opLoad(t:TypeId)(x:AV)(s:St):Option (AV×St):=match x,aggT P t,szOf P t with
 | .ptr b off,some true,some n=>match rdCells s b off n with
   |some (cs,s)=>some (.agg cs,s)
   |none=>none
 | .ptr b off,some false,_=>match rdCells s b off 1 with
   |some ([v],s)=>some (v,s)
   |_=>none
 |_,_,_=>none
def opStore(t:TypeId)(x y:AV)(s:St):Option St:=match x,cellsA y,szOf P t with
 | .ptr b off,some cs,some n=>if cs.length=n then(if n=0 then some s else wrCells s b off cs) else none
 |_,_,_=>none
def opMakeSlice(t:TypeId)(l c:AV)(s:St):Option (AV×St):=match P.underlying t,l,c with
 |some (.slice e),.int _ (.ofNat l),.int _ (.ofNat c)=>match P.info? e,zeroC P e with
  |some i,some z=>if l<=c/\c<1000000/\i.bytes<=100000/\0<i.size/\z.length=i.size then some (.slice s.n 0 l c i.size,s.new (.cells (2*e) (repL z l))) else none
  |_,_=>none
 |_,_,_=>none
def bnds(lo hi:Option AV)(len cap:Nat):Option (Nat×Nat):=match bnd hi len with
 |some h=>match bnd lo 0 with
  |some k=>if k<=h/\h<=cap then some (k,h) else none
  |none=>none
 |none=>none
def opSlice(t:TypeId)(x:AV)(lo hi mx:Option AV):Option AV:=match mx with
 |some _=>none
 |none=>match x,P.underlying t with
  | .str l,some .string=>match bnds lo hi l.length l.length with
    |some (k,h)=>some (.str ((l.take h).drop k))
    |none=>none
  | .nils,some (.slice e)=>match bnds lo hi 0 0,szOf P e with
    |some _,some _=>some .nils
    |_,_=>none
  | .slice b off len mc es,some (.slice e)=>match bnds lo hi len mc,szOf P e with
    |some (k,h),some n=>if n=es then some (.slice b (off+k*n) (h-k) (mc-k) es) else none
    |_,_=>none
  |_,_=>none
def opSliceArr(t:TypeId)(b off:Nat)(lo hi mx:Option AV)(s:St):Option (AV×St):=match mx with
 |some _=>none
 |none=>match P.underlying t with
  |some (.array len e)=>match bnds lo hi len len,szOf P e,s.heap.get b with
   |some (k,h),some n,some (.cells _ cs)=>if off+len*n<=cs.length then some (.slice b (off+k*n) (h-k) (len-k) n,s.note (.rd b off 1)) else none
   |_,_,_=>none
  |_=>none
def opFieldAddr(t:TypeId)(x:AV)(f:Nat):Option AV:=match P.underlying t,x with
 |some (.struct fs),.ptr b off=>match fs[f]?with
  |some fd=>match szOf P fd.type with
   |some (_+1)=>some (.ptr b (off+fd.offset))
   |_=>none
  |none=>none
 |_,_=>none
def opField(t:TypeId)(x:AV)(f:Nat):Option AV:=match P.underlying t,x with
 |some (.struct fs),.agg cs=>match fs[f]?with
  |some fd=>partA P fd.type cs fd.offset
  |none=>none
 |_,_=>none
def opIndexAddr(t:TypeId)(x i:AV):Option AV:=match P.underlying t,x,i with
 |some (.array len e),.ptr b off,.int _ (.ofNat i)=>match szOf P e with
  |some n=>if i<len then some (.ptr b (off+i*n)) else none
  |none=>none
 |some (.slice e),.slice b off len _ _,.int _ (.ofNat i)=>match szOf P e with
  |some n=>if i<len then some (.ptr b (off+i*n)) else none
  |none=>none
 |_,_,_=>none
def opIndex(t:TypeId)(x i:AV):Option AV:=match P.underlying t,x,i with
 |some .string,.str l,.int _ (.ofNat i)=>match l[i]?with
  |some n=>some (.int .u8 (Int.ofNat n))
  |none=>none
 |some (.array len e),.agg cs,.int _ (.ofNat i)=>match szOf P e with
  |some n=>if i<len then partA P e cs (i*n) else none
  |none=>none
 |_,_,_=>none
def mapA(x:AV)(s:St):Option (List ME×St):=match x with
 | .nilm=>some ([],s)
 | .map b=>match s.heap.get b with
   |some (.map es _)=>some (es,s.note (.rd b 0 1))
   |_=>none
 |_=>none
def pmapOf(x:AV)(s:St):Option (Nat×List ME):=match x with
 | .map b=>match s.heap.get b with
   |some (.pmap es)=>some (b,es)
   |_=>none
 |_=>none
def lookP(k:AV)(es:List ME):Option (Option AV):=if es.all (fun e=>(keyEq k e.k).isSome) then match es.filter (fun e=>keyEq k e.k==some true) with
    |[]=>some none
    |[e]=>some (some e.v)
    |_=>none else none
def opLookupP(t:TypeId)(b:Nat)(es:List ME)(i:AV)(ok:Bool)(s:St):Option (AV×St):=match P.underlying t with
 |some (.map k e)=>match P.underlying k with
  |some d=>if keyOk P k d i then match lookP i es with
   |some (some v)=>some (if ok then .tuple [v,.bool true] else v,s.note (.rd b 0 1))
   |some none=>match zeroA P e with
    |some z=>some (if ok then .tuple [z,.bool false] else z,s.note (.rd b 0 1))
    |none=>none
   |none=>none else none
  |_=>none
 |_=>none
def opLookup(t:TypeId)(x i:AV)(ok:Bool)(s:St):Option (AV×St):=match P.underlying t with
 |some (.map k e)=>match P.underlying k,mapA x s with
  |some d,some (es,s)=>if keyOk P k d i then match findK i es 0 with
   |some (some (_,v))=>some (if ok then .tuple [v,.bool true] else v,s)
   |some none=>match zeroA P e with
    |some z=>some (if ok then .tuple [z,.bool false] else z,s)
    |none=>none
   |none=>none else none
  |_,_=>none
 |_=>none
def opUpdate(t:TypeId)(m k x:AV)(s:St):Option St:=match P.underlying t,m with
 |some (.map kt _),.map b=>match P.underlying kt,s.heap.get b with
  |some d,some (.map es clock)=>if keyOk P kt d k then match findK k es 0 with
   |some (some (i,_))=>some ((s.put b (.map (es.modify i fun e=>{e with v:=x}) clock)).note (.all b))
   |some none=>some ((s.put b (.map (es++[⟨k,x,clock⟩]) (clock+1))).note (.all b))
   |none=>none else none
  |_,_=>none
 |_,_=>none
def opRange(t:TypeId)(x:AV)(s:St):Option (AV×St):=match P.underlying t,x with
 |some .string,.str l=>some (.ptr s.n 0,s.new (.siter l 0))
 |some (.map _ _),.nilm=>some (.ptr s.n 0,s.new (.miter none 0 [] 0))
 |some (.map _ _),.map m=>match s.heap.get m with
  |some (.map _ clock)=>some (.ptr s.n 0,(s.note (.rd m 0 1)).new (.miter (some m) clock [] clock))
  |_=>none
 |_,_=>none
def opNext(it:AV)(s:St):Option (AV×St):=match it with
 | .ptr b 0=>match s.heap.get b with
   |some (.miter none _ _ _)=>some (.tuple [.bool false],s.note (.all b))
   |some (.miter (some m) since seen last)=>match s.heap.get m with
    |some (.map es clock)=>
     if seen.isEmpty||es.isEmpty||es.any (fun e=>decide (e.born<last)) then
     match es.filter (fun e=> !seen.contains e.born) with
     |[]=>some (.tuple [.bool false],(s.note (.all b)).note (.rd m 0 1))
     |[e]=>if e.born<since then some (.tuple [.bool true,e.k,e.v],((s.put b (.miter (some m) since (seen++[e.born]) clock)).note (.all b)).note (.rd m 0 1)) else none
     |_=>none
     else none
    |_=>none
   |_=>none
 |_=>none
def opNextS(it:AV)(s:St):Option (AV×St):=match it with
 | .ptr b 0=>match s.heap.get b with
   |some (.siter l pos)=>match l[pos]?with
    |none=>some (.tuple [.bool false],s.note (.all b))
    |some c=>if c<128 then some (.tuple [.bool true,.int .i64 (Int.ofNat pos),.int .i32 (Int.ofNat c)],(s.put b (.siter l (pos+1))).note (.all b)) else none
   |_=>none
 |_=>none
def opEntry(it:AV)(s:St):Option (AV×St):=match it with
 | .ptr b 0=>match s.heap.get b with
   |some (.miter (some m) _ seen last)=>match s.heap.get m,seen.getLast? with
    |some (.map es clock),some stamp=>if clock=last then match es.find? (fun e=>e.born==stamp) with
     |some e=>some (.tuple [e.k,e.v],(s.note (.rd b 0 1)).note (.rd m 0 1))
     |none=>none
     else none
    |_,_=>none
   |_=>none
 |_=>none
def val(s:St):Option AV->Option (AV×St)
 |some v=>some (v,s)
 |none=>none
def aop(a:AAct)(o:Op)(s:St):Option (AV×St):=
 match o with
 | .move x| .assign x=>some (aeval a x,s)
 | .pick c x y=>match aeval a c with
   | .bool b=>some (if b then aeval a x else aeval a y,s)
   |_=>none
 | .alloc t=>match zeroC P t with
   |some z=>some (.ptr s.n 0,s.new (.cells (2*t+1) z))
   |none=>none
 | .box t x=>match cellsA (aeval a x) with
   |some c=>some (.ptr s.n 0,s.new (.cells (2*t+1) c))
   |none=>none
 | .build t ps=>val s (opBuild P t (parts a ps))
 | .buildSlice t len ps=>opBuildSlice P t len (parts a ps) s
 | .load t x=>opLoad P t (aeval a x) s
 | .store t x y=>unit (opStore P t (aeval a x) (aeval a y) s)
 | .nilCheck x=>match aeval a x with
   | .ptr b off=>some (.ptr b off,s)
   | .func f k l=>some (.func f k l,s)
   | .iface t v=>some (.iface t v,s)
   |_=>none
 | .binOp op t x y _=>val s (bop P t op (P.underlying t) (isConst x||isConst y) (aeval a x) (aeval a y))
 | .unOp op _ x=>val s (uop op (aeval a x))
 | .convert src dst x=>if(P.underlying src).isSome then conv P src dst (aeval a x) s else none
 | .makeInterface t x=>match P.underlying t with
   |some (.interface _)=>none
   |some _=>some (.iface t (aeval a x),s)
   |none=>none
 | .makeFunc (.func f) first captured=>some (.func f (first.toList.map (aeval a)) (captured.toList.map (aeval a)),s)
 | .makeMap _ none=>some (.map s.n,s.new (.map [] 0))
 | .makeSlice t l c=>opMakeSlice P t (aeval a l) (aeval a c) s
 | .slice t x lo hi mx=>match aeval a x with
   | .ptr b off=>opSliceArr P t b off (lo.map (aeval a)) (hi.map (aeval a)) (mx.map (aeval a)) s
   |v=>val s (opSlice P t v (lo.map (aeval a)) (hi.map (aeval a)) (mx.map (aeval a)))
 | .fieldAddr t x f=>val s (opFieldAddr P t (aeval a x) f)
 | .field t x f=>val s (opField P t (aeval a x) f)
 | .indexAddr t x i=>val s (opIndexAddr P t (aeval a x) (aeval a i))
 | .index t x i=>val s (opIndex P t (aeval a x) (aeval a i))
 | .lookup t x i ok=>match pmapOf (aeval a x) s with
   |some (b,es)=>opLookupP P t b es (aeval a i) ok s
   |none=>opLookup P t (aeval a x) (aeval a i) ok s
 | .mapUpdate t m k x| .insert t m k x=>unit (opUpdate P t (aeval a m) (aeval a k) (aeval a x) s)
 | .range t x=>opRange P t (aeval a x) s
 | .next it false=>opNext (aeval a it) s
 | .next it true=>opNextS (aeval a it) s
 | .entry it=>opEntry (aeval a it) s
 | .extract t i=>match aeval a t with
   | .tuple vs=>val s vs[i]?
   |_=>none
 | .call {callee:= .builtin b,args,argTypes}=>aBuiltin P b argTypes (args.toList.map (aeval a)) s
 |_=>none
end
inductive Res where
 |ret (v:AV)
 |pan (v:AV)
inductive AExit where
 |normal
 |exit (id:Nat)
 |goto (l:Nat)
 |ret
 |panic (v:AV)
abbrev Callee:=FuncId->List AV->St->Option (Res×St)
abbrev Yielder:=Nat->List AV->St->Option (Res×St)
section
variable (P:Program) (C:Callee) (Y:Yielder) (R:Bool)
def wantedA(ops:List Oper)(o:Oper)(a:AAct):Option Bool:=match o.guard with
 |none=>some true
 |some (j,b)=>match(ops[j]?).bind (·.dst) with
  |none=>some false
  |some d=>match a.get d with
   | .bool c=>some (c==b)
   | .top=>none
   |_=>some false
inductive OR where
 |ok (a:AAct) (s:St)
 |pan (a:AAct) (v:AV) (s:St)
 |no
def resOf(a:AAct)(dst:Option Tmp):Option (Res×St)->OR
 |some (.ret v,s)=> .ok (a.put dst v) s
 |some (.pan v,s)=> .pan a v s
 |none=> .no
def oneVal(a:AAct)(o:Oper)(s:St):Option (Res×St):=
 match o.op with
 | .call {callee:= .value g,args,..}=>match aeval a g with
   | .func f first cap=>C f (first++args.toList.map (aeval a)++cap) s
   | .yield b=>Y b (args.toList.map (aeval a)) s
   |_=>none
 | .panic x=>match aeval a x with
   | .iface t v=>some (.pan (.iface t v),s)
   |_=>none
 | .defer _=>none
 |op=>match aop P a op s with
  |some (v,s)=>some (.ret v,s)
  |none=>none
def oneOp(a:AAct)(o:Oper)(s:St):OR:=
 match o.op with
 | .defer {callee:= .value g,args,..}=>match aeval a g with
   | .func f first cap=>if R then .no else .ok ({a with defs:= .fn f (first++args.toList.map (aeval a)++cap)::a.defs}.put o.dst undefA) s
   |_=> .no
 |_=>resOf a o.dst (oneVal P C Y a o s)
def runOps(ops:List Oper):List Oper->AAct->St->OR
 |[],a,s=> .ok a s
 |o::rest,a,s=>match wantedA ops o a with
  |some true=>match oneOp P C Y R a o s with
   | .ok a s=>runOps ops rest a s
   |r=>r
  |some false=>runOps ops rest (a.put o.dst undefA) s
  |none=> .no
def LE.hits:LE->LE->Bool
 | .rd _ _ _,.rd _ _ _=>false
 | .rd b i n,.wr c j m=>b==c&&decide (i<j+m)&&decide (j<i+n)
 | .wr b i n,.rd c j m=>b==c&&decide (i<j+m)&&decide (j<i+n)
 | .wr b i n,.wr c j m=>b==c&&decide (i<j+m)&&decide (j<i+n)
 |e,f=>e.blk==f.blk
structure Rec where
 log:List LE
 lo:Nat
 hi:Nat
def LE.made(r:Rec)(e:LE):Bool:=decide (r.lo<=e.blk)&&decide (e.blk<r.hi)
def LE.writes:LE->Bool
 | .rd _ _ _=>false
 |_=>true
def Rec.clash(x y:Rec):Bool:=x.log.any (fun e=>y.log.any (fun f=>e.hits f))||y.log.any (·.made x)||(x.log.any (·.writes)&&y.log.any (·.writes))
def waitsA(ops:List Oper):List Nat:=
 ops.foldl (init:=[]) fun acc o=>acc++[o.after.toList.foldl (fun s e=>if Region.binds .any e then s|||2^e.on|||acc.getD e.on 0 else s) 0]
def opTmps(ops:List Oper)(o:Oper):List Tmp:=(o.op.operands.toList.filterMap fun| .tmp t=>some t|_=>none)++(match o.guard with|some (j,_)=>((ops[j]?).bind (·.dst)).toList|none=>[])
def wfOps(ops:List Oper)(sz:Nat)(ws:List Nat):Bool:=
 ops.zipIdx.all fun(o,k)=>decide (ws.getD k 0<2^k)&&(opTmps ops o).all (fun t=>ops.zipIdx.all fun(p,j)=>p.dst !=some t||(ws.getD k 0).testBit j||(ws.getD j 0).testBit k)&&
  (match o.dst with|none=>true|some d=>decide (d<sz)&&ops.zipIdx.all fun(p,j)=>j==k||p.dst !=some d)
def clashes(w:Nat)(r:Rec):List Rec->Nat->Bool
 |[],_=>false
 |x::l,j=>(!w.testBit j&&x.clash r)||clashes w r l (j+1)
def drawOps(ops:List Oper):List Oper->List Nat->List Rec->AAct->St->OR
 |[],_,_,a,s=> .ok a s
 |o::rest,w::ws,rs,a,s=>match wantedA ops o a with
  |some true=>match oneVal P C Y a o {s with log:=[]} with
   |some (.ret v,s')=>if clashes w ⟨s'.log,s.n,s'.n⟩ rs 0 then .no else drawOps ops rest ws (rs++[⟨s'.log,s.n,s'.n⟩]) (a.put o.dst v) {s' with log:=s'.log++s.log}
   |_=> .no
  |some false=>drawOps ops rest ws (rs++[⟨[],s.n,s.n⟩]) (a.put o.dst undefA) s
  |none=> .no
 |_,_,_,_,_=> .no
def regOps(ops:List Oper)(draw:Bool)(a:AAct)(s:St):OR:=
 if draw then(if wfOps ops a.sz (waitsA ops) then drawOps P C Y ops ops (waitsA ops) [] a s else .no) else runOps P C Y R ops ops a s
def orExit:OR->Option (AExit×AAct×St)
 | .ok a s=>some (.normal,a,s)
 | .pan a v s=>some (.panic v,a,s)
 | .no=>none
mutual
def ev:Nat->Bool->Code->AAct->St->Option (AExit×AAct×St)
 |0,_,_,_,_=>none
 |f+1,R,c,a,s=>match c with
  | .skip| .label _=>some (.normal,a,s)
  | .region _ ops draw=>orExit (regOps P C (fun _ _ _=>none) R ops.toList draw a s)
  | .seq x y=>match ev f R x a s with
    |some (.normal,a,s)=>ev f R y a s
    |r=>r
  | .cond c x y=>match aeval a c with
    | .bool true=>ev f R x a s
    | .bool false=>ev f R y a s
    |_=>none
  | .block id c=>match ev f R c a s with
    |some (.exit j,a,s)=>some (if j=id then .normal else .exit j,a,s)
    |r=>r
  | .loop c=>match ev f R c a s with
    |some (.normal,a,s)=>ev f R (.loop c) a s
    |r=>r
  | .exit id=>some (.exit id,a,s)
  | .goto l=>some (.goto l,a,s)
  | .ret=>some (.ret,a,s)
  | .scope c=>match ev f R c a s with
    |some (.goto l,a,s)=>jump f R c l a s
    |r=>r
  |_=>none
def jump:Nat->Bool->Code->Nat->AAct->St->Option (AExit×AAct×St)
 |0,_,_,_,_,_=>none
 |f+1,R,c,l,a,s=>match findLabel c l with
  |some rest=>match ev f R rest a s with
   |some (.goto l,a,s)=>jump f R c l a s
   |r=>r
  |none=>none
end
end
abbrev DCallee:=FuncId->List AV->Option AV->St->Option (Option AV×St)
section
variable (P:Program)
def resA(a:AAct):List ResultVar->St->Option (List AV×St)
 |[],s=>some ([],s)
 | .tmp t::l,s=>match resA a l s with
   |some (vs,s)=>some (a.get t::vs,s)
   |none=>none
 | .cell x t::l,s=>match opLoad P t (a.get x) s with
   |some (v,s)=>match resA a l s with
    |some (vs,s)=>some (v::vs,s)
    |none=>none
   |none=>none
def tupA:List AV->AV
 |[v]=>v
 |vs=> .tuple vs
def initT:List AV->Nat->AAct->AAct
 |[],_,a=>a
 |v::l,i,a=>initT l (i+1) (a.putT i v)
def keepL(n:Nat)(old:List LE):List LE->List LE
 |[]=>old
 |e::l=>if e.blk<n then e::keepL n old l else keepL n old l
def runDefs(D:DCallee):List DE->Option AV->St->Option (Option AV×St)
 |[],p,s=>some (p,s)
 | .mark b::l,p,s=>match s.heap.get b with
   |some .defd=>runDefs D l p ((s.put b .dead).note (.all b))
   |_=>none
 | .fn f args::l,p,s=>match D f args p s with
   |some (p,s)=>runDefs D l p s
   |none=>none
def endOf:AExit->Option (Option AV)
 | .normal| .ret=>some none
 | .panic v=>some (some v)
 |_=>none
def body(C:Callee)(D:DCallee)(fuel:Nat)(f:FuncId)(args:List AV)(s:St):Option (Res×St):=
 match P.funcs[f]?with
 |some fn=>match fn.body with
  |some c=>if args.length<=fn.ntmps then match ev P C fuel false c (initT args 0 ⟨fn.ntmps,.leaf,[]⟩) {s with log:=[]} with
   |some (e,a,s1)=>match endOf e with
    |some p=>match runDefs D a.defs p s1 with
     |some (none,s2)=>match resA P a fn.results.toList s2 with
      |some (vs,s3)=>some (.ret (tupA vs),{s3 with log:=keepL s.n s.log s3.log})
      |none=>none
     |some (some v,s2)=>some (.pan v,{s2 with log:=keepL s.n s.log s2.log})
     |none=>none
    |none=>none
   |none=>none else none
  |none=>none
 |none=>none
abbrev Told:=FuncId->Option (List AV->St->Option (AV×St))
def call(O:Told)(D:DCallee)(fuel:Nat):Nat->Callee
 |0,_,_,_=>none
 |d+1,f,args,s=>match O f with
  |some g=>match g args s with
   |some (v,s)=>some (.ret v,s)
   |none=>body P (call O D fuel d) D fuel f args s
  |none=>body P (call O D fuel d) D fuel f args s
end
end Go.Proofs.YtnocnbklhikmnaaGreatDoor.Rk
