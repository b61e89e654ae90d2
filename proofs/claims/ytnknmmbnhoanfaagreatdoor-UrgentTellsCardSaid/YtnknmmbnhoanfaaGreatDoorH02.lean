/- Texts joined. -/
import Derived.Shelf.Strings.Builder1
import Derived.Shelf.Strings.Builder2
import Derived.Shelf.Strings.OnBuilder
import Derived.Shelf.Strings.Trim
import Derived.Shelf.Small.Utf8
import Derived.Shelf.Small.Strs
import Derived.Shelf.Small.Wraps
import Derived.Shelf.Strings.BuilderF
import Derived.Shelf.Strings.BuilderK
import Derived.Shelf.Strconv.Atoi
import Derived.Shelf.Strconv.Itoa0
import Derived.Shelf.Strconv.Itoa1
import Derived.Shelf.LaysM
import Derived.Shelf.Strconv.Itoa2
import Derived.Shelf.Strconv.Itoa3
import Derived.Shelf.Strings.Search1
import Derived.Shelf.Strings.Search2
import Derived.Shelf.Strings.Search3
import Derived.Shelf.Strings.Cut
import Derived.Shelf.Strings.Count
import Derived.Shelf.Strings.Shaped
import Derived.Shelf.Strings.Prefix
import Derived.Shelf.Strings.Split
import Derived.Shelf.Strings.Replace
import Derived.Shelf.Strings.Runes
import Derived.Shelf.Strings.AsciiSet
import Derived.Shelf.Unicode.DecodeSlow
import Derived.Shelf.Strings.SlTrimAscii
import Derived.Test.YtnknmmbnhoanfaaGreatDoorProg
import Derived.Test.YtnknmmbnhoanfaaGreatDoorH01
import Derived.MapKept
set_option linter.unusedSimpArgs false
set_option linter.unusedVariables false
set_option maxHeartbeats 16000000
set_option maxRecDepth 100000
namespace Go.Proofs
open Go.Shelf
def Tryz.lays169_ren:Go.Shelf.Ren:=⟨fun | 169=>69 | n=>n,fun | 70=>72 | 9=>9 | 0=>0 | 72=>74 | 37=>62 | 127=>145 | 3=>3 | 5=>5 | n=>n,fun | n=>n⟩
theorem Tryz.lays169:Go.Proofs.Lays.n169 Tryz.prog Tryz.lays169_ren:={
 mixed:=by kernel_rfl
 f169:=Tryz.func69.trans (congrArg some (by kernel_rfl))
 t0:=Tryz.underlying0
 a0:=Tryz.isAgg0
 z0:=Tryz.sizeOf0
 v0:=Tryz.zeroValue0
 t3:=Tryz.underlying3
 a3:=Tryz.isAgg3
 z3:=Tryz.sizeOf3
 v3:=Tryz.zeroValue3
 t9:=Tryz.underlying9
 a9:=Tryz.isAgg9
 z9:=Tryz.sizeOf9
 v9:=Tryz.zeroValue9
 t37:=Tryz.underlying62
 a37:=Tryz.isAgg62
 z37:=Tryz.sizeOf62
 v37:=Tryz.zeroValue62
 t70:=Tryz.underlying72
 a70:=Tryz.isAgg72
 z70:=Tryz.sizeOf72
 v70:=Tryz.zeroValue72
 t72:=Tryz.underlying74
 a72:=Tryz.isAgg74
 z72:=Tryz.sizeOf74
 v72:=Tryz.zeroValue74
 t127:=Tryz.underlying145
 a127:=Tryz.isAgg145
 z127:=Tryz.sizeOf145
 v127:=Tryz.zeroValue145 }
theorem Tryz.Builder_Extra_169:Builder.Extra Tryz.prog Tryz.lays169_ren:={
 sizeBuilder:=by kernel_rfl
 liesBuilder:=by kernel_rfl
 t5:=Tryz.underlying5
 a5:=Tryz.isAgg5
 z5:=Tryz.sizeOf5
 v5:=Tryz.zeroValue5
 infoByte:=by kernel_rfl
 cellsByte:=by kernel_rfl
 sizeByte:=by kernel_rfl
 neB5:=by decide }
def Tryz.lays156_ren:Go.Shelf.Ren:=⟨fun | 156=>82 | 165=>139 | 166=>140 | 169=>69 | 240=>126 | 241=>173 | 276=>165 | 277=>194 | n=>n,fun | 31=>101 | 9=>9 | 3=>3 | 4=>4 | 0=>0 | 20=>20 | 72=>74 | 76=>131 | 70=>72 | 37=>62 | 75=>79 | 127=>145 | 164=>170 | 5=>5 | 80=>81 | n=>n,fun | n=>n⟩
theorem Tryz.lays156:Go.Proofs.Lays.n156 Tryz.prog Tryz.lays156_ren:={
 mixed:=by kernel_rfl
 f156:=Tryz.func82.trans (congrArg some (by kernel_rfl))
 f165:=Tryz.func139.trans (congrArg some (by kernel_rfl))
 f166:=Tryz.func140.trans (congrArg some (by kernel_rfl))
 f169:=Tryz.func69.trans (congrArg some (by kernel_rfl))
 f240:=Tryz.func126.trans (congrArg some (by kernel_rfl))
 f241:=Tryz.func173.trans (congrArg some (by kernel_rfl))
 f276:=Tryz.func165.trans (congrArg some (by kernel_rfl))
 f277:=Tryz.func194.trans (congrArg some (by kernel_rfl))
 t0:=Tryz.underlying0
 a0:=Tryz.isAgg0
 z0:=Tryz.sizeOf0
 v0:=Tryz.zeroValue0
 t3:=Tryz.underlying3
 a3:=Tryz.isAgg3
 z3:=Tryz.sizeOf3
 v3:=Tryz.zeroValue3
 t4:=Tryz.underlying4
 a4:=Tryz.isAgg4
 z4:=Tryz.sizeOf4
 v4:=Tryz.zeroValue4
 t9:=Tryz.underlying9
 a9:=Tryz.isAgg9
 z9:=Tryz.sizeOf9
 v9:=Tryz.zeroValue9
 t20:=Tryz.underlying20
 a20:=Tryz.isAgg20
 z20:=Tryz.sizeOf20
 v20:=Tryz.zeroValue20
 t31:=Tryz.underlying101
 a31:=Tryz.isAgg101
 z31:=Tryz.sizeOf101
 v31:=Tryz.zeroValue101
 t37:=Tryz.underlying62
 a37:=Tryz.isAgg62
 z37:=Tryz.sizeOf62
 v37:=Tryz.zeroValue62
 t70:=Tryz.underlying72
 a70:=Tryz.isAgg72
 z70:=Tryz.sizeOf72
 v70:=Tryz.zeroValue72
 t72:=Tryz.underlying74
 a72:=Tryz.isAgg74
 z72:=Tryz.sizeOf74
 v72:=Tryz.zeroValue74
 t75:=Tryz.underlying79
 a75:=Tryz.isAgg79
 z75:=Tryz.sizeOf79
 v75:=Tryz.zeroValue79
 t76:=Tryz.underlying131
 a76:=Tryz.isAgg131
 z76:=Tryz.sizeOf131
 v76:=Tryz.zeroValue131
 t127:=Tryz.underlying145
 a127:=Tryz.isAgg145
 z127:=Tryz.sizeOf145
 v127:=Tryz.zeroValue145
 t164:=Tryz.underlying170
 a164:=Tryz.isAgg170
 z164:=Tryz.sizeOf170
 v164:=Tryz.zeroValue170 }
theorem Tryz.Builder_Extra_156:Builder.Extra Tryz.prog Tryz.lays156_ren:={
 sizeBuilder:=by kernel_rfl
 liesBuilder:=by kernel_rfl
 t5:=Tryz.underlying5
 a5:=Tryz.isAgg5
 z5:=Tryz.sizeOf5
 v5:=Tryz.zeroValue5
 infoByte:=by kernel_rfl
 cellsByte:=by kernel_rfl
 sizeByte:=by kernel_rfl
 neB5:=by decide }
open Go.RowKit in
theorem Tryz.strings_Join_none (a:Option Addr) (c:Nat) (sep:ByteArray) (w:World) :
  Calls Tryz.prog 82 #[.slice a 0 c,.string sep] w fun e w'=>e = .returned (.string ⟨#[]⟩)∧w'=w:=Any.strings_Join_none Tryz.lays156 Tryz.Builder_Extra_156 a c sep w
open Go.RowKit in
theorem Tryz.strings_Join (bk o c:Nat) (xs:List ByteArray) (sep:ByteArray) (w:World) (hcells:∀ (j:Nat) x,xs[j]? = some x→w.cell? ⟨bk,o + j,none⟩=some (.string x)) (hbk:bk < w.heap.size) (hN:xs.length ≤ 140737488355328) (hcap:xs.length ≤ c) (hlen:(Lib.join (xs.map (·.data.toList)) sep.data.toList).length ≤ 140737488355328) :
  Calls Tryz.prog 82 #[.slice (some ⟨bk,o,none⟩) xs.length c,.string sep] w fun e w'=>e = .returned (.string ⟨(Lib.join (xs.map (·.data.toList)) sep.data.toList).toArray⟩)∧Below w.heap.size w w':=Any.strings_Join Tryz.lays156 Tryz.Builder_Extra_156 bk o c xs sep w hcells hbk hN hcap hlen
def Tryz.lays161_ren:Go.Shelf.Ren:=⟨fun | 161=>170 | 231=>127 | 227=>115 | 233=>128 | 235=>129 | 228=>161 | 197=>157 | 151=>163 | 260=>182 | 152=>189 | 137=>63 | 119=>206 | 224=>201 | 225=>200 | 217=>118 | 266=>164 | n=>n,fun | 9=>9 | 4=>4 | 3=>3 | 5=>5 | 117=>139 | 116=>138 | 0=>0 | 124=>142 | 105=>166 | 21=>21 | 119=>198 | 46=>68 | 139=>201 | 138=>200 | n=>n,fun | 3=>2 | 4=>3 | n=>n⟩
theorem Tryz.lays161:Go.Proofs.Lays.n161 Tryz.prog Tryz.lays161_ren:={
 mixed:=by kernel_rfl
 f119:=Tryz.func206.trans (congrArg some (by kernel_rfl))
 f137:=Tryz.func63.trans (congrArg some (by kernel_rfl))
 f151:=Tryz.func163.trans (congrArg some (by kernel_rfl))
 f152:=Tryz.func189.trans (congrArg some (by kernel_rfl))
 f161:=Tryz.func170.trans (congrArg some (by kernel_rfl))
 f197:=Tryz.func157.trans (congrArg some (by kernel_rfl))
 f217:=Tryz.func118.trans (congrArg some (by kernel_rfl))
 f224:=Tryz.func201.trans (congrArg some (by kernel_rfl))
 f225:=Tryz.func200.trans (congrArg some (by kernel_rfl))
 f227:=Tryz.func115.trans (congrArg some (by kernel_rfl))
 f228:=Tryz.func161.trans (congrArg some (by kernel_rfl))
 f231:=Tryz.func127.trans (congrArg some (by kernel_rfl))
 f233:=Tryz.func128.trans (congrArg some (by kernel_rfl))
 f235:=Tryz.func129.trans (congrArg some (by kernel_rfl))
 f260:=Tryz.func182.trans (congrArg some (by kernel_rfl))
 f266:=Tryz.func164.trans (congrArg some (by kernel_rfl))
 t0:=Tryz.underlying0
 a0:=Tryz.isAgg0
 z0:=Tryz.sizeOf0
 v0:=Tryz.zeroValue0
 t3:=Tryz.underlying3
 a3:=Tryz.isAgg3
 z3:=Tryz.sizeOf3
 v3:=Tryz.zeroValue3
 t4:=Tryz.underlying4
 a4:=Tryz.isAgg4
 z4:=Tryz.sizeOf4
 v4:=Tryz.zeroValue4
 t5:=Tryz.underlying5
 a5:=Tryz.isAgg5
 z5:=Tryz.sizeOf5
 v5:=Tryz.zeroValue5
 t9:=Tryz.underlying9
 a9:=Tryz.isAgg9
 z9:=Tryz.sizeOf9
 v9:=Tryz.zeroValue9
 t21:=Tryz.underlying21
 a21:=Tryz.isAgg21
 z21:=Tryz.sizeOf21
 v21:=Tryz.zeroValue21
 t46:=Tryz.underlying68
 a46:=Tryz.isAgg68
 z46:=Tryz.sizeOf68
 v46:=Tryz.zeroValue68
 t105:=Tryz.underlying166
 a105:=Tryz.isAgg166
 z105:=Tryz.sizeOf166
 v105:=Tryz.zeroValue166
 t116:=Tryz.underlying138
 a116:=Tryz.isAgg138
 z116:=Tryz.sizeOf138
 t117:=Tryz.underlying139
 a117:=Tryz.isAgg139
 z117:=Tryz.sizeOf139
 v117:=Tryz.zeroValue139
 t119:=Tryz.underlying198
 a119:=Tryz.isAgg198
 z119:=Tryz.sizeOf198
 t124:=Tryz.underlying142
 a124:=Tryz.isAgg142
 z124:=Tryz.sizeOf142
 v124:=Tryz.zeroValue142
 t138:=Tryz.underlying200
 a138:=Tryz.isAgg200
 z138:=Tryz.sizeOf200
 v138:=Tryz.zeroValue200
 t139:=Tryz.underlying201
 a139:=Tryz.isAgg201
 z139:=Tryz.sizeOf201
 v139:=Tryz.zeroValue201
 g3:=by kernel_rfl
 g4:=by kernel_rfl }
def Tryz.lays162_ren:Go.Shelf.Ren:=⟨fun | 162=>62 | 232=>114 | 227=>115 | 234=>116 | 236=>117 | 228=>161 | 271=>162 | 151=>163 | 120=>188 | 197=>157 | 152=>189 | 260=>182 | 137=>63 | 119=>206 | 224=>201 | 225=>200 | 217=>118 | 266=>164 | n=>n,fun | 9=>9 | 4=>4 | 3=>3 | 5=>5 | 117=>139 | 116=>138 | 0=>0 | 124=>142 | 21=>21 | 105=>166 | 46=>68 | 119=>198 | 139=>201 | 138=>200 | n=>n,fun | 3=>2 | 4=>3 | n=>n⟩
theorem Tryz.lays162:Go.Proofs.Lays.n162 Tryz.prog Tryz.lays162_ren:={
 mixed:=by kernel_rfl
 f119:=Tryz.func206.trans (congrArg some (by kernel_rfl))
 f120:=Tryz.func188.trans (congrArg some (by kernel_rfl))
 f137:=Tryz.func63.trans (congrArg some (by kernel_rfl))
 f151:=Tryz.func163.trans (congrArg some (by kernel_rfl))
 f152:=Tryz.func189.trans (congrArg some (by kernel_rfl))
 f162:=Tryz.func62.trans (congrArg some (by kernel_rfl))
 f197:=Tryz.func157.trans (congrArg some (by kernel_rfl))
 f217:=Tryz.func118.trans (congrArg some (by kernel_rfl))
 f224:=Tryz.func201.trans (congrArg some (by kernel_rfl))
 f225:=Tryz.func200.trans (congrArg some (by kernel_rfl))
 f227:=Tryz.func115.trans (congrArg some (by kernel_rfl))
 f228:=Tryz.func161.trans (congrArg some (by kernel_rfl))
 f232:=Tryz.func114.trans (congrArg some (by kernel_rfl))
 f234:=Tryz.func116.trans (congrArg some (by kernel_rfl))
 f236:=Tryz.func117.trans (congrArg some (by kernel_rfl))
 f260:=Tryz.func182.trans (congrArg some (by kernel_rfl))
 f266:=Tryz.func164.trans (congrArg some (by kernel_rfl))
 f271:=Tryz.func162.trans (congrArg some (by kernel_rfl))
 t0:=Tryz.underlying0
 a0:=Tryz.isAgg0
 z0:=Tryz.sizeOf0
 v0:=Tryz.zeroValue0
 t3:=Tryz.underlying3
 a3:=Tryz.isAgg3
 z3:=Tryz.sizeOf3
 v3:=Tryz.zeroValue3
 t4:=Tryz.underlying4
 a4:=Tryz.isAgg4
 z4:=Tryz.sizeOf4
 v4:=Tryz.zeroValue4
 t5:=Tryz.underlying5
 a5:=Tryz.isAgg5
 z5:=Tryz.sizeOf5
 v5:=Tryz.zeroValue5
 t9:=Tryz.underlying9
 a9:=Tryz.isAgg9
 z9:=Tryz.sizeOf9
 v9:=Tryz.zeroValue9
 t21:=Tryz.underlying21
 a21:=Tryz.isAgg21
 z21:=Tryz.sizeOf21
 v21:=Tryz.zeroValue21
 t46:=Tryz.underlying68
 a46:=Tryz.isAgg68
 z46:=Tryz.sizeOf68
 v46:=Tryz.zeroValue68
 t105:=Tryz.underlying166
 a105:=Tryz.isAgg166
 z105:=Tryz.sizeOf166
 v105:=Tryz.zeroValue166
 t116:=Tryz.underlying138
 a116:=Tryz.isAgg138
 z116:=Tryz.sizeOf138
 t117:=Tryz.underlying139
 a117:=Tryz.isAgg139
 z117:=Tryz.sizeOf139
 v117:=Tryz.zeroValue139
 t119:=Tryz.underlying198
 a119:=Tryz.isAgg198
 z119:=Tryz.sizeOf198
 t124:=Tryz.underlying142
 a124:=Tryz.isAgg142
 z124:=Tryz.sizeOf142
 v124:=Tryz.zeroValue142
 t138:=Tryz.underlying200
 a138:=Tryz.isAgg200
 z138:=Tryz.sizeOf200
 v138:=Tryz.zeroValue200
 t139:=Tryz.underlying201
 a139:=Tryz.isAgg201
 z139:=Tryz.sizeOf201
 v139:=Tryz.zeroValue201
 g3:=by kernel_rfl
 g4:=by kernel_rfl }
open Go.RowKit in
theorem Tryz.strings_TrimRight_one (s:ByteArray) (c:UInt8) (hc:c.toNat < 128) (w:World) (hs:s.size ≤ 9223372036854775807) :
  Calls Tryz.prog 62 #[.string s,.string ⟨#[c]⟩] w fun e w'=>e = .returned (.string ⟨(Lib.trimRightB s.data.toList c).toArray⟩)∧w'=w:=Any.strings_TrimRight_one Tryz.lays162 s c hc w hs
def Tryz.lays160_ren:Go.Shelf.Ren:=⟨fun | 160=>72 | 232=>114 | 231=>127 | 227=>115 | 234=>116 | 233=>128 | 236=>117 | 235=>129 | 228=>161 | 271=>162 | 151=>163 | 197=>157 | 120=>188 | 152=>189 | 260=>182 | 137=>63 | 119=>206 | 224=>201 | 225=>200 | 217=>118 | 266=>164 | n=>n,fun | 9=>9 | 4=>4 | 3=>3 | 5=>5 | 117=>139 | 116=>138 | 0=>0 | 124=>142 | 21=>21 | 105=>166 | 46=>68 | 119=>198 | 139=>201 | 138=>200 | n=>n,fun | 3=>2 | 4=>3 | n=>n⟩
theorem Tryz.lays160:Go.Proofs.Lays.n160 Tryz.prog Tryz.lays160_ren:={
 mixed:=by kernel_rfl
 f119:=Tryz.func206.trans (congrArg some (by kernel_rfl))
 f120:=Tryz.func188.trans (congrArg some (by kernel_rfl))
 f137:=Tryz.func63.trans (congrArg some (by kernel_rfl))
 f151:=Tryz.func163.trans (congrArg some (by kernel_rfl))
 f152:=Tryz.func189.trans (congrArg some (by kernel_rfl))
 f160:=Tryz.func72.trans (congrArg some (by kernel_rfl))
 f197:=Tryz.func157.trans (congrArg some (by kernel_rfl))
 f217:=Tryz.func118.trans (congrArg some (by kernel_rfl))
 f224:=Tryz.func201.trans (congrArg some (by kernel_rfl))
 f225:=Tryz.func200.trans (congrArg some (by kernel_rfl))
 f227:=Tryz.func115.trans (congrArg some (by kernel_rfl))
 f228:=Tryz.func161.trans (congrArg some (by kernel_rfl))
 f231:=Tryz.func127.trans (congrArg some (by kernel_rfl))
 f232:=Tryz.func114.trans (congrArg some (by kernel_rfl))
 f233:=Tryz.func128.trans (congrArg some (by kernel_rfl))
 f234:=Tryz.func116.trans (congrArg some (by kernel_rfl))
 f235:=Tryz.func129.trans (congrArg some (by kernel_rfl))
 f236:=Tryz.func117.trans (congrArg some (by kernel_rfl))
 f260:=Tryz.func182.trans (congrArg some (by kernel_rfl))
 f266:=Tryz.func164.trans (congrArg some (by kernel_rfl))
 f271:=Tryz.func162.trans (congrArg some (by kernel_rfl))
 t0:=Tryz.underlying0
 a0:=Tryz.isAgg0
 z0:=Tryz.sizeOf0
 v0:=Tryz.zeroValue0
 t3:=Tryz.underlying3
 a3:=Tryz.isAgg3
 z3:=Tryz.sizeOf3
 v3:=Tryz.zeroValue3
 t4:=Tryz.underlying4
 a4:=Tryz.isAgg4
 z4:=Tryz.sizeOf4
 v4:=Tryz.zeroValue4
 t5:=Tryz.underlying5
 a5:=Tryz.isAgg5
 z5:=Tryz.sizeOf5
 v5:=Tryz.zeroValue5
 t9:=Tryz.underlying9
 a9:=Tryz.isAgg9
 z9:=Tryz.sizeOf9
 v9:=Tryz.zeroValue9
 t21:=Tryz.underlying21
 a21:=Tryz.isAgg21
 z21:=Tryz.sizeOf21
 v21:=Tryz.zeroValue21
 t46:=Tryz.underlying68
 a46:=Tryz.isAgg68
 z46:=Tryz.sizeOf68
 v46:=Tryz.zeroValue68
 t105:=Tryz.underlying166
 a105:=Tryz.isAgg166
 z105:=Tryz.sizeOf166
 v105:=Tryz.zeroValue166
 t116:=Tryz.underlying138
 a116:=Tryz.isAgg138
 z116:=Tryz.sizeOf138
 t117:=Tryz.underlying139
 a117:=Tryz.isAgg139
 z117:=Tryz.sizeOf139
 v117:=Tryz.zeroValue139
 t119:=Tryz.underlying198
 a119:=Tryz.isAgg198
 z119:=Tryz.sizeOf198
 t124:=Tryz.underlying142
 a124:=Tryz.isAgg142
 z124:=Tryz.sizeOf142
 v124:=Tryz.zeroValue142
 t138:=Tryz.underlying200
 a138:=Tryz.isAgg200
 z138:=Tryz.sizeOf200
 v138:=Tryz.zeroValue200
 t139:=Tryz.underlying201
 a139:=Tryz.isAgg201
 z139:=Tryz.sizeOf201
 v139:=Tryz.zeroValue201
 g3:=by kernel_rfl
 g4:=by kernel_rfl }
open Go.RowKit in
theorem Tryz.strings_Trim_one (s:ByteArray) (c:UInt8) (hc:c.toNat < 128) (w:World) (hs:s.size ≤ 9223372036854775807) :
  Calls Tryz.prog 72 #[.string s,.string ⟨#[c]⟩] w fun e w'=>e = .returned (.string ⟨(Lib.trimB s.data.toList c).toArray⟩)∧(w'=w ∨ w'=w.drew):=Any.strings_Trim_one Tryz.lays160 s c hc w hs
def Tryz.lays137_ren:Go.Shelf.Ren:=⟨fun | 137=>63 | 217=>118 | 266=>164 | n=>n,fun | 9=>9 | 5=>5 | 3=>3 | n=>n,fun | n=>n⟩
theorem Tryz.lays137:Go.Proofs.Lays.n137 Tryz.prog Tryz.lays137_ren:={
 mixed:=by kernel_rfl
 f137:=Tryz.func63.trans (congrArg some (by kernel_rfl))
 f217:=Tryz.func118.trans (congrArg some (by kernel_rfl))
 f266:=Tryz.func164.trans (congrArg some (by kernel_rfl))
 t3:=Tryz.underlying3
 a3:=Tryz.isAgg3
 z3:=Tryz.sizeOf3
 v3:=Tryz.zeroValue3
 t5:=Tryz.underlying5
 a5:=Tryz.isAgg5
 z5:=Tryz.sizeOf5
 v5:=Tryz.zeroValue5
 t9:=Tryz.underlying9
 a9:=Tryz.isAgg9
 z9:=Tryz.sizeOf9
 v9:=Tryz.zeroValue9 }
open Go.RowKit in
theorem Tryz.strings_IndexByte (s:ByteArray) (c:Int) (w:World) :
  Calls Tryz.prog 63 #[.string s,.int .u8 c] w fun e w'=>e = .returned (.int .i64 (Lib.indexByte s.data.toList c.toNat.toUInt8))∧w'=w:=Any.strings_IndexByte Tryz.lays137 s c w
def Tryz.lays103_ren:Go.Shelf.Ren:=⟨fun | 103=>171 | 210=>193 | 206=>207 | n=>n,fun | 9=>9 | 4=>4 | 24=>30 | 3=>3 | n=>n,fun | n=>n⟩
theorem Tryz.lays103:Go.Proofs.Lays.n103 Tryz.prog Tryz.lays103_ren:={
 mixed:=by kernel_rfl
 f103:=Tryz.func171.trans (congrArg some (by kernel_rfl))
 f206:=Tryz.func207.trans (congrArg some (by kernel_rfl))
 f210:=Tryz.func193.trans (congrArg some (by kernel_rfl))
 t3:=Tryz.underlying3
 a3:=Tryz.isAgg3
 z3:=Tryz.sizeOf3
 v3:=Tryz.zeroValue3
 t4:=Tryz.underlying4
 a4:=Tryz.isAgg4
 z4:=Tryz.sizeOf4
 v4:=Tryz.zeroValue4
 t9:=Tryz.underlying9
 a9:=Tryz.isAgg9
 z9:=Tryz.sizeOf9
 v9:=Tryz.zeroValue9
 t24:=Tryz.underlying30
 a24:=Tryz.isAgg30
 z24:=Tryz.sizeOf30
 v24:=Tryz.zeroValue30 }
open Go.RowKit in
theorem Tryz.strings_CutPrefix (s p:ByteArray) (w:World) :
  Calls Tryz.prog 171 #[.string s,.string p] w fun e w'=>e = .returned (.tuple #[.string ⟨(Lib.trimPrefix s.data.toList p.data.toList).toArray⟩,.bool (Lib.hasPrefix s.data.toList p.data.toList)])∧w'=w:=Any.strings_CutPrefix Tryz.lays103 s p w
open Go.RowKit in
theorem Tryz.Builder_String_any_k (B b:Nat) (l:List UInt8) (w:World) (h:Lib.IsBuilderF 74 5 B b (Lib.byteCells l) w) (hBw:B ≤ w.heap.size) :
  Calls Tryz.prog 69 #[.pointer (some ⟨b,0,none⟩)] w fun e w'=>e = .returned (.string ⟨l.toArray⟩)∧(Lib.IsBuilderF 74 5 B b (Lib.byteCells l) w'∧Below B w w'∧Lib.OthersKept 5 (some b) w w'):=Any.Builder_String_any_k Tryz.lays169 Tryz.Builder_Extra_169 B b l w h hBw
def Tryz.lays172_ren:Go.Shelf.Ren:=⟨fun | 172=>108 | 244=>158 | 245=>159 | 247=>183 | 279=>184 | 280=>185 | 281=>186 | 282=>187 | 287=>203 | 316=>204 | 171=>46 | 205=>205 | 321=>211 | 322=>212 | 243=>105 | 246=>154 | 283=>175 | 284=>176 | 285=>177 | 286=>178 | 129=>196 | 317=>195 | 318=>197 | 319=>198 | 320=>199 | 337=>208 | 338=>209 | n=>n,fun | 9=>9 | 3=>3 | 75=>79 | 76=>131 | 4=>4 | 5=>5 | 167=>183 | 37=>62 | 0=>0 | 85=>184 | 2=>2 | 168=>186 | 53=>178 | 175=>202 | 46=>68 | 210=>205 | 127=>145 | 145=>214 | 143=>212 | 21=>21 | 171=>177 | 173=>181 | 212=>194 | 51=>65 | 20=>20 | 213=>195 | 232=>215 | 233=>216 | 80=>81 | n=>n,fun | 15=>4 | 16=>5 | 17=>1 | 18=>6 | 19=>7 | n=>n⟩
theorem Tryz.lays172:Go.Proofs.Lays.n172 Tryz.prog Tryz.lays172_ren:={
 mixed:=by kernel_rfl
 f129:=Tryz.func196.trans (congrArg some (by kernel_rfl))
 f171:=Tryz.func46.trans (congrArg some (by kernel_rfl))
 f172:=Tryz.func108.trans (congrArg some (by kernel_rfl))
 f205:=Tryz.func205.trans (congrArg some (by kernel_rfl))
 f243:=Tryz.func105.trans (congrArg some (by kernel_rfl))
 f244:=Tryz.func158.trans (congrArg some (by kernel_rfl))
 f245:=Tryz.func159.trans (congrArg some (by kernel_rfl))
 f246:=Tryz.func154.trans (congrArg some (by kernel_rfl))
 f247:=Tryz.func183.trans (congrArg some (by kernel_rfl))
 f279:=Tryz.func184.trans (congrArg some (by kernel_rfl))
 f280:=Tryz.func185.trans (congrArg some (by kernel_rfl))
 f281:=Tryz.func186.trans (congrArg some (by kernel_rfl))
 f282:=Tryz.func187.trans (congrArg some (by kernel_rfl))
 f283:=Tryz.func175.trans (congrArg some (by kernel_rfl))
 f284:=Tryz.func176.trans (congrArg some (by kernel_rfl))
 f285:=Tryz.func177.trans (congrArg some (by kernel_rfl))
 f286:=Tryz.func178.trans (congrArg some (by kernel_rfl))
 f287:=Tryz.func203.trans (congrArg some (by kernel_rfl))
 f316:=Tryz.func204.trans (congrArg some (by kernel_rfl))
 f317:=Tryz.func195.trans (congrArg some (by kernel_rfl))
 f318:=Tryz.func197.trans (congrArg some (by kernel_rfl))
 f319:=Tryz.func198.trans (congrArg some (by kernel_rfl))
 f320:=Tryz.func199.trans (congrArg some (by kernel_rfl))
 f321:=Tryz.func211.trans (congrArg some (by kernel_rfl))
 f322:=Tryz.func212.trans (congrArg some (by kernel_rfl))
 f337:=Tryz.func208.trans (congrArg some (by kernel_rfl))
 f338:=Tryz.func209.trans (congrArg some (by kernel_rfl))
 t0:=Tryz.underlying0
 a0:=Tryz.isAgg0
 z0:=Tryz.sizeOf0
 v0:=Tryz.zeroValue0
 t2:=Tryz.underlying2
 a2:=Tryz.isAgg2
 z2:=Tryz.sizeOf2
 v2:=Tryz.zeroValue2
 t3:=Tryz.underlying3
 a3:=Tryz.isAgg3
 z3:=Tryz.sizeOf3
 v3:=Tryz.zeroValue3
 t4:=Tryz.underlying4
 a4:=Tryz.isAgg4
 z4:=Tryz.sizeOf4
 v4:=Tryz.zeroValue4
 t5:=Tryz.underlying5
 a5:=Tryz.isAgg5
 z5:=Tryz.sizeOf5
 v5:=Tryz.zeroValue5
 t9:=Tryz.underlying9
 a9:=Tryz.isAgg9
 z9:=Tryz.sizeOf9
 v9:=Tryz.zeroValue9
 t20:=Tryz.underlying20
 a20:=Tryz.isAgg20
 z20:=Tryz.sizeOf20
 v20:=Tryz.zeroValue20
 t21:=Tryz.underlying21
 a21:=Tryz.isAgg21
 z21:=Tryz.sizeOf21
 v21:=Tryz.zeroValue21
 t37:=Tryz.underlying62
 a37:=Tryz.isAgg62
 z37:=Tryz.sizeOf62
 v37:=Tryz.zeroValue62
 t46:=Tryz.underlying68
 a46:=Tryz.isAgg68
 z46:=Tryz.sizeOf68
 v46:=Tryz.zeroValue68
 t51:=Tryz.underlying65
 a51:=Tryz.isAgg65
 z51:=Tryz.sizeOf65
 v51:=Tryz.zeroValue65
 t53:=Tryz.underlying178
 a53:=Tryz.isAgg178
 z53:=Tryz.sizeOf178
 v53:=Tryz.zeroValue178
 t75:=Tryz.underlying79
 a75:=Tryz.isAgg79
 z75:=Tryz.sizeOf79
 v75:=Tryz.zeroValue79
 t76:=Tryz.underlying131
 a76:=Tryz.isAgg131
 z76:=Tryz.sizeOf131
 v76:=Tryz.zeroValue131
 t85:=Tryz.underlying184
 a85:=Tryz.isAgg184
 z85:=Tryz.sizeOf184
 v85:=Tryz.zeroValue184
 t127:=Tryz.underlying145
 a127:=Tryz.isAgg145
 z127:=Tryz.sizeOf145
 v127:=Tryz.zeroValue145
 t143:=Tryz.underlying212
 a143:=Tryz.isAgg212
 z143:=Tryz.sizeOf212
 v143:=Tryz.zeroValue212
 t145:=Tryz.underlying214
 a145:=Tryz.isAgg214
 z145:=Tryz.sizeOf214
 v145:=Tryz.zeroValue214
 t167:=Tryz.underlying183
 a167:=Tryz.isAgg183
 z167:=Tryz.sizeOf183
 v167:=Tryz.zeroValue183
 t168:=Tryz.underlying186
 a168:=Tryz.isAgg186
 z168:=Tryz.sizeOf186
 v168:=Tryz.zeroValue186
 t171:=Tryz.underlying177
 a171:=Tryz.isAgg177
 z171:=Tryz.sizeOf177
 v171:=Tryz.zeroValue177
 t173:=Tryz.underlying181
 a173:=Tryz.isAgg181
 z173:=Tryz.sizeOf181
 v173:=Tryz.zeroValue181
 t175:=Tryz.underlying202
 a175:=Tryz.isAgg202
 z175:=Tryz.sizeOf202
 v175:=Tryz.zeroValue202
 t210:=Tryz.underlying205
 a210:=Tryz.isAgg205
 z210:=Tryz.sizeOf205
 v210:=Tryz.zeroValue205
 t212:=Tryz.underlying194
 a212:=Tryz.isAgg194
 z212:=Tryz.sizeOf194
 v212:=Tryz.zeroValue194
 t213:=Tryz.underlying195
 a213:=Tryz.isAgg195
 z213:=Tryz.sizeOf195
 t232:=Tryz.underlying215
 a232:=Tryz.isAgg215
 z232:=Tryz.sizeOf215
 v232:=Tryz.zeroValue215
 t233:=Tryz.underlying216
 a233:=Tryz.isAgg216
 z233:=Tryz.sizeOf216
 v233:=Tryz.zeroValue216
 g15:=by kernel_rfl
 g16:=by kernel_rfl
 g17:=by kernel_rfl
 g18:=by kernel_rfl
 g19:=by kernel_rfl }
open Go.RowKit in
theorem Tryz.strconv_Atoi (s:ByteArray) (n:Int) (hl:s.size ≤ 18) (h:Lib.atoi s.data.toList=some n) (w:World) :
  Calls Tryz.prog 108 #[.string s] w fun e w'=>e = .returned (.tuple #[.int .i64 n,.nilIface])∧∃ t,w'=Lib.bytesWorld w 5 t:=Any.strconv_Atoi Tryz.lays172 s n hl h w
def Tryz.laysM171_ren:Go.Shelf.Ren:=⟨fun | 171=>46 | 243=>105 | 246=>154 | 283=>175 | 284=>176 | 285=>177 | 286=>178 | 129=>196 | 317=>195 | 318=>197 | 319=>198 | 320=>199 | 337=>208 | 338=>209 | n=>n,fun | 3=>3 | 9=>9 | 2=>2 | 4=>4 | 171=>177 | 0=>0 | 53=>178 | 37=>62 | 5=>5 | 173=>181 | 212=>194 | 51=>65 | 20=>20 | 213=>195 | 46=>68 | 232=>215 | 233=>216 | n=>n,fun | 17=>1 | 18=>6 | 19=>7 | n=>n⟩
theorem Tryz.laysM171:Go.Proofs.LaysM.n171 Tryz.prog Tryz.laysM171_ren:={
 mixed:=by kernel_rfl
 f129:=Tryz.func196.trans (congrArg some (by kernel_rfl))
 f171:=Tryz.func46.trans (congrArg some (by kernel_rfl))
 f243:=Tryz.func105.trans (congrArg some (by kernel_rfl))
 f246:=Tryz.func154.trans (congrArg some (by kernel_rfl))
 f283:=Tryz.func175.trans (congrArg some (by kernel_rfl))
 f284:=Tryz.func176.trans (congrArg some (by kernel_rfl))
 f285:=Tryz.func177.trans (congrArg some (by kernel_rfl))
 f286:=Tryz.func178.trans (congrArg some (by kernel_rfl))
 f317:=Tryz.func195.trans (congrArg some (by kernel_rfl))
 f318:=Tryz.func197.trans (congrArg some (by kernel_rfl))
 f319:=Tryz.func198.trans (congrArg some (by kernel_rfl))
 f320:=Tryz.func199.trans (congrArg some (by kernel_rfl))
 f337:=Tryz.func208.trans (congrArg some (by kernel_rfl))
 f338:=Tryz.func209.trans (congrArg some (by kernel_rfl))
 t0:=Tryz.underlying0
 a0:=Tryz.isAgg0
 z0:=Tryz.sizeOf0
 v0:=Tryz.zeroValue0
 t2:=Tryz.underlying2
 a2:=Tryz.isAgg2
 z2:=Tryz.sizeOf2
 v2:=Tryz.zeroValue2
 t3:=Tryz.underlying3
 a3:=Tryz.isAgg3
 z3:=Tryz.sizeOf3
 v3:=Tryz.zeroValue3
 t4:=Tryz.underlying4
 a4:=Tryz.isAgg4
 z4:=Tryz.sizeOf4
 v4:=Tryz.zeroValue4
 t5:=Tryz.underlying5
 a5:=Tryz.isAgg5
 z5:=Tryz.sizeOf5
 v5:=Tryz.zeroValue5
 t9:=Tryz.underlying9
 a9:=Tryz.isAgg9
 z9:=Tryz.sizeOf9
 v9:=Tryz.zeroValue9
 t20:=Tryz.underlying20
 a20:=Tryz.isAgg20
 z20:=Tryz.sizeOf20
 v20:=Tryz.zeroValue20
 t37:=Tryz.underlying62
 a37:=Tryz.isAgg62
 z37:=Tryz.sizeOf62
 v37:=Tryz.zeroValue62
 t46:=Tryz.underlying68
 a46:=Tryz.isAgg68
 z46:=Tryz.sizeOf68
 v46:=Tryz.zeroValue68
 t51:=Tryz.underlying65
 a51:=Tryz.isAgg65
 z51:=Tryz.sizeOf65
 v51:=Tryz.zeroValue65
 t53:=Tryz.underlying178
 a53:=Tryz.isAgg178
 z53:=Tryz.sizeOf178
 v53:=Tryz.zeroValue178
 t171:=Tryz.underlying177
 a171:=Tryz.isAgg177
 z171:=Tryz.sizeOf177
 v171:=Tryz.zeroValue177
 t173:=Tryz.underlying181
 a173:=Tryz.isAgg181
 z173:=Tryz.sizeOf181
 v173:=Tryz.zeroValue181
 t212:=Tryz.underlying194
 a212:=Tryz.isAgg194
 z212:=Tryz.sizeOf194
 v212:=Tryz.zeroValue194
 t213:=Tryz.underlying195
 a213:=Tryz.isAgg195
 z213:=Tryz.sizeOf195
 t232:=Tryz.underlying215
 a232:=Tryz.isAgg215
 z232:=Tryz.sizeOf215
 v232:=Tryz.zeroValue215
 t233:=Tryz.underlying216
 a233:=Tryz.isAgg216
 z233:=Tryz.sizeOf216
 v233:=Tryz.zeroValue216
 g17:=by kernel_rfl
 g18:=by kernel_rfl
 g19:=by kernel_rfl
 i0:=by kernel_rfl
 i2:=by kernel_rfl
 i3:=by kernel_rfl
 i4:=by kernel_rfl
 i5:=by kernel_rfl
 i9:=by kernel_rfl
 i20:=by kernel_rfl
 i37:=by kernel_rfl
 i46:=by kernel_rfl
 i51:=by kernel_rfl
 i53:=by kernel_rfl
 i171:=by kernel_rfl
 i173:=by kernel_rfl
 i212:=by kernel_rfl
 i232:=by kernel_rfl
 i233:=by kernel_rfl
 m17:=by kernel_rfl
 m18:=by kernel_rfl
 m19:=by kernel_rfl }
open Go.RowKit Go.Sort Go.Lib in
theorem Tryz.strconv_Itoa (n : Int) (h0 : -9223372036854775808 ≤ n) (h1 : n ≤ 9223372036854775807) (w : World) (htab : Lib.TabIs Tryz.prog w "internal/strconv.uint64pow10" .u64 Lib.pow10Tab) :
  Calls Tryz.prog 46 #[.int .i64 n] w fun e w'=>e = .returned (.string ⟨(Lib.itoa n).toArray⟩)∧∃ k os,w'=grow (w.drewN k) os:=Any.strconv_Itoa Tryz.laysM171 n h0 h1 w htab
def Tryz.lays145_ren:Go.Shelf.Ren:=⟨fun | 145=>111 | 220=>160 | 219=>181 | 217=>118 | 225=>200 | 224=>201 | 267=>202 | 266=>164 | 314=>210 | n=>n,fun | 9=>9 | 4=>4 | 59=>133 | 3=>3 | 5=>5 | 46=>68 | 146=>209 | 51=>65 | n=>n,fun | 1=>0 | n=>n⟩
theorem Tryz.lays145:Go.Proofs.Lays.n145 Tryz.prog Tryz.lays145_ren:={
 mixed:=by kernel_rfl
 f145:=Tryz.func111.trans (congrArg some (by kernel_rfl))
 f217:=Tryz.func118.trans (congrArg some (by kernel_rfl))
 f219:=Tryz.func181.trans (congrArg some (by kernel_rfl))
 f220:=Tryz.func160.trans (congrArg some (by kernel_rfl))
 f224:=Tryz.func201.trans (congrArg some (by kernel_rfl))
 f225:=Tryz.func200.trans (congrArg some (by kernel_rfl))
 f266:=Tryz.func164.trans (congrArg some (by kernel_rfl))
 f267:=Tryz.func202.trans (congrArg some (by kernel_rfl))
 f314:=Tryz.func210.trans (congrArg some (by kernel_rfl))
 t3:=Tryz.underlying3
 a3:=Tryz.isAgg3
 z3:=Tryz.sizeOf3
 v3:=Tryz.zeroValue3
 t4:=Tryz.underlying4
 a4:=Tryz.isAgg4
 z4:=Tryz.sizeOf4
 v4:=Tryz.zeroValue4
 t5:=Tryz.underlying5
 a5:=Tryz.isAgg5
 z5:=Tryz.sizeOf5
 v5:=Tryz.zeroValue5
 t9:=Tryz.underlying9
 a9:=Tryz.isAgg9
 z9:=Tryz.sizeOf9
 v9:=Tryz.zeroValue9
 t46:=Tryz.underlying68
 a46:=Tryz.isAgg68
 z46:=Tryz.sizeOf68
 v46:=Tryz.zeroValue68
 t51:=Tryz.underlying65
 a51:=Tryz.isAgg65
 z51:=Tryz.sizeOf65
 v51:=Tryz.zeroValue65
 t59:=Tryz.underlying133
 a59:=Tryz.isAgg133
 z59:=Tryz.sizeOf133
 v59:=Tryz.zeroValue133
 t146:=Tryz.underlying209
 a146:=Tryz.isAgg209
 z146:=Tryz.sizeOf209
 v146:=Tryz.zeroValue209
 g1:=by kernel_rfl }
open Go.RowKit Go.Lib in
theorem Tryz.strings_Cut (s sep:ByteArray) (m:Int) (w:World) (hs:s.size < 4294967281) (hm:w.cell? ⟨0,0,none⟩=some (.int .i64 m)) :
  Calls Tryz.prog 111 #[.string s,.string sep] w fun e w'=>e = .returned (.tuple #[.string ⟨(Lib.cut s.data.toList sep.data.toList).1.toArray⟩,.string ⟨(Lib.cut s.data.toList sep.data.toList).2.1.toArray⟩,.bool (Lib.cut s.data.toList sep.data.toList).2.2])∧∃ n,w'=w.drewN n:=Any.strings_Cut Tryz.lays145 s sep m w hs hm
def Tryz.lays99_ren:Go.Shelf.Ren:=⟨fun | 99=>190 | 206=>207 | n=>n,fun | 9=>9 | 4=>4 | 3=>3 | n=>n,fun | n=>n⟩
theorem Tryz.lays99:Go.Proofs.Lays.n99 Tryz.prog Tryz.lays99_ren:={
 mixed:=by kernel_rfl
 f99:=Tryz.func190.trans (congrArg some (by kernel_rfl))
 f206:=Tryz.func207.trans (congrArg some (by kernel_rfl))
 t3:=Tryz.underlying3
 a3:=Tryz.isAgg3
 z3:=Tryz.sizeOf3
 v3:=Tryz.zeroValue3
 t4:=Tryz.underlying4
 a4:=Tryz.isAgg4
 z4:=Tryz.sizeOf4
 v4:=Tryz.zeroValue4
 t9:=Tryz.underlying9
 a9:=Tryz.isAgg9
 z9:=Tryz.sizeOf9
 v9:=Tryz.zeroValue9 }
open Go.RowKit Go.Lib in
theorem Tryz.strings_HasPrefix (s p:ByteArray) (w:World) :
  Calls Tryz.prog 190 #[.string s,.string p] w fun e w'=>e = .returned (.bool (Lib.hasPrefix s.data.toList p.data.toList))∧w'=w:=Any.strings_HasPrefix Tryz.lays99 s p w
def Tryz.lays155_ren:Go.Shelf.Ren:=⟨fun | 155=>48 | 154=>106 | 138=>155 | 165=>139 | 143=>156 | 166=>140 | 197=>157 | 169=>69 | 195=>179 | 218=>180 | 240=>126 | 241=>173 | 219=>181 | 260=>182 | 276=>165 | 277=>194 | 217=>118 | 225=>200 | 224=>201 | 267=>202 | 266=>164 | 314=>210 | n=>n,fun | 9=>9 | 3=>3 | 4=>4 | 72=>74 | 0=>0 | 76=>131 | 105=>166 | 21=>21 | 5=>5 | 70=>72 | 20=>20 | 37=>62 | 75=>79 | 127=>145 | 164=>170 | 46=>68 | 119=>198 | 139=>201 | 138=>200 | 146=>209 | 51=>65 | 80=>81 | n=>n,fun | 1=>0 | 3=>2 | 4=>3 | n=>n⟩
theorem Tryz.lays155:Go.Proofs.Lays.n155 Tryz.prog Tryz.lays155_ren:={
 mixed:=by kernel_rfl
 f138:=Tryz.func155.trans (congrArg some (by kernel_rfl))
 f143:=Tryz.func156.trans (congrArg some (by kernel_rfl))
 f154:=Tryz.func106.trans (congrArg some (by kernel_rfl))
 f155:=Tryz.func48.trans (congrArg some (by kernel_rfl))
 f165:=Tryz.func139.trans (congrArg some (by kernel_rfl))
 f166:=Tryz.func140.trans (congrArg some (by kernel_rfl))
 f169:=Tryz.func69.trans (congrArg some (by kernel_rfl))
 f195:=Tryz.func179.trans (congrArg some (by kernel_rfl))
 f197:=Tryz.func157.trans (congrArg some (by kernel_rfl))
 f217:=Tryz.func118.trans (congrArg some (by kernel_rfl))
 f218:=Tryz.func180.trans (congrArg some (by kernel_rfl))
 f219:=Tryz.func181.trans (congrArg some (by kernel_rfl))
 f224:=Tryz.func201.trans (congrArg some (by kernel_rfl))
 f225:=Tryz.func200.trans (congrArg some (by kernel_rfl))
 f240:=Tryz.func126.trans (congrArg some (by kernel_rfl))
 f241:=Tryz.func173.trans (congrArg some (by kernel_rfl))
 f260:=Tryz.func182.trans (congrArg some (by kernel_rfl))
 f266:=Tryz.func164.trans (congrArg some (by kernel_rfl))
 f267:=Tryz.func202.trans (congrArg some (by kernel_rfl))
 f276:=Tryz.func165.trans (congrArg some (by kernel_rfl))
 f277:=Tryz.func194.trans (congrArg some (by kernel_rfl))
 f314:=Tryz.func210.trans (congrArg some (by kernel_rfl))
 t0:=Tryz.underlying0
 a0:=Tryz.isAgg0
 z0:=Tryz.sizeOf0
 v0:=Tryz.zeroValue0
 t3:=Tryz.underlying3
 a3:=Tryz.isAgg3
 z3:=Tryz.sizeOf3
 v3:=Tryz.zeroValue3
 t4:=Tryz.underlying4
 a4:=Tryz.isAgg4
 z4:=Tryz.sizeOf4
 v4:=Tryz.zeroValue4
 t5:=Tryz.underlying5
 a5:=Tryz.isAgg5
 z5:=Tryz.sizeOf5
 v5:=Tryz.zeroValue5
 t9:=Tryz.underlying9
 a9:=Tryz.isAgg9
 z9:=Tryz.sizeOf9
 v9:=Tryz.zeroValue9
 t20:=Tryz.underlying20
 a20:=Tryz.isAgg20
 z20:=Tryz.sizeOf20
 v20:=Tryz.zeroValue20
 t21:=Tryz.underlying21
 a21:=Tryz.isAgg21
 z21:=Tryz.sizeOf21
 v21:=Tryz.zeroValue21
 t37:=Tryz.underlying62
 a37:=Tryz.isAgg62
 z37:=Tryz.sizeOf62
 v37:=Tryz.zeroValue62
 t46:=Tryz.underlying68
 a46:=Tryz.isAgg68
 z46:=Tryz.sizeOf68
 v46:=Tryz.zeroValue68
 t51:=Tryz.underlying65
 a51:=Tryz.isAgg65
 z51:=Tryz.sizeOf65
 v51:=Tryz.zeroValue65
 t70:=Tryz.underlying72
 a70:=Tryz.isAgg72
 z70:=Tryz.sizeOf72
 v70:=Tryz.zeroValue72
 t72:=Tryz.underlying74
 a72:=Tryz.isAgg74
 z72:=Tryz.sizeOf74
 v72:=Tryz.zeroValue74
 t75:=Tryz.underlying79
 a75:=Tryz.isAgg79
 z75:=Tryz.sizeOf79
 v75:=Tryz.zeroValue79
 t76:=Tryz.underlying131
 a76:=Tryz.isAgg131
 z76:=Tryz.sizeOf131
 v76:=Tryz.zeroValue131
 t105:=Tryz.underlying166
 a105:=Tryz.isAgg166
 z105:=Tryz.sizeOf166
 v105:=Tryz.zeroValue166
 t119:=Tryz.underlying198
 a119:=Tryz.isAgg198
 z119:=Tryz.sizeOf198
 t127:=Tryz.underlying145
 a127:=Tryz.isAgg145
 z127:=Tryz.sizeOf145
 v127:=Tryz.zeroValue145
 t138:=Tryz.underlying200
 a138:=Tryz.isAgg200
 z138:=Tryz.sizeOf200
 v138:=Tryz.zeroValue200
 t139:=Tryz.underlying201
 a139:=Tryz.isAgg201
 z139:=Tryz.sizeOf201
 v139:=Tryz.zeroValue201
 t146:=Tryz.underlying209
 a146:=Tryz.isAgg209
 z146:=Tryz.sizeOf209
 v146:=Tryz.zeroValue209
 t164:=Tryz.underlying170
 a164:=Tryz.isAgg170
 z164:=Tryz.sizeOf170
 v164:=Tryz.zeroValue170
 g1:=by kernel_rfl
 g3:=by kernel_rfl
 g4:=by kernel_rfl }
theorem Tryz.Builder_Extra_155:Builder.Extra Tryz.prog Tryz.lays155_ren:={
 sizeBuilder:=by kernel_rfl
 liesBuilder:=by kernel_rfl
 t5:=Tryz.underlying5
 a5:=Tryz.isAgg5
 z5:=Tryz.sizeOf5
 v5:=Tryz.zeroValue5
 infoByte:=by kernel_rfl
 cellsByte:=by kernel_rfl
 sizeByte:=by kernel_rfl
 neB5:=by decide }
open Go.RowKit Go.Lib in
theorem Tryz.strings_ReplaceAll (s old new:ByteArray) (m:Int) (w:World) (hs:s.size < 4294967281) (hm:w.cell? ⟨0,0,none⟩=some (.int .i64 m)) (h1:1 ≤ old.size) (hlen:s.size + Lib.countB s old * new.size ≤ 140737488355328) :
  Calls Tryz.prog 48 #[.string s,.string old,.string new] w fun e w' =>
   e = .returned (.string ⟨(Lib.replaceAll s.data.toList old.data.toList new.data.toList).toArray⟩)∧Below w.heap.size w w':=Any.strings_ReplaceAll Tryz.lays155 Tryz.Builder_Extra_155 s old new m w hs hm h1 hlen
end Go.Proofs
namespace Go.Proofs.YtnknmmbnhoanfaaGreatDoor
open Go.RowKit Go.Shelf Go.Cs
attribute [local go_sem] Oper.semAt_some


theorem marks_o (c:UInt8):decide (Lib.indexByte Bare.marks c < 0) = !Bare.marks.contains c:=by
 have:=Lib.contains_iff_indexByte Bare.marks c
 rw [this,← decide_not]
 exact decide_eq_decide.2 (by omega)
theorem token_any (s:ByteArray) (w:World) (hs:s.size ≤ 9223372036854775807) :
    Calls Tryz.prog 15 #[.string s] w fun e w'=>e = .returned (.bool (Bare.tokB (bl s)))∧w'=w:=by
  have HB:=Lib.hid (tokB_at (bl s))
  obtain ⟨r,hr⟩:∃ r,Bare.tokB (bl s)=r:=⟨_,rfl⟩
  rw [hr] at HB ⊢
  clear hr
  go_enter Tryz.func15,Tryz.ntmps15
  go_wp2_with fail
  go_loop [7] (fun c=>∃ k:Nat,k ≤ s.size∧c = .int .i64 k∧Hid (∀ j,j < k→tokAt j (gb s j)=true)) (fun c=>s.size - (intOf c).toNat)
  case atStart=>exact ⟨0,Nat.zero_le _,rfl,Lib.hid fun i hi=>by omega⟩
  case round =>
    obtain ⟨k,hk,rfl,hbef⟩:=hrel
    by_cases hlt:k < s.size
    · have hkd:decide ((k:Int) < (s.size:Int))=true:=decide_eq_true (by omega)
      have hix:=run_idx s k hlt
      have hnext:tokAt k (gb s k)=true→Hid (∀ j,j < k + 1→tokAt j (gb s j)=true):=fun hg=>Lib.hid fun i hi=>by
        by_cases hik:i < k
        · exact hbef.out i hik
        · obtain rfl:i=k:=by omega
          exact hg
      have hstop:tokAt k (gb s k)=false→r=false:=fun hg=>by
        rw [Bool.eq_false_iff]
        intro h
        have:=(HB.out.1 h).2 k _ (gb_get s k hlt)
        rw [hg] at this;cases this
      have Hbad:=Lib.hid (tok_bad k (gb s k))
      have HL:=Lib.hid (letter_p (gb s k))
      have HD:=Lib.hid (digit_p (gb s k))
      have Ho:=marks_o (gb s k)
      have hback:((gb s k).toNat:Int).toNat.toUInt8=gb s k:=by simp
      have h42:((gb s k) == 42)=decide (((gb s k).toNat:Int)=42):=by
        rw [Bool.eq_iff_iff,beq_iff_eq,decide_eq_true_eq,← UInt8.toNat_inj]
        show (gb s k).toNat=42 ↔ _
        omega
      have hk0:(k == 0)=decide ((k:Int)=0):=by
        rw [Bool.eq_iff_iff,beq_iff_eq,decide_eq_true_eq];omega
      rw [h42,hk0] at Hbad
      clear hbef h42 hk0
      have HK:∀ W,Calls Tryz.prog 63 #[.string ⟨#[33,35,36,37,38,39,42,43,45,46,94,95,96,124,126,58,47]⟩,.int .u8 ((gb s k).toNat:Nat)] W fun e w'=>e = .returned (.int .i64 (Lib.indexByte Bare.marks (gb s k)))∧w'=W:=fun W =>
        (Tryz.strings_IndexByte _ _ W).mono (by rintro e w' ⟨rfl,hw⟩;rw [hback];exact ⟨rfl,hw⟩)
      have HK:=Lib.hid HK
      obtain ⟨o,ho⟩:∃ o,Lib.indexByte Bare.marks (gb s k)=o:=⟨_,rfl⟩
      rw [ho] at HK Ho
      obtain ⟨T,hT⟩:∃ x,tokAt k (gb s k)=x:=⟨_,rfl⟩
      obtain ⟨L,hL⟩:∃ x,Bare.letB (gb s k)=x:=⟨_,rfl⟩
      obtain ⟨D,hD⟩:∃ x,Bare.digB (gb s k)=x:=⟨_,rfl⟩
      obtain ⟨M,hM⟩:∃ x,Bare.marks.contains (gb s k)=x:=⟨_,rfl⟩
      rw [hT] at Hbad hnext hstop
      rw [hL] at Hbad HL
      rw [hD] at Hbad HD
      rw [hM] at Hbad Ho
      obtain ⟨n,hn⟩:∃ x,(gb s k).toNat=x:=⟨_,rfl⟩
      rw [hn] at HL HD HK Hbad hix
      clear ho hT hL hD hM hn hback
      obtain ⟨E,hE⟩:∃ x,decide ((n:Int)=42)=x:=⟨_,rfl⟩
      have hE2:((n:Int) == 42)=E:=hE
      have hE3:((n:Int) != 42) = !E:=by rw [← hE2];rfl
      obtain ⟨Z,hZ⟩:∃ x,decide ((k:Int)=0)=x:=⟨_,rfl⟩
      have hZ2:((k:Int) == 0)=Z:=hZ
      rw [hE,hZ] at Hbad
      have hcase:(L=true∧T=true) ∨ (L=false∧E=true∧T=true) ∨ (L=false∧E=false∧Z=true∧T=false) ∨ (L=false∧E=false∧Z=false∧D=true∧T=true) ∨ (L=false∧E=false∧Z=false∧D=false∧M=true∧T=true) ∨ (L=false∧E=false∧Z=false∧D=false∧M=false∧T=false):=by
        have:=Hbad.out
        revert this
        cases L <;> cases E <;> cases Z <;> cases D <;> cases M <;> cases T <;> simp
      clear Hbad
      rcases hcase with ⟨rfl,rfl⟩ | ⟨rfl,rfl,rfl⟩ | ⟨rfl,rfl,rfl,rfl⟩ | ⟨rfl,rfl,rfl,rfl,rfl⟩ | ⟨rfl,rfl,rfl,rfl,rfl,rfl⟩ | ⟨rfl,rfl,rfl,rfl,rfl,rfl⟩
      all_goals
        try simp only [Bool.not_true,Bool.not_false] at Ho
        try simp only [Bool.not_true,Bool.not_false] at hE3
        first
        | (have hh:=hnext rfl
           clear hnext hstop
           go_wp2_with (first | (go_at_call 52;refine (HL.out _).mono ?_;rintro e w' ⟨rfl,rfl⟩) | (go_at_call 50;refine (HD.out _).mono ?_;rintro e w' ⟨rfl,rfl⟩) | (go_at_call 63;refine (HK.out _).mono ?_;rintro e w' ⟨rfl,rfl⟩))
           go_round
           case rel=>exact ⟨k + 1,by omega,by go_num,hh⟩
           case measure=>simp [intOf];omega)
        | (have hh:=hstop rfl
           clear hnext hstop
           subst hh
           go_wp2_with (first | (go_at_call 52;refine (HL.out _).mono ?_;rintro e w' ⟨rfl,rfl⟩) | (go_at_call 50;refine (HD.out _).mono ?_;rintro e w' ⟨rfl,rfl⟩) | (go_at_call 63;refine (HK.out _).mono ?_;rintro e w' ⟨rfl,rfl⟩))
           go_ret
           exact ⟨rfl,rfl⟩)
    · obtain rfl:k=s.size:=by omega
      have hkd:decide ((s.size:Int) < (s.size:Int))=false:=decide_eq_false (by omega)
      have hr:r=decide (s.size ≠ 0):=by
        rw [Bool.eq_iff_iff,HB.out,decide_eq_true_eq]
        have hl:=bl_len s
        constructor
        · rintro ⟨h,-⟩ h0
          exact h (List.length_eq_zero_iff.1 (by omega))
        · intro h
          refine ⟨fun e=>h (by rw [← hl,e];rfl),fun k c hk=>?_⟩
          obtain ⟨h1,rfl⟩:=get_gb hk
          exact hbef.out k h1
      have hq':=empty_toList s
      have hr2:r = !decide (s.size=0):=by rw [hr,← decide_not]
      obtain ⟨z,hz⟩:∃ z,decide (s.size=0)=z:=⟨_,rfl⟩
      rw [hz] at hq' hr2
      clear hz hr HB hbef
      subst hr2
      go_wp2_with fail
      go_ret
      exact ⟨by simp [hq'],rfl⟩
theorem run_any (g:Nat) (lb:Array Value) (p:UInt8→Bool) (hg:PredB g lb p) (eg:∀ args w,(callFunc g args).run Tryz.prog w = .ok (.enter g args) w) (s:ByteArray) (w:World) (hs:s.size ≤ 9223372036854775807) :
  Calls Tryz.prog 107 #[.string s,.func (.func g) #[] lb] w fun e w'=>e = .returned (.int .i64 (((bl s).takeWhile p).length:Nat))∧w'=w:=by
 have HG:=Lib.hid hg
 have HB:=Lib.hid (Bare.while_at p (bl s))
 clear hg
 obtain ⟨r,hr⟩:∃ r,((bl s).takeWhile p).length=r:=⟨_,rfl⟩
 rw [hr] at HB ⊢
 clear hr
 go_enter Tryz.func107,Tryz.ntmps107
 go_wp2_with fail
 go_loop [8] (fun c=>∃ k:Nat,k ≤ s.size∧c = .int .i64 k∧Hid (∀ j,j < k→p (gb s j)=true)) (fun c=>s.size - (intOf c).toNat)
 case atStart=>exact ⟨0,Nat.zero_le _,rfl,Lib.hid fun i hi=>by omega⟩
 case round =>
  obtain ⟨k,hk,rfl,hbef⟩:=hrel
  by_cases hlt:k < s.size
  ·have hkd:decide ((k:Int) < (s.size:Int))=true:=decide_eq_true (by omega)
   have hix:=run_idx s k hlt
   have HP:=Lib.hid (HG.out (gb s k))
   obtain ⟨T,hT⟩:∃ x,p (gb s k)=x:=⟨_,rfl⟩
   have hnext:T=true→Hid (∀ j,j < k + 1→p (gb s j)=true):=fun hg=>Lib.hid fun i hi=>by
    by_cases hik:i < k
    ·exact hbef.out i hik
    ·obtain rfl:i=k:=by omega
     rw [hT];exact hg
   have hstop:T=false→r=k:=fun hg=>by
    refine HB.out k (by rw [bl_len];exact hk) (fun j hj c hc=>?_) (fun c hc=>?_)
    ·obtain ⟨_,rfl⟩:=get_gb hc
     exact hbef.out j hj
    ·obtain ⟨_,rfl⟩:=get_gb hc
     rw [hT];exact hg
   rw [hT] at HP
   obtain ⟨n,hn⟩:∃ x,(gb s k).toNat=x:=⟨_,rfl⟩
   rw [hn] at HP hix
   clear hT hn hbef
   cases T with
   | true =>
    have hh:=hnext rfl
    clear hnext hstop
    go_wp2_with fail
    refine (HP.out _).mono ?_
    rintro e w' ⟨rfl,rfl⟩
    go_wp2_with fail
    go_round
    case rel=>exact ⟨k + 1,by omega,by go_num,hh⟩
    case measure=>simp [intOf];omega
   | false =>
    have hh:=hstop rfl
    clear hnext hstop
    subst hh
    go_wp2_with fail
    refine (HP.out _).mono ?_
    rintro e w' ⟨rfl,rfl⟩
    go_wp2_with fail
    go_ret
    exact ⟨rfl,rfl⟩
  ·obtain rfl:k=s.size:=by omega
   have hkd:decide ((s.size:Int) < (s.size:Int))=false:=decide_eq_false (by omega)
   have hr:r=s.size:=HB.out s.size (by rw [bl_len];exact Nat.le_refl _) (fun j hj c hc=>by
    obtain ⟨_,rfl⟩:=get_gb hc
    exact hbef.out j hj) (fun c hc=>by
    obtain ⟨h,_⟩:=get_gb hc
    omega)
   subst hr
   clear HB hbef
   go_wp2_with fail
   go_ret
   exact ⟨rfl,rfl⟩
theorem fits3_any (s:ByteArray) (w:World) (hs:s.size ≤ 9223372036854775807) :
  Calls Tryz.prog 122 #[.string s] w fun e w'=>e = .returned (.bool ((bl s).all Bare.plnB))∧w'=w:=by
 have HB:=Lib.hid (all_gb s Bare.plnB)
 obtain ⟨r,hr⟩:∃ r,(bl s).all Bare.plnB=r:=⟨_,rfl⟩
 rw [hr] at HB ⊢
 clear hr
 go_enter Tryz.func122,Tryz.ntmps122
 go_wp2_with fail
 go_loop [6] (fun c=>∃ k:Nat,k ≤ s.size∧c = .int .i64 k∧Hid (∀ j,j < k→Bare.plnB (gb s j)=true)) (fun c=>s.size - (intOf c).toNat)
 case atStart=>exact ⟨0,Nat.zero_le _,rfl,Lib.hid fun i hi=>by omega⟩
 case round =>
  obtain ⟨k,hk,rfl,hbef⟩:=hrel
  by_cases hlt:k < s.size
  ·have hkd:decide ((k:Int) < (s.size:Int))=true:=decide_eq_true (by omega)
   have hix:=run_idx s k hlt
   have HP:=Lib.hid (plain_p (gb s k))
   obtain ⟨T,hT⟩:∃ x,Bare.plnB (gb s k)=x:=⟨_,rfl⟩
   have hnext:T=true→Hid (∀ j,j < k + 1→Bare.plnB (gb s j)=true):=fun hg=>Lib.hid fun i hi=>by
    by_cases hik:i < k
    ·exact hbef.out i hik
    ·obtain rfl:i=k:=by omega
     rw [hT];exact hg
   have hstop:T=false→r=false:=fun hg=>by
    rw [Bool.eq_false_iff]
    intro h
    have:=HB.out.1 h k hlt
    rw [hT,hg] at this;cases this
   rw [hT] at HP
   obtain ⟨n,hn⟩:∃ x,(gb s k).toNat=x:=⟨_,rfl⟩
   rw [hn] at HP hix
   clear hT hn hbef
   cases T with
   | true =>
    have hh:=hnext rfl
    clear hnext hstop
    go_wp2_with (go_at_call 110;refine (HP.out _).mono ?_;rintro e w' ⟨rfl,rfl⟩)
    go_round
    case rel=>exact ⟨k + 1,by omega,by go_num,hh⟩
    case measure=>simp [intOf];omega
   | false =>
    have hh:=hstop rfl
    clear hnext hstop
    subst hh
    go_wp2_with (go_at_call 110;refine (HP.out _).mono ?_;rintro e w' ⟨rfl,rfl⟩)
    go_ret
    exact ⟨rfl,rfl⟩
  ·obtain rfl:k=s.size:=by omega
   have hkd:decide ((s.size:Int) < (s.size:Int))=false:=decide_eq_false (by omega)
   have hr:r=true:=HB.out.2 hbef.out
   subst hr
   clear HB hbef
   go_wp2_with fail
   go_ret
   exact ⟨rfl,rfl⟩
theorem fits4_any (s:ByteArray) (w:World):Calls Tryz.prog 123 #[.string s] w fun e w'=>e = .returned (.bool true)∧w'=w:=by
 go_enter Tryz.func123,Tryz.ntmps123
 go_wp2_with fail
 go_ret
 exact ⟨rfl,rfl⟩


def bcs (b:Bare.It):List Value:=[.int .u8 b.kind,.int .i64 b.int,.string (tx b.text),.bool b.yes]
def bv (b:Bare.It):Value:=.agg (bcs b).toArray
def PredI (g:Nat) (lb:Array Value) (ok:World→Prop) (p:Bare.It→Bool):Prop:=∀ (b:Bare.It) (w:World),b.text.length ≤ 100000000→ok w→Calls Tryz.prog g (#[bv b] ++ lb) w fun e w'=>e = .returned (.bool (p b))∧New w w'
theorem box_row (w:World) (b:Bare.It):New w (w.alloc (.cells (bcs b).toArray 23))∧(w.alloc (.cells (bcs b).toArray 23)).heap[w.heap.size]? = some (.cells (bcs b).toArray 23 (0,0)) :=
 ⟨(Mods.refl _ _).alloc _,World.alloc_heap_new w _⟩
theorem tx_empty (l:Bare.Bs):(tx l).toList.isEmpty=l.isEmpty:=by
 rw [empty_toList,tx_size]
 cases l <;> rfl
def numI (b:Bare.It):Bool:=decide (-Bare.most ≤ b.int) && (decide (b.int ≤ Bare.most) && (b.text.isEmpty && !b.yes))
theorem fits1_any:PredI 119 #[] (fun _=>True) numI:=by
 intro b w hl _
 obtain ⟨k,n,t,y⟩:=b
 obtain ⟨hN,hr⟩:=box_row w ⟨k,n,t,y⟩
 unfold bv numI bcs Bare.most at *
 simp only at hN hr hl ⊢
 have HX:=hN
 have ht:=tx_empty t
 obtain ⟨z,hz⟩:∃ z,t.isEmpty=z:=⟨_,rfl⟩
 rw [hz] at ht ⊢
 obtain ⟨s,hs⟩:∃ s,tx t=s:=⟨_,rfl⟩
 rw [hs] at hr hN HX ht ⊢
 clear hs hz
 have hc:(decide (-999999999999999 ≤ n)=false) ∨ (decide (-999999999999999 ≤ n)=true∧decide (n ≤ 999999999999999)=false) ∨ (decide (-999999999999999 ≤ n)=true∧decide (n ≤ 999999999999999)=true∧z=false) ∨ (decide (-999999999999999 ≤ n)=true∧decide (n ≤ 999999999999999)=true∧z=true):=by
  cases decide (-999999999999999 ≤ n) <;> cases decide (n ≤ 999999999999999) <;> cases z <;> simp
 rcases hc with d1 | ⟨d1,d2⟩ | ⟨d1,d2,rfl⟩ | ⟨d1,d2,rfl⟩
 all_goals
  (first | rw [d1,d2] | rw [d1])
  go_enter Tryz.func119,Tryz.ntmps119
  go_upto_region 1 with fail
  have k1:=cell_of_row _ _ 1 _ _ _ hr
  have k2:=cell_of_row _ _ 2 _ _ _ hr
  have k3:=cell_of_row _ _ 3 _ _ _ hr
  simp only [gS] at k1 k2 k3
  obtain ⟨W,hW⟩:∃ W,w.alloc (.cells #[.int .u8 k,.int .i64 n,.string s,.bool y] 23)=W:=⟨_,rfl⟩
  rw [hW] at k1 k2 k3 hN HX ⊢
  clear hW hr
  go_wp2_with fail
  go_ret
  exact ⟨rfl,hN⟩
def boolI (b:Bare.It):Bool:=decide (b.int=0) && b.text.isEmpty
theorem fits5_any:PredI 124 #[] (fun _=>True) boolI:=by
 intro b w hl _
 obtain ⟨k,n,t,y⟩:=b
 obtain ⟨hN,hr⟩:=box_row w ⟨k,n,t,y⟩
 unfold bv boolI bcs at *
 simp only at hN hr hl ⊢
 have HX:=hN
 have ht:=tx_empty t
 obtain ⟨z,hz⟩:∃ z,t.isEmpty=z:=⟨_,rfl⟩
 rw [hz] at ht ⊢
 obtain ⟨s,hs⟩:∃ s,tx t=s:=⟨_,rfl⟩
 rw [hs] at hr hN HX ht ⊢
 clear hs hz
 have hc:(decide (n=0)=false) ∨ (decide (n=0)=true∧z=false) ∨ (decide (n=0)=true∧z=true):=by
  cases decide (n=0) <;> cases z <;> simp
 rcases hc with d1 | ⟨d1,rfl⟩ | ⟨d1,rfl⟩
 all_goals
  have d2:(n == 0)=decide (n=0):=rfl
  rw [d1] at d2 ⊢
  go_enter Tryz.func124,Tryz.ntmps124
  go_upto_region 1 with fail
  have k1:=cell_of_row _ _ 1 _ _ _ hr
  have k2:=cell_of_row _ _ 2 _ _ _ hr
  simp only [gS] at k1 k2
  obtain ⟨W,hW⟩:∃ W,w.alloc (.cells #[.int .u8 k,.int .i64 n,.string s,.bool y] 23)=W:=⟨_,rfl⟩
  rw [hW] at k1 k2 hN HX ⊢
  clear hW hr
  go_wp2_with fail
  go_ret
  exact ⟨rfl,hN⟩
def PredT (g:Nat) (p:Bare.Bs→Bool):Prop:=∀ (s:ByteArray) (w:World),s.size ≤ 100000000→Calls Tryz.prog g #[.string s] w fun e w'=>e = .returned (.bool (p (bl s)))∧w'=w
def fn (g:Nat):Value:=.func (.func g) #[] #[]
def clo (b:Nat):Value:=.func (.func 121) #[] #[.pointer (some ⟨b,0,none⟩)]
def textI (p:Bare.Bs→Bool) (b:Bare.It):Bool:=decide (b.int=0) && (!b.yes && p b.text)
theorem fits21_any (g:Nat) (p:Bare.Bs→Bool) (hg:PredT g p) (eg:∀ args w,(callFunc g args).run Tryz.prog w = .ok (.enter g args) w) (B:Nat) :
  PredI 121 #[.pointer (some ⟨B,0,none⟩)] (fun W=>Boxed W B 33 (fn g)) (textI p):=by
 intro b w hl hB
 obtain ⟨k,n,t,y⟩:=b
 obtain ⟨hN,hr⟩:=box_row w ⟨k,n,t,y⟩
 unfold bv textI bcs fn at *
 simp only at hN hr hl ⊢
 have HG:=Lib.hid (fun W=>hg (tx t) W (by rw [tx_size];exact hl))
 obtain ⟨r,hr'⟩:∃ r,p t=r:=⟨_,rfl⟩
 rw [bl_tx,hr'] at HG
 rw [hr']
 obtain ⟨s,hs⟩:∃ s,tx t=s:=⟨_,rfl⟩
 rw [hs] at hr hN HG ⊢
 clear hs hr' hg
 have HX:=(hN.boxed hB id).cell
 clear hB
 have hc:(decide (n=0)=false) ∨ (decide (n=0)=true∧y=true) ∨ (decide (n=0)=true∧y=false):=by
  cases decide (n=0) <;> cases y <;> simp
 rcases hc with d1 | ⟨d1,rfl⟩ | ⟨d1,rfl⟩
 ·have d2:(n == 0)=decide (n=0):=rfl
  rw [d1] at d2 ⊢
  go_enter Tryz.func121,Tryz.ntmps121
  go_upto_region 1 with fail
  have k1:=cell_of_row _ _ 1 _ _ _ hr
  have k2:=cell_of_row _ _ 2 _ _ _ hr
  have k3:=cell_of_row _ _ 3 _ _ _ hr
  simp only [gS] at k1 k2 k3
  obtain ⟨W,hW⟩:∃ W,w.alloc (.cells #[.int .u8 k,.int .i64 n,.string s,.bool y] 23)=W:=⟨_,rfl⟩
  rw [hW] at k1 k2 k3 hN HX ⊢
  clear hW hr
  go_wp2_with fail
  go_ret
  exact ⟨rfl,hN⟩
 ·have d2:(n == 0)=decide (n=0):=rfl
  rw [d1] at d2 ⊢
  go_enter Tryz.func121,Tryz.ntmps121
  go_upto_region 1 with fail
  have k1:=cell_of_row _ _ 1 _ _ _ hr
  have k2:=cell_of_row _ _ 2 _ _ _ hr
  have k3:=cell_of_row _ _ 3 _ _ _ hr
  simp only [gS] at k1 k2 k3
  obtain ⟨W,hW⟩:∃ W,w.alloc (.cells #[.int .u8 k,.int .i64 n,.string s,.bool true] 23)=W:=⟨_,rfl⟩
  rw [hW] at k1 k2 k3 hN HX ⊢
  clear hW hr
  go_wp2_with fail
  go_ret
  exact ⟨rfl,hN⟩
 ·have d2:(n == 0)=decide (n=0):=rfl
  rw [d1] at d2 ⊢
  go_enter Tryz.func121,Tryz.ntmps121
  go_upto_region 1 with fail
  have k1:=cell_of_row _ _ 1 _ _ _ hr
  have k2:=cell_of_row _ _ 2 _ _ _ hr
  have k3:=cell_of_row _ _ 3 _ _ _ hr
  simp only [gS] at k1 k2 k3
  obtain ⟨W,hW⟩:∃ W,w.alloc (.cells #[.int .u8 k,.int .i64 n,.string s,.bool false] 23)=W:=⟨_,rfl⟩
  rw [hW] at k1 k2 k3 hN HX ⊢
  clear hW hr
  go_wp2_with fail
  refine (HG.out _).mono ?_
  rintro e w' ⟨rfl,rfl⟩
  go_wp2_with fail
  go_ret
  exact ⟨rfl,hN⟩
theorem fits2_any (g:Nat) (w:World):Calls Tryz.prog 120 #[fn g] w fun e w'=>e = .returned (clo w.heap.size)∧w.alloc (.cells #[fn g] 33)=w':=by
 unfold fn clo
 go_enter Tryz.func120,Tryz.ntmps120
 go_wp2_with fail
 go_ret
 exact ⟨rfl,rfl⟩


def ent (k:Nat) (val:Value) (i:Nat):MapEntry:={ key:=.int .u8 (k:Nat),val:=val,born:=i }
theorem findNow_none (k:Nat):∀ (l:List MapEntry) (i:Nat),(∀ e,e ∈ l→∃ j:Nat,e.key = .int .u8 j∧j ≠ k)→Instr.findNow (.int .u8) (.int .u8 (k:Nat)) l i=some none
 | [],_,_=>rfl
 | e::l,i,hl=>by
  obtain ⟨j,hj,hne⟩:=hl e (by simp)
  have hb:((k:Int) == (j:Int))=false:=by simp;omega
  simp only [Instr.findNow,hj,Instr.sameNow,if_true,hb]
  exact findNow_none k l _ fun e he=>hl e (by simp [he])
theorem run_put (w:World) (B:Nat) (es:List MapEntry) (k:Nat) (val:Value) (h:w.heap[B]? = some (.map es.toArray es.length)) (hn:∀ e,e ∈ es→∃ j:Nat,e.key = .int .u8 j∧j ≠ k) :
  (Instr.mapUpdate 70 (.map (some B)) (.int .u8 (k:Nat)) val).run Tryz.prog w = .ok () (w.putObj B (.map (es ++ [ent k val es.length]).toArray (es.length + 1))):=by
 have hf:=findNow_none k es 0 hn
 have hd:Tryz.prog.underlying 70=some (.map 5 32):=Tryz.underlying70
 have hg:=MapKept.run_getObj_map (P:=Tryz.prog) h
 have hs:=fun o=>MapKept.run_setObj_map (P:=Tryz.prog) o h
 have hc:=MapKept.run_checkKey (P:=Tryz.prog) (w:=w) (k:=.int .u8 (k:Nat)) Tryz.underlying5 rfl false 9999
 have hk:=MapKept.run_findKey (P:=Tryz.prog) (w:=w) Tryz.underlying5 hf
 simp only [Instr.mapUpdate,Sem.run_bind,run_underlying hd w,Result.andThen_ok,hg,hc,hk,hs]
 simp [World.putObj,ent]
theorem run_look (w:World) (B:Nat) (es:List MapEntry) (c k i:Nat) (val:Value) (hne:es ≠ []) (h:w.heap[B]? = some (.map es.toArray c)) (hf:Instr.findNow (.int .u8) (.int .u8 (k:Nat)) es 0=some (some (i,val))) :
  (Instr.lookup 70 (.map (some B)) (.int .u8 (k:Nat)) false).run Tryz.prog w = .ok val w:=by
 have hd:Tryz.prog.underlying 70=some (.map 5 32):=Tryz.underlying70
 have hg:=MapKept.run_getObj_map (P:=Tryz.prog) h
 have he:es.toArray.isEmpty=false:=by simp [hne]
 have hc:=MapKept.run_checkKey (P:=Tryz.prog) (w:=w) (k:=.int .u8 (k:Nat)) Tryz.underlying5 rfl false 9999
 have hk:=MapKept.run_findKey (P:=Tryz.prog) (w:=w) Tryz.underlying5 hf
 simp only [Instr.lookup,Sem.run_bind,run_underlying hd w,Result.andThen_ok,hg,Sem.run_pure,he,hc,hk]
 simp
theorem run_look_none (w:World) (B:Nat) (es:List MapEntry) (c k:Nat) (hne:es ≠ []) (h:w.heap[B]? = some (.map es.toArray c)) (hf:Instr.findNow (.int .u8) (.int .u8 (k:Nat)) es 0=some none) :
  (Instr.lookup 70 (.map (some B)) (.int .u8 (k:Nat)) false).run Tryz.prog w = .ok .nilFunc w:=by
 have hd:Tryz.prog.underlying 70=some (.map 5 32):=Tryz.underlying70
 have hg:=MapKept.run_getObj_map (P:=Tryz.prog) h
 have he:es.toArray.isEmpty=false:=by simp [hne]
 have hc:=MapKept.run_checkKey (P:=Tryz.prog) (w:=w) (k:=.int .u8 (k:Nat)) Tryz.underlying5 rfl false 9999
 have hk:=MapKept.run_findKey (P:=Tryz.prog) (w:=w) Tryz.underlying5 hf
 have hz:(zeroValue 32).run Tryz.prog w = .ok .nilFunc w:=by kernel_rfl
 simp only [Instr.lookup,Sem.run_bind,run_underlying hd w,Result.andThen_ok,hg,Sem.run_pure,he,hc,hk,hz]
 simp
theorem run_insert {o:Oper} {a:Act} {w:World} (m v:Operand) (k:Nat) (ho:o.op = .insert 70 m (.const (.int .u8 (k:Nat))) v) (B:Nat) (es:List MapEntry) (val:Value) (hm:a.eval m = .map (some B)) (hv:a.eval v=val)
  (h:w.heap[B]? = some (.map es.toArray es.length)) (hn:∀ e,e ∈ es→∃ j:Nat,e.key = .int .u8 j∧j ≠ k) :
  (execOp a.eval o).run Tryz.prog w = .ok .skip (w.putObj B (.map (es ++ [ent k val es.length]).toArray (es.length + 1))):=by
 have hp:=run_put w B es k val h hn
 have hc:a.eval (.const (.int .u8 (k:Nat))) = .int .u8 (k:Nat):=rfl
 unfold execOp
 simp only [ho,hm,hv,hc,Sem.run_bind,hp]
 rfl
theorem put_same {w:World} {B:Nat} {o o':Obj} (h:w.heap[B]? = some o):(w.putObj B o').heap[B]? = some o':=World.putObj_heap_same (Array.getElem?_eq_some_iff.1 h).1
theorem boxed_put {w:World} {B b:Nat} {t:TypeId} {v:Value} (h:Boxed w b t v) (hne:b ≠ B) (o:Obj):Boxed (w.putObj B o) b t v:=(World.putObj_heap_other hne).trans h
abbrev numF:Value:=fn 119
abbrev boolF:Value:=fn 124
structure FitsAt (W:World) (M b3 b4 b5:Nat):Prop where
 map:W.heap[M]? = some (.map [ent 1 numF 0,ent 2 numF 1,ent 3 (clo b3) 2,ent 4 (clo b4) 3,ent 5 (clo b5) 4,ent 6 boolF 5].toArray 6)
 str:Boxed W b3 33 (fn 122)
 tok:Boxed W b4 33 (fn 15)
 byt:Boxed W b5 33 (fn 123)
theorem FitsAt.new {W W':World} {M b3 b4 b5:Nat} (h:FitsAt W M b3 b4 b5) (hN:New W W'):FitsAt W' M b3 b4 b5 :=
 ⟨hN.heap h.map id,hN.boxed h.str id,hN.boxed h.tok id,hN.boxed h.byt id⟩
theorem fits_any (w:World):Calls Tryz.prog 65 #[] w fun e w'=>∃ M b3 b4 b5,e = .returned (.map (some M))∧FitsAt w' M b3 b4 b5∧New w w':=by
 have HP:=Lib.hid fits2_any
 have hmm:=@run_makeMap Tryz.prog
 go_enter Tryz.func65,Tryz.ntmps65
 go_upto_region 3 with fail
 obtain ⟨M,hM⟩:∃ M,w.heap.size=M:=⟨_,rfl⟩
 have m0:(w.alloc (.map #[] 0)).heap[M]? = some (.map ([]:List MapEntry).toArray ([]:List MapEntry).length):=by rw [← hM];exact World.alloc_heap_new w _
 have m1:((w.alloc (.map #[] 0)).putObj M (.map (([]:List MapEntry) ++ [ent 1 numF ([]:List MapEntry).length]).toArray (([]:List MapEntry).length + 1))).heap[M]? = some (.map ([ent 1 numF 0]:List MapEntry).toArray ([ent 1 numF 0]:List MapEntry).length):=put_same m0
 have m2:(((w.alloc (.map #[] 0)).putObj M (.map (([]:List MapEntry) ++ [ent 1 numF ([]:List MapEntry).length]).toArray (([]:List MapEntry).length + 1))).putObj M (.map (([ent 1 numF 0]:List MapEntry) ++ [ent 2 numF ([ent 1 numF 0]:List MapEntry).length]).toArray (([ent 1 numF 0]:List MapEntry).length + 1))).heap[M]? = some (.map ([ent 1 numF 0,ent 2 numF 1]:List MapEntry).toArray ([ent 1 numF 0,ent 2 numF 1]:List MapEntry).length):=put_same m1
 have hMw:w.heap.size ≤ M:=by omega
 have n2:New w (((w.alloc (.map #[] 0)).putObj M (.map (([]:List MapEntry) ++ [ent 1 numF ([]:List MapEntry).length]).toArray (([]:List MapEntry).length + 1))).putObj M (.map (([ent 1 numF 0]:List MapEntry) ++ [ent 2 numF ([ent 1 numF 0]:List MapEntry).length]).toArray (([ent 1 numF 0]:List MapEntry).length + 1))):=(((Mods.refl _ _).alloc _).putObj hMw _).putObj hMw _
 subst hM
 go_wp2_with (first | (refine op_skip rfl (run_insert (.tmp 3) (.tmp 4) 1 rfl w.heap.size ([]:List MapEntry) numF rfl rfl m0 (fun e he=>by simp at he)) ?_) | (refine op_skip rfl (run_insert (.tmp 3) (.tmp 5) 2 rfl w.heap.size ([ent 1 numF 0]:List MapEntry) numF rfl rfl m1 (fun e he=>by simp at he;subst he;exact ⟨_,rfl,by decide⟩)) ?_))
 have n2':New w (((w.alloc (.map #[] 0)).putObj w.heap.size (.map #[ent 1 numF 0] 1)).putObj w.heap.size (.map #[ent 1 numF 0,ent 2 numF 1] 2)):=n2
 have m2':(((w.alloc (.map #[] 0)).putObj w.heap.size (.map #[ent 1 numF 0] 1)).putObj w.heap.size (.map #[ent 1 numF 0,ent 2 numF 1] 2)).heap[w.heap.size]? = some (.map ([ent 1 numF 0,ent 2 numF 1]:List MapEntry).toArray ([ent 1 numF 0,ent 2 numF 1]:List MapEntry).length):=m2
 obtain ⟨W2,hW⟩:∃ W,((w.alloc (.map #[] 0)).putObj w.heap.size (.map #[ent 1 numF 0] 1)).putObj w.heap.size (.map #[ent 1 numF 0,ent 2 numF 1] 2)=W:=⟨_,rfl⟩
 rw [hW] at n2' m2' ⊢
 obtain ⟨M,hM⟩:∃ M,w.heap.size=M:=⟨_,rfl⟩
 rw [hM] at m2' ⊢
 have hMw:w.heap.size ≤ M:=by omega
 have s2:M + 1 ≤ W2.heap.size:=by have:=(Array.getElem?_eq_some_iff.1 m2').1;omega
 clear hW hM m0 m1 m2 n2
 refine (HP.out 122 _).mono ?_
 rintro e w3 ⟨rfl,hw⟩
 obtain ⟨b3,hb⟩:∃ b,W2.heap.size=b:=⟨_,rfl⟩
 have hN:New W2 w3:=by rw [← hw];exact (Mods.refl _ _).alloc _
 have x2:Boxed w3 b3 33 (fn 122):=by rw [← hw,← hb];exact Boxed.new W2 _ _
 have m2a:=hN.heap m2' id
 have n2a:=n2'.trans hN
 have s2a:M + 1 ≤ w3.heap.size:=by have:=hN.size;omega
 have t2:M < b3:=by omega
 rw [hb]
 clear hw hb hN m2' n2' s2
 go_wp2_with (refine op_skip rfl (run_insert (.tmp 3) (.tmp 7) 3 rfl M ([ent 1 numF 0,ent 2 numF 1]:List MapEntry) (clo b3) rfl rfl m2a (fun e he=>by simp at he;rcases he with rfl | rfl <;> exact ⟨_,rfl,by decide⟩)) ?_)
 obtain ⟨W3,hW⟩:∃ W,(w3.putObj M (.map (([ent 1 numF 0,ent 2 numF 1]:List MapEntry) ++ [ent 3 (clo b3) ([ent 1 numF 0,ent 2 numF 1]:List MapEntry).length]).toArray (([ent 1 numF 0,ent 2 numF 1]:List MapEntry).length + 1)))=W:=⟨_,rfl⟩
 have m3':W3.heap[M]? = some (.map ([ent 1 numF 0,ent 2 numF 1,ent 3 (clo b3) 2]:List MapEntry).toArray ([ent 1 numF 0,ent 2 numF 1,ent 3 (clo b3) 2]:List MapEntry).length):=by rw [← hW];exact put_same m2a
 have n3':New w W3:=by rw [← hW];exact n2a.putObj hMw _
 have s3:M + 1 ≤ W3.heap.size:=by rw [← hW];simp;exact s2a
 have x2:Boxed W3 b3 33 (fn 122):=by rw [← hW];exact boxed_put x2 (by omega) _
 have hW':w3.putObj M (.map ([ent 1 numF 0,ent 2 numF 1,ent 3 (clo b3) 2]:List MapEntry).toArray 3)=W3:=hW
 first | rw [hW'] | rw [hW]
 clear hW hW' m2a n2a s2a
 refine (HP.out 15 _).mono ?_
 rintro e w4 ⟨rfl,hw⟩
 obtain ⟨b4,hb⟩:∃ b,W3.heap.size=b:=⟨_,rfl⟩
 have hN:New W3 w4:=by rw [← hw];exact (Mods.refl _ _).alloc _
 have x3:Boxed w4 b4 33 (fn 15):=by rw [← hw,← hb];exact Boxed.new W3 _ _
 have x2:=hN.boxed x2 id
 have m3a:=hN.heap m3' id
 have n3a:=n3'.trans hN
 have s3a:M + 1 ≤ w4.heap.size:=by have:=hN.size;omega
 have t3:M < b4:=by omega
 rw [hb]
 clear hw hb hN m3' n3' s3
 go_wp2_with (refine op_skip rfl (run_insert (.tmp 3) (.tmp 9) 4 rfl M ([ent 1 numF 0,ent 2 numF 1,ent 3 (clo b3) 2]:List MapEntry) (clo b4) rfl rfl m3a (fun e he=>by simp at he;rcases he with rfl | rfl | rfl <;> exact ⟨_,rfl,by decide⟩)) ?_)
 obtain ⟨W4,hW⟩:∃ W,(w4.putObj M (.map (([ent 1 numF 0,ent 2 numF 1,ent 3 (clo b3) 2]:List MapEntry) ++ [ent 4 (clo b4) ([ent 1 numF 0,ent 2 numF 1,ent 3 (clo b3) 2]:List MapEntry).length]).toArray (([ent 1 numF 0,ent 2 numF 1,ent 3 (clo b3) 2]:List MapEntry).length + 1)))=W:=⟨_,rfl⟩
 have m4':W4.heap[M]? = some (.map ([ent 1 numF 0,ent 2 numF 1,ent 3 (clo b3) 2,ent 4 (clo b4) 3]:List MapEntry).toArray ([ent 1 numF 0,ent 2 numF 1,ent 3 (clo b3) 2,ent 4 (clo b4) 3]:List MapEntry).length):=by rw [← hW];exact put_same m3a
 have n4':New w W4:=by rw [← hW];exact n3a.putObj hMw _
 have s4:M + 1 ≤ W4.heap.size:=by rw [← hW];simp;exact s3a
 have x2:Boxed W4 b3 33 (fn 122):=by rw [← hW];exact boxed_put x2 (by omega) _
 have x3:Boxed W4 b4 33 (fn 15):=by rw [← hW];exact boxed_put x3 (by omega) _
 have hW':w4.putObj M (.map ([ent 1 numF 0,ent 2 numF 1,ent 3 (clo b3) 2,ent 4 (clo b4) 3]:List MapEntry).toArray 4)=W4:=hW
 first | rw [hW'] | rw [hW]
 clear hW hW' m3a n3a s3a
 refine (HP.out 123 _).mono ?_
 rintro e w5 ⟨rfl,hw⟩
 obtain ⟨b5,hb⟩:∃ b,W4.heap.size=b:=⟨_,rfl⟩
 have hN:New W4 w5:=by rw [← hw];exact (Mods.refl _ _).alloc _
 have x4:Boxed w5 b5 33 (fn 123):=by rw [← hw,← hb];exact Boxed.new W4 _ _
 have x2:=hN.boxed x2 id
 have x3:=hN.boxed x3 id
 have m4a:=hN.heap m4' id
 have n4a:=n4'.trans hN
 have s4a:M + 1 ≤ w5.heap.size:=by have:=hN.size;omega
 have t4:M < b5:=by omega
 rw [hb]
 clear hw hb hN m4' n4' s4
 have m5a:(w5.putObj M (.map (([ent 1 numF 0,ent 2 numF 1,ent 3 (clo b3) 2,ent 4 (clo b4) 3]:List MapEntry) ++ [ent 5 (clo b5) ([ent 1 numF 0,ent 2 numF 1,ent 3 (clo b3) 2,ent 4 (clo b4) 3]:List MapEntry).length]).toArray (([ent 1 numF 0,ent 2 numF 1,ent 3 (clo b3) 2,ent 4 (clo b4) 3]:List MapEntry).length + 1))).heap[M]? = some (.map ([ent 1 numF 0,ent 2 numF 1,ent 3 (clo b3) 2,ent 4 (clo b4) 3,ent 5 (clo b5) 4]:List MapEntry).toArray ([ent 1 numF 0,ent 2 numF 1,ent 3 (clo b3) 2,ent 4 (clo b4) 3,ent 5 (clo b5) 4]:List MapEntry).length):=put_same m4a
 go_wp2_with (first | (refine op_skip rfl (run_insert (.tmp 3) (.tmp 11) 5 rfl M ([ent 1 numF 0,ent 2 numF 1,ent 3 (clo b3) 2,ent 4 (clo b4) 3]:List MapEntry) (clo b5) rfl rfl m4a (fun e he=>by simp at he;rcases he with rfl | rfl | rfl | rfl <;> exact ⟨_,rfl,by decide⟩)) ?_) | (refine op_skip rfl (run_insert (.tmp 3) (.func 124) 6 rfl M ([ent 1 numF 0,ent 2 numF 1,ent 3 (clo b3) 2,ent 4 (clo b4) 3,ent 5 (clo b5) 4]:List MapEntry) boolF rfl rfl m5a (fun e he=>by simp at he;rcases he with rfl | rfl | rfl | rfl | rfl <;> exact ⟨_,rfl,by decide⟩)) ?_))
 go_ret
 refine ⟨M,b3,b4,b5,rfl,⟨put_same m5a,?_,?_,?_⟩,(n4a.putObj hMw _).putObj hMw _⟩
 ·exact boxed_put (boxed_put x2 (by omega) _) (by omega) _
 ·exact boxed_put (boxed_put x3 (by omega) _) (by omega) _
 ·exact boxed_put (boxed_put x4 (by omega) _) (by omega) _
theorem opIn_call' {P:Program} {ops:Array Oper} {Q:Exit→Act→World→Prop} {r:Option Nat} {i:Nat} {o:Oper} (d:Option Tmp) {a:Act} {w:World} {K:Act→World→Prop} (hp:plainOp o=true) (hi:ops[i]? = some o) (hg:o.guard=none) (hd:o.dst=d)
  (f:FuncId) (args:Array Value) (h:(execOp a.eval o).run P w = .ok (.enter f args) w) (hc:Calls P f args w fun e w'=>∃ v,e = .returned v∧K (a.put d v) w'):wpOpIn (Fr r) 0 P ops Q i K a w:=by
 subst hd
 unfold Go.wpOpIn
 simp only [hi,Region.wanted,hg,if_true,Oper.wpIn,semAt_plain hp,h]
 refine ⟨fun _ _=>trivial,fun h=>by simp [Fence.wide] at h,(callsIn_wide (n:=0)).2 (hc.mono ?_)⟩
 rintro e w' ⟨v,rfl,hk⟩
 exact hk
def fval (k b3 b4 b5:Nat):Value:=if k=1 ∨ k=2 then numF else if k=3 then clo b3 else if k=4 then clo b4 else if k=5 then clo b5 else if k=6 then boolF else .nilFunc
theorem look_fits {W:World} {M b3 b4 b5:Nat} (h:FitsAt W M b3 b4 b5) (k:Nat):(Instr.lookup 70 (.map (some M)) (.int .u8 (k:Nat)) false).run Tryz.prog W = .ok (fval k b3 b4 b5) W:=by
 unfold fval
 by_cases h1:k=1
 ·subst h1;exact run_look W M _ 6 1 0 _ (by simp) h.map rfl
 by_cases h2:k=2
 ·subst h2;exact run_look W M _ 6 2 1 _ (by simp) h.map rfl
 by_cases h3:k=3
 ·subst h3;exact run_look W M _ 6 3 2 _ (by simp) h.map rfl
 by_cases h4:k=4
 ·subst h4;exact run_look W M _ 6 4 3 _ (by simp) h.map rfl
 by_cases h5:k=5
 ·subst h5;exact run_look W M _ 6 5 4 _ (by simp) h.map rfl
 by_cases h6:k=6
 ·subst h6;exact run_look W M _ 6 6 5 _ (by simp) h.map rfl
 rw [if_neg (by omega),if_neg h3,if_neg h4,if_neg h5,if_neg h6]
 refine run_look_none W M _ 6 k (by simp) h.map (findNow_none k _ 0 ?_)
 intro e he
 simp at he
 rcases he with rfl | rfl | rfl | rfl | rfl | rfl
 ·exact ⟨1,rfl,fun e=>h1 e.symm⟩
 ·exact ⟨2,rfl,fun e=>h2 e.symm⟩
 ·exact ⟨3,rfl,fun e=>h3 e.symm⟩
 ·exact ⟨4,rfl,fun e=>h4 e.symm⟩
 ·exact ⟨5,rfl,fun e=>h5 e.symm⟩
 ·exact ⟨6,rfl,fun e=>h6 e.symm⟩
theorem eqF (d:Nat) (f:Fn) (l m:Array Value) (w:World):(Op.equalIn (d + 1) 32 (.func f l m) .nilFunc).run Tryz.prog w = .ok false w:=by
 simp only [Op.equalIn,Sem.run_bind,run_underlying Tryz.underlying32 w,Result.andThen_ok]
 rfl
theorem eqN (d:Nat) (w:World):(Op.equalIn (d + 1) 32 .nilFunc .nilFunc).run Tryz.prog w = .ok true w:=by
 simp only [Op.equalIn,Sem.run_bind,run_underlying Tryz.underlying32 w,Result.andThen_ok]
 rfl
theorem neqF (f:Fn) (l m:Array Value) (w:World):(binOp .neq 32 (.func f l m) .nilFunc).run Tryz.prog w = .ok (.bool true) w:=by
 have h2:=eqF 9999 f l m w
 simp only [binOp]
 simp [Op.equal,Op.maxDepth,h2]
theorem neqN (w:World):(binOp .neq 32 .nilFunc .nilFunc).run Tryz.prog w = .ok (.bool false) w:=by
 have h2:=eqN 9999 w
 simp only [binOp]
 simp [Op.equal,Op.maxDepth,h2]
theorem info_bare:(Tryz.prog.info? 23).map (·.size)=some 4:=by kernel_rfl
theorem right_none (b:Bare.It) (k:Nat) (hk:b.kind=k) (hno:∀ b3 b4 b5,fval k b3 b4 b5 = .nilFunc) (w:World) :
  Calls Tryz.prog 13 #[bv b] w fun e w'=>e = .returned (.bool false)∧New w w':=by
 have HD:=Lib.hid fits_any
 have HN:=Lib.hid hno
 clear hno
 obtain ⟨hN,hr⟩:=box_row w b
 obtain ⟨kk,n,t,y⟩:=b
 simp only at hk
 subst hk
 unfold bv bcs at *
 simp only at hN hr ⊢
 obtain ⟨s,hs⟩:∃ s,tx t=s:=⟨_,rfl⟩
 rw [hs] at hr hN ⊢
 clear hs
 have k0:=cell_of_row _ _ 0 _ _ _ hr
 simp only [List.getElem?_toArray,List.getElem?_cons_zero] at k0
 go_enter Tryz.func13,Tryz.ntmps13
 go_upto_region 1 with fail
 obtain ⟨W0,hW0⟩:∃ W0,w.alloc (.cells #[.int .u8 (k:Nat),.int .i64 n,.string s,.bool y] 23)=W0:=⟨_,rfl⟩
 obtain ⟨B,hB⟩:∃ B,w.heap.size=B:=⟨_,rfl⟩
 rw [hW0] at hN k0 ⊢
 rw [hB] at k0 ⊢
 clear hW0 hr hB
 refine (wpIn_wide (n:=0)).1 ?_
 refine wpIn_region_any (by kernel_rfl) ?_
 show wpAnyIn _ _ _ _ _ _ _ _ _ W0.drew
 have hNd:New w W0.drew:=hN.drew
 have hcd:W0.drew.cell? ⟨B,0,none⟩=some (.int .u8 (k:Nat)):=k0
 obtain ⟨Wd,hWd⟩:∃ W,W0.drew=W:=⟨_,rfl⟩
 rw [hWd] at hNd hcd ⊢
 clear hWd hN k0
 refine any_take 1 (some 5) (.pointer (some ⟨B,0,none⟩)) rfl rfl (by kernel_rfl) (by kernel_rfl) (by kernel_rfl) (fun _ _ _ h=>h) (.value rfl fun w=>by go_simp) ?_
 simp only [pS]
 refine wpAnyIn_all (rs:=[0,2]) (by kernel_rfl) (by simp) ?_
 simp only [List.mem_cons,List.not_mem_nil,or_false,forall_eq_or_imp,forall_eq]
 refine ⟨?ord1,?ord2⟩
 case' ord1 =>
  refine opIn_call' (some 4) rfl rfl rfl rfl 65 #[] (by go_simp) ((HD.out _).mono ?_)
  rintro e w1 ⟨M,b3,b4,b5,rfl,hM,hN1⟩
  refine ⟨_,rfl,?_⟩
  have hc1:=hN1.cell hcd id
  refine wpAnyIn_all (rs:=[2]) (by kernel_rfl) (by simp) ?_
  simp only [List.mem_cons,List.not_mem_nil,or_false,forall_eq]
  refine opIn_value (some 6) (v:=.int .u8 (k:Nat)) (w':=w1) rfl rfl rfl rfl (by go_simp) ?_
 case' ord2 =>
  refine opIn_value (some 6) (v:=.int .u8 (k:Nat)) (w':=Wd) rfl rfl rfl rfl (by go_simp) ?_
  refine wpAnyIn_all (rs:=[0]) (by kernel_rfl) (by simp) ?_
  simp only [List.mem_cons,List.not_mem_nil,or_false,forall_eq]
  refine opIn_call' (some 4) rfl rfl rfl rfl 65 #[] (by go_simp) ((HD.out _).mono ?_)
  rintro e w1 ⟨M,b3,b4,b5,rfl,hM,hN1⟩
  refine ⟨_,rfl,?_⟩
 all_goals
  simp only [pS]
  refine wpAnyIn_all (rs:=[3]) (by kernel_rfl) (by simp) ?_
  simp only [List.mem_cons,List.not_mem_nil,or_false,forall_eq]
  have hlk:=look_fits hM k
  rw [HN.out] at hlk
  refine opIn_value (some 7) (v:=.nilFunc) (w':=w1) rfl rfl rfl rfl (by go_simp) ?_
  simp only [pS]
  refine wpAnyIn_all (rs:=[4]) (by kernel_rfl) (by simp) ?_
  simp only [List.mem_cons,List.not_mem_nil,or_false,forall_eq]
  refine opIn_value (some 3) (v:=.nilFunc) (w':=w1) rfl rfl rfl rfl (by go_simp) ?_
  simp only [pS]
  refine wpAnyIn_done (by kernel_rfl) ?_ _
  have hne:=neqN
  go_wp2_with fail
  go_ret
  exact ⟨rfl,hNd.trans hN1⟩
theorem right_yes (b:Bare.It) (k:Nat) (hk:b.kind=k) (r:Bool)
  (hcall:∀ W M b3 b4 b5,FitsAt W M b3 b4 b5→∃ g lb,fval k b3 b4 b5 = .func (.func g) #[] lb∧(∀ args w,(callFunc g args).run Tryz.prog w = .ok (.enter g args) w)∧Calls Tryz.prog g (#[bv b] ++ lb) W fun e w'=>e = .returned (.bool r)∧New W w') (w:World) :
  Calls Tryz.prog 13 #[bv b] w fun e w'=>e = .returned (.bool r)∧New w w':=by
 have HD:=Lib.hid fits_any
 have HC:=Lib.hid hcall
 clear hcall
 obtain ⟨hN,hr⟩:=box_row w b
 obtain ⟨kk,n,t,y⟩:=b
 simp only at hk
 subst hk
 unfold bv bcs at *
 simp only at hN hr HC ⊢
 obtain ⟨s,hs⟩:∃ s,tx t=s:=⟨_,rfl⟩
 rw [hs] at hr hN HC ⊢
 clear hs
 have k0:=cell_of_row _ _ 0 _ _ _ hr
 simp only [List.getElem?_toArray,List.getElem?_cons_zero] at k0
 go_enter Tryz.func13,Tryz.ntmps13
 go_upto_region 1 with fail
 obtain ⟨W0,hW0⟩:∃ W0,w.alloc (.cells #[.int .u8 (k:Nat),.int .i64 n,.string s,.bool y] 23)=W0:=⟨_,rfl⟩
 obtain ⟨B,hB⟩:∃ B,w.heap.size=B:=⟨_,rfl⟩
 rw [hW0] at hN k0 hr ⊢
 rw [hB] at k0 hr ⊢
 clear hW0 hB
 refine (wpIn_wide (n:=0)).1 ?_
 refine wpIn_region_any (by kernel_rfl) ?_
 show wpAnyIn _ _ _ _ _ _ _ _ _ W0.drew
 have hNd:New w W0.drew:=hN.drew
 have hcd:W0.drew.cell? ⟨B,0,none⟩=some (.int .u8 (k:Nat)):=k0
 have hrd:W0.drew.heap[B]? = some (.cells #[.int .u8 (k:Nat),.int .i64 n,.string s,.bool y] 23 (0,0)):=hr
 obtain ⟨Wd,hWd⟩:∃ W,W0.drew=W:=⟨_,rfl⟩
 rw [hWd] at hNd hcd hrd ⊢
 clear hWd hN k0 hr
 refine any_take 1 (some 5) (.pointer (some ⟨B,0,none⟩)) rfl rfl (by kernel_rfl) (by kernel_rfl) (by kernel_rfl) (fun _ _ _ h=>h) (.value rfl fun w=>by go_simp) ?_
 simp only [pS]
 refine wpAnyIn_all (rs:=[0,2]) (by kernel_rfl) (by simp) ?_
 simp only [List.mem_cons,List.not_mem_nil,or_false,forall_eq_or_imp,forall_eq]
 refine ⟨?ord1,?ord2⟩
 case' ord1 =>
  refine opIn_call' (some 4) rfl rfl rfl rfl 65 #[] (by go_simp) ((HD.out _).mono ?_)
  rintro e w1 ⟨M,b3,b4,b5,rfl,hM,hN1⟩
  refine ⟨_,rfl,?_⟩
  have hc1:=hN1.cell hcd id
  refine wpAnyIn_all (rs:=[2]) (by kernel_rfl) (by simp) ?_
  simp only [List.mem_cons,List.not_mem_nil,or_false,forall_eq]
  refine opIn_value (some 6) (v:=.int .u8 (k:Nat)) (w':=w1) rfl rfl rfl rfl (by go_simp) ?_
 case' ord2 =>
  refine opIn_value (some 6) (v:=.int .u8 (k:Nat)) (w':=Wd) rfl rfl rfl rfl (by go_simp) ?_
  refine wpAnyIn_all (rs:=[0]) (by kernel_rfl) (by simp) ?_
  simp only [List.mem_cons,List.not_mem_nil,or_false,forall_eq]
  refine opIn_call' (some 4) rfl rfl rfl rfl 65 #[] (by go_simp) ((HD.out _).mono ?_)
  rintro e w1 ⟨M,b3,b4,b5,rfl,hM,hN1⟩
  refine ⟨_,rfl,?_⟩
 all_goals
  simp only [pS]
  refine wpAnyIn_all (rs:=[3]) (by kernel_rfl) (by simp) ?_
  simp only [List.mem_cons,List.not_mem_nil,or_false,forall_eq]
  have hlk:=look_fits hM k
  obtain ⟨g,lb,hv,eg,hcg⟩:=HC.out w1 M b3 b4 b5 hM
  rw [hv] at hlk
  have HG:=Lib.hid hcg
  have hrow:=hN1.heap hrd id
  clear hcg hv
  refine opIn_value (some 7) (v:=.func (.func g) #[] lb) (w':=w1) rfl rfl rfl rfl (by go_simp) ?_
  simp only [pS]
  refine wpAnyIn_all (rs:=[4]) (by kernel_rfl) (by simp) ?_
  simp only [List.mem_cons,List.not_mem_nil,or_false,forall_eq]
  refine opIn_value (some 3) (v:=.func (.func g) #[] lb) (w':=w1) rfl rfl rfl rfl (by go_simp) ?_
  simp only [pS]
  refine wpAnyIn_done (by kernel_rfl) ?_ _
  have hne:=neqF (.func g) #[] lb
  go_wp2_with (first | (refine op_value_g rfl (run_load_row 23 (.tmp 1) rfl B rfl 23 _ (0,0) _ hrow Tryz.underlying23 rfl info_bare) ?_))
  refine HG.out.mono ?_
  rintro e w2 ⟨rfl,hN2⟩
  go_wp2_with fail
  go_ret
  exact ⟨rfl,(hNd.trans hN1).trans hN2⟩
theorem token_T:PredT 15 Bare.tokB:=fun s w hs=>token_any s w (by omega)
theorem fits3_T:PredT 122 (fun l=>l.all Bare.plnB):=fun s w hs=>fits3_any s w (by omega)
theorem fits4_T:PredT 123 (fun _=>true):=fun s w hs=>fits4_any s w
theorem right_any (b:Bare.It) (h0:0 ≤ b.kind) (hl:b.text.length ≤ 100000000) (w:World) :
  Calls Tryz.prog 13 #[bv b] w fun e w'=>e = .returned (.bool (Bare.rightI b))∧New w w':=by
 obtain ⟨k,hk⟩:∃ k:Nat,b.kind=k:=⟨b.kind.toNat,by omega⟩
 by_cases h1:k=1 ∨ k=2
 ·have e:Bare.rightI b=numI b:=by unfold Bare.rightI numI;rw [if_pos (by omega)]
  rw [e]
  refine right_yes b k hk _ (fun W M b3 b4 b5 hF=>⟨119,#[],by unfold fval;rw [if_pos h1];rfl,enters_of Tryz.func119 (by kernel_rfl) rfl,fits1_any b W hl trivial⟩) w
 by_cases h3:k=3
 ·have e:Bare.rightI b=textI (fun l=>l.all Bare.plnB) b:=by unfold Bare.rightI textI;rw [if_neg (by omega),if_pos (by omega)]
  rw [e]
  refine right_yes b k hk _ (fun W M b3 b4 b5 hF=>⟨121,#[.pointer (some ⟨b3,0,none⟩)],by unfold fval;rw [if_neg h1,if_pos h3];rfl,enters_of Tryz.func121 (by kernel_rfl) rfl,fits21_any _ _ fits3_T (enters_of Tryz.func122 (by kernel_rfl) rfl) b3 b W hl hF.str⟩) w
 by_cases h4:k=4
 ·have e:Bare.rightI b=textI Bare.tokB b:=by unfold Bare.rightI textI;rw [if_neg (by omega),if_neg (by omega),if_pos (by omega)]
  rw [e]
  refine right_yes b k hk _ (fun W M b3 b4 b5 hF=>⟨121,#[.pointer (some ⟨b4,0,none⟩)],by unfold fval;rw [if_neg h1,if_neg h3,if_pos h4];rfl,enters_of Tryz.func121 (by kernel_rfl) rfl,fits21_any _ _ token_T (enters_of Tryz.func15 (by kernel_rfl) rfl) b4 b W hl hF.tok⟩) w
 by_cases h5:k=5
 ·have e:Bare.rightI b=textI (fun _=>true) b:=by unfold Bare.rightI textI;rw [if_neg (by omega),if_neg (by omega),if_neg (by omega),if_pos (by omega),Bool.and_true]
  rw [e]
  refine right_yes b k hk _ (fun W M b3 b4 b5 hF=>⟨121,#[.pointer (some ⟨b5,0,none⟩)],by unfold fval;rw [if_neg h1,if_neg h3,if_neg h4,if_pos h5];rfl,enters_of Tryz.func121 (by kernel_rfl) rfl,fits21_any _ _ fits4_T (enters_of Tryz.func123 (by kernel_rfl) rfl) b5 b W hl hF.byt⟩) w
 by_cases h6:k=6
 ·have e:Bare.rightI b=boolI b:=by unfold Bare.rightI boolI;rw [if_neg (by omega),if_neg (by omega),if_neg (by omega),if_neg (by omega),if_pos (by omega)]
  rw [e]
  refine right_yes b k hk _ (fun W M b3 b4 b5 hF=>⟨124,#[],by unfold fval;rw [if_neg h1,if_neg h3,if_neg h4,if_neg h5,if_pos h6];rfl,enters_of Tryz.func124 (by kernel_rfl) rfl,fits5_any b W hl trivial⟩) w
 have e:Bare.rightI b=false:=by unfold Bare.rightI;rw [if_neg (by omega),if_neg (by omega),if_neg (by omega),if_neg (by omega),if_neg (by omega)]
 rw [e]
 exact right_none b k hk (fun b3 b4 b5=>by unfold fval;rw [if_neg h1,if_neg h3,if_neg h4,if_neg h5,if_neg h6]) w
end Go.Proofs.YtnknmmbnhoanfaaGreatDoor
