/- Texts joined. -/
import Derived.Shelf.Strings.Builder1
import Derived.Shelf.Strings.Builder2
import Derived.Shelf.Strings.OnBuilder
import Derived.Shelf.Strings.Trim
import Derived.Shelf.Small.Utf8
import Derived.Shelf.Small.Strs
import Derived.Shelf.Small.Wraps
import Derived.Shelf.Strings.BuilderF
import Derived.Shelf.Strings.BuilderK
import Derived.Shelf.Strconv.Atoi
import Derived.Shelf.Strconv.Itoa0
import Derived.Shelf.Strconv.Itoa1
import Derived.Shelf.LaysM
import Derived.Shelf.Strconv.Itoa2
import Derived.Shelf.Strconv.Itoa3
import Derived.Shelf.Strings.Search1
import Derived.Shelf.Strings.Search2
import Derived.Shelf.Strings.Search3
import Derived.Shelf.Strings.Cut
import Derived.Shelf.Strings.Count
import Derived.Shelf.Strings.Shaped
import Derived.Shelf.Strings.Prefix
import Derived.Shelf.Strings.Split
import Derived.Shelf.Strings.Replace
import Derived.Shelf.Strings.Runes
import Derived.Shelf.Strings.AsciiSet
import Derived.Shelf.Unicode.DecodeSlow
import Derived.Shelf.Strings.SlTrimAscii
import Derived.Test.YtkiiameibdhdfaaGreatDoorProg
import Derived.Test.YtkiiameibdhdfaaGreatDoorP01
import Derived.MapKept
import Derived.BigRegion
import Derived.Lib.SmallJoins
import Derived.Test.YtkiiameibdhdfaaGreatDoorP00
import Derived.OwnWalkIn
import Derived.TacticsInMore
import Derived.LoopNIn
import Derived.LoopIn
import Derived.WalkLawsBesides
import Derived.Lib.AppendIntMem
import Derived.Test.YtkiiameibdhdfaaGreatDoorRows
import Derived.LaidMore
import Derived.OpenShut
import Derived.ProofKit
import Derived.Stop.Joined
import Derived.Lib.LaidTab
import Derived.HandedShaped
set_option linter.unusedSimpArgs false
set_option linter.unusedVariables false
/-
  DERIVED: THE SHELF's CONTRACTS AT THIS DUMP, IN PLAIN WORDS (tools/lay-plain.mjs out of 'TryzShelf.lean', which tools/lay-shelf.mjs wrote): THE SAME DECLARATIONS UNDER THE SAME NAMES: 'import', 'namespace', 'open', 'def', 'theorem' AND NOTHING ELSE: no command of the shelf's: FOR A HAND-IN. Each laying: the table of numbers ('.._ren') and one theorem, a field a fact of the dump's own or the kernel's comparison; each contract: ONE APPLICATION.
-/
namespace Go.Proofs
open Go.Shelf
def Tryz.lays161_ren : Go.Shelf.Ren := ⟨fun | 161 => 164 | 231 => 111 | 227 => 113 | 233 => 114 | 235 => 116 | 228 => 156 | 197 => 157 | 151 => 158 | 260 => 177 | 152 => 178 | 137 => 76 | 119 => 195 | 224 => 196 | 225 => 197 | 217 => 125 | 266 => 166 | n => n, fun | 9 => 9 | 4 => 4 | 3 => 3 | 5 => 5 | 117 => 166 | 116 => 165 | 0 => 0 | 124 => 169 | 105 => 191 | 21 => 21 | 119 => 218 | 46 => 133 | 139 => 221 | 138 => 220 | n => n, fun | 3 => 1 | 4 => 2 | n => n⟩
theorem Tryz.lays161 : Go.Proofs.Lays.n161 Tryz.prog Tryz.lays161_ren := {
  mixed := by kernel_rfl
  f119 := Tryz.func195.trans (congrArg some (by kernel_rfl))
  f137 := Tryz.func76.trans (congrArg some (by kernel_rfl))
  f151 := Tryz.func158.trans (congrArg some (by kernel_rfl))
  f152 := Tryz.func178.trans (congrArg some (by kernel_rfl))
  f161 := Tryz.func164.trans (congrArg some (by kernel_rfl))
  f197 := Tryz.func157.trans (congrArg some (by kernel_rfl))
  f217 := Tryz.func125.trans (congrArg some (by kernel_rfl))
  f224 := Tryz.func196.trans (congrArg some (by kernel_rfl))
  f225 := Tryz.func197.trans (congrArg some (by kernel_rfl))
  f227 := Tryz.func113.trans (congrArg some (by kernel_rfl))
  f228 := Tryz.func156.trans (congrArg some (by kernel_rfl))
  f231 := Tryz.func111.trans (congrArg some (by kernel_rfl))
  f233 := Tryz.func114.trans (congrArg some (by kernel_rfl))
  f235 := Tryz.func116.trans (congrArg some (by kernel_rfl))
  f260 := Tryz.func177.trans (congrArg some (by kernel_rfl))
  f266 := Tryz.func166.trans (congrArg some (by kernel_rfl))
  t0 := Tryz.underlying0
  a0 := Tryz.isAgg0
  z0 := Tryz.sizeOf0
  v0 := Tryz.zeroValue0
  t3 := Tryz.underlying3
  a3 := Tryz.isAgg3
  z3 := Tryz.sizeOf3
  v3 := Tryz.zeroValue3
  t4 := Tryz.underlying4
  a4 := Tryz.isAgg4
  z4 := Tryz.sizeOf4
  v4 := Tryz.zeroValue4
  t5 := Tryz.underlying5
  a5 := Tryz.isAgg5
  z5 := Tryz.sizeOf5
  v5 := Tryz.zeroValue5
  t9 := Tryz.underlying9
  a9 := Tryz.isAgg9
  z9 := Tryz.sizeOf9
  v9 := Tryz.zeroValue9
  t21 := Tryz.underlying21
  a21 := Tryz.isAgg21
  z21 := Tryz.sizeOf21
  v21 := Tryz.zeroValue21
  t46 := Tryz.underlying133
  a46 := Tryz.isAgg133
  z46 := Tryz.sizeOf133
  v46 := Tryz.zeroValue133
  t105 := Tryz.underlying191
  a105 := Tryz.isAgg191
  z105 := Tryz.sizeOf191
  v105 := Tryz.zeroValue191
  t116 := Tryz.underlying165
  a116 := Tryz.isAgg165
  z116 := Tryz.sizeOf165
  t117 := Tryz.underlying166
  a117 := Tryz.isAgg166
  z117 := Tryz.sizeOf166
  v117 := Tryz.zeroValue166
  t119 := Tryz.underlying218
  a119 := Tryz.isAgg218
  z119 := Tryz.sizeOf218
  t124 := Tryz.underlying169
  a124 := Tryz.isAgg169
  z124 := Tryz.sizeOf169
  v124 := Tryz.zeroValue169
  t138 := Tryz.underlying220
  a138 := Tryz.isAgg220
  z138 := Tryz.sizeOf220
  v138 := Tryz.zeroValue220
  t139 := Tryz.underlying221
  a139 := Tryz.isAgg221
  z139 := Tryz.sizeOf221
  v139 := Tryz.zeroValue221
  g3 := by kernel_rfl
  g4 := by kernel_rfl }
def Tryz.lays162_ren : Go.Shelf.Ren := ⟨fun | 162 => 141 | 232 => 112 | 227 => 113 | 234 => 115 | 236 => 117 | 228 => 156 | 271 => 159 | 151 => 158 | 120 => 179 | 197 => 157 | 152 => 178 | 260 => 177 | 137 => 76 | 119 => 195 | 224 => 196 | 225 => 197 | 217 => 125 | 266 => 166 | n => n, fun | 9 => 9 | 4 => 4 | 3 => 3 | 5 => 5 | 117 => 166 | 116 => 165 | 0 => 0 | 124 => 169 | 21 => 21 | 105 => 191 | 46 => 133 | 119 => 218 | 139 => 221 | 138 => 220 | n => n, fun | 3 => 1 | 4 => 2 | n => n⟩
theorem Tryz.lays162 : Go.Proofs.Lays.n162 Tryz.prog Tryz.lays162_ren := {
  mixed := by kernel_rfl
  f119 := Tryz.func195.trans (congrArg some (by kernel_rfl))
  f120 := Tryz.func179.trans (congrArg some (by kernel_rfl))
  f137 := Tryz.func76.trans (congrArg some (by kernel_rfl))
  f151 := Tryz.func158.trans (congrArg some (by kernel_rfl))
  f152 := Tryz.func178.trans (congrArg some (by kernel_rfl))
  f162 := Tryz.func141.trans (congrArg some (by kernel_rfl))
  f197 := Tryz.func157.trans (congrArg some (by kernel_rfl))
  f217 := Tryz.func125.trans (congrArg some (by kernel_rfl))
  f224 := Tryz.func196.trans (congrArg some (by kernel_rfl))
  f225 := Tryz.func197.trans (congrArg some (by kernel_rfl))
  f227 := Tryz.func113.trans (congrArg some (by kernel_rfl))
  f228 := Tryz.func156.trans (congrArg some (by kernel_rfl))
  f232 := Tryz.func112.trans (congrArg some (by kernel_rfl))
  f234 := Tryz.func115.trans (congrArg some (by kernel_rfl))
  f236 := Tryz.func117.trans (congrArg some (by kernel_rfl))
  f260 := Tryz.func177.trans (congrArg some (by kernel_rfl))
  f266 := Tryz.func166.trans (congrArg some (by kernel_rfl))
  f271 := Tryz.func159.trans (congrArg some (by kernel_rfl))
  t0 := Tryz.underlying0
  a0 := Tryz.isAgg0
  z0 := Tryz.sizeOf0
  v0 := Tryz.zeroValue0
  t3 := Tryz.underlying3
  a3 := Tryz.isAgg3
  z3 := Tryz.sizeOf3
  v3 := Tryz.zeroValue3
  t4 := Tryz.underlying4
  a4 := Tryz.isAgg4
  z4 := Tryz.sizeOf4
  v4 := Tryz.zeroValue4
  t5 := Tryz.underlying5
  a5 := Tryz.isAgg5
  z5 := Tryz.sizeOf5
  v5 := Tryz.zeroValue5
  t9 := Tryz.underlying9
  a9 := Tryz.isAgg9
  z9 := Tryz.sizeOf9
  v9 := Tryz.zeroValue9
  t21 := Tryz.underlying21
  a21 := Tryz.isAgg21
  z21 := Tryz.sizeOf21
  v21 := Tryz.zeroValue21
  t46 := Tryz.underlying133
  a46 := Tryz.isAgg133
  z46 := Tryz.sizeOf133
  v46 := Tryz.zeroValue133
  t105 := Tryz.underlying191
  a105 := Tryz.isAgg191
  z105 := Tryz.sizeOf191
  v105 := Tryz.zeroValue191
  t116 := Tryz.underlying165
  a116 := Tryz.isAgg165
  z116 := Tryz.sizeOf165
  t117 := Tryz.underlying166
  a117 := Tryz.isAgg166
  z117 := Tryz.sizeOf166
  v117 := Tryz.zeroValue166
  t119 := Tryz.underlying218
  a119 := Tryz.isAgg218
  z119 := Tryz.sizeOf218
  t124 := Tryz.underlying169
  a124 := Tryz.isAgg169
  z124 := Tryz.sizeOf169
  v124 := Tryz.zeroValue169
  t138 := Tryz.underlying220
  a138 := Tryz.isAgg220
  z138 := Tryz.sizeOf220
  v138 := Tryz.zeroValue220
  t139 := Tryz.underlying221
  a139 := Tryz.isAgg221
  z139 := Tryz.sizeOf221
  v139 := Tryz.zeroValue221
  g3 := by kernel_rfl
  g4 := by kernel_rfl }
open Go.RowKit in
/-- strings.TrimRight: "TrimRight returns a slice of the string s, with all trailing Unicode code points contained in cutset removed.": AT A cutset OF ONE ASCII BYTE. The world is as it was. (LAID: no walk: one application.) -/
theorem Tryz.strings_TrimRight_one (s : ByteArray) (c : UInt8) (hc : c.toNat < 128) (w : World) (hs : s.size ≤ 9223372036854775807) :
    Calls Tryz.prog 141 #[.string s, .string ⟨#[c]⟩] w fun e w' => e = .returned (.string ⟨(Lib.trimRightB s.data.toList c).toArray⟩) ∧ w' = w := Any.strings_TrimRight_one Tryz.lays162 s c hc w hs
def Tryz.lays160_ren : Go.Shelf.Ren := ⟨fun | 160 => 69 | 232 => 112 | 231 => 111 | 227 => 113 | 234 => 115 | 233 => 114 | 236 => 117 | 235 => 116 | 228 => 156 | 271 => 159 | 151 => 158 | 197 => 157 | 120 => 179 | 152 => 178 | 260 => 177 | 137 => 76 | 119 => 195 | 224 => 196 | 225 => 197 | 217 => 125 | 266 => 166 | n => n, fun | 9 => 9 | 4 => 4 | 3 => 3 | 5 => 5 | 117 => 166 | 116 => 165 | 0 => 0 | 124 => 169 | 21 => 21 | 105 => 191 | 46 => 133 | 119 => 218 | 139 => 221 | 138 => 220 | n => n, fun | 3 => 1 | 4 => 2 | n => n⟩
theorem Tryz.lays160 : Go.Proofs.Lays.n160 Tryz.prog Tryz.lays160_ren := {
  mixed := by kernel_rfl
  f119 := Tryz.func195.trans (congrArg some (by kernel_rfl))
  f120 := Tryz.func179.trans (congrArg some (by kernel_rfl))
  f137 := Tryz.func76.trans (congrArg some (by kernel_rfl))
  f151 := Tryz.func158.trans (congrArg some (by kernel_rfl))
  f152 := Tryz.func178.trans (congrArg some (by kernel_rfl))
  f160 := Tryz.func69.trans (congrArg some (by kernel_rfl))
  f197 := Tryz.func157.trans (congrArg some (by kernel_rfl))
  f217 := Tryz.func125.trans (congrArg some (by kernel_rfl))
  f224 := Tryz.func196.trans (congrArg some (by kernel_rfl))
  f225 := Tryz.func197.trans (congrArg some (by kernel_rfl))
  f227 := Tryz.func113.trans (congrArg some (by kernel_rfl))
  f228 := Tryz.func156.trans (congrArg some (by kernel_rfl))
  f231 := Tryz.func111.trans (congrArg some (by kernel_rfl))
  f232 := Tryz.func112.trans (congrArg some (by kernel_rfl))
  f233 := Tryz.func114.trans (congrArg some (by kernel_rfl))
  f234 := Tryz.func115.trans (congrArg some (by kernel_rfl))
  f235 := Tryz.func116.trans (congrArg some (by kernel_rfl))
  f236 := Tryz.func117.trans (congrArg some (by kernel_rfl))
  f260 := Tryz.func177.trans (congrArg some (by kernel_rfl))
  f266 := Tryz.func166.trans (congrArg some (by kernel_rfl))
  f271 := Tryz.func159.trans (congrArg some (by kernel_rfl))
  t0 := Tryz.underlying0
  a0 := Tryz.isAgg0
  z0 := Tryz.sizeOf0
  v0 := Tryz.zeroValue0
  t3 := Tryz.underlying3
  a3 := Tryz.isAgg3
  z3 := Tryz.sizeOf3
  v3 := Tryz.zeroValue3
  t4 := Tryz.underlying4
  a4 := Tryz.isAgg4
  z4 := Tryz.sizeOf4
  v4 := Tryz.zeroValue4
  t5 := Tryz.underlying5
  a5 := Tryz.isAgg5
  z5 := Tryz.sizeOf5
  v5 := Tryz.zeroValue5
  t9 := Tryz.underlying9
  a9 := Tryz.isAgg9
  z9 := Tryz.sizeOf9
  v9 := Tryz.zeroValue9
  t21 := Tryz.underlying21
  a21 := Tryz.isAgg21
  z21 := Tryz.sizeOf21
  v21 := Tryz.zeroValue21
  t46 := Tryz.underlying133
  a46 := Tryz.isAgg133
  z46 := Tryz.sizeOf133
  v46 := Tryz.zeroValue133
  t105 := Tryz.underlying191
  a105 := Tryz.isAgg191
  z105 := Tryz.sizeOf191
  v105 := Tryz.zeroValue191
  t116 := Tryz.underlying165
  a116 := Tryz.isAgg165
  z116 := Tryz.sizeOf165
  t117 := Tryz.underlying166
  a117 := Tryz.isAgg166
  z117 := Tryz.sizeOf166
  v117 := Tryz.zeroValue166
  t119 := Tryz.underlying218
  a119 := Tryz.isAgg218
  z119 := Tryz.sizeOf218
  t124 := Tryz.underlying169
  a124 := Tryz.isAgg169
  z124 := Tryz.sizeOf169
  v124 := Tryz.zeroValue169
  t138 := Tryz.underlying220
  a138 := Tryz.isAgg220
  z138 := Tryz.sizeOf220
  v138 := Tryz.zeroValue220
  t139 := Tryz.underlying221
  a139 := Tryz.isAgg221
  z139 := Tryz.sizeOf221
  v139 := Tryz.zeroValue221
  g3 := by kernel_rfl
  g4 := by kernel_rfl }
open Go.RowKit in
/-- strings.Trim: "Trim returns a slice of the string s with all leading and trailing Unicode code points contained in cutset removed.": AT A cutset OF ONE ASCII BYTE. THE WORLD BEHIND IT: as it was, or (where s is not empty) with ONE DRAW MORE off the tape: the statement 'return trimLeftByte(trimRightByte(s, c), c)' draws its order of evaluation. (LAID: no walk: one application.) -/
theorem Tryz.strings_Trim_one (s : ByteArray) (c : UInt8) (hc : c.toNat < 128) (w : World) (hs : s.size ≤ 9223372036854775807) :
    Calls Tryz.prog 69 #[.string s, .string ⟨#[c]⟩] w fun e w' => e = .returned (.string ⟨(Lib.trimB s.data.toList c).toArray⟩) ∧ (w' = w ∨ w' = w.drew) := Any.strings_Trim_one Tryz.lays160 s c hc w hs
def Tryz.lays137_ren : Go.Shelf.Ren := ⟨fun | 137 => 76 | 217 => 125 | 266 => 166 | n => n, fun | 9 => 9 | 5 => 5 | 3 => 3 | n => n, fun | n => n⟩
theorem Tryz.lays137 : Go.Proofs.Lays.n137 Tryz.prog Tryz.lays137_ren := {
  mixed := by kernel_rfl
  f137 := Tryz.func76.trans (congrArg some (by kernel_rfl))
  f217 := Tryz.func125.trans (congrArg some (by kernel_rfl))
  f266 := Tryz.func166.trans (congrArg some (by kernel_rfl))
  t3 := Tryz.underlying3
  a3 := Tryz.isAgg3
  z3 := Tryz.sizeOf3
  v3 := Tryz.zeroValue3
  t5 := Tryz.underlying5
  a5 := Tryz.isAgg5
  z5 := Tryz.sizeOf5
  v5 := Tryz.zeroValue5
  t9 := Tryz.underlying9
  a9 := Tryz.isAgg9
  z9 := Tryz.sizeOf9
  v9 := Tryz.zeroValue9 }
open Go.RowKit in
/-- strings.IndexByte: "IndexByte returns the index of the first instance of c in s, or -1 if c is not present in s.": IT RETURNS 'Lib.indexByte s c'; the world is as it was. (LAID: no walk: one application.) -/
theorem Tryz.strings_IndexByte (s : ByteArray) (c : Int) (w : World) :
    Calls Tryz.prog 76 #[.string s, .int .u8 c] w fun e w' => e = .returned (.int .i64 (Lib.indexByte s.data.toList c.toNat.toUInt8)) ∧ w' = w := Any.strings_IndexByte Tryz.lays137 s c w
def Tryz.lays103_ren : Go.Shelf.Ren := ⟨fun | 103 => 165 | 210 => 183 | 206 => 198 | n => n, fun | 9 => 9 | 4 => 4 | 24 => 196 | 3 => 3 | n => n, fun | n => n⟩
theorem Tryz.lays103 : Go.Proofs.Lays.n103 Tryz.prog Tryz.lays103_ren := {
  mixed := by kernel_rfl
  f103 := Tryz.func165.trans (congrArg some (by kernel_rfl))
  f206 := Tryz.func198.trans (congrArg some (by kernel_rfl))
  f210 := Tryz.func183.trans (congrArg some (by kernel_rfl))
  t3 := Tryz.underlying3
  a3 := Tryz.isAgg3
  z3 := Tryz.sizeOf3
  v3 := Tryz.zeroValue3
  t4 := Tryz.underlying4
  a4 := Tryz.isAgg4
  z4 := Tryz.sizeOf4
  v4 := Tryz.zeroValue4
  t9 := Tryz.underlying9
  a9 := Tryz.isAgg9
  z9 := Tryz.sizeOf9
  v9 := Tryz.zeroValue9
  t24 := Tryz.underlying196
  a24 := Tryz.isAgg196
  z24 := Tryz.sizeOf196
  v24 := Tryz.zeroValue196 }
open Go.RowKit in
/-- strings.CutPrefix: "CutPrefix returns s without the provided leading prefix string and reports whether it found the prefix. If s doesn't start with prefix, CutPrefix returns s, false. If prefix is the empty string, CutPrefix returns s, true.": IT RETURNS '(Lib.trimPrefix s p, Lib.hasPrefix s p)'; the world is as it was. (LAID: no walk: one application.) -/
theorem Tryz.strings_CutPrefix (s p : ByteArray) (w : World) :
    Calls Tryz.prog 165 #[.string s, .string p] w fun e w' => e = .returned (.tuple #[.string ⟨(Lib.trimPrefix s.data.toList p.data.toList).toArray⟩, .bool (Lib.hasPrefix s.data.toList p.data.toList)]) ∧ w' = w := Any.strings_CutPrefix Tryz.lays103 s p w
def Tryz.lays172_ren : Go.Shelf.Ren := ⟨fun | 172 => 218 | 244 => 222 | 245 => 223 | 247 => 225 | 279 => 226 | 280 => 227 | 281 => 228 | 282 => 229 | 287 => 230 | 316 => 231 | 171 => 99 | 205 => 232 | 321 => 233 | 322 => 234 | 243 => 140 | 246 => 169 | 283 => 188 | 284 => 189 | 285 => 190 | 286 => 191 | 129 => 204 | 317 => 203 | 318 => 205 | 319 => 206 | 320 => 207 | 337 => 214 | 338 => 215 | n => n, fun | 9 => 9 | 3 => 3 | 75 => 152 | 76 => 153 | 4 => 4 | 5 => 5 | 167 => 237 | 37 => 113 | 0 => 0 | 85 => 238 | 2 => 2 | 168 => 240 | 53 => 212 | 175 => 243 | 46 => 133 | 210 => 246 | 127 => 188 | 145 => 251 | 143 => 249 | 21 => 21 | 171 => 211 | 173 => 215 | 212 => 226 | 51 => 32 | 20 => 20 | 213 => 227 | 232 => 234 | 233 => 235 | 80 => 155 | n => n, fun | 15 => 6 | 16 => 7 | 17 => 3 | 18 => 4 | 19 => 5 | n => n⟩
theorem Tryz.lays172 : Go.Proofs.Lays.n172 Tryz.prog Tryz.lays172_ren := {
  mixed := by kernel_rfl
  f129 := Tryz.func204.trans (congrArg some (by kernel_rfl))
  f171 := Tryz.func99.trans (congrArg some (by kernel_rfl))
  f172 := Tryz.func218.trans (congrArg some (by kernel_rfl))
  f205 := Tryz.func232.trans (congrArg some (by kernel_rfl))
  f243 := Tryz.func140.trans (congrArg some (by kernel_rfl))
  f244 := Tryz.func222.trans (congrArg some (by kernel_rfl))
  f245 := Tryz.func223.trans (congrArg some (by kernel_rfl))
  f246 := Tryz.func169.trans (congrArg some (by kernel_rfl))
  f247 := Tryz.func225.trans (congrArg some (by kernel_rfl))
  f279 := Tryz.func226.trans (congrArg some (by kernel_rfl))
  f280 := Tryz.func227.trans (congrArg some (by kernel_rfl))
  f281 := Tryz.func228.trans (congrArg some (by kernel_rfl))
  f282 := Tryz.func229.trans (congrArg some (by kernel_rfl))
  f283 := Tryz.func188.trans (congrArg some (by kernel_rfl))
  f284 := Tryz.func189.trans (congrArg some (by kernel_rfl))
  f285 := Tryz.func190.trans (congrArg some (by kernel_rfl))
  f286 := Tryz.func191.trans (congrArg some (by kernel_rfl))
  f287 := Tryz.func230.trans (congrArg some (by kernel_rfl))
  f316 := Tryz.func231.trans (congrArg some (by kernel_rfl))
  f317 := Tryz.func203.trans (congrArg some (by kernel_rfl))
  f318 := Tryz.func205.trans (congrArg some (by kernel_rfl))
  f319 := Tryz.func206.trans (congrArg some (by kernel_rfl))
  f320 := Tryz.func207.trans (congrArg some (by kernel_rfl))
  f321 := Tryz.func233.trans (congrArg some (by kernel_rfl))
  f322 := Tryz.func234.trans (congrArg some (by kernel_rfl))
  f337 := Tryz.func214.trans (congrArg some (by kernel_rfl))
  f338 := Tryz.func215.trans (congrArg some (by kernel_rfl))
  t0 := Tryz.underlying0
  a0 := Tryz.isAgg0
  z0 := Tryz.sizeOf0
  v0 := Tryz.zeroValue0
  t2 := Tryz.underlying2
  a2 := Tryz.isAgg2
  z2 := Tryz.sizeOf2
  v2 := Tryz.zeroValue2
  t3 := Tryz.underlying3
  a3 := Tryz.isAgg3
  z3 := Tryz.sizeOf3
  v3 := Tryz.zeroValue3
  t4 := Tryz.underlying4
  a4 := Tryz.isAgg4
  z4 := Tryz.sizeOf4
  v4 := Tryz.zeroValue4
  t5 := Tryz.underlying5
  a5 := Tryz.isAgg5
  z5 := Tryz.sizeOf5
  v5 := Tryz.zeroValue5
  t9 := Tryz.underlying9
  a9 := Tryz.isAgg9
  z9 := Tryz.sizeOf9
  v9 := Tryz.zeroValue9
  t20 := Tryz.underlying20
  a20 := Tryz.isAgg20
  z20 := Tryz.sizeOf20
  v20 := Tryz.zeroValue20
  t21 := Tryz.underlying21
  a21 := Tryz.isAgg21
  z21 := Tryz.sizeOf21
  v21 := Tryz.zeroValue21
  t37 := Tryz.underlying113
  a37 := Tryz.isAgg113
  z37 := Tryz.sizeOf113
  v37 := Tryz.zeroValue113
  t46 := Tryz.underlying133
  a46 := Tryz.isAgg133
  z46 := Tryz.sizeOf133
  v46 := Tryz.zeroValue133
  t51 := Tryz.underlying32
  a51 := Tryz.isAgg32
  z51 := Tryz.sizeOf32
  v51 := Tryz.zeroValue32
  t53 := Tryz.underlying212
  a53 := Tryz.isAgg212
  z53 := Tryz.sizeOf212
  v53 := Tryz.zeroValue212
  t75 := Tryz.underlying152
  a75 := Tryz.isAgg152
  z75 := Tryz.sizeOf152
  v75 := Tryz.zeroValue152
  t76 := Tryz.underlying153
  a76 := Tryz.isAgg153
  z76 := Tryz.sizeOf153
  v76 := Tryz.zeroValue153
  t85 := Tryz.underlying238
  a85 := Tryz.isAgg238
  z85 := Tryz.sizeOf238
  v85 := Tryz.zeroValue238
  t127 := Tryz.underlying188
  a127 := Tryz.isAgg188
  z127 := Tryz.sizeOf188
  v127 := Tryz.zeroValue188
  t143 := Tryz.underlying249
  a143 := Tryz.isAgg249
  z143 := Tryz.sizeOf249
  v143 := Tryz.zeroValue249
  t145 := Tryz.underlying251
  a145 := Tryz.isAgg251
  z145 := Tryz.sizeOf251
  v145 := Tryz.zeroValue251
  t167 := Tryz.underlying237
  a167 := Tryz.isAgg237
  z167 := Tryz.sizeOf237
  v167 := Tryz.zeroValue237
  t168 := Tryz.underlying240
  a168 := Tryz.isAgg240
  z168 := Tryz.sizeOf240
  v168 := Tryz.zeroValue240
  t171 := Tryz.underlying211
  a171 := Tryz.isAgg211
  z171 := Tryz.sizeOf211
  v171 := Tryz.zeroValue211
  t173 := Tryz.underlying215
  a173 := Tryz.isAgg215
  z173 := Tryz.sizeOf215
  v173 := Tryz.zeroValue215
  t175 := Tryz.underlying243
  a175 := Tryz.isAgg243
  z175 := Tryz.sizeOf243
  v175 := Tryz.zeroValue243
  t210 := Tryz.underlying246
  a210 := Tryz.isAgg246
  z210 := Tryz.sizeOf246
  v210 := Tryz.zeroValue246
  t212 := Tryz.underlying226
  a212 := Tryz.isAgg226
  z212 := Tryz.sizeOf226
  v212 := Tryz.zeroValue226
  t213 := Tryz.underlying227
  a213 := Tryz.isAgg227
  z213 := Tryz.sizeOf227
  t232 := Tryz.underlying234
  a232 := Tryz.isAgg234
  z232 := Tryz.sizeOf234
  v232 := Tryz.zeroValue234
  t233 := Tryz.underlying235
  a233 := Tryz.isAgg235
  z233 := Tryz.sizeOf235
  v233 := Tryz.zeroValue235
  g15 := by kernel_rfl
  g16 := by kernel_rfl
  g17 := by kernel_rfl
  g18 := by kernel_rfl
  g19 := by kernel_rfl }
open Go.RowKit in
/-- strconv.Atoi: "Atoi is equivalent to ParseInt(s, 10, 0), converted to type int.": AT A DECIMAL NUMERAL OF AT MOST 18 BYTES: its value, and a nil error. The world behind the call: the one new row that the library's '[]byte(s)' lays. (LAID: no walk: one application.) -/
theorem Tryz.strconv_Atoi (s : ByteArray) (n : Int) (hl : s.size ≤ 18) (h : Lib.atoi s.data.toList = some n) (w : World) :
    Calls Tryz.prog 218 #[.string s] w fun e w' => e = .returned (.tuple #[.int .i64 n, .nilIface]) ∧ ∃ t, w' = Lib.bytesWorld w 5 t := Any.strconv_Atoi Tryz.lays172 s n hl h w
def Tryz.lays145_ren : Go.Shelf.Ren := ⟨fun | 145 => 220 | 220 => 224 | 219 => 194 | 217 => 125 | 225 => 197 | 224 => 196 | 267 => 208 | 266 => 166 | 314 => 216 | n => n, fun | 9 => 9 | 4 => 4 | 59 => 174 | 3 => 3 | 5 => 5 | 46 => 133 | 146 => 230 | 51 => 32 | n => n, fun | 1 => 0 | n => n⟩
theorem Tryz.lays145 : Go.Proofs.Lays.n145 Tryz.prog Tryz.lays145_ren := {
  mixed := by kernel_rfl
  f145 := Tryz.func220.trans (congrArg some (by kernel_rfl))
  f217 := Tryz.func125.trans (congrArg some (by kernel_rfl))
  f219 := Tryz.func194.trans (congrArg some (by kernel_rfl))
  f220 := Tryz.func224.trans (congrArg some (by kernel_rfl))
  f224 := Tryz.func196.trans (congrArg some (by kernel_rfl))
  f225 := Tryz.func197.trans (congrArg some (by kernel_rfl))
  f266 := Tryz.func166.trans (congrArg some (by kernel_rfl))
  f267 := Tryz.func208.trans (congrArg some (by kernel_rfl))
  f314 := Tryz.func216.trans (congrArg some (by kernel_rfl))
  t3 := Tryz.underlying3
  a3 := Tryz.isAgg3
  z3 := Tryz.sizeOf3
  v3 := Tryz.zeroValue3
  t4 := Tryz.underlying4
  a4 := Tryz.isAgg4
  z4 := Tryz.sizeOf4
  v4 := Tryz.zeroValue4
  t5 := Tryz.underlying5
  a5 := Tryz.isAgg5
  z5 := Tryz.sizeOf5
  v5 := Tryz.zeroValue5
  t9 := Tryz.underlying9
  a9 := Tryz.isAgg9
  z9 := Tryz.sizeOf9
  v9 := Tryz.zeroValue9
  t46 := Tryz.underlying133
  a46 := Tryz.isAgg133
  z46 := Tryz.sizeOf133
  v46 := Tryz.zeroValue133
  t51 := Tryz.underlying32
  a51 := Tryz.isAgg32
  z51 := Tryz.sizeOf32
  v51 := Tryz.zeroValue32
  t59 := Tryz.underlying174
  a59 := Tryz.isAgg174
  z59 := Tryz.sizeOf174
  v59 := Tryz.zeroValue174
  t146 := Tryz.underlying230
  a146 := Tryz.isAgg230
  z146 := Tryz.sizeOf230
  v146 := Tryz.zeroValue230
  g1 := by kernel_rfl }
open Go.RowKit Go.Lib in
/-- strings.Cut: "Cut slices s around the first instance of sep, returning the text before and after sep. The found result reports whether sep appears in s. If sep does not appear in s, cut returns s, "", false.": IT RETURNS 'Lib.cut s sep'; the world is as it was but for the count of draws. (LAID: no walk: one application.) -/
theorem Tryz.strings_Cut (s sep : ByteArray) (m : Int) (w : World) (hs : s.size < 4294967281) (hm : w.cell? ⟨0, 0, none⟩ = some (.int .i64 m)) :
    Calls Tryz.prog 220 #[.string s, .string sep] w fun e w' => e = .returned (.tuple #[.string ⟨(Lib.cut s.data.toList sep.data.toList).1.toArray⟩, .string ⟨(Lib.cut s.data.toList sep.data.toList).2.1.toArray⟩, .bool (Lib.cut s.data.toList sep.data.toList).2.2]) ∧ ∃ n, w' = w.drewN n := Any.strings_Cut Tryz.lays145 s sep m w hs hm
def Tryz.lays99_ren : Go.Shelf.Ren := ⟨fun | 99 => 180 | 206 => 198 | n => n, fun | 9 => 9 | 4 => 4 | 3 => 3 | n => n, fun | n => n⟩
theorem Tryz.lays99 : Go.Proofs.Lays.n99 Tryz.prog Tryz.lays99_ren := {
  mixed := by kernel_rfl
  f99 := Tryz.func180.trans (congrArg some (by kernel_rfl))
  f206 := Tryz.func198.trans (congrArg some (by kernel_rfl))
  t3 := Tryz.underlying3
  a3 := Tryz.isAgg3
  z3 := Tryz.sizeOf3
  v3 := Tryz.zeroValue3
  t4 := Tryz.underlying4
  a4 := Tryz.isAgg4
  z4 := Tryz.sizeOf4
  v4 := Tryz.zeroValue4
  t9 := Tryz.underlying9
  a9 := Tryz.isAgg9
  z9 := Tryz.sizeOf9
  v9 := Tryz.zeroValue9 }
open Go.RowKit Go.Lib in
/-- strings.HasPrefix: "HasPrefix reports whether the string s begins with prefix.": IT RETURNS 'Lib.hasPrefix s prefix'; the world is as it was. (LAID: no walk: one application.) -/
theorem Tryz.strings_HasPrefix (s p : ByteArray) (w : World) :
    Calls Tryz.prog 180 #[.string s, .string p] w fun e w' => e = .returned (.bool (Lib.hasPrefix s.data.toList p.data.toList)) ∧ w' = w := Any.strings_HasPrefix Tryz.lays99 s p w
end Go.Proofs
/- Tokens; how many bytes are so (the program). -/
namespace Go.Proofs.YtkiiameibdhdfaaGreatDoor
open Go.RowKit Go.Shelf Go.Cs
attribute [local go_sem] Oper.semAt_some
set_option linter.unusedVariables false
set_option linter.unusedSimpArgs false
set_option maxHeartbeats 2000000 in
set_option maxRecDepth 100000 in
/-- How many bytes are so. -/
theorem run_any (g : Nat) (lb : Array Value) (p : UInt8 → Bool) (hg : PredB g lb p) (eg : ∀ args w, (callFunc g args).run Tryz.prog w = .ok (.enter g args) w) (s : ByteArray) (w : World) (hs : s.size ≤ 9223372036854775807) :
    Calls Tryz.prog 217 #[.string s, .func (.func g) #[] lb] w fun e w' => e = .returned (.int .i64 (((bl s).takeWhile p).length : Nat)) ∧ w' = w := by
  have HG := Lib.hid hg
  have HB := Lib.hid (Bare.while_at p (bl s))
  clear hg
  obtain ⟨r, hr⟩ : ∃ r, ((bl s).takeWhile p).length = r := ⟨_, rfl⟩
  rw [hr] at HB ⊢
  clear hr
  go_enter Tryz.func217, Tryz.ntmps217
  go_wp2_with fail
  go_loop [8] (fun c => ∃ k : Nat, k ≤ s.size ∧ c = .int .i64 k ∧ Hid (∀ j, j < k → p (gb s j) = true)) (fun c => s.size - (intOf c).toNat)
  case atStart => exact ⟨0, Nat.zero_le _, rfl, Lib.hid fun i hi => by omega⟩
  case round =>
    obtain ⟨k, hk, rfl, hbef⟩ := hrel
    by_cases hlt : k < s.size
    · have hkd : decide ((k : Int) < (s.size : Int)) = true := decide_eq_true (by omega)
      have hix := run_idx s k hlt
      have HP := Lib.hid (HG.out (gb s k))
      obtain ⟨T, hT⟩ : ∃ x, p (gb s k) = x := ⟨_, rfl⟩
      have hnext : T = true → Hid (∀ j, j < k + 1 → p (gb s j) = true) := fun hg => Lib.hid fun i hi => by
        by_cases hik : i < k
        · exact hbef.out i hik
        · obtain rfl : i = k := by omega
          rw [hT]; exact hg
      have hstop : T = false → r = k := fun hg => by
        refine HB.out k (by rw [bl_len]; exact hk) (fun j hj c hc => ?_) (fun c hc => ?_)
        · obtain ⟨_, rfl⟩ := get_gb hc
          exact hbef.out j hj
        · obtain ⟨_, rfl⟩ := get_gb hc
          rw [hT]; exact hg
      rw [hT] at HP
      obtain ⟨n, hn⟩ : ∃ x, (gb s k).toNat = x := ⟨_, rfl⟩
      rw [hn] at HP hix
      clear hT hn hbef
      cases T with
      | true =>
        have hh := hnext rfl
        clear hnext hstop
        go_wp2_with fail
        refine (HP.out _).mono ?_
        rintro e w' ⟨rfl, rfl⟩
        go_wp2_with fail
        go_round
        case rel => exact ⟨k + 1, by omega, by go_num, hh⟩
        case measure => simp [intOf]; omega
      | false =>
        have hh := hstop rfl
        clear hnext hstop
        subst hh
        go_wp2_with fail
        refine (HP.out _).mono ?_
        rintro e w' ⟨rfl, rfl⟩
        go_wp2_with fail
        go_ret
        exact ⟨rfl, rfl⟩
    · obtain rfl : k = s.size := by omega
      have hkd : decide ((s.size : Int) < (s.size : Int)) = false := decide_eq_false (by omega)
      have hr : r = s.size := HB.out s.size (by rw [bl_len]; exact Nat.le_refl _) (fun j hj c hc => by
        obtain ⟨_, rfl⟩ := get_gb hc
        exact hbef.out j hj) (fun c hc => by
        obtain ⟨h, _⟩ := get_gb hc
        omega)
      subst hr
      clear HB hbef
      go_wp2_with fail
      go_ret
      exact ⟨rfl, rfl⟩
end Go.Proofs.YtkiiameibdhdfaaGreatDoor
/- Which items may be (the program). -/
namespace Go.Proofs.YtkiiameibdhdfaaGreatDoor
open Go.RowKit Go.Shelf Go.Cs
attribute [local go_sem] Oper.semAt_some
set_option linter.unusedVariables false
set_option linter.unusedSimpArgs false
/-- An item's value. -/
def bcs (b : Bare.It) : List Value := [.int .u8 b.kind, .int .i64 b.int, .string (tx b.text), .bool b.yes]
def bv (b : Bare.It) : Value := .agg (bcs b).toArray
theorem tx_empty (l : Bare.Bs) : (tx l).toList.isEmpty = l.isEmpty := by
  rw [empty_toList, tx_size]
  cases l <;> rfl
def fn (g : Nat) : Value := .func (.func g) #[] #[]
def clo (b : Nat) : Value := .func (.func 149) #[] #[.pointer (some ⟨b, 0, none⟩)]
def textI (p : Bare.Bs → Bool) (b : Bare.It) : Bool := decide (b.int = 0) && (!b.yes && p b.text)
end Go.Proofs.YtkiiameibdhdfaaGreatDoor
/- The map of what each kind lets be; which items may be. -/
namespace Go.Proofs.YtkiiameibdhdfaaGreatDoor
open Go.RowKit Go.Shelf Go.Cs
attribute [local go_sem] Oper.semAt_some
set_option linter.unusedVariables false
set_option linter.unusedSimpArgs false
def ent (k : Nat) (val : Value) (i : Nat) : MapEntry := { key := .int .u8 (k : Nat), val := val, born := i }
abbrev numF : Value := fn 147
abbrev boolF : Value := fn 154
/-- What each kind lets be. -/
structure FitsAt (W : World) (M b3 b4 b5 : Nat) : Prop where
  map : W.heap[M]? = some (.map [ent 1 numF 0, ent 2 numF 1, ent 3 (clo b3) 2, ent 4 (clo b4) 3, ent 5 (clo b5) 4, ent 6 boolF 5].toArray 6)
  str : Boxed W b3 67 (fn 150)
  tok : Boxed W b4 67 (fn 152)
  byt : Boxed W b5 67 (fn 153)
theorem FitsAt.new {W W' : World} {M b3 b4 b5 : Nat} (h : FitsAt W M b3 b4 b5) (hN : New W W') : FitsAt W' M b3 b4 b5 :=
  ⟨hN.heap h.map id, hN.boxed h.str id, hN.boxed h.tok id, hN.boxed h.byt id⟩
theorem opIn_call' {P : Program} {ops : Array Oper} {Q : Exit → Act → World → Prop} {r : Option Nat} {i : Nat} {o : Oper} (d : Option Tmp) {a : Act} {w : World} {K : Act → World → Prop} (hp : plainOp o = true) (hi : ops[i]? = some o) (hg : o.guard = none) (hd : o.dst = d)
    (f : FuncId) (args : Array Value) (h : (execOp a.eval o).run P w = .ok (.enter f args) w) (hc : Calls P f args w fun e w' => ∃ v, e = .returned v ∧ K (a.put d v) w') : wpOpIn (Fr r) 0 P ops Q i K a w := by
  subst hd
  unfold Go.wpOpIn
  simp only [hi, Region.wanted, hg, if_true, Oper.wpIn, semAt_plain hp, h]
  refine ⟨fun _ _ => trivial, fun h => by simp [Fence.wide] at h, (callsIn_wide (n := 0)).2 (hc.mono ?_)⟩
  rintro e w' ⟨v, rfl, hk⟩
  exact hk
theorem info_bare : (Tryz.prog.info? 66).map (·.size) = some 4 := by kernel_rfl
end Go.Proofs.YtkiiameibdhdfaaGreatDoor
/- An item is read: what is told; tokens, answers (the program). -/
namespace Go.Proofs.YtkiiameibdhdfaaGreatDoor
open Go.RowKit Go.Shelf Go.Cs
attribute [local go_sem] Oper.semAt_some
set_option linter.unusedVariables false
set_option linter.unusedSimpArgs false
theorem results_row3 {P : Program} {fn : Func} {p q r : Tmp} {ty : TypeId} (h : fn.results = #[.cell p ty, .tmp q, .tmp r]) (tmps : Array Value) (w : World) (g : Nat) (t : TypeId) (cs : Array Value) (fr : Nat × Nat) (d : TypeDesc)
    (hp : tmps.getD p undef = .pointer (some ⟨g, 0, none⟩)) (hg : w.heap[g]? = some (.cells cs t fr))
    (hu : P.underlying ty = some d) (hd : (match d with | .struct _ | .array _ _ => true | _ => false) = true) (hi : (P.info? ty).map (·.size) = some cs.size) {v v2 : Value} (hq : tmps.getD q undef = v) (hr : tmps.getD r undef = v2) :
    (results fn tmps).run P w = .ok (.tuple #[.agg cs, v, v2]) w := by
  subst hq
  subst hr
  have hp' : tmps[p]?.getD undef = .pointer (some ⟨g, 0, none⟩) := by simpa using hp
  simp [results, h, hp', asAddr, run_loadVar_row w g t ty cs fr d hg hu hd hi]
theorem read_end {fn : Func} {R : Ending → World → Prop} {tmps : Array Value} {W : World} {B : Nat} {a b c d v v2 : Value} (hf : fn.results = #[.cell 2 66, .tmp 3, .tmp 4]) (hp : tmps.getD 2 undef = .pointer (some ⟨B, 0, none⟩)) (hq : tmps.getD 3 undef = v) (hr : tmps.getD 4 undef = v2)
    (hg : W.heap[B]? = some (.cells #[a, b, c, d] 66 (0, 0))) (hR : R (.returned (.tuple #[.agg #[a, b, c, d], v, v2])) W) : bodyPost Tryz.prog fn R .ret ⟨tmps, []⟩ W :=
  bodyPost_ret (results_row3 (p := 2) (q := 3) (r := 4) hf tmps W B 66 #[a, b, c, d] (0, 0) _ hp hg Tryz.underlying66 rfl info_bare hq hr) rfl hR
theorem range_lit (t : Array Value) (n : Nat) (h : t.size = n) : t = ((List.range n).map fun i => t.getD i undef).toArray := by
  apply Array.ext
  · simp [h]
  · intro i h1 h2
    simp [h1]
def u8s (l : Bare.Bs) : List Value := l.map fun c => .int .u8 (c.toNat : Nat)
theorem u8s_get {l : Bare.Bs} {i : Nat} {c : UInt8} (h : l[i]? = some c) : (u8s l)[i]? = some (.int .u8 (c.toNat : Nat)) := by
  unfold u8s
  rw [List.getElem?_map, h]
  rfl
theorem u8s_snoc (l : Bare.Bs) (c : UInt8) : u8s (l ++ [c]) = u8s l ++ [.int .u8 (c.toNat : Nat)] := by simp [u8s]
theorem byte_val (m : Nat) : ((UInt8.ofNat (m % 256)).toNat : Int) = (m : Int) % 256 := by
  rw [UInt8.toNat_ofNat']
  omega
theorem nums_tx (l : Bare.Bs) : strOfNums (l.map fun c => ((c.toNat : Nat) : Int)) = tx l := by
  unfold strOfNums tx
  congr 2
  rw [List.map_map]
  conv => rhs; rw [← List.map_id l]
  apply List.map_congr_left
  intro c _
  simp
/-- A row of bytes of the call's own, as a text. -/
theorem conv_own {w : World} {base : Nat} {v : Value} {l : Bare.Bs} (h : w.ownsRow base 5 1 v l.length (u8s l)) : (convert 113 9 v).run Tryz.prog w = .ok (.string (tx l)) w := by
  rcases h.2 with ⟨rfl, h0⟩ | ⟨g, cap, cur, rfl, hb, hg, h1, h2, h3, h4⟩
  · rw [run_convert_bytes_nil w 113 5 Tryz.underlying113 Tryz.underlying5 0 0 9 Tryz.underlying9]
    obtain rfl : l = [] := List.length_eq_zero_iff.1 h0
    rfl
  · rw [run_convert_bytes_arg w 113 5 Tryz.underlying113 Tryz.underlying5 g 0 l.length cap (l.map fun c => ((c.toNat : Nat) : Int)) (by simp) (fun i hi => ?_) 9 Tryz.underlying9, nums_tx]
    have e : (u8s l)[i]? = some (.int .u8 (((l[i]'hi).toNat : Nat) : Int)) := u8s_get (List.getElem?_eq_getElem hi)
    rw [Nat.zero_add]
    have hc : w.cell? ⟨g, i, none⟩ = cur[i]? := cell_of_row _ _ _ _ _ _ hg
    rw [hc]
    rw [← h4, List.getElem?_take] at e
    rw [if_pos (by omega)] at e
    rw [← Array.getElem?_toList, e, List.getD_eq_getElem?_getD, List.getElem?_map, List.getElem?_eq_getElem hi]
    rfl
theorem infoB' : (Tryz.prog.info? 5).map (fun i => (i.zero, i.size, i.bytes)) = some (some (.int .u8 0), 1, 1) := by kernel_rfl
def noIt : Bare.It := ⟨0, 0, [], false⟩
/-- What a reading tells. -/
def ReadP (r : Option (Bare.It × Bare.Bs)) (w : World) (e : Ending) (w' : World) : Prop :=
  e = .returned (match r with | some (b, rest) => .tuple #[bv b, .string (tx rest), .int .i64 0] | none => .tuple #[bv noIt, .string ⟨#[]⟩, .int .i64 120]) ∧ New w w'
theorem one4 (k n : Int) (s : ByteArray) (y : Bool) : ∀ v ∈ ([.int .u8 k, .int .i64 n, .string s, .bool y] : List Value), v.oneCell' = true := by
  intro v hv
  simp at hv
  rcases hv with rfl | rfl | rfl | rfl <;> rfl
theorem no_row (w : World) : New w (w.alloc (.cells #[.int .u8 0, .int .i64 0, .string ⟨#[]⟩, .bool false] 66)) ∧ (w.alloc (.cells #[.int .u8 0, .int .i64 0, .string ⟨#[]⟩, .bool false] 66)).heap[w.heap.size]? = some (.cells #[.int .u8 0, .int .i64 0, .string ⟨#[]⟩, .bool false] 66 (0, 0)) :=
  ⟨(Mods.refl _ _).alloc _, World.alloc_heap_new w _⟩
/-- What the walk asks of an item's row that is written. -/
theorem row_facts {W : World} {B : Nat} {a b c d : Value} (h : W.heap[B]? = some (.cells #[a, b, c, d] 66 (0, 0))) :
    (W.cell? ⟨B, 0, none⟩ = some a ∧ W.cell? ⟨B, 1, none⟩ = some b ∧ W.cell? ⟨B, 2, none⟩ = some c ∧ W.cell? ⟨B, 3, none⟩ = some d) ∧ (W.frozen? ⟨B, 0, none⟩ = false ∧ W.frozen? ⟨B, 1, none⟩ = false ∧ W.frozen? ⟨B, 2, none⟩ = false ∧ W.frozen? ⟨B, 3, none⟩ = false) :=
  ⟨⟨cell_of_row _ _ 0 _ _ _ h, cell_of_row _ _ 1 _ _ _ h, cell_of_row _ _ 2 _ _ _ h, cell_of_row _ _ 3 _ _ _ h⟩, frozen_row (i := 0) h, frozen_row (i := 1) h, frozen_row (i := 2) h, frozen_row (i := 3) h⟩
theorem set4 {w W : World} {B : Nat} {a b c d : Value} (hN : New w W) (hB : w.heap.size ≤ B) (h : W.heap[B]? = some (.cells #[a, b, c, d] 66 (0, 0))) (a' b' c' d' : Value) :
    New w ((((W.setCell ⟨B, 0, none⟩ a').setCell ⟨B, 1, none⟩ b').setCell ⟨B, 2, none⟩ c').setCell ⟨B, 3, none⟩ d') ∧ ((((W.setCell ⟨B, 0, none⟩ a').setCell ⟨B, 1, none⟩ b').setCell ⟨B, 2, none⟩ c').setCell ⟨B, 3, none⟩ d').heap[B]? = some (.cells #[a', b', c', d'] 66 (0, 0)) := by
  refine ⟨(((hN.setCell (p := ⟨B, 0, none⟩) (.inl hB) _).setCell (p := ⟨B, 1, none⟩) (.inl hB) _).setCell (p := ⟨B, 2, none⟩) (.inl hB) _).setCell (p := ⟨B, 3, none⟩) (.inl hB) _, ?_⟩
  have h1 := heap_setCell_same W B 0 _ 66 a' h
  have h2 := heap_setCell_same _ B 1 _ 66 b' h1
  have h3 := heap_setCell_same _ B 2 _ 66 c' h2
  have h4 := heap_setCell_same _ B 3 _ 66 d' h3
  exact h4
theorem geq_marks (c : UInt8) : decide (0 ≤ Lib.indexByte Bare.marks c) = Bare.marks.contains c := (Lib.contains_iff_indexByte Bare.marks c).symm
theorem tok1_p : PredB 219 #[] Bare.inTok := by
  intro c w
  have HL := Lib.hid (letter_p c)
  have HD := Lib.hid (digit_p c)
  have Ho := geq_marks c
  have hback : ((c.toNat : Nat) : Int).toNat.toUInt8 = c := by simp
  have HK : ∀ W, Calls Tryz.prog 76 #[.string ⟨#[33, 35, 36, 37, 38, 39, 42, 43, 45, 46, 94, 95, 96, 124, 126, 58, 47]⟩, .int .u8 (c.toNat : Nat)] W fun e w' => e = .returned (.int .i64 (Lib.indexByte Bare.marks c)) ∧ w' = W := fun W =>
    (Tryz.strings_IndexByte _ _ W).mono (by rintro e w' ⟨rfl, hw⟩; rw [hback]; exact ⟨rfl, hw⟩)
  have HK := Lib.hid HK
  unfold Bare.inTok
  obtain ⟨o, ho⟩ : ∃ o, Lib.indexByte Bare.marks c = o := ⟨_, rfl⟩
  rw [ho] at HK Ho
  obtain ⟨L, hL⟩ : ∃ x, Bare.letB c = x := ⟨_, rfl⟩
  obtain ⟨D, hD⟩ : ∃ x, Bare.digB c = x := ⟨_, rfl⟩
  obtain ⟨M, hM⟩ : ∃ x, Bare.marks.contains c = x := ⟨_, rfl⟩
  rw [hL] at HL ⊢
  rw [hD] at HD ⊢
  rw [hM] at Ho ⊢
  obtain ⟨n, hn⟩ : ∃ x, c.toNat = x := ⟨_, rfl⟩
  rw [hn] at HL HD HK ⊢
  clear ho hL hD hM hn hback
  have hcase : (L = true) ∨ (L = false ∧ D = true) ∨ (L = false ∧ D = false) := by cases L <;> cases D <;> simp
  rcases hcase with rfl | ⟨rfl, rfl⟩ | ⟨rfl, rfl⟩
  all_goals
    go_enter Tryz.func219, Tryz.ntmps219
    go_wp2_with (first | (go_at_call 175; refine (HL.out _).mono ?_; rintro e w' ⟨rfl, rfl⟩) | (go_at_call 176; refine (HD.out _).mono ?_; rintro e w' ⟨rfl, rfl⟩) | (go_at_call 76; refine (HK.out _).mono ?_; rintro e w' ⟨rfl, rfl⟩))
    go_ret
    first | exact ⟨rfl, rfl⟩ | exact ⟨by simp [Ho], rfl⟩
theorem token_read (s : ByteArray) (w : World) (hs : s.size ≤ 1000000) :
    Calls Tryz.prog 210 #[.string s] w (ReadP (some (⟨4, 0, (bl s).takeWhile Bare.inTok, false⟩, (bl s).drop ((bl s).takeWhile Bare.inTok).length)) w) := by
  have HR := Lib.hid (fun W => run_any 219 #[] _ tok1_p (enters_of Tryz.func219 (by kernel_rfl) rfl) s W (by omega))
  have hle := Bare.takeWhile_len Bare.inTok (bl s)
  have htk := Bare.takeWhile_take Bare.inTok (bl s)
  unfold ReadP bv bcs
  simp only
  rw [← htk]
  rw [htk]
  obtain ⟨n, hn⟩ : ∃ n, ((bl s).takeWhile Bare.inTok).length = n := ⟨_, rfl⟩
  rw [hn] at HR hle htk ⊢
  rw [bl_len] at hle
  rw [← htk]
  have h1 := run_sl_h s n hle
  have h2 := run_sl_l s n hle
  obtain ⟨x, hx⟩ : ∃ x, tx ((bl s).take n) = x := ⟨_, rfl⟩
  obtain ⟨y, hy⟩ : ∃ x, tx ((bl s).drop n) = x := ⟨_, rfl⟩
  rw [hx] at h1 ⊢
  rw [hy] at h2 ⊢
  clear hx hy hn htk
  obtain ⟨hN, hr⟩ := no_row w
  go_enter Tryz.func210, Tryz.ntmps210
  go_upto_region 2 with (go_at_call 217; refine (HR.out _).mono ?_; rintro e w' ⟨rfl, rfl⟩)
  obtain ⟨W, hW⟩ : ∃ W, w.alloc (.cells #[.int .u8 0, .int .i64 0, .string ⟨#[]⟩, .bool false] 66) = W := ⟨_, rfl⟩
  rw [hW] at hN hr ⊢
  obtain ⟨B, hB⟩ : ∃ B, w.heap.size = B := ⟨_, rfl⟩
  have hBw : w.heap.size ≤ B := by omega
  rw [hB] at hr ⊢
  clear hW hB
  obtain ⟨⟨c0, c1, c2, c3⟩, f0, f1, f2, f3⟩ := row_facts hr
  go_region
  obtain ⟨hN2, hr2⟩ := set4 hN hBw hr (.int .u8 4) (.int .i64 0) (.string x) (.bool false)
  have hN2 := hN2.drew
  have hr2 : ((((W.setCell ⟨B, 0, none⟩ (.int .u8 4)).setCell ⟨B, 1, none⟩ (.int .i64 0)).setCell ⟨B, 2, none⟩ (.string x)).setCell ⟨B, 3, none⟩ (.bool false)).drew.heap[B]? = some (.cells #[(.int .u8 4), (.int .i64 0), (.string x), (.bool false)] 66 (0, 0)) := hr2
  obtain ⟨W2, hW2⟩ : ∃ W2, ((((W.setCell ⟨B, 0, none⟩ (.int .u8 4)).setCell ⟨B, 1, none⟩ (.int .i64 0)).setCell ⟨B, 2, none⟩ (.string x)).setCell ⟨B, 3, none⟩ (.bool false)).drew = W2 := ⟨_, rfl⟩
  rw [hW2] at hN2 hr2 ⊢
  go_wp2_with fail
  exact read_end (by kernel_rfl) rfl rfl rfl hr2 ⟨rfl, hN2⟩
/-- What reading an answer tells. -/
def ansR (l : Bare.Bs) : Option (Bare.It × Bare.Bs) := match l with
  | _ :: d :: r => if d = 48 ∨ d = 49 then some (⟨6, 0, [], d == 49⟩, r) else none
  | _ => none
theorem half_facts : ∀ k : Fin 256, (decide (((k.1 : Nat) : Int) / 2 = 24) = (decide (UInt8.ofNat k.1 = 48) || decide (UInt8.ofNat k.1 = 49))) ∧ ((decide (UInt8.ofNat k.1 = 48) || decide (UInt8.ofNat k.1 = 49)) = true → decide (bits BinOp.and IntKind.u8 ((k.1 : Nat) : Int) 1 = 1) = (UInt8.ofNat k.1 == 49)) := by decide +kernel
theorem half_fact (c : UInt8) : (decide ((c.toNat : Int) / 2 = 24) = (decide (c = 48) || decide (c = 49))) ∧ ((decide (c = 48) || decide (c = 49)) = true → decide (bits BinOp.and IntKind.u8 (c.toNat : Int) 1 = 1) = (c == 49)) := by
  have h := half_facts ⟨c.toNat, UInt8.toNat_lt c⟩
  simp only [UInt8.ofNat_toNat] at h
  exact h
set_option maxHeartbeats 1000000 in
theorem answer_read (s : ByteArray) (w : World) (hs : s.size ≤ 1000000) :
    Calls Tryz.prog 213 #[.string s] w (ReadP (ansR (bl s)) w) := by
  unfold ReadP
  obtain ⟨hN, hr⟩ := no_row w
  have hl := bl_len s
  by_cases h2 : s.size < 2
  · have hlt : decide ((s.size : Int) < 2) = true := decide_eq_true (by omega)
    have e : ansR (bl s) = none := by
      unfold ansR
      match hb : bl s with
      | [] => rfl
      | [_] => rfl
      | _ :: _ :: _ => rw [hb] at hl; simp at hl; omega
    rw [e]
    unfold bv bcs noIt
    simp only
    go_enter Tryz.func213, Tryz.ntmps213
    go_upto_region 2 with fail
    obtain ⟨W, hW⟩ : ∃ W, w.alloc (.cells #[.int .u8 0, .int .i64 0, .string ⟨#[]⟩, .bool false] 66) = W := ⟨_, rfl⟩
    rw [hW] at hN hr ⊢
    obtain ⟨B, hB⟩ : ∃ B, w.heap.size = B := ⟨_, rfl⟩
    have hBw : w.heap.size ≤ B := by omega
    rw [hB] at hr ⊢
    clear hW hB
    obtain ⟨⟨c0, c1, c2, c3⟩, f0, f1, f2, f3⟩ := row_facts hr
    go_wp2_with fail
    obtain ⟨hN2, hr2⟩ := set4 hN hBw hr (.int .u8 0) (.int .i64 0) (.string ⟨#[]⟩) (.bool false)
    obtain ⟨W2, hW2⟩ : ∃ W2, ((((W.setCell ⟨B, 0, none⟩ (.int .u8 0)).setCell ⟨B, 1, none⟩ (.int .i64 0)).setCell ⟨B, 2, none⟩ (.string ⟨#[]⟩)).setCell ⟨B, 3, none⟩ (.bool false)) = W2 := ⟨_, rfl⟩
    rw [hW2] at hN2 hr2 ⊢
    exact read_end (by kernel_rfl) rfl rfl rfl hr2 ⟨rfl, hN2⟩
  · have hlt : decide ((s.size : Int) < 2) = false := decide_eq_false (by omega)
    have hix : ∀ W, (Instr.index 9 (.string s) (.int .i64 1)).run Tryz.prog W = .ok (.int .u8 ((gb s 1).toNat : Nat)) W := run_idx s 1 (by omega)
    obtain ⟨c, r, hcr⟩ : ∃ c r, bl s = c :: gb s 1 :: r := by
      match hb : bl s with
      | [] => rw [hb] at hl; simp at hl; omega
      | [_] => rw [hb] at hl; simp at hl; omega
      | c :: d :: r =>
        refine ⟨c, r, ?_⟩
        have := gb_get s 1 (by omega)
        rw [hb] at this
        simp at this
        rw [this]
    have h2 : ∀ W, (Instr.slice 9 (.string s) (some (.int .i64 2)) none none).run Tryz.prog W = .ok (.string (tx ((bl s).drop 2))) W := run_sl_l s 2 (by omega)
    have hf := half_fact (gb s 1)
    have hd : (bl s).drop 2 = r := by rw [hcr]; rfl
    have e : ansR (bl s) = if gb s 1 = 48 ∨ gb s 1 = 49 then some (⟨6, 0, [], gb s 1 == 49⟩, r) else none := by rw [hcr]; rfl
    rw [e]
    rw [hd] at h2
    obtain ⟨hf1, hf2⟩ := hf
    by_cases hok : gb s 1 = 48 ∨ gb s 1 = 49
    · rw [if_pos hok]
      have hb : (decide (gb s 1 = 48) || decide (gb s 1 = 49)) = true := by simpa using hok
      have hf2 := hf2 hb
      rw [hb] at hf1
      unfold bv bcs
      simp only
      obtain ⟨y, hy⟩ : ∃ y, (gb s 1 == 49) = y := ⟨_, rfl⟩
      rw [hy] at hf2 ⊢
      obtain ⟨n, hn⟩ : ∃ n, (gb s 1).toNat = n := ⟨_, rfl⟩
      rw [hn] at hix hf1 hf2
      have hf3 : ((n : Int) / 2 != 24) = false := by
        have : ((n : Int) / 2 == 24) = true := hf1
        simp [bne, this]
      obtain ⟨q, hq⟩ : ∃ q, bits BinOp.and IntKind.u8 (n : Int) 1 = q := ⟨_, rfl⟩
      rw [hq] at hf2
      have hf4 : (q == 1) = y := hf2
      obtain ⟨x, hx⟩ : ∃ x, tx r = x := ⟨_, rfl⟩
      rw [hx] at h2 ⊢
      clear hn hb hy hx hcr hd e hok hl
      go_enter Tryz.func213, Tryz.ntmps213
      go_upto_region 3 with fail
      obtain ⟨W, hW⟩ : ∃ W, w.alloc (.cells #[.int .u8 0, .int .i64 0, .string ⟨#[]⟩, .bool false] 66) = W := ⟨_, rfl⟩
      rw [hW] at hN hr ⊢
      obtain ⟨B, hB⟩ : ∃ B, w.heap.size = B := ⟨_, rfl⟩
      have hBw : w.heap.size ≤ B := by omega
      rw [hB] at hr ⊢
      clear hW hB
      obtain ⟨⟨c0, c1, c2, c3⟩, f0, f1, f2, f3⟩ := row_facts hr
      go_region
      obtain ⟨hN2, hr2⟩ := set4 hN hBw hr (.int .u8 6) (.int .i64 0) (.string (tx [])) (.bool y)
      have hN2 := hN2.drew
      have hr2 : ((((W.setCell ⟨B, 0, none⟩ (.int .u8 6)).setCell ⟨B, 1, none⟩ (.int .i64 0)).setCell ⟨B, 2, none⟩ (.string (tx []))).setCell ⟨B, 3, none⟩ (.bool y)).drew.heap[B]? = some (.cells #[(.int .u8 6), (.int .i64 0), (.string (tx [])), (.bool y)] 66 (0, 0)) := hr2
      obtain ⟨W2, hW2⟩ : ∃ W2, ((((W.setCell ⟨B, 0, none⟩ (.int .u8 6)).setCell ⟨B, 1, none⟩ (.int .i64 0)).setCell ⟨B, 2, none⟩ (.string (tx []))).setCell ⟨B, 3, none⟩ (.bool y)).drew = W2 := ⟨_, rfl⟩
      rw [hW2] at hN2 hr2 ⊢
      go_wp2_with fail
      exact read_end (by kernel_rfl) rfl rfl rfl hr2 ⟨rfl, hN2⟩
    · rw [if_neg hok]
      have hb : (decide (gb s 1 = 48) || decide (gb s 1 = 49)) = false := by
        rw [Bool.eq_false_iff]; simpa using hok
      rw [hb] at hf1
      unfold bv bcs noIt
      simp only
      obtain ⟨n, hn⟩ : ∃ n, (gb s 1).toNat = n := ⟨_, rfl⟩
      rw [hn] at hix hf1
      have hf3 : ((n : Int) / 2 != 24) = true := by
        have : ((n : Int) / 2 == 24) = false := hf1
        simp [bne, this]
      clear hn hb hcr hd e hok hl hf2
      go_enter Tryz.func213, Tryz.ntmps213
      go_upto_region 2 with fail
      obtain ⟨W, hW⟩ : ∃ W, w.alloc (.cells #[.int .u8 0, .int .i64 0, .string ⟨#[]⟩, .bool false] 66) = W := ⟨_, rfl⟩
      rw [hW] at hN hr ⊢
      obtain ⟨B, hB⟩ : ∃ B, w.heap.size = B := ⟨_, rfl⟩
      have hBw : w.heap.size ≤ B := by omega
      rw [hB] at hr ⊢
      clear hW hB
      obtain ⟨⟨c0, c1, c2, c3⟩, f0, f1, f2, f3⟩ := row_facts hr
      go_wp2_with fail
      obtain ⟨hN2, hr2⟩ := set4 hN hBw hr (.int .u8 0) (.int .i64 0) (.string ⟨#[]⟩) (.bool false)
      obtain ⟨W2, hW2⟩ : ∃ W2, ((((W.setCell ⟨B, 0, none⟩ (.int .u8 0)).setCell ⟨B, 1, none⟩ (.int .i64 0)).setCell ⟨B, 2, none⟩ (.string ⟨#[]⟩)).setCell ⟨B, 3, none⟩ (.bool false)) = W2 := ⟨_, rfl⟩
      rw [hW2] at hN2 hr2 ⊢
      exact read_end (by kernel_rfl) rfl rfl rfl hr2 ⟨rfl, hN2⟩
end Go.Proofs.YtkiiameibdhdfaaGreatDoor
/- Sixes read (the program). -/
namespace Go.Proofs.YtkiiameibdhdfaaGreatDoor
open Go.RowKit Go.Shelf Go.Cs
attribute [local go_sem] Oper.semAt_some
set_option linter.unusedVariables false
set_option linter.unusedSimpArgs false
theorem trimB_lib (c : UInt8) (l : Bare.Bs) : Lib.trimRightB l c = Bare.trimR c l := by
  first | rfl | (unfold Lib.trimRightB Bare.trimR; rfl)
/-- What is left of letters, told so far. -/
def sofar (short acc : Bare.Bs) (N bt k : Nat) : Prop := Bare.take6 0 0 short = (Bare.take6 (N % 2 ^ bt) bt (short.drop k)).map (acc ++ ·)
theorem sofar_none {short acc : Bare.Bs} {N bt k : Nat} {c : UInt8} (h : sofar short acc N bt k) (hd : short.drop k = c :: short.drop (k + 1)) (hv : Bare.v6 c = none) : Bare.take6 0 0 short = none := by
  rw [h, hd, Bare.t6_no _ _ _ _ hv]; rfl
theorem sofar_few {short acc : Bare.Bs} {N bt k v : Nat} {c : UInt8} (h : sofar short acc N bt k) (hd : short.drop k = c :: short.drop (k + 1)) (hv : Bare.v6 c = some v) (hb : bt = 0) : sofar short acc ((N * 64 + v) % 4294967296) (bt + 6) (k + 1) := by
  unfold sofar at h ⊢
  rw [h, hd, Bare.take6_few N bt c _ v hv hb]
theorem sofar_more {short acc : Bare.Bs} {N bt k v : Nat} {c : UInt8} (h : sofar short acc N bt k) (hd : short.drop k = c :: short.drop (k + 1)) (hv : Bare.v6 c = some v) (hb : bt = 2 ∨ bt = 4 ∨ bt = 6) :
    sofar short (acc ++ [UInt8.ofNat ((N * 64 + v) % 4294967296 / 2 ^ (bt - 2) % 256)]) ((N * 64 + v) % 4294967296) (bt - 2) (k + 1) := by
  unfold sofar at h ⊢
  rw [h, hd, Bare.take6_more N bt c _ v hv hb, Option.map_map]
  congr 1
  funext l
  simp
theorem sofar_end {short acc : Bare.Bs} {N bt k : Nat} (h : sofar short acc N bt k) (hk : short.length ≤ k) : Bare.take6 0 0 short = if N % 2 ^ bt = 0 then some acc else none := by
  unfold sofar at h
  rw [h, List.drop_eq_nil_of_le hk, Bare.take6_end]
  split <;> simp
theorem or64 (N v : Nat) (hv : v < 64) : bits BinOp.or IntKind.u32 ((N : Int) * 64 % 4294967296) (v : Int) = (((N * 64 + v) % 4294967296 : Nat) : Int) := by
  have e : ((N : Int) * 64 % 4294967296) = ((N * 64 % 4294967296 : Nat) : Int) := by omega
  have e2 : N * 64 % 4294967296 = (N % 67108864) <<< 6 := by rw [Nat.shiftLeft_eq]; omega
  rw [e, u32_or_nat _ _ (by omega) (by omega), e2, ← Nat.shiftLeft_add_eq_or_of_lt (by omega : v < 2 ^ 6), Nat.shiftLeft_eq]
  congr 1
  omega
def unsixV (r : Option Bare.Bs) : Value := match r with
  | some l => .tuple #[.string (tx l), .bool true]
  | none => .tuple #[.string ⟨#[]⟩, .bool false]
theorem lit62 (t : Array Value) (h : t.size = 62) : ∃ u : Nat → Value, t = (u 0 :: u 1 :: u 2 :: u 3 :: u 4 :: u 5 :: u 6 :: u 7 :: u 8 :: u 9 :: u 10 :: u 11 :: u 12 :: u 13 :: u 14 :: u 15 :: u 16 :: u 17 :: u 18 :: u 19 :: u 20 :: u 21 :: u 22 :: u 23 :: u 24 :: u 25 :: u 26 :: u 27 :: u 28 :: u 29 :: u 30 :: u 31 :: u 32 :: u 33 :: u 34 :: u 35 :: u 36 :: u 37 :: u 38 :: u 39 :: u 40 :: u 41 :: u 42 :: u 43 :: u 44 :: u 45 :: u 46 :: u 47 :: u 48 :: u 49 :: u 50 :: u 51 :: u 52 :: u 53 :: u 54 :: u 55 :: u 56 :: u 57 :: u 58 :: u 59 :: u 60 :: u 61 :: ([] : List Value)).toArray := ⟨fun i => t.getD i undef, range_lit t 62 h⟩
set_option maxHeartbeats 4000000 in
set_option maxRecDepth 100000 in
theorem unsix_any (s : ByteArray) (w : World) (hs : s.size ≤ 1000000) :
    Calls Tryz.prog 221 #[.string s] w fun e w' => e = .returned (unsixV (Bare.unsix (bl s))) ∧ New w w' := by
  obtain ⟨r, hr⟩ : ∃ r, Bare.unsix (bl s) = r := ⟨_, rfl⟩
  have HR := Lib.hid hr
  unfold Bare.unsix at HR
  rw [hr]
  clear hr
  have HT := Lib.hid (fun W => (Tryz.strings_TrimRight_one s 61 (by decide) W (by omega)).mono fun e w' h => show e = .returned (.string (tx (Bare.trimR 61 (bl s)))) ∧ W = w' from ⟨by rw [h.1, trimB_lib], h.2.symm⟩)
  have hle : (Bare.trimR 61 (bl s)).length ≤ s.size := by
    obtain ⟨k, hk⟩ := Bare.trimR_spec 61 (bl s)
    have := congrArg List.length hk
    rw [List.length_append, bl_len] at this
    omega
  obtain ⟨sh, hsh⟩ : ∃ x, Bare.trimR 61 (bl s) = x := ⟨_, rfl⟩
  obtain ⟨t, ht⟩ : ∃ t, tx sh = t := ⟨_, rfl⟩
  have htl : sh = bl t := by rw [← ht]
  have hts : sh.length = t.size := by rw [← ht, tx_size]
  simp only [hsh, bl_len] at HR
  rw [hsh, ht] at HT
  rw [hsh, hts] at hle
  rw [hts] at HR
  clear hsh ht hts
  subst htl
  go_enter Tryz.func221, Tryz.ntmps221
  go_upto_region 1 with fail
  refine wp_scope_fwd 0 (fun a W => (a.tmps.size = 62 ∧ a.defers = []) ∧ Hid (r = none) ∧ New w W) rfl ?first ?pass
  case pass =>
    rintro ⟨z, dfs⟩ W ⟨⟨hs, hd⟩, hrn, hN⟩
    simp only at hs hd
    subst hd
    obtain ⟨u, rfl⟩ := lit62 z hs
    clear hs
    have hr := hrn.out
    subst hr
    clear hrn HR
    go_wp2_with fail
    rw [Exit.noGoto_ret]
    go_ret2
    exact ⟨rfl, hN⟩
  case first =>
    have hN0 : New w w := Mods.refl _ _
    by_cases h4 : s.size % 4 = 0
    case neg =>
      have g4 : ¬ (s.size : Int) % 4 = 0 := by omega
      have hrn : Hid (r = none) := Lib.hid (by rw [← HR.out, if_pos (.inl h4)])
      clear HR h4 hle
      go_wp2_with (go_at_call 141; refine (HT.out _).mono ?_; rintro e w' ⟨rfl, rfl⟩)
      exact wp_goto (And.intro rfl ⟨⟨rfl, rfl⟩, hrn, hN0⟩)
    by_cases h2 : 2 < s.size - t.size
    · have g4 : (s.size : Int) % 4 = 0 := by omega
      have g2 : 2 < (s.size : Int) - (t.size : Int) := by omega
      have hrn : Hid (r = none) := Lib.hid (by rw [← HR.out, if_pos (.inr h2)])
      clear HR h4 hle h2
      go_wp2_with (go_at_call 141; refine (HT.out _).mono ?_; rintro e w' ⟨rfl, rfl⟩)
      exact wp_goto (And.intro rfl ⟨⟨rfl, rfl⟩, hrn, hN0⟩)
    have g4 : (s.size : Int) % 4 = 0 := by omega
    have g2 : (s.size : Int) - (t.size : Int) ≤ 2 := by omega
    have hr : Hid (Bare.take6 0 0 (bl t) = r) := Lib.hid (by rw [← HR.out, if_neg (by rintro (h | h); exact h h4; exact h2 h)])
    have hts : t.size ≤ 1000000 := by omega
    clear HR h4 hle h2
    go_wp2_with (go_at_call 141; refine (HT.out _).mono ?_; rintro e w' ⟨rfl, rfl⟩)
    clear HT g4 g2
    obtain ⟨i0, hi, hz0, hz1, hz2⟩ := info_parts infoB'
    go_loopw [26, 4, 5, 6] (fun c v n b wr => ∃ (k : Nat) (acc : Bare.Bs) (N bt : Nat), k ≤ t.size ∧ c = .int .i64 k ∧ n = .int .u32 N ∧ b = .int .i64 bt ∧ wr.ownsRow w.heap.size 5 1 v acc.length (u8s acc) ∧ New w wr ∧ Hid (sofar (bl t) acc N bt k) ∧ N < 4294967296 ∧ (bt = 0 ∨ bt = 2 ∨ bt = 4 ∨ bt = 6) ∧ acc.length ≤ k) (fun c _ _ _ _ => t.size - (intOf c).toNat)
    case atStart => exact ⟨0, [], 0, 0, Nat.zero_le _, rfl, rfl, rfl, World.ownsRow_nil _ _ _ _, hN0, Lib.hid (by unfold sofar; simp), by omega, .inl rfl, Nat.zero_le _⟩
    case round =>
      obtain ⟨k, acc, N, bt, hk, rfl, rfl, rfl, hown, hN, hso, hN32, hbt, hacc⟩ := hrel
      by_cases hlt : k < t.size
      · have hkd : decide ((k : Int) < (t.size : Int)) = true := decide_eq_true (by omega)
        have hix := run_idx t k hlt
        have hdr : (bl t).drop k = gb t k :: (bl t).drop (k + 1) := by
          have := gb_get t k hlt
          obtain ⟨h1, h2⟩ := List.getElem?_eq_some_iff.1 this
          rw [List.drop_eq_getElem_cons h1, h2]
        have hback : ((gb t k).toNat : Int).toNat.toUInt8 = gb t k := by simp
        have HK : ∀ W, Calls Tryz.prog 76 #[.string (tx Bare.sx), .int .u8 ((gb t k).toNat : Nat)] W fun e w' => e = .returned (.int .i64 (match Bare.v6 (gb t k) with | some v => (v : Int) | none => -1)) ∧ W = w' := fun W =>
          (Tryz.strings_IndexByte _ _ W).mono (by rintro e w' ⟨rfl, hw⟩; rw [hback]; exact ⟨congrArg (fun z => Ending.returned (.int .i64 z)) (Bare.index_v6 _), hw.symm⟩)
        cases hv : Bare.v6 (gb t k) with
        | none =>
          have hrn : Hid (r = none) := Lib.hid (by rw [← hr.out]; exact sofar_none hso.out hdr hv)
          rw [hv] at HK
          simp only at HK
          have HK := Lib.hid HK
          clear hso hdr hv hr
          go_wp2_with (go_at_call 76; refine (HK.out _).mono ?_; rintro e w' ⟨rfl, rfl⟩)
          exact wp_goto (And.intro rfl ⟨⟨rfl, rfl⟩, hrn, hN⟩)
        | some v =>
          have hv64 := (Bare.v6_facts hv).1
          rw [hv] at HK
          simp only at HK
          have HK := Lib.hid HK
          go_upto_region 10 with (go_at_call 76; refine (HK.out _).mono ?_; rintro e w' ⟨rfl, rfl⟩)
          have hor := or64 N v hv64
          obtain ⟨N2, hN2⟩ : ∃ N2, (N * 64 + v) % 4294967296 = N2 := ⟨_, rfl⟩
          rw [hN2] at hor
          have hN2l : N2 < 4294967296 := by omega
          clear hix hkd hback
          by_cases hb0 : bt = 0
          · have hs2 := Lib.hid (sofar_few hso.out hdr hv hb0)
            rw [hN2] at hs2
            subst hb0
            clear hso hdr hv hN2
            go_wp2_with fail
            go_roundw
            case rel => exact ⟨k + 1, acc, N2, 6, by omega, by go_num, rfl, by go_num, hown, hN, hs2, hN2l, by omega, by omega⟩
            case measure => simp [intOf]; omega
          · have hs2 := Lib.hid (sofar_more hso.out hdr hv (by omega))
            rw [hN2] at hs2
            clear hso hdr hv hN2
            have hb2 : bt = 2 ∨ bt = 4 ∨ bt = 6 := by omega
            clear hb0 hbt
            rcases hb2 with rfl | rfl | rfl
            · have hz : ((UInt8.ofNat (N2 / 2 ^ (2 - 2) % 256)).toNat : Int) = (N2 : Int) % 256 := by rw [byte_val]; simp
              obtain ⟨cc, hcc⟩ : ∃ cc, UInt8.ofNat (N2 / 2 ^ (2 - 2) % 256) = cc := ⟨_, rfl⟩
              rw [hcc] at hz hs2
              clear hcc
              go_upto_region 13 with fail
              go_wp2_with (at_builtin; refine wpList_append_own _ rfl _ _ 113 rfl w.heap.size 5 i0 _ 1 1 Tryz.underlying113 hi hz0 hz1 hz2 rfl (by decide) _ _ _ rfl (hown.alloc _) ⟨wr.heap.size, 0, none⟩ 1 1 [.int .u8 ((N2 : Int) % 256)] rfl rfl ?c1 ?c2 ?c3 ?c4 ?c5 ?_)
              case c1 => exact cell_one_new _ _ _
              case c2 => simp [Value.oneCell']
              case c3 => unfold maxLen; omega
              case c4 => have := hown.1; simp; omega
              case c5 => have := hN.size; simp; omega
              intro v' W2 hown' hgrow _
              have hN3 : New w W2 := (hN.alloc _).grown hgrow (fun g hg => .inl (hown.lt g hg).1)
              have hown3 : W2.ownsRow w.heap.size 5 1 v' (acc ++ [cc]).length (u8s (acc ++ [cc])) := by
                have : u8s (acc ++ [cc]) = u8s acc ++ [.int .u8 ((N2 : Int) % 256)] := by rw [u8s_snoc, hz]
                rw [this, List.length_append]
                exact hown'
              clear hown hown' hgrow
              go_wp2_with fail
              go_roundw
              case rel => exact ⟨k + 1, acc ++ [cc], N2, 2 - 2, by omega, by go_num, rfl, rfl, hown3, hN3, hs2, hN2l, by omega, by rw [List.length_append]; show acc.length + 1 ≤ k + 1; omega⟩
              case measure => simp [intOf]; omega
            · have hz : ((UInt8.ofNat (N2 / 2 ^ (4 - 2) % 256)).toNat : Int) = (N2 : Int) / 4 % 256 := by rw [byte_val]; simp
              obtain ⟨cc, hcc⟩ : ∃ cc, UInt8.ofNat (N2 / 2 ^ (4 - 2) % 256) = cc := ⟨_, rfl⟩
              rw [hcc] at hz hs2
              clear hcc
              go_upto_region 13 with fail
              go_wp2_with (at_builtin; refine wpList_append_own _ rfl _ _ 113 rfl w.heap.size 5 i0 _ 1 1 Tryz.underlying113 hi hz0 hz1 hz2 rfl (by decide) _ _ _ rfl (hown.alloc _) ⟨wr.heap.size, 0, none⟩ 1 1 [.int .u8 ((N2 : Int) / 4 % 256)] rfl rfl ?c1 ?c2 ?c3 ?c4 ?c5 ?_)
              case c1 => exact cell_one_new _ _ _
              case c2 => simp [Value.oneCell']
              case c3 => unfold maxLen; omega
              case c4 => have := hown.1; simp; omega
              case c5 => have := hN.size; simp; omega
              intro v' W2 hown' hgrow _
              have hN3 : New w W2 := (hN.alloc _).grown hgrow (fun g hg => .inl (hown.lt g hg).1)
              have hown3 : W2.ownsRow w.heap.size 5 1 v' (acc ++ [cc]).length (u8s (acc ++ [cc])) := by
                have : u8s (acc ++ [cc]) = u8s acc ++ [.int .u8 ((N2 : Int) / 4 % 256)] := by rw [u8s_snoc, hz]
                rw [this, List.length_append]
                exact hown'
              clear hown hown' hgrow
              go_wp2_with fail
              go_roundw
              case rel => exact ⟨k + 1, acc ++ [cc], N2, 4 - 2, by omega, by go_num, rfl, rfl, hown3, hN3, hs2, hN2l, by omega, by rw [List.length_append]; show acc.length + 1 ≤ k + 1; omega⟩
              case measure => simp [intOf]; omega
            · have hz : ((UInt8.ofNat (N2 / 2 ^ (6 - 2) % 256)).toNat : Int) = (N2 : Int) / 16 % 256 := by rw [byte_val]; simp
              obtain ⟨cc, hcc⟩ : ∃ cc, UInt8.ofNat (N2 / 2 ^ (6 - 2) % 256) = cc := ⟨_, rfl⟩
              rw [hcc] at hz hs2
              clear hcc
              go_upto_region 13 with fail
              go_wp2_with (at_builtin; refine wpList_append_own _ rfl _ _ 113 rfl w.heap.size 5 i0 _ 1 1 Tryz.underlying113 hi hz0 hz1 hz2 rfl (by decide) _ _ _ rfl (hown.alloc _) ⟨wr.heap.size, 0, none⟩ 1 1 [.int .u8 ((N2 : Int) / 16 % 256)] rfl rfl ?c1 ?c2 ?c3 ?c4 ?c5 ?_)
              case c1 => exact cell_one_new _ _ _
              case c2 => simp [Value.oneCell']
              case c3 => unfold maxLen; omega
              case c4 => have := hown.1; simp; omega
              case c5 => have := hN.size; simp; omega
              intro v' W2 hown' hgrow _
              have hN3 : New w W2 := (hN.alloc _).grown hgrow (fun g hg => .inl (hown.lt g hg).1)
              have hown3 : W2.ownsRow w.heap.size 5 1 v' (acc ++ [cc]).length (u8s (acc ++ [cc])) := by
                have : u8s (acc ++ [cc]) = u8s acc ++ [.int .u8 ((N2 : Int) / 16 % 256)] := by rw [u8s_snoc, hz]
                rw [this, List.length_append]
                exact hown'
              clear hown hown' hgrow
              go_wp2_with fail
              go_roundw
              case rel => exact ⟨k + 1, acc ++ [cc], N2, 6 - 2, by omega, by go_num, rfl, rfl, hown3, hN3, hs2, hN2l, by omega, by rw [List.length_append]; show acc.length + 1 ≤ k + 1; omega⟩
              case measure => simp [intOf]; omega
      · obtain rfl : k = t.size := by omega
        have hkd : decide ((t.size : Int) < (t.size : Int)) = false := decide_eq_false (by omega)
        have he := Lib.hid (sofar_end hso.out (by rw [bl_len]; exact Nat.le_refl _))
        clear hso
        rcases hbt with rfl | rfl | rfl | rfl
        · have hand : bits BinOp.and IntKind.u32 (N : Int) 0 = ((N % 1 : Nat) : Int) := by
            have := u32_and_nat N 0 hN32 (by decide)
            rw [show (0 : Nat) = 2 ^ 0 - 1 from rfl, Nat.and_two_pow_sub_one_eq_mod] at this
            exact this
          have he' : Bare.take6 0 0 (bl t) = if N % 1 = 0 then some acc else none := he.out
          rw [hr.out] at he'
          obtain ⟨y, hy⟩ : ∃ y, N % 1 = y := ⟨_, rfl⟩
          rw [hy] at hand he'
          clear hy he hr
          by_cases hy0 : y = 0
          · subst hy0
            rw [if_pos rfl] at he'
            subst he'
            have hcv := conv_own hown
            go_wp2_with fail
            simp only [Exit.jump]
            go_ret2
            exact ⟨rfl, hN⟩
          · have hyd : ((y : Int) == 0) = false := by rw [beq_eq_false_iff_ne]; omega
            rw [if_neg hy0] at he'
            have hrn : Hid (r = none) := Lib.hid he'
            clear he' hy0
            go_wp2_with fail
            refine wp_label ?_
            go_wp2_with fail
            obtain rfl := hrn.out
            simp only [Exit.jump]
            go_ret2
            exact ⟨rfl, hN⟩
        · have hand : bits BinOp.and IntKind.u32 (N : Int) 3 = ((N % 4 : Nat) : Int) := by
            have := u32_and_nat N 3 hN32 (by decide)
            rw [show (3 : Nat) = 2 ^ 2 - 1 from rfl, Nat.and_two_pow_sub_one_eq_mod] at this
            exact this
          have he' : Bare.take6 0 0 (bl t) = if N % 4 = 0 then some acc else none := he.out
          rw [hr.out] at he'
          obtain ⟨y, hy⟩ : ∃ y, N % 4 = y := ⟨_, rfl⟩
          rw [hy] at hand he'
          clear hy he hr
          by_cases hy0 : y = 0
          · subst hy0
            rw [if_pos rfl] at he'
            subst he'
            have hcv := conv_own hown
            go_wp2_with fail
            simp only [Exit.jump]
            go_ret2
            exact ⟨rfl, hN⟩
          · have hyd : ((y : Int) == 0) = false := by rw [beq_eq_false_iff_ne]; omega
            rw [if_neg hy0] at he'
            have hrn : Hid (r = none) := Lib.hid he'
            clear he' hy0
            go_wp2_with fail
            refine wp_label ?_
            go_wp2_with fail
            obtain rfl := hrn.out
            simp only [Exit.jump]
            go_ret2
            exact ⟨rfl, hN⟩
        · have hand : bits BinOp.and IntKind.u32 (N : Int) 15 = ((N % 16 : Nat) : Int) := by
            have := u32_and_nat N 15 hN32 (by decide)
            rw [show (15 : Nat) = 2 ^ 4 - 1 from rfl, Nat.and_two_pow_sub_one_eq_mod] at this
            exact this
          have he' : Bare.take6 0 0 (bl t) = if N % 16 = 0 then some acc else none := he.out
          rw [hr.out] at he'
          obtain ⟨y, hy⟩ : ∃ y, N % 16 = y := ⟨_, rfl⟩
          rw [hy] at hand he'
          clear hy he hr
          by_cases hy0 : y = 0
          · subst hy0
            rw [if_pos rfl] at he'
            subst he'
            have hcv := conv_own hown
            go_wp2_with fail
            simp only [Exit.jump]
            go_ret2
            exact ⟨rfl, hN⟩
          · have hyd : ((y : Int) == 0) = false := by rw [beq_eq_false_iff_ne]; omega
            rw [if_neg hy0] at he'
            have hrn : Hid (r = none) := Lib.hid he'
            clear he' hy0
            go_wp2_with fail
            refine wp_label ?_
            go_wp2_with fail
            obtain rfl := hrn.out
            simp only [Exit.jump]
            go_ret2
            exact ⟨rfl, hN⟩
        · have hand : bits BinOp.and IntKind.u32 (N : Int) 63 = ((N % 64 : Nat) : Int) := by
            have := u32_and_nat N 63 hN32 (by decide)
            rw [show (63 : Nat) = 2 ^ 6 - 1 from rfl, Nat.and_two_pow_sub_one_eq_mod] at this
            exact this
          have he' : Bare.take6 0 0 (bl t) = if N % 64 = 0 then some acc else none := he.out
          rw [hr.out] at he'
          obtain ⟨y, hy⟩ : ∃ y, N % 64 = y := ⟨_, rfl⟩
          rw [hy] at hand he'
          clear hy he hr
          by_cases hy0 : y = 0
          · subst hy0
            rw [if_pos rfl] at he'
            subst he'
            have hcv := conv_own hown
            go_wp2_with fail
            simp only [Exit.jump]
            go_ret2
            exact ⟨rfl, hN⟩
          · have hyd : ((y : Int) == 0) = false := by rw [beq_eq_false_iff_ne]; omega
            rw [if_neg hy0] at he'
            have hrn : Hid (r = none) := Lib.hid he'
            clear he' hy0
            go_wp2_with fail
            refine wp_label ?_
            go_wp2_with fail
            obtain rfl := hrn.out
            simp only [Exit.jump]
            go_ret2
            exact ⟨rfl, hN⟩
end Go.Proofs.YtkiiameibdhdfaaGreatDoor
/- Bytes by sixes, strings read (the program). -/
namespace Go.Proofs.YtkiiameibdhdfaaGreatDoor
open Go.RowKit Go.Shelf Go.Cs
attribute [local go_sem] Oper.semAt_some
set_option linter.unusedVariables false
set_option linter.unusedSimpArgs false
/-- What is asked of package-level variables. -/
structure Tab (W : World) : Prop where
  pow : Lib.TabIs Tryz.prog W "internal/strconv.uint64pow10" .u64 Lib.pow10Tab
  max : ∃ m, W.cell? ⟨0, 0, none⟩ = some (.int .i64 m)
theorem gPow : Tryz.prog.globalNamed "internal/strconv.uint64pow10" = some 3 := by kernel_rfl
theorem Tab.new {W W' : World} (h : Tab W) (hN : New W W') : Tab W' := by
  refine ⟨?_, ?_⟩
  · exact Go.Joins.tab_stays gPow h.pow hN.toBelow (Nat.le_refl _)
  · obtain ⟨m, hm⟩ := h.max
    exact ⟨m, hN.cell hm id⟩
theorem drewN_new (w : World) (n : Nat) : New w (w.drewN n) := (Mods.refl _ _).drewN n
theorem cut_any (s : ByteArray) (w : World) (hs : s.size ≤ 1000000) (hT : Tab w) :
    Calls Tryz.prog 220 #[.string s, .string ⟨#[58]⟩] w fun e w' => e = .returned (.tuple #[.string (tx (Lib.cut (bl s) [58]).1), .string (tx (Lib.cut (bl s) [58]).2.1), .bool (Lib.cut (bl s) [58]).2.2]) ∧ New w w' := by
  obtain ⟨m, hm⟩ := hT.max
  refine (Tryz.strings_Cut s ⟨#[58]⟩ m w (by omega) hm).mono ?_
  rintro e w' ⟨he, n, hw⟩
  exact ⟨he, by rw [hw]; exact drewN_new _ _⟩
set_option maxHeartbeats 2000000 in
theorem packed_read (s : ByteArray) (w : World) (hs : s.size ≤ 1000000) (h0 : 0 < s.size) (hT : Tab w) :
    Calls Tryz.prog 212 #[.string s] w (ReadP (Bare.packed ((bl s).drop 1)) w) := by
  have hs1 : ∀ W, (Instr.slice 9 (.string s) (some (.int .i64 1)) none none).run Tryz.prog W = .ok (.string (tx ((bl s).drop 1))) W := run_sl_l s 1 (by omega)
  obtain ⟨T, hTt⟩ : ∃ T, tx ((bl s).drop 1) = T := ⟨_, rfl⟩
  have hTl : (bl s).drop 1 = bl T := by rw [← hTt]
  have hTs : T.size ≤ 1000000 := by rw [← hTt, tx_size, List.length_drop, bl_len]; omega
  rw [hTt] at hs1
  rw [hTl]
  clear hTt hTl
  have HC := Lib.hid (fun W (hN : New w W) => cut_any T W hTs (hT.new hN))
  rw [Bare.cut_colon, bl_len] at HC
  have hin := Bare.takeWhile_len (· != 58) (bl T)
  unfold Bare.packed
  simp only
  rw [bl_len]
  obtain ⟨inn, hinn⟩ : ∃ x, (bl T).takeWhile (· != 58) = x := ⟨_, rfl⟩
  rw [hinn] at HC hin ⊢
  rw [bl_len] at hin
  clear hinn
  obtain ⟨hN, hr⟩ := no_row w
  by_cases hend : inn.length = T.size
  · rw [if_pos hend] at HC
    rw [if_pos hend]
    simp only at HC
    rw [tx_bl] at HC
    have HU := Lib.hid (fun W => unsix_any T W hTs)
    obtain ⟨r, hr'⟩ : ∃ r, Bare.unsix (bl T) = r := ⟨_, rfl⟩
    rw [hr'] at HU
    clear hr' hend hin
    unfold ReadP bv bcs noIt unsixV at *
    simp only
    cases r <;> simp only at HU
    all_goals
      go_enter Tryz.func212, Tryz.ntmps212
      go_upto_region 1 with fail
      obtain ⟨W, hW⟩ : ∃ W, w.alloc (.cells #[.int .u8 0, .int .i64 0, .string ⟨#[]⟩, .bool false] 66) = W := ⟨_, rfl⟩
      rw [hW] at hN hr ⊢
      obtain ⟨B, hB⟩ : ∃ B, w.heap.size = B := ⟨_, rfl⟩
      have hBw : w.heap.size ≤ B := by omega
      rw [hB] at hr ⊢
      clear hW hB
      obtain ⟨⟨c0, c1, c2, c3⟩, f0, f1, f2, f3⟩ := row_facts hr
      go_upto_region 4 with (first | (go_at_call 220; refine (HC.out _ hN).mono ?_; rintro e w1 ⟨rfl, hN1⟩) | (go_at_call 221; refine (HU.out _).mono ?_; rintro e w2 ⟨rfl, hN2⟩))
      have hN := hN.trans (hN1.trans hN2)
      have hr := (hN1.trans hN2).heap hr id
      clear c0 c1 c2 c3 f0 f1 f2 f3
      obtain ⟨⟨c0, c1, c2, c3⟩, f0, f1, f2, f3⟩ := row_facts hr
      go_wp2_with fail
      obtain ⟨hN2, hr2⟩ := set4 hN hBw hr (.int .u8 0) (.int .i64 0) (.string ⟨#[]⟩) (.bool false)
      obtain ⟨W2, hW2⟩ : ∃ W2, ((((w2.setCell ⟨B, 0, none⟩ (.int .u8 0)).setCell ⟨B, 1, none⟩ (.int .i64 0)).setCell ⟨B, 2, none⟩ (.string ⟨#[]⟩)).setCell ⟨B, 3, none⟩ (.bool false)) = W2 := ⟨_, rfl⟩
      rw [hW2] at hN2 hr2 ⊢
      exact read_end (by kernel_rfl) rfl rfl rfl hr2 ⟨rfl, hN2⟩
  · rw [if_neg hend] at HC
    rw [if_neg hend]
    simp only at HC
    have HU := Lib.hid (fun W => unsix_any (tx inn) W (by rw [tx_size]; omega))
    rw [bl_tx] at HU
    obtain ⟨r, hr'⟩ : ∃ r, Bare.unsix inn = r := ⟨_, rfl⟩
    rw [hr'] at HU ⊢
    obtain ⟨ti, hti⟩ : ∃ x, tx inn = x := ⟨_, rfl⟩
    obtain ⟨x, hx⟩ : ∃ x, tx ((bl T).drop (inn.length + 1)) = x := ⟨_, rfl⟩
    rw [hti] at HU HC
    rw [hx] at HC
    cases r with
    | none =>
      unfold ReadP bv bcs noIt unsixV at *
      simp only [Option.map_none]
      simp only at HU
      clear hr' hend hin hti hx
      go_enter Tryz.func212, Tryz.ntmps212
      go_upto_region 1 with fail
      obtain ⟨W, hW⟩ : ∃ W, w.alloc (.cells #[.int .u8 0, .int .i64 0, .string ⟨#[]⟩, .bool false] 66) = W := ⟨_, rfl⟩
      rw [hW] at hN hr ⊢
      obtain ⟨B, hB⟩ : ∃ B, w.heap.size = B := ⟨_, rfl⟩
      have hBw : w.heap.size ≤ B := by omega
      rw [hB] at hr ⊢
      clear hW hB
      obtain ⟨⟨c0, c1, c2, c3⟩, f0, f1, f2, f3⟩ := row_facts hr
      go_upto_region 4 with (first | (go_at_call 220; refine (HC.out _ hN).mono ?_; rintro e w1 ⟨rfl, hN1⟩) | (go_at_call 221; refine (HU.out _).mono ?_; rintro e w2 ⟨rfl, hN2⟩))
      have hN := hN.trans (hN1.trans hN2)
      have hr := (hN1.trans hN2).heap hr id
      clear c0 c1 c2 c3 f0 f1 f2 f3
      obtain ⟨⟨c0, c1, c2, c3⟩, f0, f1, f2, f3⟩ := row_facts hr
      go_wp2_with fail
      obtain ⟨hN2, hr2⟩ := set4 hN hBw hr (.int .u8 0) (.int .i64 0) (.string ⟨#[]⟩) (.bool false)
      obtain ⟨W2, hW2⟩ : ∃ W2, ((((w2.setCell ⟨B, 0, none⟩ (.int .u8 0)).setCell ⟨B, 1, none⟩ (.int .i64 0)).setCell ⟨B, 2, none⟩ (.string ⟨#[]⟩)).setCell ⟨B, 3, none⟩ (.bool false)) = W2 := ⟨_, rfl⟩
      rw [hW2] at hN2 hr2 ⊢
      exact read_end (by kernel_rfl) rfl rfl rfl hr2 ⟨rfl, hN2⟩
    | some t =>
      unfold ReadP bv bcs unsixV at *
      simp only [Option.map_some]
      simp only at HU
      rw [hx]
      obtain ⟨y, hy⟩ : ∃ y, tx t = y := ⟨_, rfl⟩
      rw [hy] at HU ⊢
      clear hr' hend hin hti hx hy
      go_enter Tryz.func212, Tryz.ntmps212
      go_upto_region 1 with fail
      obtain ⟨W, hW⟩ : ∃ W, w.alloc (.cells #[.int .u8 0, .int .i64 0, .string ⟨#[]⟩, .bool false] 66) = W := ⟨_, rfl⟩
      rw [hW] at hN hr ⊢
      obtain ⟨B, hB⟩ : ∃ B, w.heap.size = B := ⟨_, rfl⟩
      have hBw : w.heap.size ≤ B := by omega
      rw [hB] at hr ⊢
      clear hW hB
      obtain ⟨⟨c0, c1, c2, c3⟩, f0, f1, f2, f3⟩ := row_facts hr
      go_upto_region 5 with (first | (go_at_call 220; refine (HC.out _ hN).mono ?_; rintro e w1 ⟨rfl, hN1⟩) | (go_at_call 221; refine (HU.out _).mono ?_; rintro e w2 ⟨rfl, hN2⟩))
      have hN := hN.trans (hN1.trans hN2)
      have hr := (hN1.trans hN2).heap hr id
      clear c0 c1 c2 c3 f0 f1 f2 f3
      obtain ⟨⟨c0, c1, c2, c3⟩, f0, f1, f2, f3⟩ := row_facts hr
      go_wp2_with fail
      obtain ⟨hN2, hr2⟩ := set4 hN hBw hr (.int .u8 5) (.int .i64 0) (.string y) (.bool false)
      obtain ⟨W2, hW2⟩ : ∃ W2, ((((w2.setCell ⟨B, 0, none⟩ (.int .u8 5)).setCell ⟨B, 1, none⟩ (.int .i64 0)).setCell ⟨B, 2, none⟩ (.string y)).setCell ⟨B, 3, none⟩ (.bool false)) = W2 := ⟨_, rfl⟩
      rw [hW2] at hN2 hr2 ⊢
      exact read_end (by kernel_rfl) rfl rfl rfl hr2 ⟨rfl, hN2⟩
end Go.Proofs.YtkiiameibdhdfaaGreatDoor
/- Bytes, three by three (the program). -/
namespace Go.Proofs.YtkiiameibdhdfaaGreatDoor
open Go.RowKit Go.Shelf Go.Cs
attribute [local go_sem] Oper.semAt_some
set_option linter.unusedVariables false
set_option linter.unusedSimpArgs false
/-- What turning the box of B leaves. -/
def Kx (B : Nat) (A A' : World) : Prop := Mods (fun b => b = B) A A' ∧ ∀ c t fr, A.heap[B]? = some (.cells c t fr) → ∃ c', A'.heap[B]? = some (.cells c' t fr)
theorem Kx.keeps {B : Nat} : ∀ A A', Kx B A A' → ∀ (k : Nat) (o : Obj), A.heap[k]? = some o → o.isCells = false → A'.heap[k]? = some o := fun A A' h k o hk ho => h.1.block k o hk (.inr ho)
theorem Kx.set (B : Nat) (A : World) (v : Value) : Kx B A (A.setCell ⟨B, 0, none⟩ v) :=
  ⟨setMods A B 0 v, fun c t fr h => ⟨_, setCell_heap h v⟩⟩
/-- How much is left in the box. -/
def left (B : Nat) (w : World) : Nat := match w.cell? ⟨B, 0, none⟩ with
  | some (.string s) => s.size
  | _ => 0
end Go.Proofs.YtkiiameibdhdfaaGreatDoor
/- Sixes (the program). -/
namespace Go.Proofs.YtkiiameibdhdfaaGreatDoor
open Go.RowKit Go.Shelf Go.Cs
attribute [local go_sem] Oper.semAt_some
set_option linter.unusedVariables false
set_option linter.unusedSimpArgs false
abbrev TB : Nat := 149
/-- The builder, and the box of what is left, in a world behind w. -/
def SI (w : World) (b X : Nat) (l : Bare.Bs) (W : World) : Prop := Lib.IsBuilderF TB 5 b b (Lib.byteCells l) W ∧ (∃ c fr, W.heap[X]? = some (.cells c 9 fr)) ∧ Mods (fun k => b ≤ k) w W
theorem SI.has {w W : World} {b X : Nat} {l : Bare.Bs} (h : SI w b X l W) : ∃ c t fr, W.heap[b]? = some (.cells c t fr) := by
  rcases h.1 with ⟨_, v, hb, _⟩ | ⟨_, v, hb, _⟩
  · exact ⟨_, _, _, hb⟩
  · exact ⟨_, _, _, hb⟩
end Go.Proofs.YtkiiameibdhdfaaGreatDoor
/- Tables that rows list; a world for the witness; an item that comes in. -/
namespace Go.Proofs.YtkiiameibdhdfaaGreatDoor
open Go.RowKit Go.Shelf Go.Cs Go.ChangeShapes Go.WideShapes Go.ChangeAt
set_option linter.unusedVariables false
/-- What the rows list. -/
def laidL : List (String × DataW Unit) := Rows.urgentEachRow.laid
theorem tPow : (Tryz.prog.globals[3]?).map (·.type) = some 226 := by kernel_rfl
theorem tab_of_laid {W : World} (h : laidMetH Tryz.prog laidL W) (hs : W.ShapedOpen Tryz.prog) : Tab W := by
  have hmax := cell_of_shapedOpen_int (P := Tryz.prog) (g := 0) (t := 3) (zero := #[.int .i64 0]) hs (of_decide_eq_true (by kernel_rfl)) (by kernel_rfl) rfl (by kernel_rfl) (by kernel_rfl) Tryz.underlying3
  rw [MakeChecks.laidMetH_plain _ _ _ (by kernel_rfl)] at h
  obtain ⟨ps, ⟨g0, t0, cs0, f0, p0, q0, hg0, ht0, hv0, hd0, ⟨g1, t1, cs1, f1, p1, q1, hg1, ht1, hv1, hd1, ⟨g, t, cs, fuel, p, q, hg, ht, hv, hd, _, _⟩, _⟩, _⟩, _, _⟩ := h
  obtain rfl := Option.some.inj (gPow.symm.trans hg)
  obtain rfl := Option.some.inj (tPow.symm.trans ht)
  have hd' : DataW.trod (fun _ => ()) Tryz.prog W 0 (fun _ => true) false fuel 226 cs.toList = some (Lib.tabData .u64 Lib.pow10Tab, p) := hd
  have e := Lib.cells_of_tab Tryz.underlying226 Tryz.underlying212 (by kernel_rfl) (by kernel_rfl) hd'
  refine ⟨?_, ?_⟩
  · unfold Lib.TabIs
    rw [hv, ← e]
  · exact hmax
/-- A world for the witness: what the door's own run leaves, and the pinned table. -/
noncomputable def laidW (os : Os) : World :=
  { World.doorLaid Tryz.prog 400 os with heap := (World.doorLaid Tryz.prog 400 os).heap.modify 1 fun
      | .cells _ t frozen => .cells (Pinned.utf8FirstZ.map fun n => Value.int .u8 (n : Nat)).toArray t frozen
      | o => o }
set_option maxRecDepth 100000 in
theorem laidW_met (os : Os) (args : Array Value) : laidMetH Tryz.prog laidL ((laidW os).forCall (fun _ _ => 0) ⟨#[], args, []⟩).memory :=
  laidMetH_of_parts3 (fuel := 8) (laidMet_of_run' 8 (by kernel_rfl) (by kernel_rfl)) (by kernel_rfl) (by kernel_rfl)
end Go.Proofs.YtkiiameibdhdfaaGreatDoor
