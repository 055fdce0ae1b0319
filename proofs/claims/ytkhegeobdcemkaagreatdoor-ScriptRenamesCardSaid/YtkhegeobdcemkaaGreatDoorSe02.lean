/- Texts packed: Shelf, AtoiW, BldW, BldB, BldK, LawA, RefA, Shelf2, Str, CodeW, CutS, CutW, DecW, GenC, GenE, HexW, FilesW, FilesX, FilesY, EqI, LaidW, NumS, PlainS, SlateS, SpkW, TkS, NextS, TkT, TlS, TtS, WdS. -/
import Derived.Shelf.Strings.Builder1
import Derived.Shelf.Strings.Builder2
import Derived.Shelf.Strings.OnBuilder
import Derived.Shelf.Strings.Trim
import Derived.Shelf.Small.Utf8
import Derived.Shelf.Small.Strs
import Derived.Shelf.Small.Wraps
import Derived.Shelf.Strings.BuilderF
import Derived.Shelf.Strings.BuilderK
import Derived.Shelf.Strings.Builder2Cap
import Derived.Shelf.Strconv.Atoi
import Derived.Shelf.Strconv.Itoa0
import Derived.Shelf.Strconv.Itoa1
import Derived.Shelf.LaysM
import Derived.Shelf.Strconv.Itoa2
import Derived.Shelf.Strconv.Itoa3
import Derived.Shelf.Strconv.AtoiErrFast
import Derived.Shelf.Strconv.ParseIntEmpty
import Derived.Shelf.Strconv.AtoiFail
import Derived.Shelf.Strconv.Clone
import Derived.Shelf.Strconv.SyntaxError
import Derived.Shelf.LaysC
import Derived.Shelf.Strconv.ToError
import Derived.Shelf.Strconv.Lower
import Derived.Shelf.Strconv.ParseUint10
import Derived.Shelf.Strconv.ParseUint10Empty
import Derived.Shelf.Strconv.ParseUint10Any
import Derived.Shelf.Strconv.ParseInt10
import Derived.Shelf.Strconv.AtoiLong
import Derived.Shelf.Strconv.AtoiInnerAll
import Derived.Shelf.Strconv.RangeError
import Derived.Shelf.Strconv.ToErrorRange
import Derived.Shelf.Strconv.AtoiAll
import Derived.Shelf.Strconv.ErrVarAll
import Derived.Shelf.Strings.Search1
import Derived.Shelf.Strings.Search2
import Derived.Shelf.Strings.Search3
import Derived.Shelf.Strings.Cut
import Derived.Shelf.Strings.Count
import Derived.Shelf.Strings.Shaped
import Derived.Shelf.Strings.LastIndex
import Derived.Shelf.Strings.LastIndexAll
import Derived.Shelf.Strings.Prefix
import Derived.Shelf.Strings.Split
import Derived.Shelf.Strings.Fields
import Derived.Shelf.Strings.SplitShaped
import Derived.Shelf.Unicode.Latin
import Derived.Shelf.Unicode.Decode
import Derived.Shelf.Strings.Runes
import Derived.Shelf.Strings.RuneCount
import Derived.Shelf.Strings.IndexAny
import Derived.Shelf.Strings.AsciiSet
import Derived.Shelf.Strings.IndexAnyAll
import Derived.Shelf.Strings.Explode
import Derived.Shelf.Bits.Mul64
import Derived.Shelf.Strings.Repeat
import Derived.Shelf.Unicode.DecodeSlow
import Derived.Shelf.Unicode.DecodeAny
import Derived.Shelf.Unicode.Is16White
import Derived.Shelf.Unicode.IsSpaceAny
import Derived.Shelf.Unicode.DecodeLast
import Derived.Shelf.Strings.FieldsFuncAny
import Derived.Shelf.Unicode.Is16Any
import Derived.Shelf.Unicode.Is32Any
import Derived.Shelf.Unicode.ExclAny
import Derived.Shelf.Strings.FieldsFuncGrows
import Derived.Shelf.Strings.BuilderCap
import Derived.Shelf.Slices.Turned
import Derived.Shelf.Slices.Equal
import Derived.Ground.Names2Prog
import Derived.Shelf.Slices.Clone
import Derived.Shelf.Slices.Delete
import Derived.Shelf.Slices.Empties2
import Derived.Ground.SlgnProg
import Derived.Shelf.SlicesE.Equal
import Derived.Test.YtkhegeobdcemkaaGreatDoorProg
import Derived.Test.YtkhegeobdcemkaaGreatDoorRows
import Derived.Test.YtkhegeobdcemkaaGreatDoorSe01
import Derived.Lib.SmallJoins
import Derived.Shelf.Strings.SlTrimAscii
import Derived.Laws.IdiomStrings
import Derived.Lib.QuietBelow
import Derived.BigQuiet
import Derived.Deep.RegionWith
import Derived.Lib.IndexLaws
import Derived.Laws.Bits64
import Derived.Laws.Bits64b
import Derived.Outline
import Derived.Deep.RegionHeld3
import Derived.Deep.AppendLies
import Derived.Deep.QuietTactic
import Derived.Lib.ItoaLen
import Derived.Lib.Strings
import Derived.Lib.ItoaNum
import Derived.Lib.FieldsP
import Derived.Lib.IndexMore
import Derived.Lib.Slices
import Derived.RegionTactic
/- The shelf contracts that these proofs use, laid at this translation. -/
namespace Go.Proofs
open Go.Shelf
def Tryz.lays169_ren : Go.Shelf.Ren := ⟨fun | 169 => 119 | n => n, fun | 70 => 146 | 9 => 9 | 0 => 0 | 72 => 148 | 37 => 140 | 127 => 196 | 3 => 3 | 5 => 5 | n => n, fun | n => n⟩
theorem Tryz.lays169 : Go.Proofs.Lays.n169 Tryz.prog Tryz.lays169_ren := {
  mixed := by kernel_rfl
  f169 := Tryz.func119.trans (congrArg some (by kernel_rfl))
  t0 := Tryz.underlying0
  a0 := Tryz.isAgg0
  z0 := Tryz.sizeOf0
  v0 := Tryz.zeroValue0
  t3 := Tryz.underlying3
  a3 := Tryz.isAgg3
  z3 := Tryz.sizeOf3
  v3 := Tryz.zeroValue3
  t9 := Tryz.underlying9
  a9 := Tryz.isAgg9
  z9 := Tryz.sizeOf9
  v9 := Tryz.zeroValue9
  t37 := Tryz.underlying140
  a37 := Tryz.isAgg140
  z37 := Tryz.sizeOf140
  v37 := Tryz.zeroValue140
  t70 := Tryz.underlying146
  a70 := Tryz.isAgg146
  z70 := Tryz.sizeOf146
  v70 := Tryz.zeroValue146
  t72 := Tryz.underlying148
  a72 := Tryz.isAgg148
  z72 := Tryz.sizeOf148
  v72 := Tryz.zeroValue148
  t127 := Tryz.underlying196
  a127 := Tryz.isAgg196
  z127 := Tryz.sizeOf196
  v127 := Tryz.zeroValue196 }
theorem Tryz.Builder_Extra_169 : Builder.Extra Tryz.prog Tryz.lays169_ren := {
  sizeBuilder := by kernel_rfl
  liesBuilder := by kernel_rfl
  t5 := Tryz.underlying5
  a5 := Tryz.isAgg5
  z5 := Tryz.sizeOf5
  v5 := Tryz.zeroValue5
  infoByte := by kernel_rfl
  cellsByte := by kernel_rfl
  sizeByte := by kernel_rfl
  neB5 := by decide }
open Go.RowKit in
theorem Tryz.Builder_String_any (B b : Nat) (l : List UInt8) (w : World) (h : Lib.IsBuilder 148 5 B b (Lib.byteCells l) w) (hBw : B ≤ w.heap.size) :
    Calls Tryz.prog 119 #[.pointer (some ⟨b, 0, none⟩)] w fun e w' => e = .returned (.string ⟨l.toArray⟩) ∧ Below B w w' := Any.Builder_String_any Tryz.lays169 Tryz.Builder_Extra_169 B b l w h hBw
def Tryz.lays156_ren : Go.Shelf.Ren := ⟨fun | 156 => 86 | 165 => 132 | 166 => 117 | 169 => 119 | 240 => 167 | 241 => 178 | 276 => 208 | 277 => 215 | n => n, fun | 31 => 61 | 9 => 9 | 3 => 3 | 4 => 4 | 0 => 0 | 20 => 20 | 72 => 148 | 76 => 151 | 70 => 146 | 37 => 140 | 75 => 150 | 127 => 196 | 164 => 228 | 5 => 5 | 80 => 48 | n => n, fun | n => n⟩
theorem Tryz.lays156 : Go.Proofs.Lays.n156 Tryz.prog Tryz.lays156_ren := {
  mixed := by kernel_rfl
  f156 := Tryz.func86.trans (congrArg some (by kernel_rfl))
  f165 := Tryz.func132.trans (congrArg some (by kernel_rfl))
  f166 := Tryz.func117.trans (congrArg some (by kernel_rfl))
  f169 := Tryz.func119.trans (congrArg some (by kernel_rfl))
  f240 := Tryz.func167.trans (congrArg some (by kernel_rfl))
  f241 := Tryz.func178.trans (congrArg some (by kernel_rfl))
  f276 := Tryz.func208.trans (congrArg some (by kernel_rfl))
  f277 := Tryz.func215.trans (congrArg some (by kernel_rfl))
  t0 := Tryz.underlying0
  a0 := Tryz.isAgg0
  z0 := Tryz.sizeOf0
  v0 := Tryz.zeroValue0
  t3 := Tryz.underlying3
  a3 := Tryz.isAgg3
  z3 := Tryz.sizeOf3
  v3 := Tryz.zeroValue3
  t4 := Tryz.underlying4
  a4 := Tryz.isAgg4
  z4 := Tryz.sizeOf4
  v4 := Tryz.zeroValue4
  t9 := Tryz.underlying9
  a9 := Tryz.isAgg9
  z9 := Tryz.sizeOf9
  v9 := Tryz.zeroValue9
  t20 := Tryz.underlying20
  a20 := Tryz.isAgg20
  z20 := Tryz.sizeOf20
  v20 := Tryz.zeroValue20
  t31 := Tryz.underlying61
  a31 := Tryz.isAgg61
  z31 := Tryz.sizeOf61
  v31 := Tryz.zeroValue61
  t37 := Tryz.underlying140
  a37 := Tryz.isAgg140
  z37 := Tryz.sizeOf140
  v37 := Tryz.zeroValue140
  t70 := Tryz.underlying146
  a70 := Tryz.isAgg146
  z70 := Tryz.sizeOf146
  v70 := Tryz.zeroValue146
  t72 := Tryz.underlying148
  a72 := Tryz.isAgg148
  z72 := Tryz.sizeOf148
  v72 := Tryz.zeroValue148
  t75 := Tryz.underlying150
  a75 := Tryz.isAgg150
  z75 := Tryz.sizeOf150
  v75 := Tryz.zeroValue150
  t76 := Tryz.underlying151
  a76 := Tryz.isAgg151
  z76 := Tryz.sizeOf151
  v76 := Tryz.zeroValue151
  t127 := Tryz.underlying196
  a127 := Tryz.isAgg196
  z127 := Tryz.sizeOf196
  v127 := Tryz.zeroValue196
  t164 := Tryz.underlying228
  a164 := Tryz.isAgg228
  z164 := Tryz.sizeOf228
  v164 := Tryz.zeroValue228 }
theorem Tryz.Builder_Extra_156 : Builder.Extra Tryz.prog Tryz.lays156_ren := {
  sizeBuilder := by kernel_rfl
  liesBuilder := by kernel_rfl
  t5 := Tryz.underlying5
  a5 := Tryz.isAgg5
  z5 := Tryz.sizeOf5
  v5 := Tryz.zeroValue5
  infoByte := by kernel_rfl
  cellsByte := by kernel_rfl
  sizeByte := by kernel_rfl
  neB5 := by decide }
def Tryz.lays161_ren : Go.Shelf.Ren := ⟨fun | 161 => 231 | 231 => 157 | 227 => 159 | 233 => 160 | 235 => 162 | 228 => 203 | 197 => 204 | 151 => 205 | 260 => 234 | 152 => 232 | 137 => 164 | 119 => 250 | 224 => 244 | 225 => 243 | 217 => 207 | 266 => 236 | n => n, fun | 9 => 9 | 4 => 4 | 3 => 3 | 5 => 5 | 117 => 190 | 116 => 189 | 0 => 0 | 124 => 193 | 105 => 225 | 21 => 21 | 119 => 184 | 46 => 179 | 139 => 262 | 138 => 261 | n => n, fun | 3 => 4 | 4 => 5 | n => n⟩
theorem Tryz.lays161 : Go.Proofs.Lays.n161 Tryz.prog Tryz.lays161_ren := {
  mixed := by kernel_rfl
  f119 := Tryz.func250.trans (congrArg some (by kernel_rfl))
  f137 := Tryz.func164.trans (congrArg some (by kernel_rfl))
  f151 := Tryz.func205.trans (congrArg some (by kernel_rfl))
  f152 := Tryz.func232.trans (congrArg some (by kernel_rfl))
  f161 := Tryz.func231.trans (congrArg some (by kernel_rfl))
  f197 := Tryz.func204.trans (congrArg some (by kernel_rfl))
  f217 := Tryz.func207.trans (congrArg some (by kernel_rfl))
  f224 := Tryz.func244.trans (congrArg some (by kernel_rfl))
  f225 := Tryz.func243.trans (congrArg some (by kernel_rfl))
  f227 := Tryz.func159.trans (congrArg some (by kernel_rfl))
  f228 := Tryz.func203.trans (congrArg some (by kernel_rfl))
  f231 := Tryz.func157.trans (congrArg some (by kernel_rfl))
  f233 := Tryz.func160.trans (congrArg some (by kernel_rfl))
  f235 := Tryz.func162.trans (congrArg some (by kernel_rfl))
  f260 := Tryz.func234.trans (congrArg some (by kernel_rfl))
  f266 := Tryz.func236.trans (congrArg some (by kernel_rfl))
  t0 := Tryz.underlying0
  a0 := Tryz.isAgg0
  z0 := Tryz.sizeOf0
  v0 := Tryz.zeroValue0
  t3 := Tryz.underlying3
  a3 := Tryz.isAgg3
  z3 := Tryz.sizeOf3
  v3 := Tryz.zeroValue3
  t4 := Tryz.underlying4
  a4 := Tryz.isAgg4
  z4 := Tryz.sizeOf4
  v4 := Tryz.zeroValue4
  t5 := Tryz.underlying5
  a5 := Tryz.isAgg5
  z5 := Tryz.sizeOf5
  v5 := Tryz.zeroValue5
  t9 := Tryz.underlying9
  a9 := Tryz.isAgg9
  z9 := Tryz.sizeOf9
  v9 := Tryz.zeroValue9
  t21 := Tryz.underlying21
  a21 := Tryz.isAgg21
  z21 := Tryz.sizeOf21
  v21 := Tryz.zeroValue21
  t46 := Tryz.underlying179
  a46 := Tryz.isAgg179
  z46 := Tryz.sizeOf179
  v46 := Tryz.zeroValue179
  t105 := Tryz.underlying225
  a105 := Tryz.isAgg225
  z105 := Tryz.sizeOf225
  v105 := Tryz.zeroValue225
  t116 := Tryz.underlying189
  a116 := Tryz.isAgg189
  z116 := Tryz.sizeOf189
  t117 := Tryz.underlying190
  a117 := Tryz.isAgg190
  z117 := Tryz.sizeOf190
  v117 := Tryz.zeroValue190
  t119 := Tryz.underlying184
  a119 := Tryz.isAgg184
  z119 := Tryz.sizeOf184
  t124 := Tryz.underlying193
  a124 := Tryz.isAgg193
  z124 := Tryz.sizeOf193
  v124 := Tryz.zeroValue193
  t138 := Tryz.underlying261
  a138 := Tryz.isAgg261
  z138 := Tryz.sizeOf261
  v138 := Tryz.zeroValue261
  t139 := Tryz.underlying262
  a139 := Tryz.isAgg262
  z139 := Tryz.sizeOf262
  v139 := Tryz.zeroValue262
  g3 := by kernel_rfl
  g4 := by kernel_rfl }
def Tryz.lays160_ren : Go.Shelf.Ren := ⟨fun | 160 => 111 | 232 => 158 | 231 => 157 | 227 => 159 | 234 => 161 | 233 => 160 | 236 => 163 | 235 => 162 | 228 => 203 | 271 => 206 | 151 => 205 | 197 => 204 | 120 => 235 | 152 => 232 | 260 => 234 | 137 => 164 | 119 => 250 | 224 => 244 | 225 => 243 | 217 => 207 | 266 => 236 | n => n, fun | 9 => 9 | 4 => 4 | 3 => 3 | 5 => 5 | 117 => 190 | 116 => 189 | 0 => 0 | 124 => 193 | 21 => 21 | 105 => 225 | 46 => 179 | 119 => 184 | 139 => 262 | 138 => 261 | n => n, fun | 3 => 4 | 4 => 5 | n => n⟩
theorem Tryz.lays160 : Go.Proofs.Lays.n160 Tryz.prog Tryz.lays160_ren := {
  mixed := by kernel_rfl
  f119 := Tryz.func250.trans (congrArg some (by kernel_rfl))
  f120 := Tryz.func235.trans (congrArg some (by kernel_rfl))
  f137 := Tryz.func164.trans (congrArg some (by kernel_rfl))
  f151 := Tryz.func205.trans (congrArg some (by kernel_rfl))
  f152 := Tryz.func232.trans (congrArg some (by kernel_rfl))
  f160 := Tryz.func111.trans (congrArg some (by kernel_rfl))
  f197 := Tryz.func204.trans (congrArg some (by kernel_rfl))
  f217 := Tryz.func207.trans (congrArg some (by kernel_rfl))
  f224 := Tryz.func244.trans (congrArg some (by kernel_rfl))
  f225 := Tryz.func243.trans (congrArg some (by kernel_rfl))
  f227 := Tryz.func159.trans (congrArg some (by kernel_rfl))
  f228 := Tryz.func203.trans (congrArg some (by kernel_rfl))
  f231 := Tryz.func157.trans (congrArg some (by kernel_rfl))
  f232 := Tryz.func158.trans (congrArg some (by kernel_rfl))
  f233 := Tryz.func160.trans (congrArg some (by kernel_rfl))
  f234 := Tryz.func161.trans (congrArg some (by kernel_rfl))
  f235 := Tryz.func162.trans (congrArg some (by kernel_rfl))
  f236 := Tryz.func163.trans (congrArg some (by kernel_rfl))
  f260 := Tryz.func234.trans (congrArg some (by kernel_rfl))
  f266 := Tryz.func236.trans (congrArg some (by kernel_rfl))
  f271 := Tryz.func206.trans (congrArg some (by kernel_rfl))
  t0 := Tryz.underlying0
  a0 := Tryz.isAgg0
  z0 := Tryz.sizeOf0
  v0 := Tryz.zeroValue0
  t3 := Tryz.underlying3
  a3 := Tryz.isAgg3
  z3 := Tryz.sizeOf3
  v3 := Tryz.zeroValue3
  t4 := Tryz.underlying4
  a4 := Tryz.isAgg4
  z4 := Tryz.sizeOf4
  v4 := Tryz.zeroValue4
  t5 := Tryz.underlying5
  a5 := Tryz.isAgg5
  z5 := Tryz.sizeOf5
  v5 := Tryz.zeroValue5
  t9 := Tryz.underlying9
  a9 := Tryz.isAgg9
  z9 := Tryz.sizeOf9
  v9 := Tryz.zeroValue9
  t21 := Tryz.underlying21
  a21 := Tryz.isAgg21
  z21 := Tryz.sizeOf21
  v21 := Tryz.zeroValue21
  t46 := Tryz.underlying179
  a46 := Tryz.isAgg179
  z46 := Tryz.sizeOf179
  v46 := Tryz.zeroValue179
  t105 := Tryz.underlying225
  a105 := Tryz.isAgg225
  z105 := Tryz.sizeOf225
  v105 := Tryz.zeroValue225
  t116 := Tryz.underlying189
  a116 := Tryz.isAgg189
  z116 := Tryz.sizeOf189
  t117 := Tryz.underlying190
  a117 := Tryz.isAgg190
  z117 := Tryz.sizeOf190
  v117 := Tryz.zeroValue190
  t119 := Tryz.underlying184
  a119 := Tryz.isAgg184
  z119 := Tryz.sizeOf184
  t124 := Tryz.underlying193
  a124 := Tryz.isAgg193
  z124 := Tryz.sizeOf193
  v124 := Tryz.zeroValue193
  t138 := Tryz.underlying261
  a138 := Tryz.isAgg261
  z138 := Tryz.sizeOf261
  v138 := Tryz.zeroValue261
  t139 := Tryz.underlying262
  a139 := Tryz.isAgg262
  z139 := Tryz.sizeOf262
  v139 := Tryz.zeroValue262
  g3 := by kernel_rfl
  g4 := by kernel_rfl }
def Tryz.lays137_ren : Go.Shelf.Ren := ⟨fun | 137 => 164 | 217 => 207 | 266 => 236 | n => n, fun | 9 => 9 | 5 => 5 | 3 => 3 | n => n, fun | n => n⟩
theorem Tryz.lays137 : Go.Proofs.Lays.n137 Tryz.prog Tryz.lays137_ren := {
  mixed := by kernel_rfl
  f137 := Tryz.func164.trans (congrArg some (by kernel_rfl))
  f217 := Tryz.func207.trans (congrArg some (by kernel_rfl))
  f266 := Tryz.func236.trans (congrArg some (by kernel_rfl))
  t3 := Tryz.underlying3
  a3 := Tryz.isAgg3
  z3 := Tryz.sizeOf3
  v3 := Tryz.zeroValue3
  t5 := Tryz.underlying5
  a5 := Tryz.isAgg5
  z5 := Tryz.sizeOf5
  v5 := Tryz.zeroValue5
  t9 := Tryz.underlying9
  a9 := Tryz.isAgg9
  z9 := Tryz.sizeOf9
  v9 := Tryz.zeroValue9 }
open Go.RowKit in
theorem Tryz.strings_IndexByte (s : ByteArray) (c : Int) (w : World) :
    Calls Tryz.prog 164 #[.string s, .int .u8 c] w fun e w' => e = .returned (.int .i64 (Lib.indexByte s.data.toList c.toNat.toUInt8)) ∧ w' = w := Any.strings_IndexByte Tryz.lays137 s c w
def Tryz.lays103_ren : Go.Shelf.Ren := ⟨fun | 103 => 89 | 210 => 136 | 206 => 166 | n => n, fun | 9 => 9 | 4 => 4 | 24 => 125 | 3 => 3 | n => n, fun | n => n⟩
theorem Tryz.lays103 : Go.Proofs.Lays.n103 Tryz.prog Tryz.lays103_ren := {
  mixed := by kernel_rfl
  f103 := Tryz.func89.trans (congrArg some (by kernel_rfl))
  f206 := Tryz.func166.trans (congrArg some (by kernel_rfl))
  f210 := Tryz.func136.trans (congrArg some (by kernel_rfl))
  t3 := Tryz.underlying3
  a3 := Tryz.isAgg3
  z3 := Tryz.sizeOf3
  v3 := Tryz.zeroValue3
  t4 := Tryz.underlying4
  a4 := Tryz.isAgg4
  z4 := Tryz.sizeOf4
  v4 := Tryz.zeroValue4
  t9 := Tryz.underlying9
  a9 := Tryz.isAgg9
  z9 := Tryz.sizeOf9
  v9 := Tryz.zeroValue9
  t24 := Tryz.underlying125
  a24 := Tryz.isAgg125
  z24 := Tryz.sizeOf125
  v24 := Tryz.zeroValue125 }
open Go.RowKit in
theorem Tryz.strings_CutPrefix (s p : ByteArray) (w : World) :
    Calls Tryz.prog 89 #[.string s, .string p] w fun e w' => e = .returned (.tuple #[.string ⟨(Lib.trimPrefix s.data.toList p.data.toList).toArray⟩, .bool (Lib.hasPrefix s.data.toList p.data.toList)]) ∧ w' = w := Any.strings_CutPrefix Tryz.lays103 s p w
def Tryz.laysM171_ren : Go.Shelf.Ren := ⟨fun | 171 => 39 | 243 => 96 | 246 => 144 | 283 => 193 | 284 => 194 | 285 => 195 | 286 => 196 | 129 => 225 | 317 => 224 | 318 => 226 | 319 => 227 | 320 => 228 | 337 => 248 | 338 => 249 | n => n, fun | 3 => 3 | 9 => 9 | 2 => 2 | 4 => 4 | 171 => 207 | 0 => 0 | 53 => 208 | 37 => 140 | 5 => 5 | 173 => 211 | 212 => 238 | 51 => 213 | 20 => 20 | 213 => 239 | 46 => 179 | 232 => 271 | 233 => 272 | n => n, fun | 17 => 2 | 18 => 6 | 19 => 7 | n => n⟩
theorem Tryz.laysM171 : Go.Proofs.LaysM.n171 Tryz.prog Tryz.laysM171_ren := {
  mixed := by kernel_rfl
  f129 := Tryz.func225.trans (congrArg some (by kernel_rfl))
  f171 := Tryz.func39.trans (congrArg some (by kernel_rfl))
  f243 := Tryz.func96.trans (congrArg some (by kernel_rfl))
  f246 := Tryz.func144.trans (congrArg some (by kernel_rfl))
  f283 := Tryz.func193.trans (congrArg some (by kernel_rfl))
  f284 := Tryz.func194.trans (congrArg some (by kernel_rfl))
  f285 := Tryz.func195.trans (congrArg some (by kernel_rfl))
  f286 := Tryz.func196.trans (congrArg some (by kernel_rfl))
  f317 := Tryz.func224.trans (congrArg some (by kernel_rfl))
  f318 := Tryz.func226.trans (congrArg some (by kernel_rfl))
  f319 := Tryz.func227.trans (congrArg some (by kernel_rfl))
  f320 := Tryz.func228.trans (congrArg some (by kernel_rfl))
  f337 := Tryz.func248.trans (congrArg some (by kernel_rfl))
  f338 := Tryz.func249.trans (congrArg some (by kernel_rfl))
  t0 := Tryz.underlying0
  a0 := Tryz.isAgg0
  z0 := Tryz.sizeOf0
  v0 := Tryz.zeroValue0
  t2 := Tryz.underlying2
  a2 := Tryz.isAgg2
  z2 := Tryz.sizeOf2
  v2 := Tryz.zeroValue2
  t3 := Tryz.underlying3
  a3 := Tryz.isAgg3
  z3 := Tryz.sizeOf3
  v3 := Tryz.zeroValue3
  t4 := Tryz.underlying4
  a4 := Tryz.isAgg4
  z4 := Tryz.sizeOf4
  v4 := Tryz.zeroValue4
  t5 := Tryz.underlying5
  a5 := Tryz.isAgg5
  z5 := Tryz.sizeOf5
  v5 := Tryz.zeroValue5
  t9 := Tryz.underlying9
  a9 := Tryz.isAgg9
  z9 := Tryz.sizeOf9
  v9 := Tryz.zeroValue9
  t20 := Tryz.underlying20
  a20 := Tryz.isAgg20
  z20 := Tryz.sizeOf20
  v20 := Tryz.zeroValue20
  t37 := Tryz.underlying140
  a37 := Tryz.isAgg140
  z37 := Tryz.sizeOf140
  v37 := Tryz.zeroValue140
  t46 := Tryz.underlying179
  a46 := Tryz.isAgg179
  z46 := Tryz.sizeOf179
  v46 := Tryz.zeroValue179
  t51 := Tryz.underlying213
  a51 := Tryz.isAgg213
  z51 := Tryz.sizeOf213
  v51 := Tryz.zeroValue213
  t53 := Tryz.underlying208
  a53 := Tryz.isAgg208
  z53 := Tryz.sizeOf208
  v53 := Tryz.zeroValue208
  t171 := Tryz.underlying207
  a171 := Tryz.isAgg207
  z171 := Tryz.sizeOf207
  v171 := Tryz.zeroValue207
  t173 := Tryz.underlying211
  a173 := Tryz.isAgg211
  z173 := Tryz.sizeOf211
  v173 := Tryz.zeroValue211
  t212 := Tryz.underlying238
  a212 := Tryz.isAgg238
  z212 := Tryz.sizeOf238
  v212 := Tryz.zeroValue238
  t213 := Tryz.underlying239
  a213 := Tryz.isAgg239
  z213 := Tryz.sizeOf239
  t232 := Tryz.underlying271
  a232 := Tryz.isAgg271
  z232 := Tryz.sizeOf271
  v232 := Tryz.zeroValue271
  t233 := Tryz.underlying272
  a233 := Tryz.isAgg272
  z233 := Tryz.sizeOf272
  v233 := Tryz.zeroValue272
  g17 := by kernel_rfl
  g18 := by kernel_rfl
  g19 := by kernel_rfl
  i0 := by kernel_rfl
  i2 := by kernel_rfl
  i3 := by kernel_rfl
  i4 := by kernel_rfl
  i5 := by kernel_rfl
  i9 := by kernel_rfl
  i20 := by kernel_rfl
  i37 := by kernel_rfl
  i46 := by kernel_rfl
  i51 := by kernel_rfl
  i53 := by kernel_rfl
  i171 := by kernel_rfl
  i173 := by kernel_rfl
  i212 := by kernel_rfl
  i232 := by kernel_rfl
  i233 := by kernel_rfl
  m17 := by kernel_rfl
  m18 := by kernel_rfl
  m19 := by kernel_rfl }
def Tryz.lays171_ren : Go.Shelf.Ren := ⟨fun | 171 => 39 | 243 => 96 | 246 => 144 | 283 => 193 | 284 => 194 | 285 => 195 | 286 => 196 | 129 => 225 | 317 => 224 | 318 => 226 | 319 => 227 | 320 => 228 | 337 => 248 | 338 => 249 | n => n, fun | 3 => 3 | 9 => 9 | 2 => 2 | 4 => 4 | 171 => 207 | 0 => 0 | 53 => 208 | 37 => 140 | 5 => 5 | 173 => 211 | 212 => 238 | 51 => 213 | 20 => 20 | 213 => 239 | 46 => 179 | 232 => 271 | 233 => 272 | n => n, fun | 17 => 2 | 18 => 6 | 19 => 7 | n => n⟩
theorem Tryz.lays171 : Go.Proofs.Lays.n171 Tryz.prog Tryz.lays171_ren := {
  mixed := by kernel_rfl
  f129 := Tryz.func225.trans (congrArg some (by kernel_rfl))
  f171 := Tryz.func39.trans (congrArg some (by kernel_rfl))
  f243 := Tryz.func96.trans (congrArg some (by kernel_rfl))
  f246 := Tryz.func144.trans (congrArg some (by kernel_rfl))
  f283 := Tryz.func193.trans (congrArg some (by kernel_rfl))
  f284 := Tryz.func194.trans (congrArg some (by kernel_rfl))
  f285 := Tryz.func195.trans (congrArg some (by kernel_rfl))
  f286 := Tryz.func196.trans (congrArg some (by kernel_rfl))
  f317 := Tryz.func224.trans (congrArg some (by kernel_rfl))
  f318 := Tryz.func226.trans (congrArg some (by kernel_rfl))
  f319 := Tryz.func227.trans (congrArg some (by kernel_rfl))
  f320 := Tryz.func228.trans (congrArg some (by kernel_rfl))
  f337 := Tryz.func248.trans (congrArg some (by kernel_rfl))
  f338 := Tryz.func249.trans (congrArg some (by kernel_rfl))
  t0 := Tryz.underlying0
  a0 := Tryz.isAgg0
  z0 := Tryz.sizeOf0
  v0 := Tryz.zeroValue0
  t2 := Tryz.underlying2
  a2 := Tryz.isAgg2
  z2 := Tryz.sizeOf2
  v2 := Tryz.zeroValue2
  t3 := Tryz.underlying3
  a3 := Tryz.isAgg3
  z3 := Tryz.sizeOf3
  v3 := Tryz.zeroValue3
  t4 := Tryz.underlying4
  a4 := Tryz.isAgg4
  z4 := Tryz.sizeOf4
  v4 := Tryz.zeroValue4
  t5 := Tryz.underlying5
  a5 := Tryz.isAgg5
  z5 := Tryz.sizeOf5
  v5 := Tryz.zeroValue5
  t9 := Tryz.underlying9
  a9 := Tryz.isAgg9
  z9 := Tryz.sizeOf9
  v9 := Tryz.zeroValue9
  t20 := Tryz.underlying20
  a20 := Tryz.isAgg20
  z20 := Tryz.sizeOf20
  v20 := Tryz.zeroValue20
  t37 := Tryz.underlying140
  a37 := Tryz.isAgg140
  z37 := Tryz.sizeOf140
  v37 := Tryz.zeroValue140
  t46 := Tryz.underlying179
  a46 := Tryz.isAgg179
  z46 := Tryz.sizeOf179
  v46 := Tryz.zeroValue179
  t51 := Tryz.underlying213
  a51 := Tryz.isAgg213
  z51 := Tryz.sizeOf213
  v51 := Tryz.zeroValue213
  t53 := Tryz.underlying208
  a53 := Tryz.isAgg208
  z53 := Tryz.sizeOf208
  v53 := Tryz.zeroValue208
  t171 := Tryz.underlying207
  a171 := Tryz.isAgg207
  z171 := Tryz.sizeOf207
  v171 := Tryz.zeroValue207
  t173 := Tryz.underlying211
  a173 := Tryz.isAgg211
  z173 := Tryz.sizeOf211
  v173 := Tryz.zeroValue211
  t212 := Tryz.underlying238
  a212 := Tryz.isAgg238
  z212 := Tryz.sizeOf238
  v212 := Tryz.zeroValue238
  t213 := Tryz.underlying239
  a213 := Tryz.isAgg239
  z213 := Tryz.sizeOf239
  t232 := Tryz.underlying271
  a232 := Tryz.isAgg271
  z232 := Tryz.sizeOf271
  v232 := Tryz.zeroValue271
  t233 := Tryz.underlying272
  a233 := Tryz.isAgg272
  z233 := Tryz.sizeOf272
  v233 := Tryz.zeroValue272
  g17 := by kernel_rfl
  g18 := by kernel_rfl
  g19 := by kernel_rfl }
open Go.RowKit Go.Sort Go.Lib in
theorem Tryz.strconv_Itoa_small (i : Nat) (hi : i < 100) (w : World) :
    Calls Tryz.prog 39 #[.int .i64 i] w fun e w' => e = .returned (.string ⟨(Lib.decDigits i).toArray⟩) ∧ w' = w := Any.strconv_Itoa_small Tryz.lays171 i hi w
def Tryz.lays219_ren : Go.Shelf.Ren := ⟨fun | 219 => 218 | 217 => 207 | 225 => 243 | 224 => 244 | 267 => 245 | 266 => 236 | 314 => 259 | n => n, fun | 9 => 9 | 3 => 3 | 4 => 4 | 5 => 5 | 46 => 179 | 146 => 214 | 51 => 213 | n => n, fun | 1 => 3 | n => n⟩
theorem Tryz.lays219 : Go.Proofs.Lays.n219 Tryz.prog Tryz.lays219_ren := {
  mixed := by kernel_rfl
  f217 := Tryz.func207.trans (congrArg some (by kernel_rfl))
  f219 := Tryz.func218.trans (congrArg some (by kernel_rfl))
  f224 := Tryz.func244.trans (congrArg some (by kernel_rfl))
  f225 := Tryz.func243.trans (congrArg some (by kernel_rfl))
  f266 := Tryz.func236.trans (congrArg some (by kernel_rfl))
  f267 := Tryz.func245.trans (congrArg some (by kernel_rfl))
  f314 := Tryz.func259.trans (congrArg some (by kernel_rfl))
  t3 := Tryz.underlying3
  a3 := Tryz.isAgg3
  z3 := Tryz.sizeOf3
  v3 := Tryz.zeroValue3
  t4 := Tryz.underlying4
  a4 := Tryz.isAgg4
  z4 := Tryz.sizeOf4
  v4 := Tryz.zeroValue4
  t5 := Tryz.underlying5
  a5 := Tryz.isAgg5
  z5 := Tryz.sizeOf5
  v5 := Tryz.zeroValue5
  t9 := Tryz.underlying9
  a9 := Tryz.isAgg9
  z9 := Tryz.sizeOf9
  v9 := Tryz.zeroValue9
  t46 := Tryz.underlying179
  a46 := Tryz.isAgg179
  z46 := Tryz.sizeOf179
  v46 := Tryz.zeroValue179
  t51 := Tryz.underlying213
  a51 := Tryz.isAgg213
  z51 := Tryz.sizeOf213
  v51 := Tryz.zeroValue213
  t146 := Tryz.underlying214
  a146 := Tryz.isAgg214
  z146 := Tryz.sizeOf214
  v146 := Tryz.zeroValue214
  g1 := by kernel_rfl }
open Go.RowKit Go.Lib in
theorem Tryz.stringslite_Index_one (s : ByteArray) (c : UInt8) (w : World) :
    Calls Tryz.prog 218 #[.string s, .string ⟨#[c]⟩] w fun e w' => e = .returned (.int .i64 (Lib.indexByte s.data.toList c)) ∧ w' = w := Any.stringslite_Index_one Tryz.lays219 s c w
def Tryz.lays144_ren : Go.Shelf.Ren := ⟨fun | 144 => 148 | 143 => 181 | 219 => 218 | 217 => 207 | 225 => 243 | 224 => 244 | 267 => 245 | 266 => 236 | 314 => 259 | n => n, fun | 9 => 9 | 4 => 4 | 3 => 3 | 5 => 5 | 46 => 179 | 146 => 214 | 51 => 213 | n => n, fun | 1 => 3 | n => n⟩
theorem Tryz.lays144 : Go.Proofs.Lays.n144 Tryz.prog Tryz.lays144_ren := {
  mixed := by kernel_rfl
  f143 := Tryz.func181.trans (congrArg some (by kernel_rfl))
  f144 := Tryz.func148.trans (congrArg some (by kernel_rfl))
  f217 := Tryz.func207.trans (congrArg some (by kernel_rfl))
  f219 := Tryz.func218.trans (congrArg some (by kernel_rfl))
  f224 := Tryz.func244.trans (congrArg some (by kernel_rfl))
  f225 := Tryz.func243.trans (congrArg some (by kernel_rfl))
  f266 := Tryz.func236.trans (congrArg some (by kernel_rfl))
  f267 := Tryz.func245.trans (congrArg some (by kernel_rfl))
  f314 := Tryz.func259.trans (congrArg some (by kernel_rfl))
  t3 := Tryz.underlying3
  a3 := Tryz.isAgg3
  z3 := Tryz.sizeOf3
  v3 := Tryz.zeroValue3
  t4 := Tryz.underlying4
  a4 := Tryz.isAgg4
  z4 := Tryz.sizeOf4
  v4 := Tryz.zeroValue4
  t5 := Tryz.underlying5
  a5 := Tryz.isAgg5
  z5 := Tryz.sizeOf5
  v5 := Tryz.zeroValue5
  t9 := Tryz.underlying9
  a9 := Tryz.isAgg9
  z9 := Tryz.sizeOf9
  v9 := Tryz.zeroValue9
  t46 := Tryz.underlying179
  a46 := Tryz.isAgg179
  z46 := Tryz.sizeOf179
  v46 := Tryz.zeroValue179
  t51 := Tryz.underlying213
  a51 := Tryz.isAgg213
  z51 := Tryz.sizeOf213
  v51 := Tryz.zeroValue213
  t146 := Tryz.underlying214
  a146 := Tryz.isAgg214
  z146 := Tryz.sizeOf214
  v146 := Tryz.zeroValue214
  g1 := by kernel_rfl }
open Go.RowKit Go.Lib in
theorem Tryz.strings_Contains (s sub : ByteArray) (m : Int) (w : World) (hs : s.size < 4294967281) (hm : w.cell? ⟨3, 0, none⟩ = some (.int .i64 m)) :
    Calls Tryz.prog 148 #[.string s, .string sub] w fun e w' => e = .returned (.bool (Lib.contains s.data.toList sub.data.toList)) ∧ w' = w := Any.strings_Contains Tryz.lays144 s sub m w hs hm
def Tryz.lays148_ren : Go.Shelf.Ren := ⟨fun | 148 => 219 | 222 => 246 | 223 => 247 | 269 => 260 | n => n, fun | 9 => 9 | 3 => 3 | 4 => 4 | 5 => 5 | 146 => 214 | 51 => 213 | 46 => 179 | n => n, fun | n => n⟩
theorem Tryz.lays148 : Go.Proofs.Lays.n148 Tryz.prog Tryz.lays148_ren := {
  mixed := by kernel_rfl
  f148 := Tryz.func219.trans (congrArg some (by kernel_rfl))
  f222 := Tryz.func246.trans (congrArg some (by kernel_rfl))
  f223 := Tryz.func247.trans (congrArg some (by kernel_rfl))
  f269 := Tryz.func260.trans (congrArg some (by kernel_rfl))
  t3 := Tryz.underlying3
  a3 := Tryz.isAgg3
  z3 := Tryz.sizeOf3
  v3 := Tryz.zeroValue3
  t4 := Tryz.underlying4
  a4 := Tryz.isAgg4
  z4 := Tryz.sizeOf4
  v4 := Tryz.zeroValue4
  t5 := Tryz.underlying5
  a5 := Tryz.isAgg5
  z5 := Tryz.sizeOf5
  v5 := Tryz.zeroValue5
  t9 := Tryz.underlying9
  a9 := Tryz.isAgg9
  z9 := Tryz.sizeOf9
  v9 := Tryz.zeroValue9
  t46 := Tryz.underlying179
  a46 := Tryz.isAgg179
  z46 := Tryz.sizeOf179
  v46 := Tryz.zeroValue179
  t51 := Tryz.underlying213
  a51 := Tryz.isAgg213
  z51 := Tryz.sizeOf213
  v51 := Tryz.zeroValue213
  t146 := Tryz.underlying214
  a146 := Tryz.isAgg214
  z146 := Tryz.sizeOf214
  v146 := Tryz.zeroValue214 }
open Go.RowKit Go.Lib in
theorem Tryz.strings_LastIndex (s sub : ByteArray) (hs : s.size < 4611686018427387904) (w : World) :
    Calls Tryz.prog 219 #[.string s, .string sub] w fun e w' => e = .returned (.int .i64 (Lib.lastIndex s.data.toList sub.data.toList)) ∧ w' = w := Any.strings_LastIndex Tryz.lays148 s sub hs w
def Tryz.lays99_ren : Go.Shelf.Ren := ⟨fun | 99 => 116 | 206 => 166 | n => n, fun | 9 => 9 | 4 => 4 | 3 => 3 | n => n, fun | n => n⟩
theorem Tryz.lays99 : Go.Proofs.Lays.n99 Tryz.prog Tryz.lays99_ren := {
  mixed := by kernel_rfl
  f99 := Tryz.func116.trans (congrArg some (by kernel_rfl))
  f206 := Tryz.func166.trans (congrArg some (by kernel_rfl))
  t3 := Tryz.underlying3
  a3 := Tryz.isAgg3
  z3 := Tryz.sizeOf3
  v3 := Tryz.zeroValue3
  t4 := Tryz.underlying4
  a4 := Tryz.isAgg4
  z4 := Tryz.sizeOf4
  v4 := Tryz.zeroValue4
  t9 := Tryz.underlying9
  a9 := Tryz.isAgg9
  z9 := Tryz.sizeOf9
  v9 := Tryz.zeroValue9 }
open Go.RowKit Go.Lib in
theorem Tryz.strings_HasPrefix (s p : ByteArray) (w : World) :
    Calls Tryz.prog 116 #[.string s, .string p] w fun e w' => e = .returned (.bool (Lib.hasPrefix s.data.toList p.data.toList)) ∧ w' = w := Any.strings_HasPrefix Tryz.lays99 s p w
def Tryz.lays100_ren : Go.Shelf.Ren := ⟨fun | 100 => 147 | 207 => 199 | n => n, fun | 9 => 9 | 4 => 4 | 3 => 3 | n => n, fun | n => n⟩
theorem Tryz.lays100 : Go.Proofs.Lays.n100 Tryz.prog Tryz.lays100_ren := {
  mixed := by kernel_rfl
  f100 := Tryz.func147.trans (congrArg some (by kernel_rfl))
  f207 := Tryz.func199.trans (congrArg some (by kernel_rfl))
  t3 := Tryz.underlying3
  a3 := Tryz.isAgg3
  z3 := Tryz.sizeOf3
  v3 := Tryz.zeroValue3
  t4 := Tryz.underlying4
  a4 := Tryz.isAgg4
  z4 := Tryz.sizeOf4
  v4 := Tryz.zeroValue4
  t9 := Tryz.underlying9
  a9 := Tryz.isAgg9
  z9 := Tryz.sizeOf9
  v9 := Tryz.zeroValue9 }
open Go.RowKit Go.Lib in
theorem Tryz.strings_HasSuffix (s p : ByteArray) (w : World) (hs : s.size ≤ 9223372036854775807) :
    Calls Tryz.prog 147 #[.string s, .string p] w fun e w' => e = .returned (.bool (Lib.hasSuffix s.data.toList p.data.toList)) ∧ w' = w := Any.strings_HasSuffix Tryz.lays100 s p w hs
def Tryz.lays146_ren : Go.Shelf.Ren := ⟨fun | 146 => 87 | 221 => 133 | 268 => 179 | 138 => 180 | 143 => 181 | 195 => 216 | 197 => 204 | 218 => 217 | 219 => 218 | 260 => 234 | 217 => 207 | 225 => 243 | 224 => 244 | 267 => 245 | 266 => 236 | 314 => 259 | n => n, fun | 9 => 9 | 31 => 61 | 3 => 3 | 4 => 4 | 0 => 0 | 105 => 225 | 21 => 21 | 5 => 5 | 46 => 179 | 119 => 184 | 139 => 262 | 138 => 261 | 146 => 214 | 51 => 213 | n => n, fun | 1 => 3 | 3 => 4 | 4 => 5 | n => n⟩
theorem Tryz.lays146 : Go.Proofs.Lays.n146 Tryz.prog Tryz.lays146_ren := {
  mixed := by kernel_rfl
  f138 := Tryz.func180.trans (congrArg some (by kernel_rfl))
  f143 := Tryz.func181.trans (congrArg some (by kernel_rfl))
  f146 := Tryz.func87.trans (congrArg some (by kernel_rfl))
  f195 := Tryz.func216.trans (congrArg some (by kernel_rfl))
  f197 := Tryz.func204.trans (congrArg some (by kernel_rfl))
  f217 := Tryz.func207.trans (congrArg some (by kernel_rfl))
  f218 := Tryz.func217.trans (congrArg some (by kernel_rfl))
  f219 := Tryz.func218.trans (congrArg some (by kernel_rfl))
  f221 := Tryz.func133.trans (congrArg some (by kernel_rfl))
  f224 := Tryz.func244.trans (congrArg some (by kernel_rfl))
  f225 := Tryz.func243.trans (congrArg some (by kernel_rfl))
  f260 := Tryz.func234.trans (congrArg some (by kernel_rfl))
  f266 := Tryz.func236.trans (congrArg some (by kernel_rfl))
  f267 := Tryz.func245.trans (congrArg some (by kernel_rfl))
  f268 := Tryz.func179.trans (congrArg some (by kernel_rfl))
  f314 := Tryz.func259.trans (congrArg some (by kernel_rfl))
  t0 := Tryz.underlying0
  a0 := Tryz.isAgg0
  z0 := Tryz.sizeOf0
  v0 := Tryz.zeroValue0
  t3 := Tryz.underlying3
  a3 := Tryz.isAgg3
  z3 := Tryz.sizeOf3
  v3 := Tryz.zeroValue3
  t4 := Tryz.underlying4
  a4 := Tryz.isAgg4
  z4 := Tryz.sizeOf4
  v4 := Tryz.zeroValue4
  t5 := Tryz.underlying5
  a5 := Tryz.isAgg5
  z5 := Tryz.sizeOf5
  v5 := Tryz.zeroValue5
  t9 := Tryz.underlying9
  a9 := Tryz.isAgg9
  z9 := Tryz.sizeOf9
  v9 := Tryz.zeroValue9
  t21 := Tryz.underlying21
  a21 := Tryz.isAgg21
  z21 := Tryz.sizeOf21
  v21 := Tryz.zeroValue21
  t31 := Tryz.underlying61
  a31 := Tryz.isAgg61
  z31 := Tryz.sizeOf61
  v31 := Tryz.zeroValue61
  t46 := Tryz.underlying179
  a46 := Tryz.isAgg179
  z46 := Tryz.sizeOf179
  v46 := Tryz.zeroValue179
  t51 := Tryz.underlying213
  a51 := Tryz.isAgg213
  z51 := Tryz.sizeOf213
  v51 := Tryz.zeroValue213
  t105 := Tryz.underlying225
  a105 := Tryz.isAgg225
  z105 := Tryz.sizeOf225
  v105 := Tryz.zeroValue225
  t119 := Tryz.underlying184
  a119 := Tryz.isAgg184
  z119 := Tryz.sizeOf184
  t138 := Tryz.underlying261
  a138 := Tryz.isAgg261
  z138 := Tryz.sizeOf261
  v138 := Tryz.zeroValue261
  t139 := Tryz.underlying262
  a139 := Tryz.isAgg262
  z139 := Tryz.sizeOf262
  v139 := Tryz.zeroValue262
  t146 := Tryz.underlying214
  a146 := Tryz.isAgg214
  z146 := Tryz.sizeOf214
  v146 := Tryz.zeroValue214
  g1 := by kernel_rfl
  g3 := by kernel_rfl
  g4 := by kernel_rfl }
open Go.RowKit Go.Lib in
theorem Tryz.strings_Split (s sep : ByteArray) (m : Int) (w : World) (hs : s.size < 4294967281) (hm : w.cell? ⟨3, 0, none⟩ = some (.int .i64 m)) (h1 : 1 ≤ sep.size) :
    Calls Tryz.prog 87 #[.string s, .string sep] w fun e w' =>
      e = .returned (.slice (some ⟨w.heap.size, 0, none⟩) (Lib.countB s sep + 1) (Lib.countB s sep + 1)) ∧ w' = w.alloc (.cells ((Lib.splitB sep 0 (Lib.countB s sep) s).map Value.string).toArray 9) := Any.strings_Split Tryz.lays146 (by kernel_rfl) s sep m w hs hm h1
def Tryz.laysM157_ren : Go.Shelf.Ren := ⟨fun | 157 => 106 | 229 => 152 | 199 => 153 | 261 => 200 | 311 => 229 | 312 => 230 | n => n, fun | 9 => 9 | 31 => 61 | 3 => 3 | 5 => 5 | 4 => 4 | 119 => 184 | 0 => 0 | 40 => 186 | 152 => 218 | 21 => 21 | 154 => 220 | 51 => 213 | 141 => 222 | 196 => 244 | 193 => 241 | 198 => 247 | 49 => 245 | 194 => 242 | 201 => 250 | 226 => 258 | 46 => 179 | 227 => 259 | n => n, fun | 0 => 0 | 6 => 1 | n => n⟩
theorem Tryz.laysM157 : Go.Proofs.LaysM.n157 Tryz.prog Tryz.laysM157_ren := {
  mixed := by kernel_rfl
  f157 := Tryz.func106.trans (congrArg some (by kernel_rfl))
  f199 := Tryz.func153.trans (congrArg some (by kernel_rfl))
  f229 := Tryz.func152.trans (congrArg some (by kernel_rfl))
  f261 := Tryz.func200.trans (congrArg some (by kernel_rfl))
  f311 := Tryz.func229.trans (congrArg some (by kernel_rfl))
  f312 := Tryz.func230.trans (congrArg some (by kernel_rfl))
  t0 := Tryz.underlying0
  a0 := Tryz.isAgg0
  z0 := Tryz.sizeOf0
  v0 := Tryz.zeroValue0
  t3 := Tryz.underlying3
  a3 := Tryz.isAgg3
  z3 := Tryz.sizeOf3
  v3 := Tryz.zeroValue3
  t4 := Tryz.underlying4
  a4 := Tryz.isAgg4
  z4 := Tryz.sizeOf4
  v4 := Tryz.zeroValue4
  t5 := Tryz.underlying5
  a5 := Tryz.isAgg5
  z5 := Tryz.sizeOf5
  v5 := Tryz.zeroValue5
  t9 := Tryz.underlying9
  a9 := Tryz.isAgg9
  z9 := Tryz.sizeOf9
  v9 := Tryz.zeroValue9
  t21 := Tryz.underlying21
  a21 := Tryz.isAgg21
  z21 := Tryz.sizeOf21
  v21 := Tryz.zeroValue21
  t31 := Tryz.underlying61
  a31 := Tryz.isAgg61
  z31 := Tryz.sizeOf61
  v31 := Tryz.zeroValue61
  t40 := Tryz.underlying186
  a40 := Tryz.isAgg186
  z40 := Tryz.sizeOf186
  v40 := Tryz.zeroValue186
  t46 := Tryz.underlying179
  a46 := Tryz.isAgg179
  z46 := Tryz.sizeOf179
  v46 := Tryz.zeroValue179
  t49 := Tryz.underlying245
  a49 := Tryz.isAgg245
  z49 := Tryz.sizeOf245
  v49 := Tryz.zeroValue245
  t51 := Tryz.underlying213
  a51 := Tryz.isAgg213
  z51 := Tryz.sizeOf213
  v51 := Tryz.zeroValue213
  t119 := Tryz.underlying184
  a119 := Tryz.isAgg184
  z119 := Tryz.sizeOf184
  t141 := Tryz.underlying222
  a141 := Tryz.isAgg222
  z141 := Tryz.sizeOf222
  v141 := Tryz.zeroValue222
  t152 := Tryz.underlying218
  a152 := Tryz.isAgg218
  z152 := Tryz.sizeOf218
  v152 := Tryz.zeroValue218
  t154 := Tryz.underlying220
  a154 := Tryz.isAgg220
  z154 := Tryz.sizeOf220
  v154 := Tryz.zeroValue220
  t193 := Tryz.underlying241
  a193 := Tryz.isAgg241
  z193 := Tryz.sizeOf241
  v193 := Tryz.zeroValue241
  t194 := Tryz.underlying242
  a194 := Tryz.isAgg242
  z194 := Tryz.sizeOf242
  v194 := Tryz.zeroValue242
  t196 := Tryz.underlying244
  a196 := Tryz.isAgg244
  z196 := Tryz.sizeOf244
  v196 := Tryz.zeroValue244
  t198 := Tryz.underlying247
  a198 := Tryz.isAgg247
  z198 := Tryz.sizeOf247
  v198 := Tryz.zeroValue247
  t201 := Tryz.underlying250
  a201 := Tryz.isAgg250
  z201 := Tryz.sizeOf250
  v201 := Tryz.zeroValue250
  t226 := Tryz.underlying258
  a226 := Tryz.isAgg258
  z226 := Tryz.sizeOf258
  v226 := Tryz.zeroValue258
  t227 := Tryz.underlying259
  a227 := Tryz.isAgg259
  z227 := Tryz.sizeOf259
  v227 := Tryz.zeroValue259
  g0 := by kernel_rfl
  g6 := by kernel_rfl
  i0 := by kernel_rfl
  i3 := by kernel_rfl
  i4 := by kernel_rfl
  i5 := by kernel_rfl
  i9 := by kernel_rfl
  i21 := by kernel_rfl
  i31 := by kernel_rfl
  i40 := by kernel_rfl
  i46 := by kernel_rfl
  i49 := by kernel_rfl
  i51 := by kernel_rfl
  i141 := by kernel_rfl
  i152 := by kernel_rfl
  i154 := by kernel_rfl
  i193 := by kernel_rfl
  i194 := by kernel_rfl
  i196 := by kernel_rfl
  i198 := by kernel_rfl
  i201 := by kernel_rfl
  i226 := by kernel_rfl
  i227 := by kernel_rfl
  m0 := by kernel_rfl
  m6 := by kernel_rfl }
open Go.RowKit Go.Lib in
theorem Tryz.strings_Fields_laid (s : ByteArray) (w : World) (hs : s.size < 4294967281) (hascii : ∀ (j : Nat) b, s.data.toList[j]? = some b → b.toNat < 128) (htab : Lib.TabIs Tryz.prog w "strings.asciiSpace" .u8 Lib.asciiSpaceTab) :
    Calls Tryz.prog 106 #[.string s] w fun e w' =>
      e = .returned (.slice (some ⟨w.heap.size, 0, none⟩) (Lib.fields s.data.toList).length (Lib.fields s.data.toList).length) ∧ w' = w.alloc (.cells ((Lib.fields s.data.toList).map fun l => Value.string ⟨l.toArray⟩).toArray 9) := Any.strings_Fields_laid Tryz.laysM157 s w hs hascii htab
def Tryz.lays150_ren : Go.Shelf.Ren := ⟨fun | 150 => 156 | 153 => 202 | 152 => 232 | 226 => 233 | 227 => 159 | 228 => 203 | 137 => 164 | 119 => 250 | 224 => 244 | 225 => 243 | 217 => 207 | 266 => 236 | n => n, fun | 9 => 9 | 4 => 4 | 3 => 3 | 5 => 5 | 21 => 21 | 117 => 190 | 116 => 189 | 0 => 0 | 46 => 179 | 124 => 193 | n => n, fun | n => n⟩
theorem Tryz.lays150 : Go.Proofs.Lays.n150 Tryz.prog Tryz.lays150_ren := {
  mixed := by kernel_rfl
  f119 := Tryz.func250.trans (congrArg some (by kernel_rfl))
  f137 := Tryz.func164.trans (congrArg some (by kernel_rfl))
  f150 := Tryz.func156.trans (congrArg some (by kernel_rfl))
  f152 := Tryz.func232.trans (congrArg some (by kernel_rfl))
  f153 := Tryz.func202.trans (congrArg some (by kernel_rfl))
  f217 := Tryz.func207.trans (congrArg some (by kernel_rfl))
  f224 := Tryz.func244.trans (congrArg some (by kernel_rfl))
  f225 := Tryz.func243.trans (congrArg some (by kernel_rfl))
  f226 := Tryz.func233.trans (congrArg some (by kernel_rfl))
  f227 := Tryz.func159.trans (congrArg some (by kernel_rfl))
  f228 := Tryz.func203.trans (congrArg some (by kernel_rfl))
  f266 := Tryz.func236.trans (congrArg some (by kernel_rfl))
  t0 := Tryz.underlying0
  a0 := Tryz.isAgg0
  z0 := Tryz.sizeOf0
  v0 := Tryz.zeroValue0
  t3 := Tryz.underlying3
  a3 := Tryz.isAgg3
  z3 := Tryz.sizeOf3
  v3 := Tryz.zeroValue3
  t4 := Tryz.underlying4
  a4 := Tryz.isAgg4
  z4 := Tryz.sizeOf4
  v4 := Tryz.zeroValue4
  t5 := Tryz.underlying5
  a5 := Tryz.isAgg5
  z5 := Tryz.sizeOf5
  v5 := Tryz.zeroValue5
  t9 := Tryz.underlying9
  a9 := Tryz.isAgg9
  z9 := Tryz.sizeOf9
  v9 := Tryz.zeroValue9
  t21 := Tryz.underlying21
  a21 := Tryz.isAgg21
  z21 := Tryz.sizeOf21
  v21 := Tryz.zeroValue21
  t46 := Tryz.underlying179
  a46 := Tryz.isAgg179
  z46 := Tryz.sizeOf179
  v46 := Tryz.zeroValue179
  t116 := Tryz.underlying189
  a116 := Tryz.isAgg189
  z116 := Tryz.sizeOf189
  t117 := Tryz.underlying190
  a117 := Tryz.isAgg190
  z117 := Tryz.sizeOf190
  v117 := Tryz.zeroValue190
  t124 := Tryz.underlying193
  a124 := Tryz.isAgg193
  z124 := Tryz.sizeOf193
  v124 := Tryz.zeroValue193 }
open Go.RowKit Go.Lib in
theorem Tryz.strings_ContainsAny_laid (s chars : ByteArray) (w : World) (hs : s.size < 4294967281) (hcs : chars.size < 4294967281) (has : ∀ (j : Nat) b, s.data.toList[j]? = some b → b.toNat < 128) (hac : ∀ (j : Nat) b, chars.data.toList[j]? = some b → b.toNat < 128) :
    Calls Tryz.prog 156 #[.string s, .string chars] w fun e w' => e = .returned (.bool (Lib.containsAny s.data.toList chars.data.toList)) ∧ Below w.heap.size w w' := Any.strings_ContainsAny_laid Tryz.lays150 (by kernel_rfl) s chars w hs hcs has hac
def Tryz.lays105_ren : Go.Shelf.Ren := ⟨fun | 105 => 97 | 212 => 145 | 99 => 116 | 165 => 132 | 166 => 117 | 170 => 146 | 169 => 119 | 263 => 197 | 264 => 198 | 206 => 166 | 240 => 167 | 241 => 178 | 276 => 208 | 277 => 215 | n => n, fun | 9 => 9 | 3 => 3 | 4 => 4 | 20 => 20 | 0 => 0 | 46 => 179 | 109 => 180 | 5 => 5 | 72 => 148 | 76 => 151 | 51 => 213 | 146 => 214 | 53 => 208 | 148 => 216 | 70 => 146 | 37 => 140 | 75 => 150 | 127 => 196 | 164 => 228 | 80 => 48 | n => n, fun | n => n⟩
theorem Tryz.lays105 : Go.Proofs.Lays.n105 Tryz.prog Tryz.lays105_ren := {
  mixed := by kernel_rfl
  f99 := Tryz.func116.trans (congrArg some (by kernel_rfl))
  f105 := Tryz.func97.trans (congrArg some (by kernel_rfl))
  f165 := Tryz.func132.trans (congrArg some (by kernel_rfl))
  f166 := Tryz.func117.trans (congrArg some (by kernel_rfl))
  f169 := Tryz.func119.trans (congrArg some (by kernel_rfl))
  f170 := Tryz.func146.trans (congrArg some (by kernel_rfl))
  f206 := Tryz.func166.trans (congrArg some (by kernel_rfl))
  f212 := Tryz.func145.trans (congrArg some (by kernel_rfl))
  f240 := Tryz.func167.trans (congrArg some (by kernel_rfl))
  f241 := Tryz.func178.trans (congrArg some (by kernel_rfl))
  f263 := Tryz.func197.trans (congrArg some (by kernel_rfl))
  f264 := Tryz.func198.trans (congrArg some (by kernel_rfl))
  f276 := Tryz.func208.trans (congrArg some (by kernel_rfl))
  f277 := Tryz.func215.trans (congrArg some (by kernel_rfl))
  t0 := Tryz.underlying0
  a0 := Tryz.isAgg0
  z0 := Tryz.sizeOf0
  v0 := Tryz.zeroValue0
  t3 := Tryz.underlying3
  a3 := Tryz.isAgg3
  z3 := Tryz.sizeOf3
  v3 := Tryz.zeroValue3
  t4 := Tryz.underlying4
  a4 := Tryz.isAgg4
  z4 := Tryz.sizeOf4
  v4 := Tryz.zeroValue4
  t5 := Tryz.underlying5
  a5 := Tryz.isAgg5
  z5 := Tryz.sizeOf5
  v5 := Tryz.zeroValue5
  t9 := Tryz.underlying9
  a9 := Tryz.isAgg9
  z9 := Tryz.sizeOf9
  v9 := Tryz.zeroValue9
  t20 := Tryz.underlying20
  a20 := Tryz.isAgg20
  z20 := Tryz.sizeOf20
  v20 := Tryz.zeroValue20
  t37 := Tryz.underlying140
  a37 := Tryz.isAgg140
  z37 := Tryz.sizeOf140
  v37 := Tryz.zeroValue140
  t46 := Tryz.underlying179
  a46 := Tryz.isAgg179
  z46 := Tryz.sizeOf179
  v46 := Tryz.zeroValue179
  t51 := Tryz.underlying213
  a51 := Tryz.isAgg213
  z51 := Tryz.sizeOf213
  v51 := Tryz.zeroValue213
  t53 := Tryz.underlying208
  a53 := Tryz.isAgg208
  z53 := Tryz.sizeOf208
  v53 := Tryz.zeroValue208
  t70 := Tryz.underlying146
  a70 := Tryz.isAgg146
  z70 := Tryz.sizeOf146
  v70 := Tryz.zeroValue146
  t72 := Tryz.underlying148
  a72 := Tryz.isAgg148
  z72 := Tryz.sizeOf148
  v72 := Tryz.zeroValue148
  t75 := Tryz.underlying150
  a75 := Tryz.isAgg150
  z75 := Tryz.sizeOf150
  v75 := Tryz.zeroValue150
  t76 := Tryz.underlying151
  a76 := Tryz.isAgg151
  z76 := Tryz.sizeOf151
  v76 := Tryz.zeroValue151
  t109 := Tryz.underlying180
  a109 := Tryz.isAgg180
  z109 := Tryz.sizeOf180
  v109 := Tryz.zeroValue180
  t127 := Tryz.underlying196
  a127 := Tryz.isAgg196
  z127 := Tryz.sizeOf196
  v127 := Tryz.zeroValue196
  t146 := Tryz.underlying214
  a146 := Tryz.isAgg214
  z146 := Tryz.sizeOf214
  v146 := Tryz.zeroValue214
  t148 := Tryz.underlying216
  a148 := Tryz.isAgg216
  z148 := Tryz.sizeOf216
  v148 := Tryz.zeroValue216
  t164 := Tryz.underlying228
  a164 := Tryz.isAgg228
  z164 := Tryz.sizeOf228
  v164 := Tryz.zeroValue228 }
theorem Tryz.Builder_Extra_105 : Builder.Extra Tryz.prog Tryz.lays105_ren := {
  sizeBuilder := by kernel_rfl
  liesBuilder := by kernel_rfl
  t5 := Tryz.underlying5
  a5 := Tryz.isAgg5
  z5 := Tryz.sizeOf5
  v5 := Tryz.zeroValue5
  infoByte := by kernel_rfl
  cellsByte := by kernel_rfl
  sizeByte := by kernel_rfl
  neB5 := by decide }
open Go.RowKit Go.Lib in
theorem Tryz.strings_Repeat (s : ByteArray) (c : Nat) (w : World) (hc : c ≤ 9223372036854775807) (hlen : s.size * c ≤ 140737488355328) :
    Calls Tryz.prog 97 #[.string s, .int .i64 c] w fun e w' => e = .returned (.string ⟨(Lib.repeatL s.data.toList c).toArray⟩) ∧ Below w.heap.size w w' := Any.strings_Repeat Tryz.lays105 Tryz.Builder_Extra_105 s c w hc hlen
def Tryz.lays109_ren : Go.Shelf.Ren := ⟨fun | 109 => 220 | n => n, fun | 31 => 61 | 9 => 9 | 3 => 3 | 0 => 0 | 4 => 4 | n => n, fun | n => n⟩
theorem Tryz.lays109 : Go.Proofs.Lays.n109 Tryz.prog Tryz.lays109_ren := {
  mixed := by kernel_rfl
  f109 := Tryz.func220.trans (congrArg some (by kernel_rfl))
  t0 := Tryz.underlying0
  a0 := Tryz.isAgg0
  z0 := Tryz.sizeOf0
  v0 := Tryz.zeroValue0
  t3 := Tryz.underlying3
  a3 := Tryz.isAgg3
  z3 := Tryz.sizeOf3
  v3 := Tryz.zeroValue3
  t4 := Tryz.underlying4
  a4 := Tryz.isAgg4
  z4 := Tryz.sizeOf4
  v4 := Tryz.zeroValue4
  t9 := Tryz.underlying9
  a9 := Tryz.isAgg9
  z9 := Tryz.sizeOf9
  v9 := Tryz.zeroValue9
  t31 := Tryz.underlying61
  a31 := Tryz.isAgg61
  z31 := Tryz.sizeOf61
  v31 := Tryz.zeroValue61 }
open Go.Lib in
theorem Tryz.slices_Index_string (b off n c : Nat) (zs : List ByteArray) (x : ByteArray) (w : World) (hz : n ≤ zs.length) (hbig : n ≤ 9223372036854775807) (hc : ∀ j, j < zs.length → w.cell? ⟨b, off + j, none⟩ = some (.string (zs.getD j ByteArray.empty))) :
    Calls Tryz.prog 220 #[.slice (some ⟨b, off, none⟩) n c, .string x] w fun e w' => e = .returned (.int .i64 (Lib.idxOfS (zs.take n) x)) ∧ w' = w := Any.slices_Index_string Tryz.lays109 b off n c zs x w hz hbig hc
end Go.Proofs

/- strconv.Atoi at every string: one contract with its three ends. -/
namespace Go.Proofs.YtkhegeobdcemkaaGreatDoor
set_option linter.unusedVariables false
open Go.RowKit

end Go.Proofs.YtkhegeobdcemkaaGreatDoor

/- strings.Builder written, and strings.Join: the library's contracts at this program. -/
namespace Go.Proofs.YtkhegeobdcemkaaGreatDoor
set_option linter.unusedVariables false
open Go.RowKit

/-- A builder of the call's own, whose block is B, that holds the bytes l. -/
def Bld (w : World) (B : Nat) (l : List UInt8) : Prop := Lib.IsBuilder 148 5 B B (Lib.byteCells l) w
theorem Bld.new (w : World) : Bld (w.alloc (.cells #[.pointer none, .slice none 0 0] 148)) w.heap.size [] := Lib.fresh_isBuilder _ _ w
theorem Bld.lt {w : World} {B : Nat} {l : List UInt8} (h : Bld w B l) : B < w.heap.size := by
  rcases h with h | h
  · exact h.lt
  · exact h.lt
theorem Bld.keep {w w' : World} {B : Nat} {l : List UInt8} (h : Bld w B l) (hk : ∀ b, B ≤ b → b < w.heap.size → w'.heap[b]? = w.heap[b]?) : Bld w' B l := by
  have one : ∀ p, Lib.BuilderAt 148 5 B B p (Lib.byteCells l) w → Lib.BuilderAt 148 5 B B p (Lib.byteCells l) w' := by
    rintro p ⟨hB, v, hb, ho, hne⟩
    refine ⟨hB, v, (hk B (Nat.le_refl _) (Array.getElem?_eq_some_iff.1 hb).1).trans hb, ⟨ho.1, ?_⟩, hne⟩
    rcases ho.2 with hn | ⟨g, cap, cur, rfl, hg0, hg, rest⟩
    · exact .inl hn
    · exact .inr ⟨g, cap, cur, rfl, hg0, (hk g hg0 (Array.getElem?_eq_some_iff.1 hg).1).trans hg, rest⟩
  rcases h with h | h
  · exact .inl (one _ h)
  · exact .inr (one _ h)
theorem Bld.below {w w' : World} {B : Nat} {l : List UInt8} (h : Bld w B l) (hb : Below w.heap.size w w') : Bld w' B l := h.keep fun b _ hlt => hb.block b hlt
theorem Bld.alloc {w : World} {B : Nat} {l : List UInt8} (h : Bld w B l) (o : Obj) : Bld (w.alloc o) B l := h.keep fun b _ hlt => Below.heap_alloc w o b hlt
theorem Bld.drew {w : World} {B : Nat} {l : List UInt8} (h : Bld w B l) : Bld w.drew B l := h
theorem write_c (B : Nat) (l : List UInt8) (s : ByteArray) (w : World) (h : Bld w B l) (hlen : l.length + s.size ≤ 140737488355328) :
    Calls Tryz.prog 117 #[.pointer (some ⟨B, 0, none⟩), .string s] w fun e w' => e = .returned (.tuple #[.int .i64 s.size, .nilIface]) ∧ (Bld w' B (l ++ s.data.toList) ∧ Below B w w') := by
  refine (Any.Builder_WriteString { Tryz.lays156 with } Tryz.Builder_Extra_156 B B (Lib.byteCells l) s w h (by rw [Lib.byteCells_length]; exact hlen) (Nat.le_of_lt h.lt)).mono ?_
  rintro e w' ⟨he, h1, h2⟩
  refine ⟨he, .inr ?_, h2⟩
  rw [Lib.strCells_eq, ← Lib.byteCells_append] at h1
  exact h1
theorem text_c (B : Nat) (l : List UInt8) (w : World) (h : Bld w B l) :
    Calls Tryz.prog 119 #[.pointer (some ⟨B, 0, none⟩)] w fun e w' => e = .returned (.string ⟨l.toArray⟩) ∧ Below B w w' :=
  Tryz.Builder_String_any B B l w h (Nat.le_of_lt h.lt)
/-- strings.Join of words in memory. -/
theorem join_c (l : List ByteArray) (sep : ByteArray) (v : Value) (F : Nat → Prop) (w : World) (hv : Sli strR w F l v) (hF : ∀ b, F b → b < w.heap.size) (hlen : (Lib.join (l.map (·.data.toList)) sep.data.toList).length ≤ 140737488355328) (hN : l.length ≤ 140737488355328) :
    Calls Tryz.prog 86 #[v, .string sep] w fun e w' => e = .returned (.string ⟨(Lib.join (l.map (·.data.toList)) sep.data.toList).toArray⟩) ∧ Below w.heap.size w w' := by
  obtain ⟨A, c, rfl, h1, h2, h3⟩ := hv
  by_cases h0 : 0 < l.length
  · obtain ⟨b, off, cs, rfl, hb, hl, hc⟩ := h3 h0
    refine Any.strings_Join Tryz.lays156 Tryz.Builder_Extra_156 b off c l sep w (fun j x hx => ?_) (hF b hb) hN h1 hlen
    have h4 : (cs.drop (j * 1)).take 1 = [.string x] := hl.2 j x hx
    refine hc j _ ?_
    have h5 : ((cs.drop (j * 1)).take 1)[0]? = some (.string x) := by rw [h4]; rfl
    rw [List.getElem?_take, if_pos (by decide), List.getElem?_drop] at h5
    simpa using h5
  · have : l = [] := List.length_eq_zero_iff.1 (by omega)
    subst this
    exact (Any.strings_Join_none Tryz.lays156 Tryz.Builder_Extra_156 A c sep w).mono fun e w' ⟨he, hw⟩ => ⟨he, hw ▸ Below.refl _ _⟩
end Go.Proofs.YtkhegeobdcemkaaGreatDoor

/- strings.Builder.WriteByte: the library's contract at this program. -/
namespace Go.Proofs.YtkhegeobdcemkaaGreatDoor
set_option linter.unusedVariables false
open Go.RowKit

def wbRen : Go.Shelf.Ren := ⟨fun | 167 => 118 | n => Tryz.lays156_ren.f n, Tryz.lays156_ren.t, Tryz.lays156_ren.g⟩
theorem wbLays : Lays.n167 Tryz.prog wbRen := { Tryz.lays156 with
  f167 := Tryz.func118.trans (congrArg some (by kernel_rfl))
  t5 := Tryz.Builder_Extra_156.t5
  a5 := Tryz.Builder_Extra_156.a5
  z5 := Tryz.Builder_Extra_156.z5
  v5 := Tryz.Builder_Extra_156.v5 }
theorem wbExtra : Builder.Extra Tryz.prog wbRen where
  sizeBuilder := by kernel_rfl
  liesBuilder := by kernel_rfl
  t5 := Tryz.Builder_Extra_156.t5
  a5 := Tryz.Builder_Extra_156.a5
  z5 := Tryz.Builder_Extra_156.z5
  v5 := Tryz.Builder_Extra_156.v5
  infoByte := by kernel_rfl
  cellsByte := by kernel_rfl
  sizeByte := by kernel_rfl
  neB5 := by decide
theorem writeB_c (B : Nat) (l : List UInt8) (c : UInt8) (w : World) (h : Bld w B l) (hlen : l.length + 1 ≤ 140737488355328) :
    Calls Tryz.prog 118 #[.pointer (some ⟨B, 0, none⟩), .int .u8 c.toNat] w fun e w' => e = .returned .nilIface ∧ (Bld w' B (l ++ [c]) ∧ Below B w w') := by
  refine (Any.Builder_WriteByte wbLays wbExtra B B (Lib.byteCells l) c.toNat w h (by rw [Lib.byteCells_length]; exact hlen) (Nat.le_of_lt h.lt)).mono ?_
  rintro e w' ⟨he, h1, h2⟩
  refine ⟨he, .inr ?_, h2⟩
  have hc : Lib.byteCells (l ++ [c]) = Lib.byteCells l ++ [.int .u8 c.toNat] := by rw [Lib.byteCells_append]; rfl
  rw [hc]
  exact h1
end Go.Proofs.YtkhegeobdcemkaaGreatDoor

/- strings.Builder written, with what stands beside it kept: the library's contracts at this program. -/
namespace Go.Proofs.YtkhegeobdcemkaaGreatDoor
set_option linter.unusedVariables false
open Go.RowKit

/-- A builder of the call's own, whose block is B, that holds the bytes l. -/
def BldK (w : World) (B : Nat) (l : List UInt8) : Prop := Lib.IsBuilderF 148 5 B B (Lib.byteCells l) w
theorem BldK.new (w : World) : BldK (w.alloc (.cells #[.pointer none, .slice none 0 0] 148)) w.heap.size [] := Lib.IsBuilderF.of (Lib.fresh_isBuilder _ _ w)
theorem BldK.lt {w : World} {B : Nat} {l : List UInt8} (h : BldK w B l) : B < w.heap.size := by
  rcases h with ⟨_, v, hb, _⟩ | ⟨_, v, hb, _⟩
  · exact (Array.getElem?_eq_some_iff.1 hb).1
  · exact (Array.getElem?_eq_some_iff.1 hb).1
theorem BldK.keep {w w' : World} {B : Nat} {l : List UInt8} (h : BldK w B l) (hk : ∀ b, B ≤ b → b < w.heap.size → w'.heap[b]? = w.heap[b]?) : BldK w' B l := by
  have one : ∀ p, Lib.BuilderAtF 148 5 B B p (Lib.byteCells l) w → Lib.BuilderAtF 148 5 B B p (Lib.byteCells l) w' := by
    rintro p ⟨hB, v, hb, ho, hne⟩
    refine ⟨hB, v, (hk B (Nat.le_refl _) (Array.getElem?_eq_some_iff.1 hb).1).trans hb, ⟨ho.1, ?_⟩, hne⟩
    rcases ho.2 with hn | ⟨g, cap, cur, fz, rfl, hg0, hg, rest⟩
    · exact .inl hn
    · exact .inr ⟨g, cap, cur, fz, rfl, hg0, (hk g hg0 (Array.getElem?_eq_some_iff.1 hg).1).trans hg, rest⟩
  rcases h with h | h
  · exact .inl (one _ h)
  · exact .inr (one _ h)
theorem BldK.below {w w' : World} {B : Nat} {l : List UInt8} (h : BldK w B l) (hb : Below w.heap.size w w') : BldK w' B l := h.keep fun b _ hlt => hb.block b hlt
theorem BldK.alloc {w : World} {B : Nat} {l : List UInt8} (h : BldK w B l) (o : Obj) : BldK (w.alloc o) B l := h.keep fun b _ hlt => Below.heap_alloc w o b hlt
theorem BldK.drew {w : World} {B : Nat} {l : List UInt8} (h : BldK w B l) : BldK w.drew B l := h
theorem writeK_c (B : Nat) (l : List UInt8) (s : ByteArray) (w : World) (h : BldK w B l) (hlen : l.length + s.size ≤ 140737488355328) :
    Calls Tryz.prog 117 #[.pointer (some ⟨B, 0, none⟩), .string s] w fun e w' => e = .returned (.tuple #[.int .i64 s.size, .nilIface]) ∧ (BldK w' B (l ++ s.data.toList) ∧ Below B w w' ∧ Lib.OthersKept 5 (some B) w w') := by
  refine (Any.Builder_WriteString_k { Tryz.lays156 with } Tryz.Builder_Extra_156 B B (Lib.byteCells l) s w h (by rw [Lib.byteCells_length]; exact hlen) (Nat.le_of_lt h.lt)).mono ?_
  rintro e w' ⟨he, h1, h2, h3⟩
  refine ⟨he, .inr ?_, h2, h3⟩
  rw [Lib.strCells_eq, ← Lib.byteCells_append] at h1
  exact h1
theorem textK_c (B : Nat) (l : List UInt8) (w : World) (h : BldK w B l) :
    Calls Tryz.prog 119 #[.pointer (some ⟨B, 0, none⟩)] w fun e w' => e = .returned (.string ⟨l.toArray⟩) ∧ Below B w w' :=
  (Any.Builder_String_any_k { Tryz.lays156 with } Tryz.Builder_Extra_156 B B l w h (Nat.le_of_lt h.lt)).mono fun _ _ h => ⟨h.1, h.2.2.1⟩
/-- A block of the call's own that is no row of bytes stands behind a write. -/
theorem keptK {w w' : World} {B X : Nat} {cs : Array Value} {T : TypeId} (h : Lib.OthersKept 5 (some B) w w') (hX : w.heap[X]? = some (.cells cs T (0, 0))) (hne : X ≠ B) (hT : T ≠ 5) : w'.heap[X]? = some (.cells cs T (0, 0)) :=
  h X _ hX (fun e => hne (by injection e)) (fun c fz e => hT (by injection e))
end Go.Proofs.YtkhegeobdcemkaaGreatDoor

/- What a law's walk ends with. No law in sight. -/
namespace Go.Proofs.YtkhegeobdcemkaaGreatDoor
set_option linter.unusedVariables false
open Go.RowKit

theorem strNew (w : World) (A : Option Addr) (l : List Int) (c : Nat) (hr : Rs w 0 w.heap.size 1 intc A l) (hl : l.length ≤ 17592186044416) (ho : ∀ x ∈ l, okI x) :
    Str (w.alloc (.cells #[.slice A l.length c, .int .i64 0] 25)) w.heap.size 0 :=
  ⟨A, c, l, heap_alloc_new w _, Int.le_refl _, hr.alloc (Nat.le_refl _) _, hl, ho⟩
theorem gEnd {w w1 : World} {o : Obj} (h : (w.alloc o).grownBy w1 (some w.heap.size)) : Below w.heap.size w w1 :=
  ⟨h.os, h.tape, h.output, by have := h.size; simp at this; omega, fun i hi => (h.block i (by simp; omega) (by simp; omega)).trans (Below.heap_alloc w _ i hi)⟩
end Go.Proofs.YtkhegeobdcemkaaGreatDoor

/- The reference's small words on strings. -/
namespace Go.Proofs.YtkhegeobdcemkaaGreatDoor
set_option linter.unusedVariables false
open Go.RowKit

theorem trim_c (s cs : ByteArray) (w : World) (hs : s.size ≤ 140737488355328) (hcs : cs.size ≤ 1000) (ha : (cs.data.toList.all fun b => decide (b.toNat < 128)) = true) :
    Calls Tryz.prog 111 #[.string s, .string cs] w fun e w' => e = .returned (.string ⟨(Lib.trimS s.data.toList cs.data.toList).toArray⟩) ∧ Below w.heap.size w w' :=
  Any.strings_Trim_laid Tryz.lays160 (by kernel_rfl) s cs w (by omega) (by omega) (ascii_of_all ha)

theorem dropWhile_nil {p : UInt8 → Bool} {l : List UInt8} : l.dropWhile p = [] ↔ ∀ x ∈ l, p x = true := by
  induction l with
  | nil => simp
  | cons y l ih =>
    cases h : p y with
    | true => simp [h, ih]
    | false => simp [h]

theorem trimS_nil (l cs : List UInt8) : Lib.trimS l cs = [] ↔ l.all (cs.contains ·) = true := by
  unfold Lib.trimS Lib.trimLeftS Lib.trimRightS
  constructor
  · intro h
    have h1 : ∀ x ∈ (l.reverse.dropWhile (cs.contains ·)), cs.contains x = true := by
      have := dropWhile_nil.1 h
      simpa using this
    cases hd : l.reverse.dropWhile (cs.contains ·) with
    | nil =>
      have := dropWhile_nil.1 hd
      rw [List.all_eq_true]
      intro x hx
      exact this x (by simpa using hx)
    | cons y t =>
      have h2 := h1 y (by rw [hd]; simp)
      have h3 := List.head_dropWhile_not (p := (cs.contains ·)) (l := l.reverse) (by rw [hd]; simp)
      simp only [hd, List.head_cons] at h3
      rw [h3] at h2; cases h2
  · intro h
    rw [List.all_eq_true] at h
    have : l.reverse.dropWhile (cs.contains ·) = [] := dropWhile_nil.2 (fun x hx => h x (by simpa using hx))
    rw [this]; rfl

theorem toList_mk (l : List UInt8) : (⟨l.toArray⟩ : ByteArray).toList = l := by rw [ByteArray.toList_eq]

set_option maxHeartbeats 400000 in
theorem made_c (s cs : ByteArray) (w : World) (hs : s.size ≤ 140737488355328) (hcs : cs.size ≤ 1000) (ha : (cs.data.toList.all fun b => decide (b.toNat < 128)) = true) :
    Calls Tryz.prog 65 #[.string s, .string cs] w fun e w' => e = .returned (.bool (allB (cs.data.toList.contains ·) s)) ∧ Below w.heap.size w w' := by
  cases h : allB (cs.data.toList.contains ·) s with
  | true =>
    have h2 : (⟨(Lib.trimS s.data.toList cs.data.toList).toArray⟩ : ByteArray) = ⟨#[]⟩ := by rw [(trimS_nil _ _).2 h]
    have H := Lib.hid h2
    clear h2 h
    go_enter Tryz.func65, Tryz.ntmps65
    go_wp2_with fail
    refine (trim_c s cs _ hs hcs ha).mono ?_
    rintro e w' ⟨rfl, hb⟩
    rw [H.out]
    go_wp2
    go_ret
    exact ⟨rfl, hb⟩
  | false =>
    have h2 : (⟨(Lib.trimS s.data.toList cs.data.toList).toArray⟩ : ByteArray).toList.isEmpty = false := by
      rw [toList_mk]
      cases he : Lib.trimS s.data.toList cs.data.toList with
      | nil => rw [(trimS_nil _ _).1 he |> (show _ → allB (cs.data.toList.contains ·) s = true from id)] at h; cases h
      | cons y t => rfl
    have H := Lib.hid h2
    clear h2 h
    go_enter Tryz.func65, Tryz.ntmps65
    go_wp2_with fail
    refine (trim_c s cs _ hs hcs ha).mono ?_
    rintro e w' ⟨rfl, hb⟩
    generalize (⟨(Lib.trimS s.data.toList cs.data.toList).toArray⟩ : ByteArray) = t at H ⊢
    have h2 := H.out
    go_wp2
    go_ret
    exact ⟨rfl, hb⟩

set_option maxHeartbeats 400000 in
theorem long_c (s : ByteArray) (lo hi : Int) (w : World) (hs : s.size ≤ 140737488355328) :
    Calls Tryz.prog 43 #[.string s, .int .i64 lo, .int .i64 hi] w fun e w' => e = .returned (.bool (decide (lo ≤ s.size) && decide ((s.size : Int) ≤ hi))) ∧ w = w' := by
  by_cases h1 : lo ≤ (s.size : Int)
  all_goals
    go_enter Tryz.func43, Tryz.ntmps43
    go_wp2
    go_ret
    exact ⟨ret_bool (by first | (simp [h1]; done) | (simp; omega)), rfl⟩
end Go.Proofs.YtkhegeobdcemkaaGreatDoor

/- The shelf contracts that these proofs use, laid at this translation. -/
namespace Go.Proofs
open Go.Shelf

end Go.Proofs

/- Small laws on strings and bytes. No program in sight. -/
namespace Go.Proofs.YtkhegeobdcemkaaGreatDoor
set_option linter.unusedVariables false
open Go.RowKit

end Go.Proofs.YtkhegeobdcemkaaGreatDoor

/- The program's codes. -/
namespace Go.Proofs.YtkhegeobdcemkaaGreatDoor
set_option linter.unusedVariables false
open Go.RowKit Go.Sort

end Go.Proofs.YtkhegeobdcemkaaGreatDoor

/- A text cut at a byte, in plain words. No program in sight. -/
namespace Go.Proofs.YtkhegeobdcemkaaGreatDoor
set_option linter.unusedVariables false
open Go.RowKit

/-- Where a byte stands first; the length where it does not stand. -/
def cutI (s : ByteArray) (c : UInt8) : Nat := s.data.toList.findIdx (· == c)
def cutF (s : ByteArray) (c : UInt8) : Bool := decide (cutI s c < s.size)
def cutA (s : ByteArray) (c : UInt8) : ByteArray := s.extract 0 (cutI s c)
def cutB (s : ByteArray) (c : UInt8) : ByteArray := s.extract (cutI s c + 1) s.size
theorem cutI_le (s : ByteArray) (c : UInt8) : cutI s c ≤ s.size := by
  have := List.findIdx_le_length (p := (· == c)) (xs := s.data.toList)
  simpa [cutI] using this
theorem cutA_size (s : ByteArray) (c : UInt8) : (cutA s c).size ≤ s.size := by unfold cutA; rw [ByteArray.size_extract]; omega
theorem cutB_size (s : ByteArray) (c : UInt8) : (cutB s c).size ≤ s.size := by unfold cutB; rw [ByteArray.size_extract]; omega
theorem idxB_no {s : ByteArray} {c : UInt8} (h : ¬ cutI s c < s.size) : Lib.indexByte s.data.toList c = -1 := by
  by_cases h1 : Lib.indexByte s.data.toList c = -1
  · exact h1
  · exfalso
    have hg := Lib.indexByte_ge s.data.toList c
    obtain ⟨o, ho⟩ := Int.eq_ofNat_of_zero_le (show 0 ≤ Lib.indexByte s.data.toList c by omega)
    obtain ⟨h2, _⟩ := Lib.indexByte_some ho
    obtain ⟨hlt, h3⟩ := List.getElem?_eq_some_iff.1 h2
    exact h (by
      have h4 : cutI s c < s.data.toList.length := List.findIdx_lt_length_of_exists ⟨c, by rw [← h3]; exact List.getElem_mem hlt, by simp⟩
      simpa using h4)
theorem idxB_yes {s : ByteArray} {c : UInt8} (h : cutI s c < s.size) : Lib.indexByte s.data.toList c = (cutI s c : Int) := by
  have hl : cutI s c < s.data.toList.length := by simpa using h
  have hg := Lib.indexByte_ge s.data.toList c
  have hc : s.data.toList[cutI s c] = c := by have := List.findIdx_getElem (p := (· == c)) (w := hl); exact eq_of_beq this
  have hne : Lib.indexByte s.data.toList c ≠ -1 := fun e => Lib.indexByte_none e (cutI s c) (by rw [List.getElem?_eq_getElem hl, hc])
  obtain ⟨o, ho⟩ := Int.eq_ofNat_of_zero_le (show 0 ≤ Lib.indexByte s.data.toList c by omega)
  obtain ⟨h2, h3⟩ := Lib.indexByte_some ho
  obtain ⟨hlt, h4⟩ := List.getElem?_eq_some_iff.1 h2
  rcases Nat.lt_trichotomy o (cutI s c) with h5 | h5 | h5
  · have := List.not_of_lt_findIdx (p := (· == c)) (xs := s.data.toList) h5
    simp [h4] at this
  · rw [ho, h5]
  · exact absurd (by rw [List.getElem?_eq_getElem hl, hc]) (h3 _ h5)
theorem ba_ext {a b : ByteArray} (h : a.data.toList = b.data.toList) : a = b := by
  rcases a with ⟨⟨a⟩⟩; rcases b with ⟨⟨b⟩⟩; simp at h; rw [h]
end Go.Proofs.YtkhegeobdcemkaaGreatDoor

/- strings.Cut at one byte, for every string. -/
namespace Go.Proofs.YtkhegeobdcemkaaGreatDoor
set_option linter.unusedVariables false
open Go.RowKit

set_option maxHeartbeats 400000 in
theorem cutL_c (s : ByteArray) (c : UInt8) (w : World) (hs : s.size ≤ 140737488355328) :
    Calls Tryz.prog 222 #[.string s, .string ⟨#[c]⟩] w fun e w' => e = .returned (.tuple #[.string (cutA s c), .string (cutB s c), .bool (cutF s c)]) ∧ ∃ n, w' = w.drewN n := by
  by_cases h : cutI s c < s.size
  · have HI := Lib.hid (idxB_yes h)
    obtain ⟨i, hi⟩ : ∃ i, cutI s c = i := ⟨_, rfl⟩
    have HV := Lib.hid (show cutA s c = s.extract 0 i ∧ cutB s c = s.extract (i + 1) s.size ∧ cutF s c = true by unfold cutA cutB cutF; rw [← hi]; exact ⟨rfl, rfl, decide_eq_true h⟩)
    rw [hi] at h HI
    clear hi
    have p0 : (0 : Int) ≤ (i : Int) := by omega
    have p1 : (i : Int) ≤ (s.size : Int) := by omega
    have p2 : (i : Int) + 1 ≤ (s.size : Int) := by omega
    have p3 : (0 : Int) ≤ (i : Int) + 1 := by omega
    have p4 : ((i : Int) + 1).toNat = i + 1 := by omega
    have p5 : IntKind.i64.wrap ((i : Int) + 1) = (i : Int) + 1 := IntWalk.i64_in _ (by omega)
    have p6 : i ≤ s.size := by omega
    have p7 : i + 1 ≤ s.size := by omega
    go_enter Tryz.func222, Tryz.ntmps222
    go_wp2_with fail
    refine (Tryz.stringslite_Index_one s c _).mono ?_
    rintro e w' ⟨rfl, rfl⟩
    rw [HI.out]
    go_wp2
    go_quiet (fail)
    go_wp2
    refine bodyPost_ret (v := .tuple #[.string (cutA s c), .string (cutB s c), .bool (cutF s c)]) ?_ rfl ⟨rfl, _, rfl⟩
    rw [HV.out.1, HV.out.2.1, HV.out.2.2]
    simp [results, go_sem]
  · have HI := Lib.hid (idxB_no h)
    have hi : cutI s c = s.size := by have := cutI_le s c; omega
    have HV := Lib.hid (show cutA s c = s ∧ cutB s c = ⟨#[]⟩ ∧ cutF s c = false by
      unfold cutA cutB cutF; rw [hi]
      exact ⟨ba_ext (by simp), ba_ext (by simp), by simp⟩)
    clear hi h
    go_enter Tryz.func222, Tryz.ntmps222
    go_wp2_with fail
    refine (Tryz.stringslite_Index_one s c _).mono ?_
    rintro e w' ⟨rfl, rfl⟩
    rw [HI.out]
    go_wp2
    refine bodyPost_ret (v := .tuple #[.string (cutA s c), .string (cutB s c), .bool (cutF s c)]) ?_ rfl ⟨rfl, 0, rfl⟩
    rw [HV.out.1, HV.out.2.1, HV.out.2.2]
    simp [results, go_sem]
set_option maxHeartbeats 400000 in
theorem cut_c (s : ByteArray) (c : UInt8) (w : World) (hs : s.size ≤ 140737488355328) :
    Calls Tryz.prog 188 #[.string s, .string ⟨#[c]⟩] w fun e w' => e = .returned (.tuple #[.string (cutA s c), .string (cutB s c), .bool (cutF s c)]) ∧ ∃ n, w' = w.drewN n := by
  go_enter Tryz.func188, Tryz.ntmps188
  go_wp2_with fail
  refine (cutL_c s c _ hs).mono ?_
  rintro e w' ⟨rfl, ⟨n, rfl⟩⟩
  go_wp2
  exact bodyPost_ret (v := .tuple #[.string (cutA s c), .string (cutB s c), .bool (cutF s c)]) (by simp [results, go_sem]) rfl ⟨rfl, _, rfl⟩
end Go.Proofs.YtkhegeobdcemkaaGreatDoor

/- Numerals read by the program and by the reference. -/
namespace Go.Proofs.YtkhegeobdcemkaaGreatDoor
set_option linter.unusedVariables false
open Go.RowKit Go.Sort

/-- The table of powers of ten lies where it was laid. -/
def PowLaid (w : World) : Prop := Lib.TabIs Tryz.prog w "internal/strconv.uint64pow10" .u64 Lib.pow10Tab
theorem below_grow {w w' : World} {k : Nat} {os : Array Obj} (h : w' = grow (w.drewN k) os) : Below w.heap.size w w' := by
  subst h
  exact below_regrown w (w.drawn + k) os
theorem itoa_c (n : Int) (w : World) (hn : okI n) (hp : PowLaid w) : Calls Tryz.prog 39 #[.int .i64 n] w fun e w' => e = .returned (.string ⟨(Lib.itoa n).toArray⟩) ∧ Below w.heap.size w w' :=
  (Any.strconv_Itoa Tryz.laysM171 n hn.1 hn.2 w hp).mono fun _ _ ⟨he, k, os, hw⟩ => ⟨he, below_grow hw⟩

theorem mk_size (l : List UInt8) : (⟨l.toArray⟩ : ByteArray).size = l.length := rfl
end Go.Proofs.YtkhegeobdcemkaaGreatDoor

/- The generator's changed texts and frames. -/
namespace Go.Proofs.YtkhegeobdcemkaaGreatDoor
set_option linter.unusedVariables false
open Go.RowKit Go.Sort

end Go.Proofs.YtkhegeobdcemkaaGreatDoor

/- The generator's numbers of scenes and setups. -/
namespace Go.Proofs.YtkhegeobdcemkaaGreatDoor
set_option linter.unusedVariables false
open Go.RowKit Go.Sort

theorem oneOf {l : List ByteArray} {x : ByteArray} {n : Nat} (h : (l.all fun x => decide (x.size ≤ n)) = true) (hx : x ∈ l) : x.size ≤ n := by
  rw [List.all_eq_true] at h; simpa using h x hx
end Go.Proofs.YtkhegeobdcemkaaGreatDoor

/- Digests: the program's and the reference's. -/
namespace Go.Proofs.YtkhegeobdcemkaaGreatDoor
set_option linter.unusedVariables false
open Go.RowKit Go.Sort

end Go.Proofs.YtkhegeobdcemkaaGreatDoor

/- The program's names of files, and copies checked. -/
namespace Go.Proofs.YtkhegeobdcemkaaGreatDoor
set_option linter.unusedVariables false
open Go.RowKit

theorem idx_set (set : List UInt8) (c : UInt8) : (set.contains c = true → 0 ≤ Lib.indexByte set c) ∧ (set.contains c = false → Lib.indexByte set c < 0) := by
  have hg := Lib.indexByte_ge set c
  constructor
  · intro h
    by_cases h1 : Lib.indexByte set c = -1
    · have hm : c ∈ set := by simpa using h
      obtain ⟨k, hk, e⟩ := List.mem_iff_getElem.1 hm
      exact absurd (by rw [List.getElem?_eq_getElem hk, e]) (Lib.indexByte_none h1 k)
    · omega
  · intro h
    by_cases h1 : 0 ≤ Lib.indexByte set c
    · obtain ⟨o, ho⟩ := Int.eq_ofNat_of_zero_le h1
      obtain ⟨h2, _⟩ := Lib.indexByte_some ho
      have : c ∈ set := List.mem_of_getElem? h2
      simp at h; exact absurd this h
    · omega
/-- strings.IndexByte: below 0 just where the byte is none of the set. -/
theorem idxB_c (set : ByteArray) (c : UInt8) (w : World) : Calls Tryz.prog 164 #[.string set, .int .u8 (c.toNat : Int)] w fun e w' => e = .returned (.int .i64 (Lib.indexByte set.data.toList c)) ∧ w = w' := by
  refine (Tryz.strings_IndexByte set (c.toNat : Int) w).mono ?_
  rintro e w' ⟨he, hw⟩
  refine ⟨?_, hw.symm⟩
  rw [he]
  have : ((c.toNat : Int)).toNat.toUInt8 = c := by simp
  rw [this]

end Go.Proofs.YtkhegeobdcemkaaGreatDoor

/- Lists of copies checked, and manifests made. -/
namespace Go.Proofs.YtkhegeobdcemkaaGreatDoor
set_option linter.unusedVariables false
open Go.RowKit

end Go.Proofs.YtkhegeobdcemkaaGreatDoor

/- Slices compared and looked through; the reference's names of files. -/
namespace Go.Proofs.YtkhegeobdcemkaaGreatDoor
set_option linter.unusedVariables false
open Go.RowKit

theorem eq_take_next {α : Type} {a b : List α} {k : Nat} (h1 : k < a.length) (h2 : k < b.length) (h : a.take k = b.take k) (e : a[k] = b[k]) : a.take (k + 1) = b.take (k + 1) := by
  rw [List.take_succ_eq_append_getElem h1, List.take_succ_eq_append_getElem h2, h, e]
theorem ne_at {α : Type} {a b : List α} {k : Nat} (h1 : k < a.length) (h2 : k < b.length) (e : ¬ a[k] = b[k]) : ¬ a = b := by
  intro h; subst h; exact e rfl

instance : DecidableEq Copied := fun a b => decidable_of_iff (a.eqB b = true) Copied.eqB_iff
end Go.Proofs.YtkhegeobdcemkaaGreatDoor

/- Lists of whole numbers compared: the library's, walked. -/
namespace Go.Proofs.YtkhegeobdcemkaaGreatDoor
set_option linter.unusedVariables false
open Go.RowKit

end Go.Proofs.YtkhegeobdcemkaaGreatDoor

/- What the library has laid, kept beside a stream; Atoi and Itoa there. -/
namespace Go.Proofs.YtkhegeobdcemkaaGreatDoor
set_option linter.unusedVariables false
open Go.RowKit Go.Sort

theorem pow_block {w w' : World} (h : PowLaid w) (hk : w'.heap[2]? = w.heap[2]?) : PowLaid w' := by
  unfold PowLaid Lib.TabIs World.var? at *
  rw [show Tryz.prog.globalNamed "internal/strconv.uint64pow10" = some 2 by kernel_rfl] at *
  simp only [Option.bind_some] at *
  rw [hk]; exact h
theorem pow_lt {w : World} (h : PowLaid w) : 2 < w.heap.size := by
  unfold PowLaid Lib.TabIs World.var? at h
  rw [show Tryz.prog.globalNamed "internal/strconv.uint64pow10" = some 2 by kernel_rfl] at h
  simp only [Option.bind_some] at h
  rcases Nat.lt_or_ge 2 w.heap.size with h' | h'
  · exact h'
  · simp [Array.getElem?_eq_none h'] at h
section
variable {w w' : World} {sb : Nat}
end
theorem itoa_sz (n : Int) (h : okI n) : (⟨(Lib.itoa n).toArray⟩ : ByteArray).size ≤ 21 := by
  have := Lib.itoa_length_le n h.1 h.2
  show (Lib.itoa n).toArray.size ≤ 21
  simpa using this
end Go.Proofs.YtkhegeobdcemkaaGreatDoor

/- The number of a scene, and a setup, in plain words. -/
namespace Go.Proofs.YtkhegeobdcemkaaGreatDoor
set_option linter.unusedVariables false
open Go.RowKit

def digB (c : UInt8) : Bool := decide (48 ≤ c.toNat) && decide (c.toNat ≤ 57)
def capB (c : UInt8) : Bool := decide (65 ≤ c.toNat) && decide (c.toNat ≤ 90)
def numK (s : ByteArray) : Nat := (s.data.toList.takeWhile digB).length
def numB (s : ByteArray) : Bool :=
  (s.data.toList.drop (numK s)).all capB && decide (s.size - numK s ≤ 5) && !Lib.hasSuffix (s.data.toList.drop (numK s)) [65]
    && (if s.data.toList.take (numK s) = [48] then decide (numK s < s.size) else decide (1 ≤ numK s) && decide (numK s ≤ 3) && decide (s.data.toList.head? ≠ some 48))

theorem takeWhile_len {p : UInt8 → Bool} {l : List UInt8} {k : Nat} (h : ∀ x ∈ l.take k, p x = true) (hk : k ≤ l.length) (he : ∀ hlt : k < l.length, p l[k] = false) : (l.takeWhile p).length = k := by
  induction l generalizing k with
  | nil => simp at hk; simp [hk]
  | cons y l ih =>
    cases k with
    | zero => have := he (by simp); simp at this; simp [this]
    | succ k =>
      have h0 : p y = true := h y (by simp)
      have := ih (k := k) (fun x hx => h x (by simp [hx])) (by simpa using hk) (fun hlt => he (Nat.succ_lt_succ hlt))
      simp [h0, this]
theorem numK_eq {s : ByteArray} {k : Nat} (h : ∀ x ∈ s.data.toList.take k, digB x = true) (hk : k ≤ s.size) (he : ∀ hlt : k < s.size, digB s[k] = false) : numK s = k :=
  takeWhile_len h (by simpa using hk) (fun hlt => he (by simpa using hlt))
theorem extract_list (s : ByteArray) (a b : Nat) : (s.extract a b).data.toList = (s.data.toList.drop a).take (b - a) := by
  simp
theorem extract_end (s : ByteArray) (k : Nat) : (s.extract k s.size).data.toList = s.data.toList.drop k := by
  rw [extract_list, List.take_of_length_le]
  simp

theorem numB_size {s : ByteArray} (h : numB s = true) : s.size ≤ 8 := by
  simp only [numB, Bool.and_eq_true, decide_eq_true_eq] at h
  obtain ⟨⟨⟨_, h1⟩, _⟩, h2⟩ := h
  split at h2
  · rename_i h3
    have := congrArg List.length h3
    simp at this; omega
  · simp only [Bool.and_eq_true, decide_eq_true_eq] at h2; omega

end Go.Proofs.YtkhegeobdcemkaaGreatDoor

/- Plain texts, in plain words: joined words against no blanks beside blanks. No program in sight. -/
namespace Go.Proofs.YtkhegeobdcemkaaGreatDoor
set_option linter.unusedVariables false
open Go.RowKit

/-- The words of a text: what stands between blanks. -/
def wordsA : List UInt8 → List UInt8 → List (List UInt8)
  | [], cur => if cur = [] then [] else [cur]
  | c :: l, cur => if c = 32 then (if cur = [] then wordsA l [] else cur :: wordsA l []) else wordsA l (cur ++ [c])
def joinW : List (List UInt8) → List UInt8
  | [] => []
  | [w] => w
  | w :: v :: r => w ++ 32 :: joinW (v :: r)
/-- No blank behind a blank, none at the end. -/
def okA : Bool → List UInt8 → Bool
  | prev, [] => !prev
  | prev, c :: l => if c = 32 then (if prev then false else okA true l) else okA false l
theorem joinW_cons (w : List UInt8) (r : List (List UInt8)) : joinW (w :: r) = if r = [] then w else w ++ 32 :: joinW r := by
  cases r with
  | nil => rfl
  | cons v r => rfl
theorem wordsA_ne (l : List UInt8) : ∀ cur, cur ≠ [] → wordsA l cur ≠ [] := by
  induction l with
  | nil => intro cur h; simp [wordsA, h]
  | cons c l ih =>
    intro cur h
    unfold wordsA
    by_cases hc : c = 32
    · rw [if_pos hc, if_neg h]; simp
    · rw [if_neg hc]; exact ih _ (by simp)
theorem join_len (l : List UInt8) : ∀ cur, (joinW (wordsA l cur)).length ≤ cur.length + l.length := by
  induction l with
  | nil => intro cur; by_cases h : cur = [] <;> simp [wordsA, h, joinW]
  | cons c l ih =>
    intro cur
    unfold wordsA
    by_cases hc : c = 32
    · rw [if_pos hc]
      have h1 := ih []
      by_cases h : cur = []
      · rw [if_pos h]; simp at h1 ⊢; omega
      · rw [if_neg h, joinW_cons]
        split
        · simp
        · simp at h1 ⊢; omega
    · rw [if_neg hc]
      have := ih (cur ++ [c])
      simp at this ⊢; omega
theorem join_ok (l : List UInt8) : (∀ cur, cur ≠ [] → (joinW (wordsA l cur) = cur ++ l ↔ okA false l = true)) ∧ ((wordsA l [] ≠ [] ∧ joinW (wordsA l []) = l) ↔ okA true l = true) := by
  induction l with
  | nil =>
    refine ⟨fun cur h => ?_, ?_⟩
    · simp [wordsA, h, joinW, okA]
    · simp [wordsA, okA]
  | cons c l ih =>
    obtain ⟨ihA, ihB⟩ := ih
    refine ⟨fun cur h => ?_, ?_⟩
    · unfold wordsA okA
      by_cases hc : c = 32
      · rw [if_pos hc, if_neg h, if_pos hc, joinW_cons]
        simp only [Bool.false_eq_true, if_false]
        rw [← ihB]
        by_cases hw : wordsA l [] = []
        · rw [if_pos hw]; simp [hw]
        · rw [if_neg hw, hc]
          simp [hw]
      · rw [if_neg hc, if_neg hc, ← ihA (cur ++ [c]) (by simp)]; simp
    · unfold wordsA okA
      by_cases hc : c = 32
      · rw [if_pos hc, if_pos rfl, if_pos hc]
        simp only [if_true, Bool.false_eq_true, iff_false, not_and]
        intro _ h
        have := join_len l []
        rw [h] at this
        simp at this
        omega
      · rw [if_neg hc, if_neg hc, List.nil_append, ← ihA [c] (by simp)]
        constructor
        · rintro ⟨_, h⟩; exact h
        · intro h; exact ⟨wordsA_ne l _ (by simp), h⟩
def plainL (l : List UInt8) : Bool := decide (l = []) || okA true l
/-- What the reference asks. -/
theorem plain_join (l : List UInt8) : joinW (wordsA l []) = l ↔ plainL l = true := by
  unfold plainL
  cases l with
  | nil => simp [wordsA, joinW]
  | cons c l =>
    have h := (join_ok (c :: l)).2
    simp only [Bool.or_eq_true, decide_eq_true_eq, reduceCtorEq, false_or]
    rw [← h]
    constructor
    · intro he
      refine ⟨fun hw => ?_, he⟩
      rw [hw] at he; cases he
    · exact fun h => h.2
def dblB : List UInt8 → Bool
  | [] => false
  | [_] => false
  | a :: b :: l => (a == 32 && b == 32) || dblB (b :: l)
def sufB : List UInt8 → Bool
  | [] => false
  | [a] => a == 32
  | _ :: b :: l => sufB (b :: l)
/-- What the program asks. -/
theorem okA_prog (l : List UInt8) : ∀ prev c, okA prev (c :: l) = (!dblB (c :: l) && !(prev && c == 32) && !sufB (c :: l)) := by
  induction l with
  | nil =>
    intro prev c
    by_cases hc : c = 32
    · cases prev <;> simp [okA, dblB, sufB, hc]
    · cases prev <;> simp [okA, dblB, sufB, hc]
  | cons d l ih =>
    intro prev c
    by_cases hc : c = 32
    · cases prev
      · rw [okA, if_pos hc]
        simp only [Bool.false_eq_true, if_false]
        rw [ih true d]
        have e : (c == 32) = true := by rw [hc]; rfl
        simp only [dblB, sufB, e, Bool.true_and, Bool.false_and, Bool.not_false, Bool.and_true]
        generalize dblB (d :: l) = x
        generalize sufB (d :: l) = y
        generalize (d == 32) = z
        cases x <;> cases y <;> cases z <;> rfl
      · have e : (c == 32) = true := by rw [hc]; rfl
        simp [okA, hc]
    · rw [okA, if_neg hc, ih false d]
      have e : (c == 32) = false := beq_eq_false_iff_ne.2 hc
      simp only [dblB, sufB, e, Bool.false_and, Bool.and_false, Bool.not_false, Bool.and_true, Bool.false_or]
theorem contains_cons (b : UInt8) (l sub : List UInt8) : Lib.contains (b :: l) sub = (sub.isPrefixOf (b :: l) || Lib.contains l sub) := by
  unfold Lib.contains
  have hg := Lib.index_ge l sub
  rw [Lib.index]
  cases h : sub.isPrefixOf (b :: l) with
  | true => simp
  | false =>
    simp only [Bool.false_eq_true, if_false, Bool.false_or]
    by_cases h1 : Lib.index l sub = -1
    · rw [h1]; rfl
    · rw [if_neg (by simpa using h1), decide_eq_decide]; omega
theorem beqC (a b : UInt8) : (a == b) = (b == a) := by
  rw [show (a == b) = decide (a = b) from rfl, show (b == a) = decide (b = a) from rfl, decide_eq_decide]
  exact ⟨fun h => h.symm, fun h => h.symm⟩
theorem dbl_contains (l : List UInt8) : Lib.contains l [32, 32] = dblB l := by
  induction l with
  | nil => rfl
  | cons a l ih =>
    rw [contains_cons, ih]
    cases l with
    | nil => simp [List.isPrefixOf, dblB]
    | cons b l =>
      simp only [List.isPrefixOf, dblB, Bool.and_true]
      have e1 : ((32 : UInt8) == a) = (a == 32) := beqC 32 a
      have e2 : ((32 : UInt8) == b) = (b == 32) := beqC 32 b
      rw [e1, e2]
theorem suf_has (l : List UInt8) : Lib.hasSuffix l [32] = sufB l := by
  unfold Lib.hasSuffix
  rw [Bool.eq_iff_iff, List.isSuffixOf_iff_suffix]
  induction l with
  | nil => simp [sufB]
  | cons a l ih =>
    rw [List.suffix_cons_iff, ih]
    cases l with
    | nil => simp [sufB]; exact eq_comm
    | cons b l => simp [sufB]
theorem pre_has (l : List UInt8) : Lib.hasPrefix l [32] = decide (l.head? = some 32) := by
  unfold Lib.hasPrefix
  cases l with
  | nil => rfl
  | cons a l =>
    show ((32 : UInt8) == a && List.isPrefixOf [] l) = _
    rw [show List.isPrefixOf ([] : List UInt8) l = true by cases l <;> rfl, Bool.and_true, List.head?_cons]
    rw [show ((32 : UInt8) == a) = decide ((32 : UInt8) = a) from rfl, decide_eq_decide]
    constructor
    · intro h; rw [h]
    · intro h; injection h with h; exact h.symm
/-- The two ways to ask for no blanks beside blanks. -/
theorem plain_prog (l : List UInt8) : plainL l = (!Lib.hasPrefix l [32] && !Lib.hasSuffix l [32] && !Lib.contains l [32, 32]) := by
  rw [dbl_contains, suf_has, pre_has]
  unfold plainL
  cases l with
  | nil => rfl
  | cons c l =>
    rw [okA_prog]
    simp only [reduceCtorEq, decide_false, Bool.false_or, List.head?_cons, Option.some.injEq, Bool.true_and]
    have e : (c == 32) = decide (c = 32) := rfl
    generalize dblB (c :: l) = x
    generalize sufB (c :: l) = y
    by_cases hc : c = 32
    · simp [hc]
    · have e : (c == 32) = false := beq_eq_false_iff_ne.2 hc
      simp only [e, hc, decide_false]; cases x <;> cases y <;> rfl
/-- All bytes from 32 to 126. -/
def prB (c : UInt8) : Bool := decide (32 ≤ c.toNat) && decide (c.toNat ≤ 126)
def plainB (s : ByteArray) : Bool := allB prB s && plainL s.data.toList
end Go.Proofs.YtkhegeobdcemkaaGreatDoor

/- Reading slates, in plain words. No program in sight. -/
namespace Go.Proofs.YtkhegeobdcemkaaGreatDoor
set_option linter.unusedVariables false
open Go.RowKit

theorem empty_iff (s : ByteArray) : s.toList.isEmpty = true ↔ s = ⟨#[]⟩ := by
  rw [ByteArray.toList_eq]
  constructor
  · intro h; exact ba_ext (by simpa using h)
  · rintro rfl; rfl
end Go.Proofs.YtkhegeobdcemkaaGreatDoor

/- The generator's names of those who speak. -/
namespace Go.Proofs.YtkhegeobdcemkaaGreatDoor
set_option linter.unusedVariables false
open Go.RowKit Go.Sort

theorem Speaker_c (sb : Nat) (k : Int) (w : World) (hs : Str w sb k) (hk : k ≤ 4000000000000000000) :
    Calls Tryz.prog 17 #[.pointer (some ⟨sb, 0, none⟩)] w (Took sb k 1 (isStr (fun x => x.size ≤ 100)) w) := by
  have HS := Lib.hid hs
  clear hs
  go_enter Tryz.func17, Tryz.ntmps17
  go_wp2_with fail
  refine (oneL w [⟨#[65, 78, 78]⟩, ⟨#[65, 78, 78]⟩, ⟨#[66, 79]⟩, ⟨#[68, 82, 46, 32, 88]⟩, ⟨#[65, 78, 78, 45, 77, 65, 82, 73, 69]⟩, ⟨#[90, 69, 68]⟩, ⟨#[97, 110, 110]⟩, ⟨#[]⟩, ⟨#[65, 32, 32, 66]⟩] _ _ _ _ rfl rfl (by decide) (by decide) HS.out (by omega)).mono ?_
  rintro e w1 ⟨v1, n1, rfl, ⟨x1, hx1, rfl⟩, hn1, hs1, hg1⟩
  have b1 : x1.size ≤ 100 := oneOf (n := 100) (by decide +kernel) hx1
  have S1 := Lib.hid hs1
  have G1 := Lib.hid (gTrans (gAlloc (gRefl w sb) _) hg1)
  clear hs1 hg1 hx1
  go_wp2
  go_ret
  exact ⟨_, n1, rfl, ⟨x1, b1, rfl⟩, by omega, S1.out, G1.out⟩
theorem NewName_c (sb : Nat) (k : Int) (w : World) (hs : Str w sb k) (hk : k ≤ 4000000000000000000) :
    Calls Tryz.prog 19 #[.pointer (some ⟨sb, 0, none⟩)] w (Took sb k 1 (isStr (fun x => x.size ≤ 100)) w) := by
  have HS := Lib.hid hs
  clear hs
  go_enter Tryz.func19, Tryz.ntmps19
  go_wp2_with fail
  refine (oneL w [⟨#[69, 86, 69]⟩, ⟨#[82, 50]⟩, ⟨#[79, 39, 72, 65, 82, 65]⟩, ⟨#[69, 86, 69, 45, 76, 89, 78]⟩, ⟨#[65, 66, 67, 68, 69, 70, 71, 72, 73, 74, 75, 76, 77, 78, 79, 80, 81, 82, 83, 84, 85, 86, 87, 88, 89, 90, 65, 66, 67, 68]⟩, ⟨#[65, 66, 67, 68, 69, 70, 71, 72, 73, 74, 75, 76, 77, 78, 79, 80, 81, 82, 83, 84, 85, 86, 87, 88, 89, 90, 65, 66, 67, 68, 69]⟩] _ _ _ _ rfl rfl (by decide) (by decide) HS.out (by omega)).mono ?_
  rintro e w1 ⟨v1, n1, rfl, ⟨x1, hx1, rfl⟩, hn1, hs1, hg1⟩
  have b1 : x1.size ≤ 100 := oneOf (n := 100) (by decide +kernel) hx1
  have S1 := Lib.hid hs1
  have G1 := Lib.hid (gTrans (gAlloc (gRefl w sb) _) hg1)
  clear hs1 hg1 hx1
  go_wp2
  go_ret
  exact ⟨_, n1, rfl, ⟨x1, b1, rfl⟩, by omega, S1.out, G1.out⟩
end Go.Proofs.YtkhegeobdcemkaaGreatDoor

/- Takes as they lie in memory. No program in sight. -/
namespace Go.Proofs.YtkhegeobdcemkaaGreatDoor
set_option linter.unusedVariables false
open Go.RowKit

end Go.Proofs.YtkhegeobdcemkaaGreatDoor

/- The next number and the next setup in plain words. No program in sight. -/
namespace Go.Proofs.YtkhegeobdcemkaaGreatDoor
set_option linter.unusedVariables false
open Go.RowKit

end Go.Proofs.YtkhegeobdcemkaaGreatDoor

/- The cells of a take in a list of takes; the greater and the lesser of two numbers. No program in sight. -/
namespace Go.Proofs.YtkhegeobdcemkaaGreatDoor
set_option linter.unusedVariables false
open Go.RowKit

end Go.Proofs.YtkhegeobdcemkaaGreatDoor

/- How many scenes each set has, in plain words. No program in sight. -/
namespace Go.Proofs.YtkhegeobdcemkaaGreatDoor
set_option linter.unusedVariables false
open Go.RowKit

instance memBA (s : ByteArray) (a : List ByteArray) : Decidable (s ∈ a) := decidable_of_iff (∃ x ∈ a, x = s) (by simp)
theorem modAt {α : Type} {l : List α} {n : Nat} {f g : α → α} (hn : n < l.length) (h : f l[n] = g l[n]) : l.modify n f = l.modify n g := by
  apply List.ext_getElem?
  intro i
  rw [List.getElem?_modify, List.getElem?_modify]
  by_cases e : n = i
  · subst e
    rw [List.getElem?_eq_getElem hn]
    simp [h]
  · simp [e]
end Go.Proofs.YtkhegeobdcemkaaGreatDoor

/- The error of a take that is written, in plain words. No program in sight. -/
namespace Go.Proofs.YtkhegeobdcemkaaGreatDoor
set_option linter.unusedVariables false
open Go.RowKit

end Go.Proofs.YtkhegeobdcemkaaGreatDoor

/- The words of a text, in plain words. No program in sight. -/
namespace Go.Proofs.YtkhegeobdcemkaaGreatDoor
set_option linter.unusedVariables false
open Go.RowKit

def lowB (c : UInt8) : Bool := decide (97 ≤ c.toNat) && decide (c.toNat ≤ 122)
/-- A letter or a figure. -/
def alnB (c : UInt8) : Bool := capB c || lowB c || digB c
def inWB (c : UInt8) : Bool := alnB c || c == 39
def loC (c : UInt8) : UInt8 := if capB c = true then c + 32 else c
def wdOk (cur : List UInt8) : Bool := cur.any fun c => c != 39
def flW (cur : List UInt8) : List ByteArray := if wdOk cur = true then [⟨cur.toArray⟩] else []
/-- The words of what is left of a text, where these bytes of a word are at hand. -/
def wdS : List UInt8 → List UInt8 → List ByteArray
  | cur, [] => flW cur
  | cur, c :: r => if inWB c = true then wdS (cur ++ [loC c]) r else flW cur ++ wdS [] r
def wordsT (s : ByteArray) : List ByteArray := wdS [] s.data.toList
theorem flW_len (cur : List UInt8) : (flW cur).length ≤ 1 := by unfold flW; split <;> simp
theorem wdS_len : ∀ (r cur : List UInt8), (wdS cur r).length ≤ r.length + 1
  | [], cur => by rw [wdS]; exact flW_len cur
  | c :: r, cur => by
    rw [wdS]
    split
    · have := wdS_len r (cur ++ [loC c]); simp; omega
    · have h1 := flW_len cur
      have h2 := wdS_len r []
      rw [List.length_append]; simp; omega
theorem wordsT_len (s : ByteArray) : (wordsT s).length ≤ s.size + 1 := by have := wdS_len s.data.toList []; simpa [wordsT] using this
/-- Where a walk through a text stands: behind k bytes, with these words and these bytes at hand. -/
def WdI (s : ByteArray) (k : Nat) (out : List ByteArray) (cur : List UInt8) : Prop := out ++ wdS cur (s.data.toList.drop k) = wordsT s ∧ cur.length ≤ k ∧ out.length ≤ k
theorem WdI.start (s : ByteArray) : WdI s 0 [] [] := ⟨rfl, Nat.le_refl _, Nat.le_refl _⟩
theorem WdI.in_ {s : ByteArray} {k : Nat} {out : List ByteArray} {cur : List UInt8} (h : WdI s k out cur) (hk : k < s.size) (hc : inWB s[k] = true) : WdI s (k + 1) out (cur ++ [loC s[k]]) := by
  refine ⟨?_, by have := h.2.1; simp; omega, by have := h.2.2; omega⟩
  have h1 := h.1
  rw [List.drop_eq_getElem_cons (by simpa using hk), wdS, if_pos (by exact hc)] at h1
  exact h1
theorem WdI.out_ {s : ByteArray} {k : Nat} {out : List ByteArray} {cur : List UInt8} (h : WdI s k out cur) (hk : k < s.size) (hc : inWB s[k] = false) : WdI s (k + 1) (out ++ flW cur) [] := by
  refine ⟨?_, Nat.zero_le _, by have := h.2.2; have := flW_len cur; rw [List.length_append]; omega⟩
  have h1 := h.1
  rw [List.drop_eq_getElem_cons (by simpa using hk), wdS, if_neg (by show ¬ inWB s[k] = true; rw [hc]; decide)] at h1
  rw [List.append_assoc]
  exact h1
theorem WdI.end_ {s : ByteArray} {k : Nat} {out : List ByteArray} {cur : List UInt8} (h : WdI s k out cur) (hk : ¬ k < s.size) : out ++ flW cur = wordsT s := by
  have h1 := h.1
  rw [List.drop_eq_nil_of_le (by simpa using hk), wdS] at h1
  exact h1
theorem flW_no {cur : List UInt8} (h : wdOk cur = false) : flW cur = [] := if_neg (by rw [h]; decide)
theorem flW_yes {cur : List UInt8} (h : wdOk cur = true) : flW cur = [⟨cur.toArray⟩] := if_pos h
end Go.Proofs.YtkhegeobdcemkaaGreatDoor

