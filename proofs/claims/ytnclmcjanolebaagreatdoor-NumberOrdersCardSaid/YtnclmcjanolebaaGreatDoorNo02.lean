/- Texts packed: KeepM, Shelf, AtoiW, BldW, BldK, LawA, RefA, Shelf2, Shelf3, InsW, Str, CodeW, CutS, CutW, DecW, GenC, GenE, HexW, FilesW, FilesX, FilesY, EqI, LaidW, NumS, PlainS, SlateS, TkS, NextS, TlS, WdS, WpS. -/
import Derived.Test.YtnclmcjanolebaaGreatDoorNo01
import Derived.Shelf.Strings.Builder1
import Derived.Shelf.Strings.Builder2
import Derived.Shelf.Strings.OnBuilder
import Derived.Shelf.Strings.Trim
import Derived.Shelf.Small.Utf8
import Derived.Shelf.Small.Bits
import Derived.Shelf.Small.Strs
import Derived.Shelf.Small.Wraps
import Derived.Shelf.Strings.BuilderF
import Derived.Shelf.Strings.BuilderK
import Derived.Shelf.Strings.Builder2Cap
import Derived.Shelf.Strconv.Atoi
import Derived.Shelf.Strconv.Itoa0
import Derived.Shelf.Strconv.Itoa1
import Derived.Shelf.LaysM
import Derived.Shelf.Strconv.Itoa2
import Derived.Shelf.Strconv.Itoa3
import Derived.Shelf.Strconv.AtoiErrFast
import Derived.Shelf.Strconv.ParseIntEmpty
import Derived.Shelf.Strconv.AtoiFail
import Derived.Shelf.Strconv.Clone
import Derived.Shelf.Strconv.SyntaxError
import Derived.Shelf.LaysC
import Derived.Shelf.Strconv.ToError
import Derived.Shelf.Strconv.Lower
import Derived.Shelf.Strconv.ParseUint10
import Derived.Shelf.Strconv.ParseUint10Empty
import Derived.Shelf.Strconv.ParseUint10Any
import Derived.Shelf.Strconv.ParseInt10
import Derived.Shelf.Strconv.AtoiLong
import Derived.Shelf.Strconv.AtoiInnerAll
import Derived.Shelf.Strconv.RangeError
import Derived.Shelf.Strconv.ToErrorRange
import Derived.Shelf.Strconv.AtoiAll
import Derived.Shelf.Strconv.ErrVarAll
import Derived.Shelf.Strings.Search1
import Derived.Shelf.Strings.Search2
import Derived.Shelf.Strings.Search3
import Derived.Shelf.Strings.Shaped
import Derived.Shelf.Strings.Prefix
import Derived.Shelf.Strings.Fields
import Derived.Shelf.Strings.SplitShaped
import Derived.Shelf.Unicode.Latin
import Derived.Shelf.Unicode.Decode
import Derived.Shelf.Strings.Runes
import Derived.Shelf.Strings.IndexAny
import Derived.Shelf.Strings.AsciiSet
import Derived.Shelf.Strings.IndexAnyAll
import Derived.Shelf.Bits.Mul64
import Derived.Shelf.Strings.Repeat
import Derived.Shelf.Unicode.DecodeSlow
import Derived.Shelf.Unicode.DecodeAny
import Derived.Shelf.Unicode.Is16White
import Derived.Shelf.Unicode.IsSpaceAny
import Derived.Shelf.Unicode.DecodeLast
import Derived.Shelf.Strings.FieldsFuncAny
import Derived.Shelf.Unicode.Is16Any
import Derived.Shelf.Unicode.Is32Any
import Derived.Shelf.Unicode.ExclAny
import Derived.Shelf.Strings.FieldsFuncGrows
import Derived.Shelf.Strings.BuilderCap
import Derived.Shelf.Slices.Turned
import Derived.Shelf.Slices.Equal
import Derived.Ground.Names2Prog
import Derived.Shelf.Slices.ReverseS
import Derived.Shelf.Slices.Clone
import Derived.Shelf.Slices.SearchI
import Derived.Shelf.Slices.Delete
import Derived.Shelf.Slices.Cells
import Derived.Shelf.Slices.Empties
import Derived.Shelf.Slices.Empties2
import Derived.Ground.SlgnProg
import Derived.Shelf.SlicesE.Equal
import Derived.Shelf.SlicesE.Clone
import Derived.Ground.SlgqProg
import Derived.Shelf.SlicesQ.Equal
import Derived.Test.YtnclmcjanolebaaGreatDoorProg
import Derived.Test.YtnclmcjanolebaaGreatDoorRows
import Derived.Lib.SmallJoins
import Derived.Shelf.Strings.SlTrimAscii
import Derived.Shelf.Spec.SlicesInsert
import Derived.Shelf.Spec.SlicesInsertGrow
import Derived.Laws.IdiomStrings
import Derived.Lib.QuietBelow
import Derived.BigQuiet
import Derived.Deep.RegionWith
import Derived.Lib.IndexLaws
import Derived.Laws.Bits64
import Derived.Laws.Bits64b
import Derived.Lib.Repeat
import Derived.Outline
import Derived.Deep.RegionHeld3
import Derived.Deep.AppendLies
import Derived.Deep.QuietTactic
import Derived.Lib.ItoaLen
import Derived.Lib.Strings
import Derived.Lib.ItoaNum
import Derived.Lib.FieldsP
import Derived.Lib.IndexMore
import Derived.Lib.Slices
/- What a piece of a walk keeps: blocks below m, but for some boxes that it writes. No program in sight. -/
namespace Go.Proofs.YtnclmcjanolebaaGreatDoor
set_option linter.unusedVariables false
open Go.RowKit

structure KeepM (m : Nat) (X : Nat → Prop) (W W' : World) : Prop where
  os : W'.os = W.os
  tape : W'.tape = W.tape
  output : W'.output = W.output
  size : W.heap.size ≤ W'.heap.size
  block : ∀ k, k < m → ¬ X k → W'.heap[k]? = W.heap[k]?
  others : KeepsOthers W W'
variable {m : Nat} {X : Nat → Prop} {A W W' : World}
theorem KeepM.refl (m : Nat) (X : Nat → Prop) (W : World) : KeepM m X W W := ⟨rfl, rfl, rfl, Nat.le_refl _, fun _ _ _ => rfl, KeepsOthers.refl _⟩
theorem KeepM.trans (h : KeepM m X A W) (k : KeepM m X W W') : KeepM m X A W' :=
  ⟨k.os.trans h.os, k.tape.trans h.tape, k.output.trans h.output, Nat.le_trans h.size k.size, fun i hi hx => (k.block i hi hx).trans (h.block i hi hx), h.others.trans k.others⟩
theorem KeepM.alloc (h : KeepM m X A W) (hm : m ≤ W.heap.size) (o : Obj) : KeepM m X A (W.alloc o) :=
  h.trans ⟨rfl, rfl, rfl, by simp, fun k hk _ => Below.heap_alloc W o k (by omega), KeepsOthers.alloc W o⟩
theorem KeepM.drew (h : KeepM m X A W) : KeepM m X A W.drew := h.trans ⟨rfl, rfl, rfl, Nat.le_refl _, fun _ _ _ => rfl, ⟨Nat.le_refl _, fun _ _ h _ => h⟩⟩
theorem KeepM.put (h : KeepM m X A W) {B : Nat} (hB : X B) (v : Value) : KeepM m X A (W.setCell ⟨B, 0, none⟩ v) :=
  h.trans ⟨rfl, rfl, rfl, (grownBy_setCell' W B v).size, fun k _ hx => Below.heap_setCell W _ v k (fun e => hx (by cases e; exact hB)), KeepsOthers.setCell _ _ _⟩
theorem KeepM.grown (h : KeepM m X A W) (hm : m ≤ W.heap.size) {v : Value} {e : TypeId} {size k : Nat} {xs : List Value} (hrow : W.ownsRow m e size v k xs) (hg : W.grownBy W' v.ownBlock) : KeepM m X A W' := by
  refine h.trans ⟨hg.os, hg.tape, hg.output, hg.size, fun i hi _ => hg.block i (by omega) (fun ei => ?_), KeepsOthers.of_grownBy hg fun j o ej hj => ?_⟩
  · rcases hrow.2 with ⟨rfl, _⟩ | ⟨g, cap, cur, rfl, hgb, _, _⟩
    · simp [Value.ownBlock] at ei
    · obtain rfl : i = g := by simpa [Value.ownBlock] using ei
      omega
  · rcases hrow.2 with ⟨rfl, _⟩ | ⟨g, cap, cur, rfl, _, hgb, _⟩
    · simp [Value.ownBlock] at ej
    · obtain rfl : g = j := by simpa [Value.ownBlock] using ej
      rw [hgb] at hj; cases hj; rfl
theorem KeepM.box {B : Nat} {t : TypeId} {v : Value} (h : KeepM m X W W') (hv : Boxed W B t v) (h1 : B < m) (h2 : ¬ X B) : Boxed W' B t v := (h.block B h1 h2).trans hv
theorem KeepM.below {n₀ : Nat} (h : KeepM m X W W') (h1 : n₀ ≤ m) (h2 : ∀ k, k < n₀ → ¬ X k) : Below n₀ W W' := ⟨h.os, h.tape, h.output, h.size, fun k hk => h.block k (by omega) (h2 k hk)⟩
theorem KeepM.keepC {c : Nat} (h : KeepM m X W W') (h1 : c + 3 ≤ m) (h2 : ∀ k, c ≤ k → k < c + 3 → ¬ X k) : KeepC c W W' := fun k a b => h.block k (by omega) (h2 k a b)
theorem KeepM.wide {X' : Nat → Prop} (h : KeepM m X W W') (hx : ∀ k, X k → X' k) : KeepM m X' W W' := ⟨h.os, h.tape, h.output, h.size, fun k hk hn => h.block k hk (fun e => hn (hx k e)), h.others⟩
/-- A row that begins behind m abides what happens to boxes below m. -/
theorem rowPut {W : World} {m B : Nat} {e : TypeId} {size k : Nat} {v x : Value} {xs : List Value} (hrow : W.ownsRow m e size v k xs) (hB : B < m) : (W.setCell ⟨B, 0, none⟩ x).ownsRow m e size v k xs := by
  refine hrow.kept (grownBy_setCell' W B x) (.inr fun ei => ?_)
  rcases hrow.2 with ⟨rfl, _⟩ | ⟨g, cap, cur, rfl, hgb, _, _⟩
  · simp [Value.ownBlock] at ei
  · obtain rfl : g = B := by simpa [Value.ownBlock] using ei
    omega
end Go.Proofs.YtnclmcjanolebaaGreatDoor

/- The shelf contracts that these proofs use, laid at this translation. -/
namespace Go.Proofs
open Go.Shelf
def Tryz.lays161_ren : Go.Shelf.Ren := ⟨fun | 161 => 82 | 231 => 125 | 227 => 126 | 233 => 127 | 235 => 128 | 228 => 185 | 197 => 186 | 151 => 187 | 260 => 244 | 152 => 245 | 137 => 256 | 119 => 268 | 224 => 269 | 225 => 270 | 217 => 273 | 266 => 281 | n => n, fun | 9 => 9 | 4 => 4 | 3 => 3 | 5 => 5 | 117 => 176 | 116 => 175 | 0 => 0 | 124 => 179 | 105 => 222 | 21 => 21 | 119 => 260 | 46 => 187 | 139 => 300 | 138 => 299 | n => n, fun | 3 => 6 | 4 => 7 | n => n⟩
theorem Tryz.lays161 : Go.Proofs.Lays.n161 Tryz.prog Tryz.lays161_ren := {
  mixed := by kernel_rfl
  f119 := Tryz.func268.trans (congrArg some (by kernel_rfl))
  f137 := Tryz.func256.trans (congrArg some (by kernel_rfl))
  f151 := Tryz.func187.trans (congrArg some (by kernel_rfl))
  f152 := Tryz.func245.trans (congrArg some (by kernel_rfl))
  f161 := Tryz.func82.trans (congrArg some (by kernel_rfl))
  f197 := Tryz.func186.trans (congrArg some (by kernel_rfl))
  f217 := Tryz.func273.trans (congrArg some (by kernel_rfl))
  f224 := Tryz.func269.trans (congrArg some (by kernel_rfl))
  f225 := Tryz.func270.trans (congrArg some (by kernel_rfl))
  f227 := Tryz.func126.trans (congrArg some (by kernel_rfl))
  f228 := Tryz.func185.trans (congrArg some (by kernel_rfl))
  f231 := Tryz.func125.trans (congrArg some (by kernel_rfl))
  f233 := Tryz.func127.trans (congrArg some (by kernel_rfl))
  f235 := Tryz.func128.trans (congrArg some (by kernel_rfl))
  f260 := Tryz.func244.trans (congrArg some (by kernel_rfl))
  f266 := Tryz.func281.trans (congrArg some (by kernel_rfl))
  t0 := Tryz.underlying0
  a0 := Tryz.isAgg0
  z0 := Tryz.sizeOf0
  v0 := Tryz.zeroValue0
  t3 := Tryz.underlying3
  a3 := Tryz.isAgg3
  z3 := Tryz.sizeOf3
  v3 := Tryz.zeroValue3
  t4 := Tryz.underlying4
  a4 := Tryz.isAgg4
  z4 := Tryz.sizeOf4
  v4 := Tryz.zeroValue4
  t5 := Tryz.underlying5
  a5 := Tryz.isAgg5
  z5 := Tryz.sizeOf5
  v5 := Tryz.zeroValue5
  t9 := Tryz.underlying9
  a9 := Tryz.isAgg9
  z9 := Tryz.sizeOf9
  v9 := Tryz.zeroValue9
  t21 := Tryz.underlying21
  a21 := Tryz.isAgg21
  z21 := Tryz.sizeOf21
  v21 := Tryz.zeroValue21
  t46 := Tryz.underlying187
  a46 := Tryz.isAgg187
  z46 := Tryz.sizeOf187
  v46 := Tryz.zeroValue187
  t105 := Tryz.underlying222
  a105 := Tryz.isAgg222
  z105 := Tryz.sizeOf222
  v105 := Tryz.zeroValue222
  t116 := Tryz.underlying175
  a116 := Tryz.isAgg175
  z116 := Tryz.sizeOf175
  t117 := Tryz.underlying176
  a117 := Tryz.isAgg176
  z117 := Tryz.sizeOf176
  v117 := Tryz.zeroValue176
  t119 := Tryz.underlying260
  a119 := Tryz.isAgg260
  z119 := Tryz.sizeOf260
  t124 := Tryz.underlying179
  a124 := Tryz.isAgg179
  z124 := Tryz.sizeOf179
  v124 := Tryz.zeroValue179
  t138 := Tryz.underlying299
  a138 := Tryz.isAgg299
  z138 := Tryz.sizeOf299
  v138 := Tryz.zeroValue299
  t139 := Tryz.underlying300
  a139 := Tryz.isAgg300
  z139 := Tryz.sizeOf300
  v139 := Tryz.zeroValue300
  g3 := by kernel_rfl
  g4 := by kernel_rfl }
def Tryz.lays160_ren : Go.Shelf.Ren := ⟨fun | 160 => 83 | 232 => 129 | 231 => 125 | 227 => 126 | 234 => 130 | 233 => 127 | 236 => 131 | 235 => 128 | 228 => 185 | 271 => 188 | 151 => 187 | 197 => 186 | 120 => 246 | 152 => 245 | 260 => 244 | 137 => 256 | 119 => 268 | 224 => 269 | 225 => 270 | 217 => 273 | 266 => 281 | n => n, fun | 9 => 9 | 4 => 4 | 3 => 3 | 5 => 5 | 117 => 176 | 116 => 175 | 0 => 0 | 124 => 179 | 21 => 21 | 105 => 222 | 46 => 187 | 119 => 260 | 139 => 300 | 138 => 299 | n => n, fun | 3 => 6 | 4 => 7 | n => n⟩
theorem Tryz.lays160 : Go.Proofs.Lays.n160 Tryz.prog Tryz.lays160_ren := {
  mixed := by kernel_rfl
  f119 := Tryz.func268.trans (congrArg some (by kernel_rfl))
  f120 := Tryz.func246.trans (congrArg some (by kernel_rfl))
  f137 := Tryz.func256.trans (congrArg some (by kernel_rfl))
  f151 := Tryz.func187.trans (congrArg some (by kernel_rfl))
  f152 := Tryz.func245.trans (congrArg some (by kernel_rfl))
  f160 := Tryz.func83.trans (congrArg some (by kernel_rfl))
  f197 := Tryz.func186.trans (congrArg some (by kernel_rfl))
  f217 := Tryz.func273.trans (congrArg some (by kernel_rfl))
  f224 := Tryz.func269.trans (congrArg some (by kernel_rfl))
  f225 := Tryz.func270.trans (congrArg some (by kernel_rfl))
  f227 := Tryz.func126.trans (congrArg some (by kernel_rfl))
  f228 := Tryz.func185.trans (congrArg some (by kernel_rfl))
  f231 := Tryz.func125.trans (congrArg some (by kernel_rfl))
  f232 := Tryz.func129.trans (congrArg some (by kernel_rfl))
  f233 := Tryz.func127.trans (congrArg some (by kernel_rfl))
  f234 := Tryz.func130.trans (congrArg some (by kernel_rfl))
  f235 := Tryz.func128.trans (congrArg some (by kernel_rfl))
  f236 := Tryz.func131.trans (congrArg some (by kernel_rfl))
  f260 := Tryz.func244.trans (congrArg some (by kernel_rfl))
  f266 := Tryz.func281.trans (congrArg some (by kernel_rfl))
  f271 := Tryz.func188.trans (congrArg some (by kernel_rfl))
  t0 := Tryz.underlying0
  a0 := Tryz.isAgg0
  z0 := Tryz.sizeOf0
  v0 := Tryz.zeroValue0
  t3 := Tryz.underlying3
  a3 := Tryz.isAgg3
  z3 := Tryz.sizeOf3
  v3 := Tryz.zeroValue3
  t4 := Tryz.underlying4
  a4 := Tryz.isAgg4
  z4 := Tryz.sizeOf4
  v4 := Tryz.zeroValue4
  t5 := Tryz.underlying5
  a5 := Tryz.isAgg5
  z5 := Tryz.sizeOf5
  v5 := Tryz.zeroValue5
  t9 := Tryz.underlying9
  a9 := Tryz.isAgg9
  z9 := Tryz.sizeOf9
  v9 := Tryz.zeroValue9
  t21 := Tryz.underlying21
  a21 := Tryz.isAgg21
  z21 := Tryz.sizeOf21
  v21 := Tryz.zeroValue21
  t46 := Tryz.underlying187
  a46 := Tryz.isAgg187
  z46 := Tryz.sizeOf187
  v46 := Tryz.zeroValue187
  t105 := Tryz.underlying222
  a105 := Tryz.isAgg222
  z105 := Tryz.sizeOf222
  v105 := Tryz.zeroValue222
  t116 := Tryz.underlying175
  a116 := Tryz.isAgg175
  z116 := Tryz.sizeOf175
  t117 := Tryz.underlying176
  a117 := Tryz.isAgg176
  z117 := Tryz.sizeOf176
  v117 := Tryz.zeroValue176
  t119 := Tryz.underlying260
  a119 := Tryz.isAgg260
  z119 := Tryz.sizeOf260
  t124 := Tryz.underlying179
  a124 := Tryz.isAgg179
  z124 := Tryz.sizeOf179
  v124 := Tryz.zeroValue179
  t138 := Tryz.underlying299
  a138 := Tryz.isAgg299
  z138 := Tryz.sizeOf299
  v138 := Tryz.zeroValue299
  t139 := Tryz.underlying300
  a139 := Tryz.isAgg300
  z139 := Tryz.sizeOf300
  v139 := Tryz.zeroValue300
  g3 := by kernel_rfl
  g4 := by kernel_rfl }
def Tryz.lays106_ren : Go.Shelf.Ren := ⟨fun | 106 => 49 | 213 => 88 | 265 => 137 | n => n, fun | 9 => 9 | 3 => 3 | n => n, fun | n => n⟩
theorem Tryz.lays106 : Go.Proofs.Lays.n106 Tryz.prog Tryz.lays106_ren := {
  mixed := by kernel_rfl
  f106 := Tryz.func49.trans (congrArg some (by kernel_rfl))
  f213 := Tryz.func88.trans (congrArg some (by kernel_rfl))
  f265 := Tryz.func137.trans (congrArg some (by kernel_rfl))
  t3 := Tryz.underlying3
  a3 := Tryz.isAgg3
  z3 := Tryz.sizeOf3
  v3 := Tryz.zeroValue3
  t9 := Tryz.underlying9
  a9 := Tryz.isAgg9
  z9 := Tryz.sizeOf9
  v9 := Tryz.zeroValue9 }
open Go.RowKit in
theorem Tryz.strings_Compare (a b : ByteArray) (w : World) :
    Calls Tryz.prog 49 #[.string a, .string b] w fun e w' => e = .returned (.int .i64 (Lib.compareBytes a.data.toList b.data.toList)) ∧ w' = w := Any.strings_Compare Tryz.lays106 a b w
def Tryz.lays137_ren : Go.Shelf.Ren := ⟨fun | 137 => 256 | 217 => 273 | 266 => 281 | n => n, fun | 9 => 9 | 5 => 5 | 3 => 3 | n => n, fun | n => n⟩
theorem Tryz.lays137 : Go.Proofs.Lays.n137 Tryz.prog Tryz.lays137_ren := {
  mixed := by kernel_rfl
  f137 := Tryz.func256.trans (congrArg some (by kernel_rfl))
  f217 := Tryz.func273.trans (congrArg some (by kernel_rfl))
  f266 := Tryz.func281.trans (congrArg some (by kernel_rfl))
  t3 := Tryz.underlying3
  a3 := Tryz.isAgg3
  z3 := Tryz.sizeOf3
  v3 := Tryz.zeroValue3
  t5 := Tryz.underlying5
  a5 := Tryz.isAgg5
  z5 := Tryz.sizeOf5
  v5 := Tryz.zeroValue5
  t9 := Tryz.underlying9
  a9 := Tryz.isAgg9
  z9 := Tryz.sizeOf9
  v9 := Tryz.zeroValue9 }
open Go.RowKit in
theorem Tryz.strings_IndexByte (s : ByteArray) (c : Int) (w : World) :
    Calls Tryz.prog 256 #[.string s, .int .u8 c] w fun e w' => e = .returned (.int .i64 (Lib.indexByte s.data.toList c.toNat.toUInt8)) ∧ w' = w := Any.strings_IndexByte Tryz.lays137 s c w
def Tryz.lays122_ren : Go.Shelf.Ren := ⟨fun | 122 => 48 | 215 => 87 | n => n, fun | 3 => 3 | 4 => 4 | n => n, fun | n => n⟩
theorem Tryz.lays122 : Go.Proofs.Lays.n122 Tryz.prog Tryz.lays122_ren := {
  mixed := by kernel_rfl
  f122 := Tryz.func48.trans (congrArg some (by kernel_rfl))
  f215 := Tryz.func87.trans (congrArg some (by kernel_rfl))
  t3 := Tryz.underlying3
  a3 := Tryz.isAgg3
  z3 := Tryz.sizeOf3
  v3 := Tryz.zeroValue3
  t4 := Tryz.underlying4
  a4 := Tryz.isAgg4
  z4 := Tryz.sizeOf4
  v4 := Tryz.zeroValue4 }
open Go.RowKit in
theorem Tryz.cmp_Compare_int (x y : Int) (w : World) :
    Calls Tryz.prog 48 #[.int .i64 x, .int .i64 y] w fun e w' => e = .returned (.int .i64 (Lib.compareInt x y)) ∧ w' = w := Any.cmp_Compare_int Tryz.lays122 x y w
def Tryz.laysM171_ren : Go.Shelf.Ren := ⟨fun | 171 => 51 | 243 => 89 | 246 => 138 | 283 => 192 | 284 => 193 | 285 => 194 | 286 => 195 | 129 => 224 | 317 => 249 | 318 => 250 | 319 => 251 | 320 => 252 | 337 => 271 | 338 => 272 | n => n, fun | 3 => 3 | 9 => 9 | 2 => 2 | 4 => 4 | 171 => 232 | 0 => 0 | 53 => 225 | 37 => 127 | 5 => 5 | 173 => 235 | 212 => 278 | 51 => 237 | 20 => 20 | 213 => 279 | 46 => 187 | 232 => 314 | 233 => 315 | n => n, fun | 17 => 4 | 18 => 8 | 19 => 9 | n => n⟩
theorem Tryz.laysM171 : Go.Proofs.LaysM.n171 Tryz.prog Tryz.laysM171_ren := {
  mixed := by kernel_rfl
  f129 := Tryz.func224.trans (congrArg some (by kernel_rfl))
  f171 := Tryz.func51.trans (congrArg some (by kernel_rfl))
  f243 := Tryz.func89.trans (congrArg some (by kernel_rfl))
  f246 := Tryz.func138.trans (congrArg some (by kernel_rfl))
  f283 := Tryz.func192.trans (congrArg some (by kernel_rfl))
  f284 := Tryz.func193.trans (congrArg some (by kernel_rfl))
  f285 := Tryz.func194.trans (congrArg some (by kernel_rfl))
  f286 := Tryz.func195.trans (congrArg some (by kernel_rfl))
  f317 := Tryz.func249.trans (congrArg some (by kernel_rfl))
  f318 := Tryz.func250.trans (congrArg some (by kernel_rfl))
  f319 := Tryz.func251.trans (congrArg some (by kernel_rfl))
  f320 := Tryz.func252.trans (congrArg some (by kernel_rfl))
  f337 := Tryz.func271.trans (congrArg some (by kernel_rfl))
  f338 := Tryz.func272.trans (congrArg some (by kernel_rfl))
  t0 := Tryz.underlying0
  a0 := Tryz.isAgg0
  z0 := Tryz.sizeOf0
  v0 := Tryz.zeroValue0
  t2 := Tryz.underlying2
  a2 := Tryz.isAgg2
  z2 := Tryz.sizeOf2
  v2 := Tryz.zeroValue2
  t3 := Tryz.underlying3
  a3 := Tryz.isAgg3
  z3 := Tryz.sizeOf3
  v3 := Tryz.zeroValue3
  t4 := Tryz.underlying4
  a4 := Tryz.isAgg4
  z4 := Tryz.sizeOf4
  v4 := Tryz.zeroValue4
  t5 := Tryz.underlying5
  a5 := Tryz.isAgg5
  z5 := Tryz.sizeOf5
  v5 := Tryz.zeroValue5
  t9 := Tryz.underlying9
  a9 := Tryz.isAgg9
  z9 := Tryz.sizeOf9
  v9 := Tryz.zeroValue9
  t20 := Tryz.underlying20
  a20 := Tryz.isAgg20
  z20 := Tryz.sizeOf20
  v20 := Tryz.zeroValue20
  t37 := Tryz.underlying127
  a37 := Tryz.isAgg127
  z37 := Tryz.sizeOf127
  v37 := Tryz.zeroValue127
  t46 := Tryz.underlying187
  a46 := Tryz.isAgg187
  z46 := Tryz.sizeOf187
  v46 := Tryz.zeroValue187
  t51 := Tryz.underlying237
  a51 := Tryz.isAgg237
  z51 := Tryz.sizeOf237
  v51 := Tryz.zeroValue237
  t53 := Tryz.underlying225
  a53 := Tryz.isAgg225
  z53 := Tryz.sizeOf225
  v53 := Tryz.zeroValue225
  t171 := Tryz.underlying232
  a171 := Tryz.isAgg232
  z171 := Tryz.sizeOf232
  v171 := Tryz.zeroValue232
  t173 := Tryz.underlying235
  a173 := Tryz.isAgg235
  z173 := Tryz.sizeOf235
  v173 := Tryz.zeroValue235
  t212 := Tryz.underlying278
  a212 := Tryz.isAgg278
  z212 := Tryz.sizeOf278
  v212 := Tryz.zeroValue278
  t213 := Tryz.underlying279
  a213 := Tryz.isAgg279
  z213 := Tryz.sizeOf279
  t232 := Tryz.underlying314
  a232 := Tryz.isAgg314
  z232 := Tryz.sizeOf314
  v232 := Tryz.zeroValue314
  t233 := Tryz.underlying315
  a233 := Tryz.isAgg315
  z233 := Tryz.sizeOf315
  v233 := Tryz.zeroValue315
  g17 := by kernel_rfl
  g18 := by kernel_rfl
  g19 := by kernel_rfl
  i0 := by kernel_rfl
  i2 := by kernel_rfl
  i3 := by kernel_rfl
  i4 := by kernel_rfl
  i5 := by kernel_rfl
  i9 := by kernel_rfl
  i20 := by kernel_rfl
  i37 := by kernel_rfl
  i46 := by kernel_rfl
  i51 := by kernel_rfl
  i53 := by kernel_rfl
  i171 := by kernel_rfl
  i173 := by kernel_rfl
  i212 := by kernel_rfl
  i232 := by kernel_rfl
  i233 := by kernel_rfl
  m17 := by kernel_rfl
  m18 := by kernel_rfl
  m19 := by kernel_rfl }
def Tryz.lays171_ren : Go.Shelf.Ren := ⟨fun | 171 => 51 | 243 => 89 | 246 => 138 | 283 => 192 | 284 => 193 | 285 => 194 | 286 => 195 | 129 => 224 | 317 => 249 | 318 => 250 | 319 => 251 | 320 => 252 | 337 => 271 | 338 => 272 | n => n, fun | 3 => 3 | 9 => 9 | 2 => 2 | 4 => 4 | 171 => 232 | 0 => 0 | 53 => 225 | 37 => 127 | 5 => 5 | 173 => 235 | 212 => 278 | 51 => 237 | 20 => 20 | 213 => 279 | 46 => 187 | 232 => 314 | 233 => 315 | n => n, fun | 17 => 4 | 18 => 8 | 19 => 9 | n => n⟩
theorem Tryz.lays171 : Go.Proofs.Lays.n171 Tryz.prog Tryz.lays171_ren := {
  mixed := by kernel_rfl
  f129 := Tryz.func224.trans (congrArg some (by kernel_rfl))
  f171 := Tryz.func51.trans (congrArg some (by kernel_rfl))
  f243 := Tryz.func89.trans (congrArg some (by kernel_rfl))
  f246 := Tryz.func138.trans (congrArg some (by kernel_rfl))
  f283 := Tryz.func192.trans (congrArg some (by kernel_rfl))
  f284 := Tryz.func193.trans (congrArg some (by kernel_rfl))
  f285 := Tryz.func194.trans (congrArg some (by kernel_rfl))
  f286 := Tryz.func195.trans (congrArg some (by kernel_rfl))
  f317 := Tryz.func249.trans (congrArg some (by kernel_rfl))
  f318 := Tryz.func250.trans (congrArg some (by kernel_rfl))
  f319 := Tryz.func251.trans (congrArg some (by kernel_rfl))
  f320 := Tryz.func252.trans (congrArg some (by kernel_rfl))
  f337 := Tryz.func271.trans (congrArg some (by kernel_rfl))
  f338 := Tryz.func272.trans (congrArg some (by kernel_rfl))
  t0 := Tryz.underlying0
  a0 := Tryz.isAgg0
  z0 := Tryz.sizeOf0
  v0 := Tryz.zeroValue0
  t2 := Tryz.underlying2
  a2 := Tryz.isAgg2
  z2 := Tryz.sizeOf2
  v2 := Tryz.zeroValue2
  t3 := Tryz.underlying3
  a3 := Tryz.isAgg3
  z3 := Tryz.sizeOf3
  v3 := Tryz.zeroValue3
  t4 := Tryz.underlying4
  a4 := Tryz.isAgg4
  z4 := Tryz.sizeOf4
  v4 := Tryz.zeroValue4
  t5 := Tryz.underlying5
  a5 := Tryz.isAgg5
  z5 := Tryz.sizeOf5
  v5 := Tryz.zeroValue5
  t9 := Tryz.underlying9
  a9 := Tryz.isAgg9
  z9 := Tryz.sizeOf9
  v9 := Tryz.zeroValue9
  t20 := Tryz.underlying20
  a20 := Tryz.isAgg20
  z20 := Tryz.sizeOf20
  v20 := Tryz.zeroValue20
  t37 := Tryz.underlying127
  a37 := Tryz.isAgg127
  z37 := Tryz.sizeOf127
  v37 := Tryz.zeroValue127
  t46 := Tryz.underlying187
  a46 := Tryz.isAgg187
  z46 := Tryz.sizeOf187
  v46 := Tryz.zeroValue187
  t51 := Tryz.underlying237
  a51 := Tryz.isAgg237
  z51 := Tryz.sizeOf237
  v51 := Tryz.zeroValue237
  t53 := Tryz.underlying225
  a53 := Tryz.isAgg225
  z53 := Tryz.sizeOf225
  v53 := Tryz.zeroValue225
  t171 := Tryz.underlying232
  a171 := Tryz.isAgg232
  z171 := Tryz.sizeOf232
  v171 := Tryz.zeroValue232
  t173 := Tryz.underlying235
  a173 := Tryz.isAgg235
  z173 := Tryz.sizeOf235
  v173 := Tryz.zeroValue235
  t212 := Tryz.underlying278
  a212 := Tryz.isAgg278
  z212 := Tryz.sizeOf278
  v212 := Tryz.zeroValue278
  t213 := Tryz.underlying279
  a213 := Tryz.isAgg279
  z213 := Tryz.sizeOf279
  t232 := Tryz.underlying314
  a232 := Tryz.isAgg314
  z232 := Tryz.sizeOf314
  v232 := Tryz.zeroValue314
  t233 := Tryz.underlying315
  a233 := Tryz.isAgg315
  z233 := Tryz.sizeOf315
  v233 := Tryz.zeroValue315
  g17 := by kernel_rfl
  g18 := by kernel_rfl
  g19 := by kernel_rfl }
open Go.RowKit Go.Sort Go.Lib in
theorem Tryz.strconv_Itoa_small (i : Nat) (hi : i < 100) (w : World) :
    Calls Tryz.prog 51 #[.int .i64 i] w fun e w' => e = .returned (.string ⟨(Lib.decDigits i).toArray⟩) ∧ w' = w := Any.strconv_Itoa_small Tryz.lays171 i hi w
def Tryz.laysC172_ren : Go.Shelf.Ren := ⟨fun | 172 => 46 | 244 => 85 | 245 => 86 | 247 => 132 | 279 => 133 | 280 => 134 | 281 => 135 | 282 => 136 | 287 => 189 | 316 => 190 | 171 => 51 | 205 => 191 | 321 => 247 | 322 => 248 | 243 => 89 | 246 => 138 | 283 => 192 | 284 => 193 | 285 => 194 | 286 => 195 | 129 => 224 | 317 => 249 | 318 => 250 | 319 => 251 | 320 => 252 | 337 => 271 | 338 => 272 | n => n, fun | 9 => 9 | 3 => 3 | 75 => 80 | 76 => 81 | 4 => 4 | 5 => 5 | 167 => 180 | 37 => 127 | 0 => 0 | 85 => 181 | 2 => 2 | 168 => 183 | 53 => 225 | 175 => 226 | 46 => 187 | 210 => 230 | 127 => 242 | 145 => 276 | 143 => 274 | 21 => 21 | 171 => 232 | 173 => 235 | 212 => 278 | 51 => 237 | 20 => 20 | 213 => 279 | 232 => 314 | 233 => 315 | 80 => 26 | n => n, fun | 15 => 1 | 16 => 2 | 17 => 4 | 18 => 8 | 19 => 9 | n => n⟩
theorem Tryz.laysC172 : Go.Proofs.LaysC.n172 Tryz.prog Tryz.laysC172_ren := {
  mixed := by kernel_rfl
  f129 := Tryz.func224.trans (congrArg some (by kernel_rfl))
  f171 := Tryz.func51.trans (congrArg some (by kernel_rfl))
  f172 := Tryz.func46.trans (congrArg some (by kernel_rfl))
  f205 := Tryz.func191.trans (congrArg some (by kernel_rfl))
  f243 := Tryz.func89.trans (congrArg some (by kernel_rfl))
  f244 := Tryz.func85.trans (congrArg some (by kernel_rfl))
  f245 := Tryz.func86.trans (congrArg some (by kernel_rfl))
  f246 := Tryz.func138.trans (congrArg some (by kernel_rfl))
  f247 := Tryz.func132.trans (congrArg some (by kernel_rfl))
  f279 := Tryz.func133.trans (congrArg some (by kernel_rfl))
  f280 := Tryz.func134.trans (congrArg some (by kernel_rfl))
  f281 := Tryz.func135.trans (congrArg some (by kernel_rfl))
  f282 := Tryz.func136.trans (congrArg some (by kernel_rfl))
  f283 := Tryz.func192.trans (congrArg some (by kernel_rfl))
  f284 := Tryz.func193.trans (congrArg some (by kernel_rfl))
  f285 := Tryz.func194.trans (congrArg some (by kernel_rfl))
  f286 := Tryz.func195.trans (congrArg some (by kernel_rfl))
  f287 := Tryz.func189.trans (congrArg some (by kernel_rfl))
  f316 := Tryz.func190.trans (congrArg some (by kernel_rfl))
  f317 := Tryz.func249.trans (congrArg some (by kernel_rfl))
  f318 := Tryz.func250.trans (congrArg some (by kernel_rfl))
  f319 := Tryz.func251.trans (congrArg some (by kernel_rfl))
  f320 := Tryz.func252.trans (congrArg some (by kernel_rfl))
  f321 := Tryz.func247.trans (congrArg some (by kernel_rfl))
  f322 := Tryz.func248.trans (congrArg some (by kernel_rfl))
  f337 := Tryz.func271.trans (congrArg some (by kernel_rfl))
  f338 := Tryz.func272.trans (congrArg some (by kernel_rfl))
  t0 := Tryz.underlying0
  a0 := Tryz.isAgg0
  z0 := Tryz.sizeOf0
  v0 := Tryz.zeroValue0
  t2 := Tryz.underlying2
  a2 := Tryz.isAgg2
  z2 := Tryz.sizeOf2
  v2 := Tryz.zeroValue2
  t3 := Tryz.underlying3
  a3 := Tryz.isAgg3
  z3 := Tryz.sizeOf3
  v3 := Tryz.zeroValue3
  t4 := Tryz.underlying4
  a4 := Tryz.isAgg4
  z4 := Tryz.sizeOf4
  v4 := Tryz.zeroValue4
  t5 := Tryz.underlying5
  a5 := Tryz.isAgg5
  z5 := Tryz.sizeOf5
  v5 := Tryz.zeroValue5
  t9 := Tryz.underlying9
  a9 := Tryz.isAgg9
  z9 := Tryz.sizeOf9
  v9 := Tryz.zeroValue9
  t20 := Tryz.underlying20
  a20 := Tryz.isAgg20
  z20 := Tryz.sizeOf20
  v20 := Tryz.zeroValue20
  t21 := Tryz.underlying21
  a21 := Tryz.isAgg21
  z21 := Tryz.sizeOf21
  v21 := Tryz.zeroValue21
  t37 := Tryz.underlying127
  a37 := Tryz.isAgg127
  z37 := Tryz.sizeOf127
  v37 := Tryz.zeroValue127
  t46 := Tryz.underlying187
  a46 := Tryz.isAgg187
  z46 := Tryz.sizeOf187
  v46 := Tryz.zeroValue187
  t51 := Tryz.underlying237
  a51 := Tryz.isAgg237
  z51 := Tryz.sizeOf237
  v51 := Tryz.zeroValue237
  t53 := Tryz.underlying225
  a53 := Tryz.isAgg225
  z53 := Tryz.sizeOf225
  v53 := Tryz.zeroValue225
  t75 := Tryz.underlying80
  a75 := Tryz.isAgg80
  z75 := Tryz.sizeOf80
  v75 := Tryz.zeroValue80
  t76 := Tryz.underlying81
  a76 := Tryz.isAgg81
  z76 := Tryz.sizeOf81
  v76 := Tryz.zeroValue81
  t85 := Tryz.underlying181
  a85 := Tryz.isAgg181
  z85 := Tryz.sizeOf181
  v85 := Tryz.zeroValue181
  t127 := Tryz.underlying242
  a127 := Tryz.isAgg242
  z127 := Tryz.sizeOf242
  v127 := Tryz.zeroValue242
  t143 := Tryz.underlying274
  a143 := Tryz.isAgg274
  z143 := Tryz.sizeOf274
  v143 := Tryz.zeroValue274
  t145 := Tryz.underlying276
  a145 := Tryz.isAgg276
  z145 := Tryz.sizeOf276
  v145 := Tryz.zeroValue276
  t167 := Tryz.underlying180
  a167 := Tryz.isAgg180
  z167 := Tryz.sizeOf180
  v167 := Tryz.zeroValue180
  t168 := Tryz.underlying183
  a168 := Tryz.isAgg183
  z168 := Tryz.sizeOf183
  v168 := Tryz.zeroValue183
  t171 := Tryz.underlying232
  a171 := Tryz.isAgg232
  z171 := Tryz.sizeOf232
  v171 := Tryz.zeroValue232
  t173 := Tryz.underlying235
  a173 := Tryz.isAgg235
  z173 := Tryz.sizeOf235
  v173 := Tryz.zeroValue235
  t175 := Tryz.underlying226
  a175 := Tryz.isAgg226
  z175 := Tryz.sizeOf226
  v175 := Tryz.zeroValue226
  t210 := Tryz.underlying230
  a210 := Tryz.isAgg230
  z210 := Tryz.sizeOf230
  v210 := Tryz.zeroValue230
  t212 := Tryz.underlying278
  a212 := Tryz.isAgg278
  z212 := Tryz.sizeOf278
  v212 := Tryz.zeroValue278
  t213 := Tryz.underlying279
  a213 := Tryz.isAgg279
  z213 := Tryz.sizeOf279
  t232 := Tryz.underlying314
  a232 := Tryz.isAgg314
  z232 := Tryz.sizeOf314
  v232 := Tryz.zeroValue314
  t233 := Tryz.underlying315
  a233 := Tryz.isAgg315
  z233 := Tryz.sizeOf315
  v233 := Tryz.zeroValue315
  g15 := by kernel_rfl
  g16 := by kernel_rfl
  g17 := by kernel_rfl
  g18 := by kernel_rfl
  g19 := by kernel_rfl
  t80 := Tryz.underlying26
  a80 := Tryz.isAgg26
  z80 := Tryz.sizeOf26
  v80 := Tryz.zeroValue26
  i0 := by kernel_rfl
  i2 := by kernel_rfl
  i3 := by kernel_rfl
  i4 := by kernel_rfl
  i5 := by kernel_rfl
  i9 := by kernel_rfl
  i20 := by kernel_rfl
  i21 := by kernel_rfl
  i37 := by kernel_rfl
  i46 := by kernel_rfl
  i51 := by kernel_rfl
  i53 := by kernel_rfl
  i75 := by kernel_rfl
  i76 := by kernel_rfl
  i80 := by kernel_rfl
  i85 := by kernel_rfl
  i127 := by kernel_rfl
  i143 := by kernel_rfl
  i145 := by kernel_rfl
  i167 := by kernel_rfl
  i168 := by kernel_rfl
  i171 := by kernel_rfl
  i173 := by kernel_rfl
  i175 := by kernel_rfl
  i210 := by kernel_rfl
  i212 := by kernel_rfl
  i232 := by kernel_rfl
  i233 := by kernel_rfl
  m15 := by kernel_rfl
  m16 := by kernel_rfl
  m17 := by kernel_rfl
  m18 := by kernel_rfl
  m19 := by kernel_rfl
  c0 := by kernel_rfl
  c2 := by kernel_rfl
  c3 := by kernel_rfl
  c4 := by kernel_rfl
  c5 := by kernel_rfl
  c9 := by kernel_rfl
  c20 := by kernel_rfl
  c21 := by kernel_rfl
  c37 := by kernel_rfl
  c46 := by kernel_rfl
  c51 := by kernel_rfl
  c53 := by kernel_rfl
  c75 := by kernel_rfl
  c76 := by kernel_rfl
  c80 := by kernel_rfl
  c85 := by kernel_rfl
  c127 := by kernel_rfl
  c143 := by kernel_rfl
  c145 := by kernel_rfl
  c167 := by kernel_rfl
  c168 := by kernel_rfl
  c171 := by kernel_rfl
  c173 := by kernel_rfl
  c175 := by kernel_rfl
  c210 := by kernel_rfl
  c212 := by kernel_rfl
  c213 := by kernel_rfl
  c232 := by kernel_rfl
  c233 := by kernel_rfl }
def Tryz.lays143_ren : Go.Shelf.Ren := ⟨fun | 143 => 204 | 219 => 255 | 217 => 273 | 225 => 270 | 224 => 269 | 267 => 274 | 266 => 281 | 314 => 282 | n => n, fun | 9 => 9 | 3 => 3 | 4 => 4 | 5 => 5 | 46 => 187 | 146 => 238 | 51 => 237 | n => n, fun | 1 => 0 | n => n⟩
theorem Tryz.lays143 : Go.Proofs.Lays.n143 Tryz.prog Tryz.lays143_ren := {
  mixed := by kernel_rfl
  f143 := Tryz.func204.trans (congrArg some (by kernel_rfl))
  f217 := Tryz.func273.trans (congrArg some (by kernel_rfl))
  f219 := Tryz.func255.trans (congrArg some (by kernel_rfl))
  f224 := Tryz.func269.trans (congrArg some (by kernel_rfl))
  f225 := Tryz.func270.trans (congrArg some (by kernel_rfl))
  f266 := Tryz.func281.trans (congrArg some (by kernel_rfl))
  f267 := Tryz.func274.trans (congrArg some (by kernel_rfl))
  f314 := Tryz.func282.trans (congrArg some (by kernel_rfl))
  t3 := Tryz.underlying3
  a3 := Tryz.isAgg3
  z3 := Tryz.sizeOf3
  v3 := Tryz.zeroValue3
  t4 := Tryz.underlying4
  a4 := Tryz.isAgg4
  z4 := Tryz.sizeOf4
  v4 := Tryz.zeroValue4
  t5 := Tryz.underlying5
  a5 := Tryz.isAgg5
  z5 := Tryz.sizeOf5
  v5 := Tryz.zeroValue5
  t9 := Tryz.underlying9
  a9 := Tryz.isAgg9
  z9 := Tryz.sizeOf9
  v9 := Tryz.zeroValue9
  t46 := Tryz.underlying187
  a46 := Tryz.isAgg187
  z46 := Tryz.sizeOf187
  v46 := Tryz.zeroValue187
  t51 := Tryz.underlying237
  a51 := Tryz.isAgg237
  z51 := Tryz.sizeOf237
  v51 := Tryz.zeroValue237
  t146 := Tryz.underlying238
  a146 := Tryz.isAgg238
  z146 := Tryz.sizeOf238
  v146 := Tryz.zeroValue238
  g1 := by kernel_rfl }
open Go.RowKit Go.Lib in
theorem Tryz.strings_Index_one (s : ByteArray) (c : UInt8) (w : World) :
    Calls Tryz.prog 204 #[.string s, .string ⟨#[c]⟩] w fun e w' => e = .returned (.int .i64 (Lib.indexByte s.data.toList c)) ∧ w' = w := Any.strings_Index_one Tryz.lays143 s c w
def Tryz.lays144_ren : Go.Shelf.Ren := ⟨fun | 144 => 152 | 143 => 204 | 219 => 255 | 217 => 273 | 225 => 270 | 224 => 269 | 267 => 274 | 266 => 281 | 314 => 282 | n => n, fun | 9 => 9 | 4 => 4 | 3 => 3 | 5 => 5 | 46 => 187 | 146 => 238 | 51 => 237 | n => n, fun | 1 => 0 | n => n⟩
theorem Tryz.lays144 : Go.Proofs.Lays.n144 Tryz.prog Tryz.lays144_ren := {
  mixed := by kernel_rfl
  f143 := Tryz.func204.trans (congrArg some (by kernel_rfl))
  f144 := Tryz.func152.trans (congrArg some (by kernel_rfl))
  f217 := Tryz.func273.trans (congrArg some (by kernel_rfl))
  f219 := Tryz.func255.trans (congrArg some (by kernel_rfl))
  f224 := Tryz.func269.trans (congrArg some (by kernel_rfl))
  f225 := Tryz.func270.trans (congrArg some (by kernel_rfl))
  f266 := Tryz.func281.trans (congrArg some (by kernel_rfl))
  f267 := Tryz.func274.trans (congrArg some (by kernel_rfl))
  f314 := Tryz.func282.trans (congrArg some (by kernel_rfl))
  t3 := Tryz.underlying3
  a3 := Tryz.isAgg3
  z3 := Tryz.sizeOf3
  v3 := Tryz.zeroValue3
  t4 := Tryz.underlying4
  a4 := Tryz.isAgg4
  z4 := Tryz.sizeOf4
  v4 := Tryz.zeroValue4
  t5 := Tryz.underlying5
  a5 := Tryz.isAgg5
  z5 := Tryz.sizeOf5
  v5 := Tryz.zeroValue5
  t9 := Tryz.underlying9
  a9 := Tryz.isAgg9
  z9 := Tryz.sizeOf9
  v9 := Tryz.zeroValue9
  t46 := Tryz.underlying187
  a46 := Tryz.isAgg187
  z46 := Tryz.sizeOf187
  v46 := Tryz.zeroValue187
  t51 := Tryz.underlying237
  a51 := Tryz.isAgg237
  z51 := Tryz.sizeOf237
  v51 := Tryz.zeroValue237
  t146 := Tryz.underlying238
  a146 := Tryz.isAgg238
  z146 := Tryz.sizeOf238
  v146 := Tryz.zeroValue238
  g1 := by kernel_rfl }
open Go.RowKit Go.Lib in
theorem Tryz.strings_Contains (s sub : ByteArray) (m : Int) (w : World) (hs : s.size < 4294967281) (hm : w.cell? ⟨0, 0, none⟩ = some (.int .i64 m)) :
    Calls Tryz.prog 152 #[.string s, .string sub] w fun e w' => e = .returned (.bool (Lib.contains s.data.toList sub.data.toList)) ∧ w' = w := Any.strings_Contains Tryz.lays144 s sub m w hs hm
def Tryz.lays99_ren : Go.Shelf.Ren := ⟨fun | 99 => 140 | 206 => 198 | n => n, fun | 9 => 9 | 4 => 4 | 3 => 3 | n => n, fun | n => n⟩
theorem Tryz.lays99 : Go.Proofs.Lays.n99 Tryz.prog Tryz.lays99_ren := {
  mixed := by kernel_rfl
  f99 := Tryz.func140.trans (congrArg some (by kernel_rfl))
  f206 := Tryz.func198.trans (congrArg some (by kernel_rfl))
  t3 := Tryz.underlying3
  a3 := Tryz.isAgg3
  z3 := Tryz.sizeOf3
  v3 := Tryz.zeroValue3
  t4 := Tryz.underlying4
  a4 := Tryz.isAgg4
  z4 := Tryz.sizeOf4
  v4 := Tryz.zeroValue4
  t9 := Tryz.underlying9
  a9 := Tryz.isAgg9
  z9 := Tryz.sizeOf9
  v9 := Tryz.zeroValue9 }
open Go.RowKit Go.Lib in
theorem Tryz.strings_HasPrefix (s p : ByteArray) (w : World) :
    Calls Tryz.prog 140 #[.string s, .string p] w fun e w' => e = .returned (.bool (Lib.hasPrefix s.data.toList p.data.toList)) ∧ w' = w := Any.strings_HasPrefix Tryz.lays99 s p w
def Tryz.lays100_ren : Go.Shelf.Ren := ⟨fun | 100 => 45 | 207 => 84 | n => n, fun | 9 => 9 | 4 => 4 | 3 => 3 | n => n, fun | n => n⟩
theorem Tryz.lays100 : Go.Proofs.Lays.n100 Tryz.prog Tryz.lays100_ren := {
  mixed := by kernel_rfl
  f100 := Tryz.func45.trans (congrArg some (by kernel_rfl))
  f207 := Tryz.func84.trans (congrArg some (by kernel_rfl))
  t3 := Tryz.underlying3
  a3 := Tryz.isAgg3
  z3 := Tryz.sizeOf3
  v3 := Tryz.zeroValue3
  t4 := Tryz.underlying4
  a4 := Tryz.isAgg4
  z4 := Tryz.sizeOf4
  v4 := Tryz.zeroValue4
  t9 := Tryz.underlying9
  a9 := Tryz.isAgg9
  z9 := Tryz.sizeOf9
  v9 := Tryz.zeroValue9 }
open Go.RowKit Go.Lib in
theorem Tryz.strings_HasSuffix (s p : ByteArray) (w : World) (hs : s.size ≤ 9223372036854775807) :
    Calls Tryz.prog 45 #[.string s, .string p] w fun e w' => e = .returned (.bool (Lib.hasSuffix s.data.toList p.data.toList)) ∧ w' = w := Any.strings_HasSuffix Tryz.lays100 s p w hs
def Tryz.lays150_ren : Go.Shelf.Ren := ⟨fun | 150 => 207 | 153 => 257 | 152 => 245 | 226 => 275 | 227 => 126 | 228 => 185 | 137 => 256 | 119 => 268 | 224 => 269 | 225 => 270 | 217 => 273 | 266 => 281 | n => n, fun | 9 => 9 | 4 => 4 | 3 => 3 | 5 => 5 | 21 => 21 | 117 => 176 | 116 => 175 | 0 => 0 | 46 => 187 | 124 => 179 | n => n, fun | n => n⟩
theorem Tryz.lays150 : Go.Proofs.Lays.n150 Tryz.prog Tryz.lays150_ren := {
  mixed := by kernel_rfl
  f119 := Tryz.func268.trans (congrArg some (by kernel_rfl))
  f137 := Tryz.func256.trans (congrArg some (by kernel_rfl))
  f150 := Tryz.func207.trans (congrArg some (by kernel_rfl))
  f152 := Tryz.func245.trans (congrArg some (by kernel_rfl))
  f153 := Tryz.func257.trans (congrArg some (by kernel_rfl))
  f217 := Tryz.func273.trans (congrArg some (by kernel_rfl))
  f224 := Tryz.func269.trans (congrArg some (by kernel_rfl))
  f225 := Tryz.func270.trans (congrArg some (by kernel_rfl))
  f226 := Tryz.func275.trans (congrArg some (by kernel_rfl))
  f227 := Tryz.func126.trans (congrArg some (by kernel_rfl))
  f228 := Tryz.func185.trans (congrArg some (by kernel_rfl))
  f266 := Tryz.func281.trans (congrArg some (by kernel_rfl))
  t0 := Tryz.underlying0
  a0 := Tryz.isAgg0
  z0 := Tryz.sizeOf0
  v0 := Tryz.zeroValue0
  t3 := Tryz.underlying3
  a3 := Tryz.isAgg3
  z3 := Tryz.sizeOf3
  v3 := Tryz.zeroValue3
  t4 := Tryz.underlying4
  a4 := Tryz.isAgg4
  z4 := Tryz.sizeOf4
  v4 := Tryz.zeroValue4
  t5 := Tryz.underlying5
  a5 := Tryz.isAgg5
  z5 := Tryz.sizeOf5
  v5 := Tryz.zeroValue5
  t9 := Tryz.underlying9
  a9 := Tryz.isAgg9
  z9 := Tryz.sizeOf9
  v9 := Tryz.zeroValue9
  t21 := Tryz.underlying21
  a21 := Tryz.isAgg21
  z21 := Tryz.sizeOf21
  v21 := Tryz.zeroValue21
  t46 := Tryz.underlying187
  a46 := Tryz.isAgg187
  z46 := Tryz.sizeOf187
  v46 := Tryz.zeroValue187
  t116 := Tryz.underlying175
  a116 := Tryz.isAgg175
  z116 := Tryz.sizeOf175
  t117 := Tryz.underlying176
  a117 := Tryz.isAgg176
  z117 := Tryz.sizeOf176
  v117 := Tryz.zeroValue176
  t124 := Tryz.underlying179
  a124 := Tryz.isAgg179
  z124 := Tryz.sizeOf179
  v124 := Tryz.zeroValue179 }
open Go.RowKit Go.Lib in
theorem Tryz.strings_ContainsAny_laid (s chars : ByteArray) (w : World) (hs : s.size < 4294967281) (hcs : chars.size < 4294967281) (has : ∀ (j : Nat) b, s.data.toList[j]? = some b → b.toNat < 128) (hac : ∀ (j : Nat) b, chars.data.toList[j]? = some b → b.toNat < 128) :
    Calls Tryz.prog 207 #[.string s, .string chars] w fun e w' => e = .returned (.bool (Lib.containsAny s.data.toList chars.data.toList)) ∧ Below w.heap.size w w' := Any.strings_ContainsAny_laid Tryz.lays150 (by kernel_rfl) s chars w hs hcs has hac
def Tryz.lays105_ren : Go.Shelf.Ren := ⟨fun | 105 => 90 | 212 => 139 | 99 => 140 | 165 => 141 | 166 => 142 | 170 => 143 | 169 => 144 | 263 => 196 | 264 => 197 | 206 => 198 | 240 => 199 | 241 => 200 | 276 => 253 | 277 => 254 | n => n, fun | 9 => 9 | 3 => 3 | 4 => 4 | 20 => 20 | 0 => 0 | 46 => 187 | 109 => 188 | 5 => 5 | 72 => 192 | 76 => 81 | 51 => 237 | 146 => 238 | 53 => 225 | 148 => 240 | 70 => 190 | 37 => 127 | 75 => 80 | 127 => 242 | 164 => 280 | 80 => 26 | n => n, fun | n => n⟩
theorem Tryz.lays105 : Go.Proofs.Lays.n105 Tryz.prog Tryz.lays105_ren := {
  mixed := by kernel_rfl
  f99 := Tryz.func140.trans (congrArg some (by kernel_rfl))
  f105 := Tryz.func90.trans (congrArg some (by kernel_rfl))
  f165 := Tryz.func141.trans (congrArg some (by kernel_rfl))
  f166 := Tryz.func142.trans (congrArg some (by kernel_rfl))
  f169 := Tryz.func144.trans (congrArg some (by kernel_rfl))
  f170 := Tryz.func143.trans (congrArg some (by kernel_rfl))
  f206 := Tryz.func198.trans (congrArg some (by kernel_rfl))
  f212 := Tryz.func139.trans (congrArg some (by kernel_rfl))
  f240 := Tryz.func199.trans (congrArg some (by kernel_rfl))
  f241 := Tryz.func200.trans (congrArg some (by kernel_rfl))
  f263 := Tryz.func196.trans (congrArg some (by kernel_rfl))
  f264 := Tryz.func197.trans (congrArg some (by kernel_rfl))
  f276 := Tryz.func253.trans (congrArg some (by kernel_rfl))
  f277 := Tryz.func254.trans (congrArg some (by kernel_rfl))
  t0 := Tryz.underlying0
  a0 := Tryz.isAgg0
  z0 := Tryz.sizeOf0
  v0 := Tryz.zeroValue0
  t3 := Tryz.underlying3
  a3 := Tryz.isAgg3
  z3 := Tryz.sizeOf3
  v3 := Tryz.zeroValue3
  t4 := Tryz.underlying4
  a4 := Tryz.isAgg4
  z4 := Tryz.sizeOf4
  v4 := Tryz.zeroValue4
  t5 := Tryz.underlying5
  a5 := Tryz.isAgg5
  z5 := Tryz.sizeOf5
  v5 := Tryz.zeroValue5
  t9 := Tryz.underlying9
  a9 := Tryz.isAgg9
  z9 := Tryz.sizeOf9
  v9 := Tryz.zeroValue9
  t20 := Tryz.underlying20
  a20 := Tryz.isAgg20
  z20 := Tryz.sizeOf20
  v20 := Tryz.zeroValue20
  t37 := Tryz.underlying127
  a37 := Tryz.isAgg127
  z37 := Tryz.sizeOf127
  v37 := Tryz.zeroValue127
  t46 := Tryz.underlying187
  a46 := Tryz.isAgg187
  z46 := Tryz.sizeOf187
  v46 := Tryz.zeroValue187
  t51 := Tryz.underlying237
  a51 := Tryz.isAgg237
  z51 := Tryz.sizeOf237
  v51 := Tryz.zeroValue237
  t53 := Tryz.underlying225
  a53 := Tryz.isAgg225
  z53 := Tryz.sizeOf225
  v53 := Tryz.zeroValue225
  t70 := Tryz.underlying190
  a70 := Tryz.isAgg190
  z70 := Tryz.sizeOf190
  v70 := Tryz.zeroValue190
  t72 := Tryz.underlying192
  a72 := Tryz.isAgg192
  z72 := Tryz.sizeOf192
  v72 := Tryz.zeroValue192
  t75 := Tryz.underlying80
  a75 := Tryz.isAgg80
  z75 := Tryz.sizeOf80
  v75 := Tryz.zeroValue80
  t76 := Tryz.underlying81
  a76 := Tryz.isAgg81
  z76 := Tryz.sizeOf81
  v76 := Tryz.zeroValue81
  t109 := Tryz.underlying188
  a109 := Tryz.isAgg188
  z109 := Tryz.sizeOf188
  v109 := Tryz.zeroValue188
  t127 := Tryz.underlying242
  a127 := Tryz.isAgg242
  z127 := Tryz.sizeOf242
  v127 := Tryz.zeroValue242
  t146 := Tryz.underlying238
  a146 := Tryz.isAgg238
  z146 := Tryz.sizeOf238
  v146 := Tryz.zeroValue238
  t148 := Tryz.underlying240
  a148 := Tryz.isAgg240
  z148 := Tryz.sizeOf240
  v148 := Tryz.zeroValue240
  t164 := Tryz.underlying280
  a164 := Tryz.isAgg280
  z164 := Tryz.sizeOf280
  v164 := Tryz.zeroValue280 }
theorem Tryz.Builder_Extra_105 : Builder.Extra Tryz.prog Tryz.lays105_ren := {
  sizeBuilder := by kernel_rfl
  liesBuilder := by kernel_rfl
  t5 := Tryz.underlying5
  a5 := Tryz.isAgg5
  z5 := Tryz.sizeOf5
  v5 := Tryz.zeroValue5
  infoByte := by kernel_rfl
  cellsByte := by kernel_rfl
  sizeByte := by kernel_rfl
  neB5 := by decide }
open Go.RowKit Go.Lib in
theorem Tryz.strings_Repeat (s : ByteArray) (c : Nat) (w : World) (hc : c ≤ 9223372036854775807) (hlen : s.size * c ≤ 140737488355328) :
    Calls Tryz.prog 90 #[.string s, .int .i64 c] w fun e w' => e = .returned (.string ⟨(Lib.repeatL s.data.toList c).toArray⟩) ∧ Below w.heap.size w w' := Any.strings_Repeat Tryz.lays105 Tryz.Builder_Extra_105 s c w hc hlen
end Go.Proofs

/- strconv.Atoi at every string: one contract with its three ends. -/
namespace Go.Proofs.YtnclmcjanolebaaGreatDoor
set_option linter.unusedVariables false
open Go.RowKit

/-- The library's two errors lie where they were laid. -/
def ErrsLaid (w : World) : Prop := (∃ t p, w.cell? ⟨1, 0, none⟩ = some (.iface t p)) ∧ (∃ t p, w.cell? ⟨2, 0, none⟩ = some (.iface t p)) ∧ 1 < w.heap.size ∧ 2 < w.heap.size
theorem ErrsLaid.keep {w w' : World} (h : ErrsLaid w) (hs : w.heap.size ≤ w'.heap.size) (h1 : w'.cell? ⟨1, 0, none⟩ = w.cell? ⟨1, 0, none⟩) (h2 : w'.cell? ⟨2, 0, none⟩ = w.cell? ⟨2, 0, none⟩) : ErrsLaid w' :=
  ⟨by rw [h1]; exact h.1, by rw [h2]; exact h.2.1, by have := h.2.2.1; omega, by have := h.2.2.2; omega⟩
theorem ErrsLaid.below {w w' : World} {B : Nat} (h : ErrsLaid w) (hb : Below B w w') (hB : w.heap.size ≤ B) : ErrsLaid w' :=
  h.keep hb.size (hb.cell (Nat.lt_of_lt_of_le h.2.2.1 hB)) (hb.cell (Nat.lt_of_lt_of_le h.2.2.2 hB))

end Go.Proofs.YtnclmcjanolebaaGreatDoor

/- strings.Builder written, and strings.Join: the library's contracts at this program. -/
namespace Go.Proofs.YtnclmcjanolebaaGreatDoor
set_option linter.unusedVariables false
open Go.RowKit

end Go.Proofs.YtnclmcjanolebaaGreatDoor

/- strings.Builder written, with what stands beside it kept: the library's contracts at this program. -/
namespace Go.Proofs.YtnclmcjanolebaaGreatDoor
set_option linter.unusedVariables false
open Go.RowKit

end Go.Proofs.YtnclmcjanolebaaGreatDoor

/- What a law's walk ends with. No law in sight. -/
namespace Go.Proofs.YtnclmcjanolebaaGreatDoor
set_option linter.unusedVariables false
open Go.RowKit

theorem strNew (w : World) (A : Option Addr) (l : List Int) (c : Nat) (hr : Rs w 0 w.heap.size 1 intc A l) (hl : l.length ≤ 17592186044416) (ho : ∀ x ∈ l, okI x) :
    Str (w.alloc (.cells #[.slice A l.length c, .int .i64 0] 25)) w.heap.size 0 :=
  ⟨A, c, l, heap_alloc_new w _, Int.le_refl _, hr.alloc (Nat.le_refl _) _, hl, ho⟩
theorem gEnd {w w1 : World} {o : Obj} (h : (w.alloc o).grownBy w1 (some w.heap.size)) : Below w.heap.size w w1 :=
  ⟨h.os, h.tape, h.output, by have := h.size; simp at this; omega, fun i hi => (h.block i (by simp; omega) (by simp; omega)).trans (Below.heap_alloc w _ i hi)⟩
end Go.Proofs.YtnclmcjanolebaaGreatDoor

/- The reference's small words on strings. -/
namespace Go.Proofs.YtnclmcjanolebaaGreatDoor
set_option linter.unusedVariables false
open Go.RowKit

theorem trim_c (s cs : ByteArray) (w : World) (hs : s.size ≤ 140737488355328) (hcs : cs.size ≤ 1000) (ha : (cs.data.toList.all fun b => decide (b.toNat < 128)) = true) :
    Calls Tryz.prog 83 #[.string s, .string cs] w fun e w' => e = .returned (.string ⟨(Lib.trimS s.data.toList cs.data.toList).toArray⟩) ∧ Below w.heap.size w w' :=
  Any.strings_Trim_laid Tryz.lays160 (by kernel_rfl) s cs w (by omega) (by omega) (ascii_of_all ha)

theorem dropWhile_nil {p : UInt8 → Bool} {l : List UInt8} : l.dropWhile p = [] ↔ ∀ x ∈ l, p x = true := by
  induction l with
  | nil => simp
  | cons y l ih =>
    cases h : p y with
    | true => simp [h, ih]
    | false => simp [h]

theorem trimS_nil (l cs : List UInt8) : Lib.trimS l cs = [] ↔ l.all (cs.contains ·) = true := by
  unfold Lib.trimS Lib.trimLeftS Lib.trimRightS
  constructor
  · intro h
    have h1 : ∀ x ∈ (l.reverse.dropWhile (cs.contains ·)), cs.contains x = true := by
      have := dropWhile_nil.1 h
      simpa using this
    cases hd : l.reverse.dropWhile (cs.contains ·) with
    | nil =>
      have := dropWhile_nil.1 hd
      rw [List.all_eq_true]
      intro x hx
      exact this x (by simpa using hx)
    | cons y t =>
      have h2 := h1 y (by rw [hd]; simp)
      have h3 := List.head_dropWhile_not (p := (cs.contains ·)) (l := l.reverse) (by rw [hd]; simp)
      simp only [hd, List.head_cons] at h3
      rw [h3] at h2; cases h2
  · intro h
    rw [List.all_eq_true] at h
    have : l.reverse.dropWhile (cs.contains ·) = [] := dropWhile_nil.2 (fun x hx => h x (by simpa using hx))
    rw [this]; rfl

theorem toList_mk (l : List UInt8) : (⟨l.toArray⟩ : ByteArray).toList = l := by rw [ByteArray.toList_eq]

set_option maxHeartbeats 400000 in
theorem made_c (s cs : ByteArray) (w : World) (hs : s.size ≤ 140737488355328) (hcs : cs.size ≤ 1000) (ha : (cs.data.toList.all fun b => decide (b.toNat < 128)) = true) :
    Calls Tryz.prog 44 #[.string s, .string cs] w fun e w' => e = .returned (.bool (allB (cs.data.toList.contains ·) s)) ∧ Below w.heap.size w w' := by
  cases h : allB (cs.data.toList.contains ·) s with
  | true =>
    have h2 : (⟨(Lib.trimS s.data.toList cs.data.toList).toArray⟩ : ByteArray) = ⟨#[]⟩ := by rw [(trimS_nil _ _).2 h]
    have H := Lib.hid h2
    clear h2 h
    go_enter Tryz.func44, Tryz.ntmps44
    go_wp2_with fail
    refine (trim_c s cs _ hs hcs ha).mono ?_
    rintro e w' ⟨rfl, hb⟩
    rw [H.out]
    go_wp2
    go_ret
    exact ⟨rfl, hb⟩
  | false =>
    have h2 : (⟨(Lib.trimS s.data.toList cs.data.toList).toArray⟩ : ByteArray).toList.isEmpty = false := by
      rw [toList_mk]
      cases he : Lib.trimS s.data.toList cs.data.toList with
      | nil => rw [(trimS_nil _ _).1 he |> (show _ → allB (cs.data.toList.contains ·) s = true from id)] at h; cases h
      | cons y t => rfl
    have H := Lib.hid h2
    clear h2 h
    go_enter Tryz.func44, Tryz.ntmps44
    go_wp2_with fail
    refine (trim_c s cs _ hs hcs ha).mono ?_
    rintro e w' ⟨rfl, hb⟩
    generalize (⟨(Lib.trimS s.data.toList cs.data.toList).toArray⟩ : ByteArray) = t at H ⊢
    have h2 := H.out
    go_wp2
    go_ret
    exact ⟨rfl, hb⟩

set_option maxHeartbeats 400000 in
theorem long_c (s : ByteArray) (lo hi : Int) (w : World) (hs : s.size ≤ 140737488355328) :
    Calls Tryz.prog 43 #[.string s, .int .i64 lo, .int .i64 hi] w fun e w' => e = .returned (.bool (decide (lo ≤ s.size) && decide ((s.size : Int) ≤ hi))) ∧ w = w' := by
  by_cases h1 : lo ≤ (s.size : Int)
  all_goals
    go_enter Tryz.func43, Tryz.ntmps43
    go_wp2
    go_ret
    exact ⟨ret_bool (by first | (simp [h1]; done) | (simp; omega)), rfl⟩
end Go.Proofs.YtnclmcjanolebaaGreatDoor

/- The shelf contracts that these proofs use, laid at this translation. -/
namespace Go.Proofs
open Go.Shelf

end Go.Proofs

/- The shelf contracts that these proofs use, laid at this translation. -/
namespace Go.Proofs
open Go.Shelf
def Tryz.lays125_ren : Go.Shelf.Ren := ⟨fun | 125 => 172 | 128 => 223 | 129 => 224 | n => n, fun | 46 => 187 | 3 => 3 | 51 => 237 | 53 => 225 | 4 => 4 | 5 => 5 | 9 => 9 | n => n, fun | n => n⟩
theorem Tryz.lays125 : Go.Proofs.Lays.n125 Tryz.prog Tryz.lays125_ren := {
  mixed := by kernel_rfl
  f125 := Tryz.func172.trans (congrArg some (by kernel_rfl))
  f128 := Tryz.func223.trans (congrArg some (by kernel_rfl))
  f129 := Tryz.func224.trans (congrArg some (by kernel_rfl))
  t3 := Tryz.underlying3
  a3 := Tryz.isAgg3
  z3 := Tryz.sizeOf3
  v3 := Tryz.zeroValue3
  t4 := Tryz.underlying4
  a4 := Tryz.isAgg4
  z4 := Tryz.sizeOf4
  v4 := Tryz.zeroValue4
  t5 := Tryz.underlying5
  a5 := Tryz.isAgg5
  z5 := Tryz.sizeOf5
  v5 := Tryz.zeroValue5
  t9 := Tryz.underlying9
  a9 := Tryz.isAgg9
  z9 := Tryz.sizeOf9
  v9 := Tryz.zeroValue9
  t46 := Tryz.underlying187
  a46 := Tryz.isAgg187
  z46 := Tryz.sizeOf187
  v46 := Tryz.zeroValue187
  t51 := Tryz.underlying237
  a51 := Tryz.isAgg237
  z51 := Tryz.sizeOf237
  v51 := Tryz.zeroValue237
  t53 := Tryz.underlying225
  a53 := Tryz.isAgg225
  z53 := Tryz.sizeOf225
  v53 := Tryz.zeroValue225 }
theorem Tryz.bits_Len (x : Int) (w : World) (h0 : 0 ≤ x) (h1 : x ≤ 18446744073709551615) :
    Calls Tryz.prog 172 #[.int .u64 x] w fun e w' => e = .returned (.int .i64 (Lib.bitLen x.toNat)) ∧ w' = w := Any.bits_Len Tryz.lays125 x w h0 h1
end Go.Proofs

/- slices.Clone, slices.Delete and slices.Insert of texts, in rows of one's own. -/
namespace Go.Proofs.YtnclmcjanolebaaGreatDoor
set_option linter.unusedVariables false
open Go.RowKit Go.Sort

end Go.Proofs.YtnclmcjanolebaaGreatDoor

/- Small laws on strings and bytes. No program in sight. -/
namespace Go.Proofs.YtnclmcjanolebaaGreatDoor
set_option linter.unusedVariables false
open Go.RowKit

theorem below_of_regrown {w w' : World} (h : ∃ p : Regrown, w' = Sort.grow (redrawn w p.d) p.os) : Below w.heap.size w w' := by
  obtain ⟨p, rfl⟩ := h
  exact below_regrown w p.d p.os
end Go.Proofs.YtnclmcjanolebaaGreatDoor

/- The program's codes. -/
namespace Go.Proofs.YtnclmcjanolebaaGreatDoor
set_option linter.unusedVariables false
open Go.RowKit Go.Sort

end Go.Proofs.YtnclmcjanolebaaGreatDoor

/- A text cut at a byte, in plain words. No program in sight. -/
namespace Go.Proofs.YtnclmcjanolebaaGreatDoor
set_option linter.unusedVariables false
open Go.RowKit

/-- Where a byte stands first; the length where it does not stand. -/
def cutI (s : ByteArray) (c : UInt8) : Nat := s.data.toList.findIdx (· == c)
def cutF (s : ByteArray) (c : UInt8) : Bool := decide (cutI s c < s.size)
def cutA (s : ByteArray) (c : UInt8) : ByteArray := s.extract 0 (cutI s c)
def cutB (s : ByteArray) (c : UInt8) : ByteArray := s.extract (cutI s c + 1) s.size
theorem cutB_size (s : ByteArray) (c : UInt8) : (cutB s c).size ≤ s.size := by unfold cutB; rw [ByteArray.size_extract]; omega
theorem idxB_no {s : ByteArray} {c : UInt8} (h : ¬ cutI s c < s.size) : Lib.indexByte s.data.toList c = -1 := by
  by_cases h1 : Lib.indexByte s.data.toList c = -1
  · exact h1
  · exfalso
    have hg := Lib.indexByte_ge s.data.toList c
    obtain ⟨o, ho⟩ := Int.eq_ofNat_of_zero_le (show 0 ≤ Lib.indexByte s.data.toList c by omega)
    obtain ⟨h2, _⟩ := Lib.indexByte_some ho
    obtain ⟨hlt, h3⟩ := List.getElem?_eq_some_iff.1 h2
    exact h (by
      have h4 : cutI s c < s.data.toList.length := List.findIdx_lt_length_of_exists ⟨c, by rw [← h3]; exact List.getElem_mem hlt, by simp⟩
      simpa using h4)
theorem idxB_yes {s : ByteArray} {c : UInt8} (h : cutI s c < s.size) : Lib.indexByte s.data.toList c = (cutI s c : Int) := by
  have hl : cutI s c < s.data.toList.length := by simpa using h
  have hg := Lib.indexByte_ge s.data.toList c
  have hc : s.data.toList[cutI s c] = c := by have := List.findIdx_getElem (p := (· == c)) (w := hl); exact eq_of_beq this
  have hne : Lib.indexByte s.data.toList c ≠ -1 := fun e => Lib.indexByte_none e (cutI s c) (by rw [List.getElem?_eq_getElem hl, hc])
  obtain ⟨o, ho⟩ := Int.eq_ofNat_of_zero_le (show 0 ≤ Lib.indexByte s.data.toList c by omega)
  obtain ⟨h2, h3⟩ := Lib.indexByte_some ho
  obtain ⟨hlt, h4⟩ := List.getElem?_eq_some_iff.1 h2
  rcases Nat.lt_trichotomy o (cutI s c) with h5 | h5 | h5
  · have := List.not_of_lt_findIdx (p := (· == c)) (xs := s.data.toList) h5
    simp [h4] at this
  · rw [ho, h5]
  · exact absurd (by rw [List.getElem?_eq_getElem hl, hc]) (h3 _ h5)
theorem extract_list' (s : ByteArray) (a b : Nat) : (s.extract a b).data.toList = (s.data.toList.drop a).take (b - a) := by simp
theorem ba_ext {a b : ByteArray} (h : a.data.toList = b.data.toList) : a = b := by
  rcases a with ⟨⟨a⟩⟩; rcases b with ⟨⟨b⟩⟩; simp at h; rw [h]
end Go.Proofs.YtnclmcjanolebaaGreatDoor

/- strings.Cut at one byte, for every string. -/
namespace Go.Proofs.YtnclmcjanolebaaGreatDoor
set_option linter.unusedVariables false
open Go.RowKit

end Go.Proofs.YtnclmcjanolebaaGreatDoor

/- Numerals read by the program and by the reference. -/
namespace Go.Proofs.YtnclmcjanolebaaGreatDoor
set_option linter.unusedVariables false
open Go.RowKit Go.Sort

/-- The table of powers of ten lies where it was laid. -/
def PowLaid (w : World) : Prop := Lib.TabIs Tryz.prog w "internal/strconv.uint64pow10" .u64 Lib.pow10Tab
theorem pow_below {w w' : World} {B : Nat} (h : PowLaid w) (hb : Below B w w') (hB : w.heap.size ≤ B) : PowLaid w' :=
  Joins.tab_stays (g := 4) (by kernel_rfl) h hb hB
theorem below_grow {w w' : World} {k : Nat} {os : Array Obj} (h : w' = grow (w.drewN k) os) : Below w.heap.size w w' := by
  subst h
  exact below_regrown w (w.drawn + k) os
theorem itoa_c (n : Int) (w : World) (hn : okI n) (hp : PowLaid w) : Calls Tryz.prog 51 #[.int .i64 n] w fun e w' => e = .returned (.string ⟨(Lib.itoa n).toArray⟩) ∧ Below w.heap.size w w' :=
  (Any.strconv_Itoa Tryz.laysM171 n hn.1 hn.2 w hp).mono fun _ _ ⟨he, k, os, hw⟩ => ⟨he, below_grow hw⟩

end Go.Proofs.YtnclmcjanolebaaGreatDoor

/- The generator's changed texts and frames. -/
namespace Go.Proofs.YtnclmcjanolebaaGreatDoor
set_option linter.unusedVariables false
open Go.RowKit Go.Sort

end Go.Proofs.YtnclmcjanolebaaGreatDoor

/- The generator's numbers of scenes and setups. -/
namespace Go.Proofs.YtnclmcjanolebaaGreatDoor
set_option linter.unusedVariables false
open Go.RowKit Go.Sort

theorem oneOf {l : List ByteArray} {x : ByteArray} {n : Nat} (h : (l.all fun x => decide (x.size ≤ n)) = true) (hx : x ∈ l) : x.size ≤ n := by
  rw [List.all_eq_true] at h; simpa using h x hx
set_option maxHeartbeats 800000 in
theorem No_c (sb : Nat) (k : Int) (w : World) (hs : Str w sb k) (hk : k ≤ 4000000000000000000) :
    Calls Tryz.prog 8 #[.pointer (some ⟨sb, 0, none⟩)] w (Took sb k 1 (isStr (fun x => x.size ≤ 100)) w) := by
  have S0 := Lib.hid hs; clear hs
  go_enter Tryz.func8, Tryz.ntmps8
  go_wp2_with fail
  refine (oneL w [⟨#[]⟩, ⟨#[49]⟩, ⟨#[50]⟩, ⟨#[57]⟩, ⟨#[49, 50]⟩, ⟨#[49, 50, 66]⟩, ⟨#[49, 50, 65, 66]⟩, ⟨#[49, 50, 66, 66]⟩, ⟨#[49, 50, 90, 90, 90, 90, 90]⟩, ⟨#[49, 51]⟩, ⟨#[48, 66]⟩, ⟨#[48, 65, 66]⟩, ⟨#[48, 65, 65, 65, 65, 66]⟩, ⟨#[57, 57, 57]⟩, ⟨#[57, 57, 57, 66]⟩, ⟨#[57, 57, 57, 90, 90, 90, 90, 90]⟩, ⟨#[57, 57, 56, 90, 90, 90, 90, 90]⟩, ⟨#[49, 65]⟩, ⟨#[48]⟩, ⟨#[48, 49]⟩, ⟨#[49, 98]⟩, ⟨#[49, 48, 48, 48]⟩] _ _ _ _ rfl rfl (by decide) (by decide) S0.out (by omega)).mono ?_
  rintro e w1 ⟨v1, k1, rfl, ⟨x1, hx1, rfl⟩, hk1, hs1, hg1⟩
  have b1 : x1.size ≤ 100 := oneOf (by decide +kernel) hx1
  have S1 := Lib.hid hs1; have G1 := Lib.hid (gTrans (gAlloc (gRefl w sb) _) hg1); clear hs1 hg1 hx1
  go_wp2
  go_ret
  exact ⟨_, k1, rfl, ⟨x1, b1, rfl⟩, hk1, S1.out, G1.out⟩
end Go.Proofs.YtnclmcjanolebaaGreatDoor

/- Digests: the program's and the reference's. -/
namespace Go.Proofs.YtnclmcjanolebaaGreatDoor
set_option linter.unusedVariables false
open Go.RowKit Go.Sort

end Go.Proofs.YtnclmcjanolebaaGreatDoor

/- The program's names of files, and copies checked. -/
namespace Go.Proofs.YtnclmcjanolebaaGreatDoor
set_option linter.unusedVariables false
open Go.RowKit

theorem idx_set (set : List UInt8) (c : UInt8) : (set.contains c = true → 0 ≤ Lib.indexByte set c) ∧ (set.contains c = false → Lib.indexByte set c < 0) := by
  have hg := Lib.indexByte_ge set c
  constructor
  · intro h
    by_cases h1 : Lib.indexByte set c = -1
    · have hm : c ∈ set := by simpa using h
      obtain ⟨k, hk, e⟩ := List.mem_iff_getElem.1 hm
      exact absurd (by rw [List.getElem?_eq_getElem hk, e]) (Lib.indexByte_none h1 k)
    · omega
  · intro h
    by_cases h1 : 0 ≤ Lib.indexByte set c
    · obtain ⟨o, ho⟩ := Int.eq_ofNat_of_zero_le h1
      obtain ⟨h2, _⟩ := Lib.indexByte_some ho
      have : c ∈ set := List.mem_of_getElem? h2
      simp at h; exact absurd this h
    · omega
/-- strings.IndexByte: below 0 just where the byte is none of the set. -/
theorem idxB_c (set : ByteArray) (c : UInt8) (w : World) : Calls Tryz.prog 256 #[.string set, .int .u8 (c.toNat : Int)] w fun e w' => e = .returned (.int .i64 (Lib.indexByte set.data.toList c)) ∧ w = w' := by
  refine (Tryz.strings_IndexByte set (c.toNat : Int) w).mono ?_
  rintro e w' ⟨he, hw⟩
  refine ⟨?_, hw.symm⟩
  rw [he]
  have : ((c.toNat : Int)).toNat.toUInt8 = c := by simp
  rw [this]

end Go.Proofs.YtnclmcjanolebaaGreatDoor

/- Lists of copies checked, and manifests made. -/
namespace Go.Proofs.YtnclmcjanolebaaGreatDoor
set_option linter.unusedVariables false
open Go.RowKit

end Go.Proofs.YtnclmcjanolebaaGreatDoor

/- Slices compared and looked through; the reference's names of files. -/
namespace Go.Proofs.YtnclmcjanolebaaGreatDoor
set_option linter.unusedVariables false
open Go.RowKit

theorem strAt {w : World} {F : Nat → Prop} {l : List ByteArray} {A : Option Addr} {n c : Nat} (h : Sli strR w F l (.slice A n c)) (k : Nat) (hk : k < l.length) : ∃ b off, A = some ⟨b, off, none⟩ ∧ F b ∧ w.cell? ⟨b, off + k, none⟩ = some (.string l[k]) := by
  obtain ⟨b, off, a, e, hb, hr, hc⟩ := h.at_ k hk
  have ha : a = [.string l[k]] := hr
  subst ha
  refine ⟨b, off, e, hb, ?_⟩
  have h := hc 0 _ rfl
  rw [show off + k * strR.n + 0 = off + k from by show off + k * 1 + 0 = _; omega] at h
  exact h
instance : DecidableEq Copied := fun a b => decidable_of_iff (a.eqB b = true) Copied.eqB_iff
end Go.Proofs.YtnclmcjanolebaaGreatDoor

/- Lists of whole numbers compared: the library's, walked. -/
namespace Go.Proofs.YtnclmcjanolebaaGreatDoor
set_option linter.unusedVariables false
open Go.RowKit

end Go.Proofs.YtnclmcjanolebaaGreatDoor

/- What the library has laid, kept beside a stream; Atoi and Itoa there. -/
namespace Go.Proofs.YtnclmcjanolebaaGreatDoor
set_option linter.unusedVariables false
open Go.RowKit Go.Sort

section
variable {w w' : World} {sb : Nat}
end
end Go.Proofs.YtnclmcjanolebaaGreatDoor

/- The number of a scene, and a setup, in plain words. -/
namespace Go.Proofs.YtnclmcjanolebaaGreatDoor
set_option linter.unusedVariables false
open Go.RowKit

def digB (c : UInt8) : Bool := decide (48 ≤ c.toNat) && decide (c.toNat ≤ 57)
def capB (c : UInt8) : Bool := decide (65 ≤ c.toNat) && decide (c.toNat ≤ 90)
def numK (s : ByteArray) : Nat := (s.data.toList.takeWhile digB).length
def numB (s : ByteArray) : Bool :=
  (s.data.toList.drop (numK s)).all capB && decide (s.size - numK s ≤ 5) && !Lib.hasSuffix (s.data.toList.drop (numK s)) [65]
    && (if s.data.toList.take (numK s) = [48] then decide (numK s < s.size) else decide (1 ≤ numK s) && decide (numK s ≤ 3) && decide (s.data.toList.head? ≠ some 48))

theorem takeWhile_len {p : UInt8 → Bool} {l : List UInt8} {k : Nat} (h : ∀ x ∈ l.take k, p x = true) (hk : k ≤ l.length) (he : ∀ hlt : k < l.length, p l[k] = false) : (l.takeWhile p).length = k := by
  induction l generalizing k with
  | nil => simp at hk; simp [hk]
  | cons y l ih =>
    cases k with
    | zero => have := he (by simp); simp at this; simp [this]
    | succ k =>
      have h0 : p y = true := h y (by simp)
      have := ih (k := k) (fun x hx => h x (by simp [hx])) (by simpa using hk) (fun hlt => he (Nat.succ_lt_succ hlt))
      simp [h0, this]
theorem numK_eq {s : ByteArray} {k : Nat} (h : ∀ x ∈ s.data.toList.take k, digB x = true) (hk : k ≤ s.size) (he : ∀ hlt : k < s.size, digB s[k] = false) : numK s = k :=
  takeWhile_len h (by simpa using hk) (fun hlt => he (by simpa using hlt))
theorem extract_list (s : ByteArray) (a b : Nat) : (s.extract a b).data.toList = (s.data.toList.drop a).take (b - a) := by
  simp
theorem extract_end (s : ByteArray) (k : Nat) : (s.extract k s.size).data.toList = s.data.toList.drop k := by
  rw [extract_list, List.take_of_length_le]
  simp

theorem numB_size {s : ByteArray} (h : numB s = true) : s.size ≤ 8 := by
  simp only [numB, Bool.and_eq_true, decide_eq_true_eq] at h
  obtain ⟨⟨⟨_, h1⟩, _⟩, h2⟩ := h
  split at h2
  · rename_i h3
    have := congrArg List.length h3
    simp at this; omega
  · simp only [Bool.and_eq_true, decide_eq_true_eq] at h2; omega

end Go.Proofs.YtnclmcjanolebaaGreatDoor

/- Plain texts, in plain words: joined words against no blanks beside blanks. No program in sight. -/
namespace Go.Proofs.YtnclmcjanolebaaGreatDoor
set_option linter.unusedVariables false
open Go.RowKit

/-- The words of a text: what stands between blanks. -/
def wordsA : List UInt8 → List UInt8 → List (List UInt8)
  | [], cur => if cur = [] then [] else [cur]
  | c :: l, cur => if c = 32 then (if cur = [] then wordsA l [] else cur :: wordsA l []) else wordsA l (cur ++ [c])
def joinW : List (List UInt8) → List UInt8
  | [] => []
  | [w] => w
  | w :: v :: r => w ++ 32 :: joinW (v :: r)
/-- No blank behind a blank, none at the end. -/
def okA : Bool → List UInt8 → Bool
  | prev, [] => !prev
  | prev, c :: l => if c = 32 then (if prev then false else okA true l) else okA false l
theorem joinW_cons (w : List UInt8) (r : List (List UInt8)) : joinW (w :: r) = if r = [] then w else w ++ 32 :: joinW r := by
  cases r with
  | nil => rfl
  | cons v r => rfl
theorem wordsA_ne (l : List UInt8) : ∀ cur, cur ≠ [] → wordsA l cur ≠ [] := by
  induction l with
  | nil => intro cur h; simp [wordsA, h]
  | cons c l ih =>
    intro cur h
    unfold wordsA
    by_cases hc : c = 32
    · rw [if_pos hc, if_neg h]; simp
    · rw [if_neg hc]; exact ih _ (by simp)
theorem join_len (l : List UInt8) : ∀ cur, (joinW (wordsA l cur)).length ≤ cur.length + l.length := by
  induction l with
  | nil => intro cur; by_cases h : cur = [] <;> simp [wordsA, h, joinW]
  | cons c l ih =>
    intro cur
    unfold wordsA
    by_cases hc : c = 32
    · rw [if_pos hc]
      have h1 := ih []
      by_cases h : cur = []
      · rw [if_pos h]; simp at h1 ⊢; omega
      · rw [if_neg h, joinW_cons]
        split
        · simp
        · simp at h1 ⊢; omega
    · rw [if_neg hc]
      have := ih (cur ++ [c])
      simp at this ⊢; omega
theorem join_ok (l : List UInt8) : (∀ cur, cur ≠ [] → (joinW (wordsA l cur) = cur ++ l ↔ okA false l = true)) ∧ ((wordsA l [] ≠ [] ∧ joinW (wordsA l []) = l) ↔ okA true l = true) := by
  induction l with
  | nil =>
    refine ⟨fun cur h => ?_, ?_⟩
    · simp [wordsA, h, joinW, okA]
    · simp [wordsA, okA]
  | cons c l ih =>
    obtain ⟨ihA, ihB⟩ := ih
    refine ⟨fun cur h => ?_, ?_⟩
    · unfold wordsA okA
      by_cases hc : c = 32
      · rw [if_pos hc, if_neg h, if_pos hc, joinW_cons]
        simp only [Bool.false_eq_true, if_false]
        rw [← ihB]
        by_cases hw : wordsA l [] = []
        · rw [if_pos hw]; simp [hw]
        · rw [if_neg hw, hc]
          simp [hw]
      · rw [if_neg hc, if_neg hc, ← ihA (cur ++ [c]) (by simp)]; simp
    · unfold wordsA okA
      by_cases hc : c = 32
      · rw [if_pos hc, if_pos rfl, if_pos hc]
        simp only [if_true, Bool.false_eq_true, iff_false, not_and]
        intro _ h
        have := join_len l []
        rw [h] at this
        simp at this
        omega
      · rw [if_neg hc, if_neg hc, List.nil_append, ← ihA [c] (by simp)]
        constructor
        · rintro ⟨_, h⟩; exact h
        · intro h; exact ⟨wordsA_ne l _ (by simp), h⟩
def plainL (l : List UInt8) : Bool := decide (l = []) || okA true l
/-- What the reference asks. -/
theorem plain_join (l : List UInt8) : joinW (wordsA l []) = l ↔ plainL l = true := by
  unfold plainL
  cases l with
  | nil => simp [wordsA, joinW]
  | cons c l =>
    have h := (join_ok (c :: l)).2
    simp only [Bool.or_eq_true, decide_eq_true_eq, reduceCtorEq, false_or]
    rw [← h]
    constructor
    · intro he
      refine ⟨fun hw => ?_, he⟩
      rw [hw] at he; cases he
    · exact fun h => h.2
def dblB : List UInt8 → Bool
  | [] => false
  | [_] => false
  | a :: b :: l => (a == 32 && b == 32) || dblB (b :: l)
def sufB : List UInt8 → Bool
  | [] => false
  | [a] => a == 32
  | _ :: b :: l => sufB (b :: l)
/-- What the program asks. -/
theorem okA_prog (l : List UInt8) : ∀ prev c, okA prev (c :: l) = (!dblB (c :: l) && !(prev && c == 32) && !sufB (c :: l)) := by
  induction l with
  | nil =>
    intro prev c
    by_cases hc : c = 32
    · cases prev <;> simp [okA, dblB, sufB, hc]
    · cases prev <;> simp [okA, dblB, sufB, hc]
  | cons d l ih =>
    intro prev c
    by_cases hc : c = 32
    · cases prev
      · rw [okA, if_pos hc]
        simp only [Bool.false_eq_true, if_false]
        rw [ih true d]
        have e : (c == 32) = true := by rw [hc]; rfl
        simp only [dblB, sufB, e, Bool.true_and, Bool.false_and, Bool.not_false, Bool.and_true]
        generalize dblB (d :: l) = x
        generalize sufB (d :: l) = y
        generalize (d == 32) = z
        cases x <;> cases y <;> cases z <;> rfl
      · have e : (c == 32) = true := by rw [hc]; rfl
        simp [okA, hc]
    · rw [okA, if_neg hc, ih false d]
      have e : (c == 32) = false := beq_eq_false_iff_ne.2 hc
      simp only [dblB, sufB, e, Bool.false_and, Bool.and_false, Bool.not_false, Bool.and_true, Bool.false_or]
theorem contains_cons (b : UInt8) (l sub : List UInt8) : Lib.contains (b :: l) sub = (sub.isPrefixOf (b :: l) || Lib.contains l sub) := by
  unfold Lib.contains
  have hg := Lib.index_ge l sub
  rw [Lib.index]
  cases h : sub.isPrefixOf (b :: l) with
  | true => simp
  | false =>
    simp only [Bool.false_eq_true, if_false, Bool.false_or]
    by_cases h1 : Lib.index l sub = -1
    · rw [h1]; rfl
    · rw [if_neg (by simpa using h1), decide_eq_decide]; omega
theorem beqC (a b : UInt8) : (a == b) = (b == a) := by
  rw [show (a == b) = decide (a = b) from rfl, show (b == a) = decide (b = a) from rfl, decide_eq_decide]
  exact ⟨fun h => h.symm, fun h => h.symm⟩
theorem dbl_contains (l : List UInt8) : Lib.contains l [32, 32] = dblB l := by
  induction l with
  | nil => rfl
  | cons a l ih =>
    rw [contains_cons, ih]
    cases l with
    | nil => simp [List.isPrefixOf, dblB]
    | cons b l =>
      simp only [List.isPrefixOf, dblB, Bool.and_true]
      have e1 : ((32 : UInt8) == a) = (a == 32) := beqC 32 a
      have e2 : ((32 : UInt8) == b) = (b == 32) := beqC 32 b
      rw [e1, e2]
theorem suf_has (l : List UInt8) : Lib.hasSuffix l [32] = sufB l := by
  unfold Lib.hasSuffix
  rw [Bool.eq_iff_iff, List.isSuffixOf_iff_suffix]
  induction l with
  | nil => simp [sufB]
  | cons a l ih =>
    rw [List.suffix_cons_iff, ih]
    cases l with
    | nil => simp [sufB]; exact eq_comm
    | cons b l => simp [sufB]
theorem pre_has (l : List UInt8) : Lib.hasPrefix l [32] = decide (l.head? = some 32) := by
  unfold Lib.hasPrefix
  cases l with
  | nil => rfl
  | cons a l =>
    show ((32 : UInt8) == a && List.isPrefixOf [] l) = _
    rw [show List.isPrefixOf ([] : List UInt8) l = true by cases l <;> rfl, Bool.and_true, List.head?_cons]
    rw [show ((32 : UInt8) == a) = decide ((32 : UInt8) = a) from rfl, decide_eq_decide]
    constructor
    · intro h; rw [h]
    · intro h; injection h with h; exact h.symm
/-- The two ways to ask for no blanks beside blanks. -/
theorem plain_prog (l : List UInt8) : plainL l = (!Lib.hasPrefix l [32] && !Lib.hasSuffix l [32] && !Lib.contains l [32, 32]) := by
  rw [dbl_contains, suf_has, pre_has]
  unfold plainL
  cases l with
  | nil => rfl
  | cons c l =>
    rw [okA_prog]
    simp only [reduceCtorEq, decide_false, Bool.false_or, List.head?_cons, Option.some.injEq, Bool.true_and]
    have e : (c == 32) = decide (c = 32) := rfl
    generalize dblB (c :: l) = x
    generalize sufB (c :: l) = y
    by_cases hc : c = 32
    · simp [hc]
    · have e : (c == 32) = false := beq_eq_false_iff_ne.2 hc
      simp only [e, hc, decide_false]; cases x <;> cases y <;> rfl
/-- All bytes from 32 to 126. -/
def prB (c : UInt8) : Bool := decide (32 ≤ c.toNat) && decide (c.toNat ≤ 126)
def plainB (s : ByteArray) : Bool := allB prB s && plainL s.data.toList
end Go.Proofs.YtnclmcjanolebaaGreatDoor

/- Reading slates, in plain words. No program in sight. -/
namespace Go.Proofs.YtnclmcjanolebaaGreatDoor
set_option linter.unusedVariables false
open Go.RowKit

theorem numB_bytes {s : ByteArray} (h : numB s = true) : ∀ c ∈ s.data.toList, digB c = true ∨ capB c = true := by
  simp only [numB, Bool.and_eq_true] at h
  obtain ⟨⟨⟨h1, _⟩, _⟩, _⟩ := h
  intro c hc
  rw [← List.take_append_drop (numK s) s.data.toList, List.mem_append] at hc
  rcases hc with hc | hc
  · left
    have ht : s.data.toList.take (numK s) = s.data.toList.takeWhile digB := by
      unfold numK
      conv => lhs; rw [← List.takeWhile_append_dropWhile (p := digB) (l := s.data.toList)]
      rw [List.takeWhile_append_dropWhile, ← List.prefix_iff_eq_take.1 (List.takeWhile_prefix digB)]
    rw [ht] at hc
    exact (List.all_eq_true.1 (List.all_takeWhile (p := digB) (l := s.data.toList))) c hc
  · right; exact (List.all_eq_true.1 h1) c hc
theorem empty_iff (s : ByteArray) : s.toList.isEmpty = true ↔ s = ⟨#[]⟩ := by
  rw [ByteArray.toList_eq]
  constructor
  · intro h; exact ba_ext (by simpa using h)
  · rintro rfl; rfl
end Go.Proofs.YtnclmcjanolebaaGreatDoor

/- Takes as they lie in memory. No program in sight. -/
namespace Go.Proofs.YtnclmcjanolebaaGreatDoor
set_option linter.unusedVariables false
open Go.RowKit

end Go.Proofs.YtnclmcjanolebaaGreatDoor

/- The next number and the next setup in plain words. No program in sight. -/
namespace Go.Proofs.YtnclmcjanolebaaGreatDoor
set_option linter.unusedVariables false
open Go.RowKit

end Go.Proofs.YtnclmcjanolebaaGreatDoor

/- How many scenes each set has, in plain words. No program in sight. -/
namespace Go.Proofs.YtnclmcjanolebaaGreatDoor
set_option linter.unusedVariables false
open Go.RowKit

instance memBA (s : ByteArray) (a : List ByteArray) : Decidable (s ∈ a) := decidable_of_iff (∃ x ∈ a, x = s) (by simp)
end Go.Proofs.YtnclmcjanolebaaGreatDoor

/- The words of a text, in plain words. No program in sight. -/
namespace Go.Proofs.YtnclmcjanolebaaGreatDoor
set_option linter.unusedVariables false
open Go.RowKit

end Go.Proofs.YtnclmcjanolebaaGreatDoor

/- Words divided into lines, in plain words. No program in sight. -/
namespace Go.Proofs.YtnclmcjanolebaaGreatDoor
set_option linter.unusedVariables false
open Go.RowKit

/-- A long word: pieces of the width, and what is left. -/
def chopA (wd : Nat) (w : List UInt8) : List (List UInt8) :=
  if h : 0 < wd ∧ wd < w.length then w.take wd :: chopA wd (w.drop wd) else []
termination_by w.length
decreasing_by rw [List.length_drop]; omega
def chopZ (wd : Nat) (w : List UInt8) : List UInt8 :=
  if h : 0 < wd ∧ wd < w.length then chopZ wd (w.drop wd) else w
termination_by w.length
decreasing_by rw [List.length_drop]; omega
theorem chopA_more {wd : Nat} {w : List UInt8} (h0 : 0 < wd) (h : wd < w.length) : chopA wd w = w.take wd :: chopA wd (w.drop wd) := by rw [chopA, dif_pos ⟨h0, h⟩]
theorem chopA_done {wd : Nat} {w : List UInt8} (h : ¬ wd < w.length) : chopA wd w = [] := by rw [chopA, dif_neg (fun e => h e.2)]
theorem chopZ_more {wd : Nat} {w : List UInt8} (h0 : 0 < wd) (h : wd < w.length) : chopZ wd w = chopZ wd (w.drop wd) := by rw [chopZ, dif_pos ⟨h0, h⟩]
theorem chopZ_done {wd : Nat} {w : List UInt8} (h : ¬ wd < w.length) : chopZ wd w = w := by rw [chopZ, dif_neg (fun e => h e.2)]
theorem chopZ_pos {wd : Nat} (h0 : 0 < wd) : ∀ (n : Nat) (w : List UInt8), w.length ≤ n → w ≠ [] → chopZ wd w ≠ []
  | 0, w, hl, hw => absurd (List.eq_nil_of_length_eq_zero (by omega)) hw
  | n + 1, w, hl, hw => by
    by_cases h : wd < w.length
    · rw [chopZ_more h0 h]
      refine chopZ_pos h0 n _ (by rw [List.length_drop]; omega) (fun e => ?_)
      have := congrArg List.length e
      rw [List.length_drop] at this
      simp at this
      omega
    · rw [chopZ_done h]; exact hw
theorem chopA_len {wd : Nat} (h0 : 0 < wd) : ∀ (n : Nat) (w : List UInt8), w.length ≤ n → (chopA wd w).length ≤ w.length
  | 0, w, hl => by rw [chopA_done (by omega)]; simp
  | n + 1, w, hl => by
    by_cases h : wd < w.length
    · have ih := chopA_len h0 n (w.drop wd) (by rw [List.length_drop]; omega)
      rw [chopA_more h0 h, List.length_cons]
      rw [List.length_drop] at ih
      omega
    · rw [chopA_done h]; simp
/-- Lines full, and the line at hand. -/
structure Wst where
  out : List (List UInt8)
  cur : List UInt8
def wrapW (wd : Nat) (st : Wst) (w : List UInt8) : Wst :=
  if w = [] then st
  else if ¬ st.cur = [] ∧ st.cur.length + 1 + w.length ≤ wd then ⟨st.out, st.cur ++ 32 :: w⟩
  else ⟨st.out ++ (if st.cur = [] then [] else [st.cur]) ++ chopA wd w, chopZ wd w⟩
def Wst.all (st : Wst) : List (List UInt8) := st.out ++ (if st.cur = [] then [] else [st.cur])
def Wst.ok (st : Wst) : Prop := st.cur = [] → st.out = []
def wrapL (wd : Nat) (ws : List (List UInt8)) : Wst := ws.foldl (wrapW wd) ⟨[], []⟩
def mkB (l : List UInt8) : ByteArray := ⟨l.toArray⟩
def wrapT (s : ByteArray) (wd : Nat) : List ByteArray := (wrapL wd (wordsA s.data.toList [])).all.map mkB
theorem wrapL_snoc (wd : Nat) (ws : List (List UInt8)) (w : List UInt8) : wrapL wd (ws ++ [w]) = wrapW wd (wrapL wd ws) w := by simp [wrapL]
theorem wrapW_ok {wd : Nat} (h0 : 0 < wd) {st : Wst} (h : st.ok) (w : List UInt8) : (wrapW wd st w).ok := by
  unfold wrapW
  split
  · exact h
  · rename_i hw
    split
    · intro e; simp at e
    · intro e
      exact absurd e (chopZ_pos h0 w.length w (Nat.le_refl _) hw)
theorem wrapL_ok {wd : Nat} (h0 : 0 < wd) (ws : List (List UInt8)) : (wrapL wd ws).ok := by
  have key : ∀ (ws : List (List UInt8)) (st : Wst), st.ok → (ws.foldl (wrapW wd) st).ok := by
    intro ws
    induction ws with
    | nil => intro st h; exact h
    | cons w r ih => intro st h; exact ih _ (wrapW_ok h0 h w)
  exact key ws _ (fun _ => rfl)
theorem all_nil {st : Wst} (h : st.ok) : st.all = [] ↔ st.cur = [] := by
  unfold Wst.all
  by_cases hc : st.cur = []
  · rw [h hc, if_pos hc]; simp [hc]
  · rw [if_neg hc]; simp [hc]
/-- A word goes behind the line at hand. -/
theorem all_fits {wd : Nat} {st : Wst} {w : List UInt8} (hw : ¬ w = []) (hc : ¬ st.cur = []) (hf : st.cur.length + 1 + w.length ≤ wd) : (wrapW wd st w).all = st.all.modify (st.all.length - 1) (fun l => l ++ 32 :: w) ∧ st.all[st.all.length - 1]? = some st.cur := by
  unfold wrapW
  rw [if_neg hw, if_pos ⟨hc, hf⟩]
  unfold Wst.all
  rw [if_neg hc, if_neg (by simp)]
  refine ⟨?_, by simp⟩
  have hl : (st.out ++ [st.cur]).length - 1 = st.out.length := by simp
  rw [hl]
  apply List.ext_getElem?
  intro i
  rw [List.getElem?_modify]
  rcases Nat.lt_trichotomy i st.out.length with h | h | h
  · rw [List.getElem?_append_left h, List.getElem?_append_left h]
    cases st.out[i]? <;> simp [show ¬ st.out.length = i by omega]
  · subst h
    simp
  · rw [List.getElem?_eq_none (by simp; omega), List.getElem?_eq_none (by simp; omega)]
    rfl
/-- A word begins a line. -/
theorem all_new {wd : Nat} (h0 : 0 < wd) {st : Wst} {w : List UInt8} (hw : ¬ w = []) (hf : st.cur = [] ∨ ¬ st.cur.length + 1 + w.length ≤ wd) : (wrapW wd st w).all = st.all ++ chopA wd w ++ [chopZ wd w] := by
  unfold wrapW
  rw [if_neg hw, if_neg (fun h => hf.elim h.1 (fun h2 => h2 h.2))]
  unfold Wst.all
  dsimp only
  rw [if_neg (chopZ_pos h0 w.length w (Nat.le_refl _) hw)]
theorem wrapL_len {wd : Nat} (h0 : 0 < wd) (ws : List (List UInt8)) : (wrapL wd ws).all.length ≤ (ws.map fun w => w.length + 1).sum := by
  have key : ∀ (ws : List (List UInt8)) (st : Wst), (ws.foldl (wrapW wd) st).all.length ≤ st.all.length + (ws.map fun w => w.length + 1).sum := by
    intro ws
    induction ws with
    | nil => intro st; simp
    | cons w r ih =>
      intro st
      have h1 := ih (wrapW wd st w)
      have h2 : (wrapW wd st w).all.length ≤ st.all.length + (w.length + 1) := by
        by_cases hw : w = []
        · unfold wrapW; rw [if_pos hw]; omega
        · by_cases hc : st.cur = [] ∨ ¬ st.cur.length + 1 + w.length ≤ wd
          · rw [all_new h0 hw hc]
            have := chopA_len h0 w.length w (Nat.le_refl _)
            simp
            omega
          · have hc1 : ¬ st.cur = [] := fun e => hc (.inl e)
            have hc2 : st.cur.length + 1 + w.length ≤ wd := Classical.byContradiction fun e => hc (.inr e)
            rw [(all_fits hw hc1 hc2).1, List.length_modify]
            omega
      rw [List.foldl_cons, List.map_cons, List.sum_cons]
      omega
  have h1 := key ws ⟨[], []⟩
  have h2 : (⟨[], []⟩ : Wst).all.length = 0 := rfl
  unfold wrapL
  omega
theorem wordsA_ne2 (l : List UInt8) : ∀ cur w, w ∈ wordsA l cur → ¬ w = [] := by
  induction l with
  | nil =>
    intro cur w h
    unfold wordsA at h
    split at h
    · cases h
    · rw [List.mem_singleton] at h; subst h; assumption
  | cons c l ih =>
    intro cur w h
    unfold wordsA at h
    split at h
    · split at h
      · exact ih _ _ h
      · rcases List.mem_cons.1 h with rfl | h
        · assumption
        · exact ih _ _ h
    · exact ih _ _ h
theorem wordsA_sum (l : List UInt8) : ∀ cur, ((wordsA l cur).map fun w => w.length + 1).sum ≤ cur.length + l.length + 1 := by
  induction l with
  | nil =>
    intro cur
    unfold wordsA
    split
    · simp
    · simp
  | cons c l ih =>
    intro cur
    unfold wordsA
    split
    · split
      · have := ih []; simp at this ⊢; omega
      · have := ih []; simp at this ⊢; omega
    · have := ih (cur ++ [c]); simp at this ⊢; omega
end Go.Proofs.YtnclmcjanolebaaGreatDoor

