/- Texts packed: AtoiW, BldW, BldK, LawA, RefA, Shelf2, Shelf3, InsW, Str, CodeW, CutS, CutW, DecW, GenC, GenE, HexW, FilesW, FilesX, FilesY, LaidW, NumS, PlainS, SlateS, TkS. -/
import Derived.Test.YtmofncdjhdnoiaaGreatDoorRows
import Derived.Test.YtmofncdjhdnoiaaGreatDoorSc01
import Derived.Lib.SmallJoins
import Derived.Shelf.Strconv.AtoiAll
import Derived.Shelf.Strings.BuilderK
import Derived.Shelf.Strings.SlTrimAscii
import Derived.Shelf.Strings.Builder1
import Derived.Shelf.Strings.Builder2
import Derived.Shelf.Strings.OnBuilder
import Derived.Shelf.Strings.Trim
import Derived.Shelf.Small.Utf8
import Derived.Shelf.Small.Strs
import Derived.Shelf.Small.Wraps
import Derived.Shelf.Strings.BuilderF
import Derived.Shelf.Strings.Builder2Cap
import Derived.Shelf.Strconv.Atoi
import Derived.Shelf.Strconv.Itoa0
import Derived.Shelf.Strconv.Itoa1
import Derived.Shelf.LaysM
import Derived.Shelf.Strconv.Itoa2
import Derived.Shelf.Strconv.Itoa3
import Derived.Shelf.Strconv.AtoiErrFast
import Derived.Shelf.Strconv.ParseIntEmpty
import Derived.Shelf.Strconv.AtoiFail
import Derived.Shelf.Strconv.Clone
import Derived.Shelf.Strconv.SyntaxError
import Derived.Shelf.LaysC
import Derived.Shelf.Strconv.ToError
import Derived.Shelf.Strconv.Lower
import Derived.Shelf.Strconv.ParseUint10
import Derived.Shelf.Strconv.ParseUint10Empty
import Derived.Shelf.Strconv.ParseUint10Any
import Derived.Shelf.Strconv.ParseInt10
import Derived.Shelf.Strconv.AtoiLong
import Derived.Shelf.Strconv.AtoiInnerAll
import Derived.Shelf.Strconv.RangeError
import Derived.Shelf.Strconv.ToErrorRange
import Derived.Shelf.Strconv.ErrVarAll
import Derived.Shelf.Strings.Search1
import Derived.Shelf.Strings.Search2
import Derived.Shelf.Strings.Search3
import Derived.Shelf.Strings.Cut
import Derived.Shelf.Strings.Count
import Derived.Shelf.Strings.Shaped
import Derived.Shelf.Strings.LastIndex
import Derived.Shelf.Strings.LastIndexAll
import Derived.Shelf.Strings.Prefix
import Derived.Shelf.Strings.Split
import Derived.Shelf.Strings.Fields
import Derived.Shelf.Strings.SplitShaped
import Derived.Shelf.Unicode.Latin
import Derived.Shelf.Unicode.Decode
import Derived.Shelf.Strings.Runes
import Derived.Shelf.Strings.RuneCount
import Derived.Shelf.Strings.IndexAny
import Derived.Shelf.Strings.AsciiSet
import Derived.Shelf.Strings.IndexAnyAll
import Derived.Shelf.Strings.Explode
import Derived.Shelf.Bits.Mul64
import Derived.Shelf.Strings.Repeat
import Derived.Shelf.Unicode.DecodeSlow
import Derived.Shelf.Unicode.DecodeAny
import Derived.Shelf.Unicode.Is16White
import Derived.Shelf.Unicode.IsSpaceAny
import Derived.Shelf.Unicode.DecodeLast
import Derived.Shelf.Strings.FieldsFuncAny
import Derived.Shelf.Unicode.Is16Any
import Derived.Shelf.Unicode.Is32Any
import Derived.Shelf.Unicode.ExclAny
import Derived.Shelf.Strings.FieldsFuncGrows
import Derived.Shelf.Strings.BuilderCap
import Derived.Shelf.Slices.Turned
import Derived.Shelf.Slices.Equal
import Derived.Ground.Names2Prog
import Derived.Shelf.Slices.Clone
import Derived.Shelf.Slices.Delete
import Derived.Shelf.Slices.Empties2
import Derived.Ground.SlgnProg
import Derived.Shelf.SlicesE.Equal
import Derived.Test.YtmofncdjhdnoiaaGreatDoorProg
import Derived.Shelf.Spec.SlicesInsert
import Derived.Shelf.Spec.SlicesInsertGrow
import Derived.Laws.IdiomStrings
import Derived.Lib.QuietBelow
import Derived.BigQuiet
import Derived.Deep.RegionWith
import Derived.Lib.IndexLaws
import Derived.Laws.Bits64
import Derived.Laws.Bits64b
import Derived.Lib.Repeat
import Derived.Outline
import Derived.Deep.RegionHeld3
import Derived.Deep.AppendLies
import Derived.Deep.QuietTactic
import Derived.Lib.ItoaLen
import Derived.Lib.Strings
import Derived.Lib.ItoaNum
import Derived.Lib.FieldsP
import Derived.Lib.IndexMore
/- strconv.Atoi at every string: one contract with its three ends. -/
namespace Go.Proofs.YtmofncdjhdnoiaaGreatDoor
set_option linter.unusedVariables false
open Go.RowKit

/-- The library's two errors lie where they were laid. -/
def ErrsLaid (w : World) : Prop := (∃ t p, w.cell? ⟨8, 0, none⟩ = some (.iface t p)) ∧ (∃ t p, w.cell? ⟨9, 0, none⟩ = some (.iface t p)) ∧ 8 < w.heap.size ∧ 9 < w.heap.size
theorem ErrsLaid.keep {w w' : World} (h : ErrsLaid w) (hs : w.heap.size ≤ w'.heap.size) (h1 : w'.cell? ⟨8, 0, none⟩ = w.cell? ⟨8, 0, none⟩) (h2 : w'.cell? ⟨9, 0, none⟩ = w.cell? ⟨9, 0, none⟩) : ErrsLaid w' :=
  ⟨by rw [h1]; exact h.1, by rw [h2]; exact h.2.1, by have := h.2.2.1; omega, by have := h.2.2.2; omega⟩
theorem ErrsLaid.below {w w' : World} {B : Nat} (h : ErrsLaid w) (hb : Below B w w') (hB : w.heap.size ≤ B) : ErrsLaid w' :=
  h.keep hb.size (hb.cell (Nat.lt_of_lt_of_le h.2.2.1 hB)) (hb.cell (Nat.lt_of_lt_of_le h.2.2.2 hB))

/-- How Atoi ends: the number and the error. -/
def AtoiP (s : ByteArray) (n : Int) (ev : Value) : Prop :=
  (Lib.atoiAll s.data.toList = .ok n ∧ ev = .nilIface) ∨ ((∀ v, Lib.atoiAll s.data.toList ≠ .ok v) ∧ ∃ t N, ev = .iface t (.pointer (some ⟨N, 0, none⟩)))
def AtoiR (s : ByteArray) (w : World) (e : Ending) (w' : World) : Prop := ∃ n ev, AtoiP s n ev ∧ e = .returned (.tuple #[.int .i64 n, ev]) ∧ Below w.heap.size w w'
theorem atoi_c (s : ByteArray) (w : World) (hs : s.size ≤ 140737488355328) (hl : ErrsLaid w) : Calls Tryz.prog 171 #[.string s] w (AtoiR s w) := by
  obtain ⟨⟨t1, p1, h1⟩, ⟨t2, p2, h2⟩, _, _⟩ := hl
  cases h : Lib.atoiAll s.data.toList
  case ok v =>
    refine (Any.strconv_Atoi_ok Tryz.laysC172 s (by omega) v h w).mono ?_
    rintro e w' ⟨he, hw⟩
    refine ⟨v, _, .inl ⟨h, rfl⟩, he, ?_⟩
    rcases hw with rfl | ⟨t, rfl⟩
    · exact Below.refl _ _
    · exact Joins.below_bytesWorld _ _ _ _ (Nat.le_refl _)
  · refine (Any.strconv_Atoi_syntax Tryz.laysC172 s (by omega) h _ w h1 (.inr ⟨_, _, rfl⟩)).mono ?_
    rintro e w' ⟨N, he, _, _, hb⟩
    exact ⟨_, _, .inr ⟨(fun v hv => by rw [h] at hv; cases hv), _, _, rfl⟩, he, hb⟩
  · refine (Any.strconv_Atoi_range Tryz.laysC172 s (by omega) h _ w h2 (.inr ⟨_, _, rfl⟩)).mono ?_
    rintro e w' ⟨N, he, _, _, hb⟩
    exact ⟨_, _, .inr ⟨(fun v hv => by rw [h] at hv; cases hv), _, _, rfl⟩, he, hb⟩
end Go.Proofs.YtmofncdjhdnoiaaGreatDoor

/- strings.Builder written, and strings.Join: the library's contracts at this program. -/
namespace Go.Proofs.YtmofncdjhdnoiaaGreatDoor
set_option linter.unusedVariables false
open Go.RowKit

/-- A builder of the call's own, whose block is B, that holds the bytes l. -/
def Bld (w : World) (B : Nat) (l : List UInt8) : Prop := Lib.IsBuilder 130 5 B B (Lib.byteCells l) w
theorem Bld.new (w : World) : Bld (w.alloc (.cells #[.pointer none, .slice none 0 0] 130)) w.heap.size [] := Lib.fresh_isBuilder _ _ w
theorem Bld.lt {w : World} {B : Nat} {l : List UInt8} (h : Bld w B l) : B < w.heap.size := by
  rcases h with h | h
  · exact h.lt
  · exact h.lt
theorem Bld.keep {w w' : World} {B : Nat} {l : List UInt8} (h : Bld w B l) (hk : ∀ b, B ≤ b → b < w.heap.size → w'.heap[b]? = w.heap[b]?) : Bld w' B l := by
  have one : ∀ p, Lib.BuilderAt 130 5 B B p (Lib.byteCells l) w → Lib.BuilderAt 130 5 B B p (Lib.byteCells l) w' := by
    rintro p ⟨hB, v, hb, ho, hne⟩
    refine ⟨hB, v, (hk B (Nat.le_refl _) (Array.getElem?_eq_some_iff.1 hb).1).trans hb, ⟨ho.1, ?_⟩, hne⟩
    rcases ho.2 with hn | ⟨g, cap, cur, rfl, hg0, hg, rest⟩
    · exact .inl hn
    · exact .inr ⟨g, cap, cur, rfl, hg0, (hk g hg0 (Array.getElem?_eq_some_iff.1 hg).1).trans hg, rest⟩
  rcases h with h | h
  · exact .inl (one _ h)
  · exact .inr (one _ h)
theorem Bld.below {w w' : World} {B : Nat} {l : List UInt8} (h : Bld w B l) (hb : Below w.heap.size w w') : Bld w' B l := h.keep fun b _ hlt => hb.block b hlt
theorem Bld.alloc {w : World} {B : Nat} {l : List UInt8} (h : Bld w B l) (o : Obj) : Bld (w.alloc o) B l := h.keep fun b _ hlt => Below.heap_alloc w o b hlt
theorem Bld.drew {w : World} {B : Nat} {l : List UInt8} (h : Bld w B l) : Bld w.drew B l := h
theorem write_c (B : Nat) (l : List UInt8) (s : ByteArray) (w : World) (h : Bld w B l) (hlen : l.length + s.size ≤ 140737488355328) :
    Calls Tryz.prog 80 #[.pointer (some ⟨B, 0, none⟩), .string s] w fun e w' => e = .returned (.tuple #[.int .i64 s.size, .nilIface]) ∧ (Bld w' B (l ++ s.data.toList) ∧ Below B w w') := by
  refine (Any.Builder_WriteString { Tryz.lays156 with } Tryz.Builder_Extra_156 B B (Lib.byteCells l) s w h (by rw [Lib.byteCells_length]; exact hlen) (Nat.le_of_lt h.lt)).mono ?_
  rintro e w' ⟨he, h1, h2⟩
  refine ⟨he, .inr ?_, h2⟩
  rw [Lib.strCells_eq, ← Lib.byteCells_append] at h1
  exact h1
theorem text_c (B : Nat) (l : List UInt8) (w : World) (h : Bld w B l) :
    Calls Tryz.prog 81 #[.pointer (some ⟨B, 0, none⟩)] w fun e w' => e = .returned (.string ⟨l.toArray⟩) ∧ Below B w w' :=
  Tryz.Builder_String_any B B l w h (Nat.le_of_lt h.lt)
/-- strings.Join of words in memory. -/
theorem join_c (l : List ByteArray) (sep : ByteArray) (v : Value) (F : Nat → Prop) (w : World) (hv : Sli strR w F l v) (hF : ∀ b, F b → b < w.heap.size) (hlen : (Lib.join (l.map (·.data.toList)) sep.data.toList).length ≤ 140737488355328) (hN : l.length ≤ 140737488355328) :
    Calls Tryz.prog 42 #[v, .string sep] w fun e w' => e = .returned (.string ⟨(Lib.join (l.map (·.data.toList)) sep.data.toList).toArray⟩) ∧ Below w.heap.size w w' := by
  obtain ⟨A, c, rfl, h1, h2, h3⟩ := hv
  by_cases h0 : 0 < l.length
  · obtain ⟨b, off, cs, rfl, hb, hl, hc⟩ := h3 h0
    refine Any.strings_Join Tryz.lays156 Tryz.Builder_Extra_156 b off c l sep w (fun j x hx => ?_) (hF b hb) hN h1 hlen
    have h4 : (cs.drop (j * 1)).take 1 = [.string x] := hl.2 j x hx
    refine hc j _ ?_
    have h5 : ((cs.drop (j * 1)).take 1)[0]? = some (.string x) := by rw [h4]; rfl
    rw [List.getElem?_take, if_pos (by decide), List.getElem?_drop] at h5
    simpa using h5
  · have : l = [] := List.length_eq_zero_iff.1 (by omega)
    subst this
    exact (Any.strings_Join_none Tryz.lays156 Tryz.Builder_Extra_156 A c sep w).mono fun e w' ⟨he, hw⟩ => ⟨he, hw ▸ Below.refl _ _⟩
/-- .. its result behind a name. -/
theorem joinX (l : List ByteArray) (sep X : ByteArray) (v : Value) (F : Nat → Prop) (w : World) (hX : (⟨(Lib.join (l.map (·.data.toList)) sep.data.toList).toArray⟩ : ByteArray) = X) (hs : X.size ≤ 140737488355328) (hv : Sli strR w F l v) (hF : ∀ b, F b → b < w.heap.size) (hN : l.length ≤ 140737488355328) :
    Calls Tryz.prog 42 #[v, .string sep] w fun e w' => e = .returned (.string X) ∧ Below w.heap.size w w' := by
  subst hX
  exact join_c l sep v F w hv hF (by simpa [ByteArray.size] using hs) hN
end Go.Proofs.YtmofncdjhdnoiaaGreatDoor

/- strings.Builder written, with what stands beside it kept: the library's contracts at this program. -/
namespace Go.Proofs.YtmofncdjhdnoiaaGreatDoor
set_option linter.unusedVariables false
open Go.RowKit

/-- A builder of the call's own, whose block is B, that holds the bytes l. -/
def BldK (w : World) (B : Nat) (l : List UInt8) : Prop := Lib.IsBuilderF 130 5 B B (Lib.byteCells l) w
theorem BldK.new (w : World) : BldK (w.alloc (.cells #[.pointer none, .slice none 0 0] 130)) w.heap.size [] := Lib.IsBuilderF.of (Lib.fresh_isBuilder _ _ w)
theorem BldK.lt {w : World} {B : Nat} {l : List UInt8} (h : BldK w B l) : B < w.heap.size := by
  rcases h with ⟨_, v, hb, _⟩ | ⟨_, v, hb, _⟩
  · exact (Array.getElem?_eq_some_iff.1 hb).1
  · exact (Array.getElem?_eq_some_iff.1 hb).1
theorem BldK.keep {w w' : World} {B : Nat} {l : List UInt8} (h : BldK w B l) (hk : ∀ b, B ≤ b → b < w.heap.size → w'.heap[b]? = w.heap[b]?) : BldK w' B l := by
  have one : ∀ p, Lib.BuilderAtF 130 5 B B p (Lib.byteCells l) w → Lib.BuilderAtF 130 5 B B p (Lib.byteCells l) w' := by
    rintro p ⟨hB, v, hb, ho, hne⟩
    refine ⟨hB, v, (hk B (Nat.le_refl _) (Array.getElem?_eq_some_iff.1 hb).1).trans hb, ⟨ho.1, ?_⟩, hne⟩
    rcases ho.2 with hn | ⟨g, cap, cur, fz, rfl, hg0, hg, rest⟩
    · exact .inl hn
    · exact .inr ⟨g, cap, cur, fz, rfl, hg0, (hk g hg0 (Array.getElem?_eq_some_iff.1 hg).1).trans hg, rest⟩
  rcases h with h | h
  · exact .inl (one _ h)
  · exact .inr (one _ h)
theorem BldK.below {w w' : World} {B : Nat} {l : List UInt8} (h : BldK w B l) (hb : Below w.heap.size w w') : BldK w' B l := h.keep fun b _ hlt => hb.block b hlt
theorem BldK.alloc {w : World} {B : Nat} {l : List UInt8} (h : BldK w B l) (o : Obj) : BldK (w.alloc o) B l := h.keep fun b _ hlt => Below.heap_alloc w o b hlt
theorem BldK.drew {w : World} {B : Nat} {l : List UInt8} (h : BldK w B l) : BldK w.drew B l := h
theorem writeK_c (B : Nat) (l : List UInt8) (s : ByteArray) (w : World) (h : BldK w B l) (hlen : l.length + s.size ≤ 140737488355328) :
    Calls Tryz.prog 80 #[.pointer (some ⟨B, 0, none⟩), .string s] w fun e w' => e = .returned (.tuple #[.int .i64 s.size, .nilIface]) ∧ (BldK w' B (l ++ s.data.toList) ∧ Below B w w' ∧ Lib.OthersKept 5 (some B) w w') := by
  refine (Any.Builder_WriteString_k { Tryz.lays156 with } Tryz.Builder_Extra_156 B B (Lib.byteCells l) s w h (by rw [Lib.byteCells_length]; exact hlen) (Nat.le_of_lt h.lt)).mono ?_
  rintro e w' ⟨he, h1, h2, h3⟩
  refine ⟨he, .inr ?_, h2, h3⟩
  rw [Lib.strCells_eq, ← Lib.byteCells_append] at h1
  exact h1
theorem textK_c (B : Nat) (l : List UInt8) (w : World) (h : BldK w B l) :
    Calls Tryz.prog 81 #[.pointer (some ⟨B, 0, none⟩)] w fun e w' => e = .returned (.string ⟨l.toArray⟩) ∧ Below B w w' :=
  (Any.Builder_String_any_k { Tryz.lays156 with } Tryz.Builder_Extra_156 B B l w h (Nat.le_of_lt h.lt)).mono fun _ _ h => ⟨h.1, h.2.2.1⟩
/-- A block of the call's own that is no row of bytes stands behind a write. -/
theorem keptK {w w' : World} {B X : Nat} {cs : Array Value} {T : TypeId} (h : Lib.OthersKept 5 (some B) w w') (hX : w.heap[X]? = some (.cells cs T (0, 0))) (hne : X ≠ B) (hT : T ≠ 5) : w'.heap[X]? = some (.cells cs T (0, 0)) :=
  h X _ hX (fun e => hne (by injection e)) (fun c fz e => hT (by injection e))
end Go.Proofs.YtmofncdjhdnoiaaGreatDoor

/- What a law's walk ends with. No law in sight. -/
namespace Go.Proofs.YtmofncdjhdnoiaaGreatDoor
set_option linter.unusedVariables false
open Go.RowKit

theorem strNew (w : World) (A : Option Addr) (l : List Int) (c : Nat) (hr : Rs w 0 w.heap.size 1 intc A l) (hl : l.length ≤ 17592186044416) (ho : ∀ x ∈ l, okI x) :
    Str (w.alloc (.cells #[.slice A l.length c, .int .i64 0] 25)) w.heap.size 0 :=
  ⟨A, c, l, heap_alloc_new w _, Int.le_refl _, hr.alloc (Nat.le_refl _) _, hl, ho⟩
theorem gEnd {w w1 : World} {o : Obj} (h : (w.alloc o).grownBy w1 (some w.heap.size)) : Below w.heap.size w w1 :=
  ⟨h.os, h.tape, h.output, by have := h.size; simp at this; omega, fun i hi => (h.block i (by simp; omega) (by simp; omega)).trans (Below.heap_alloc w _ i hi)⟩
end Go.Proofs.YtmofncdjhdnoiaaGreatDoor

/- The reference's small words on strings. -/
namespace Go.Proofs.YtmofncdjhdnoiaaGreatDoor
set_option linter.unusedVariables false
open Go.RowKit

theorem trim_c (s cs : ByteArray) (w : World) (hs : s.size ≤ 140737488355328) (hcs : cs.size ≤ 1000) (ha : (cs.data.toList.all fun b => decide (b.toNat < 128)) = true) :
    Calls Tryz.prog 169 #[.string s, .string cs] w fun e w' => e = .returned (.string ⟨(Lib.trimS s.data.toList cs.data.toList).toArray⟩) ∧ Below w.heap.size w w' :=
  Any.strings_Trim_laid Tryz.lays160 (by kernel_rfl) s cs w (by omega) (by omega) (ascii_of_all ha)

theorem dropWhile_nil {p : UInt8 → Bool} {l : List UInt8} : l.dropWhile p = [] ↔ ∀ x ∈ l, p x = true := by
  induction l with
  | nil => simp
  | cons y l ih =>
    cases h : p y with
    | true => simp [h, ih]
    | false => simp [h]

theorem trimS_nil (l cs : List UInt8) : Lib.trimS l cs = [] ↔ l.all (cs.contains ·) = true := by
  unfold Lib.trimS Lib.trimLeftS Lib.trimRightS
  constructor
  · intro h
    have h1 : ∀ x ∈ (l.reverse.dropWhile (cs.contains ·)), cs.contains x = true := by
      have := dropWhile_nil.1 h
      simpa using this
    cases hd : l.reverse.dropWhile (cs.contains ·) with
    | nil =>
      have := dropWhile_nil.1 hd
      rw [List.all_eq_true]
      intro x hx
      exact this x (by simpa using hx)
    | cons y t =>
      have h2 := h1 y (by rw [hd]; simp)
      have h3 := List.head_dropWhile_not (p := (cs.contains ·)) (l := l.reverse) (by rw [hd]; simp)
      simp only [hd, List.head_cons] at h3
      rw [h3] at h2; cases h2
  · intro h
    rw [List.all_eq_true] at h
    have : l.reverse.dropWhile (cs.contains ·) = [] := dropWhile_nil.2 (fun x hx => h x (by simpa using hx))
    rw [this]; rfl

theorem toList_mk (l : List UInt8) : (⟨l.toArray⟩ : ByteArray).toList = l := by rw [ByteArray.toList_eq]

set_option maxHeartbeats 400000 in
theorem made_c (s cs : ByteArray) (w : World) (hs : s.size ≤ 140737488355328) (hcs : cs.size ≤ 1000) (ha : (cs.data.toList.all fun b => decide (b.toNat < 128)) = true) :
    Calls Tryz.prog 123 #[.string s, .string cs] w fun e w' => e = .returned (.bool (allB (cs.data.toList.contains ·) s)) ∧ Below w.heap.size w w' := by
  cases h : allB (cs.data.toList.contains ·) s with
  | true =>
    have h2 : (⟨(Lib.trimS s.data.toList cs.data.toList).toArray⟩ : ByteArray) = ⟨#[]⟩ := by rw [(trimS_nil _ _).2 h]
    have H := Lib.hid h2
    clear h2 h
    go_enter Tryz.func123, Tryz.ntmps123
    go_wp2_with fail
    refine (trim_c s cs _ hs hcs ha).mono ?_
    rintro e w' ⟨rfl, hb⟩
    rw [H.out]
    go_wp2
    go_ret
    exact ⟨rfl, hb⟩
  | false =>
    have h2 : (⟨(Lib.trimS s.data.toList cs.data.toList).toArray⟩ : ByteArray).toList.isEmpty = false := by
      rw [toList_mk]
      cases he : Lib.trimS s.data.toList cs.data.toList with
      | nil => rw [(trimS_nil _ _).1 he |> (show _ → allB (cs.data.toList.contains ·) s = true from id)] at h; cases h
      | cons y t => rfl
    have H := Lib.hid h2
    clear h2 h
    go_enter Tryz.func123, Tryz.ntmps123
    go_wp2_with fail
    refine (trim_c s cs _ hs hcs ha).mono ?_
    rintro e w' ⟨rfl, hb⟩
    generalize (⟨(Lib.trimS s.data.toList cs.data.toList).toArray⟩ : ByteArray) = t at H ⊢
    have h2 := H.out
    go_wp2
    go_ret
    exact ⟨rfl, hb⟩

set_option maxHeartbeats 400000 in
theorem long_c (s : ByteArray) (lo hi : Int) (w : World) (hs : s.size ≤ 140737488355328) :
    Calls Tryz.prog 25 #[.string s, .int .i64 lo, .int .i64 hi] w fun e w' => e = .returned (.bool (decide (lo ≤ s.size) && decide ((s.size : Int) ≤ hi))) ∧ w = w' := by
  by_cases h1 : lo ≤ (s.size : Int)
  all_goals
    go_enter Tryz.func25, Tryz.ntmps25
    go_wp2
    go_ret
    exact ⟨ret_bool (by first | (simp [h1]; done) | (simp; omega)), rfl⟩
end Go.Proofs.YtmofncdjhdnoiaaGreatDoor

/- The shelf contracts that these proofs use, laid at this translation. -/
namespace Go.Proofs
open Go.Shelf

end Go.Proofs

/- The shelf contracts that these proofs use, laid at this translation. -/
namespace Go.Proofs
open Go.Shelf
def Tryz.laysNm216_ren : Go.Shelf.Ren := ⟨fun | 16 => 38 | n => n, fun | 24 => 59 | 9 => 9 | 4 => 4 | n => n, fun | n => n⟩
theorem Tryz.laysNm216 : Go.Proofs.Lays2.n16 Tryz.prog Tryz.laysNm216_ren := {
  mixed := by kernel_rfl
  f16 := Tryz.func38.trans (congrArg some (by kernel_rfl))
  t4 := Tryz.underlying4
  a4 := Tryz.isAgg4
  z4 := Tryz.sizeOf4
  v4 := Tryz.zeroValue4
  t9 := Tryz.underlying9
  a9 := Tryz.isAgg9
  z9 := Tryz.sizeOf9
  v9 := Tryz.zeroValue9
  t24 := Tryz.underlying59
  a24 := Tryz.isAgg59
  z24 := Tryz.sizeOf59
  v24 := Tryz.zeroValue59
  i9 := by kernel_rfl }
open Go.RowKit Go.Lib in
theorem Tryz.slices_Clone_string (b off n c : Nat) (zs : List ByteArray) (w : World) (hz : n ≤ zs.length) (hbig : n * 16 ≤ 140737488355328) (hc : ∀ j, j < zs.length → w.cell? ⟨b, off + j, none⟩ = some (.string (zs.getD j ByteArray.empty))) :
    Calls Tryz.prog 38 #[.slice (some ⟨b, off, none⟩) n c] w fun e w' => ∃ v', e = .returned v' ∧ w'.ownsRow w.heap.size 9 1 v' n ((zs.take n).map (Value.string)) ∧ v' ≠ .slice none 0 0 ∧ Below w.heap.size w w' := Any.slices_Clone_string Tryz.laysNm216 b off n c zs w hz hbig hc
def Tryz.laysNm224_ren : Go.Shelf.Ren := ⟨fun | 24 => 37 | n => n, fun | 24 => 59 | 9 => 9 | 3 => 3 | 4 => 4 | 0 => 0 | n => n, fun | n => n⟩
theorem Tryz.laysNm224 : Go.Proofs.Lays2.n24 Tryz.prog Tryz.laysNm224_ren := {
  mixed := by kernel_rfl
  f24 := Tryz.func37.trans (congrArg some (by kernel_rfl))
  t0 := Tryz.underlying0
  a0 := Tryz.isAgg0
  z0 := Tryz.sizeOf0
  v0 := Tryz.zeroValue0
  t3 := Tryz.underlying3
  a3 := Tryz.isAgg3
  z3 := Tryz.sizeOf3
  v3 := Tryz.zeroValue3
  t4 := Tryz.underlying4
  a4 := Tryz.isAgg4
  z4 := Tryz.sizeOf4
  v4 := Tryz.zeroValue4
  t9 := Tryz.underlying9
  a9 := Tryz.isAgg9
  z9 := Tryz.sizeOf9
  v9 := Tryz.zeroValue9
  t24 := Tryz.underlying59
  a24 := Tryz.isAgg59
  z24 := Tryz.sizeOf59
  v24 := Tryz.zeroValue59
  i9 := by kernel_rfl }
open Go.RowKit Go.Lib Go.Sort in
theorem Tryz.slices_Delete_string (blk off cap i j : Nat) (zs : List (List UInt8)) (w : World) (hH : Holds encStr w blk off zs.toArray) (hcap : zs.length ≤ cap) (hm : cap ≤ 9223372036854775807) (hij : i ≤ j) (hj : j ≤ zs.length) :
    Calls Tryz.prog 37 #[.slice (some ⟨blk, off, none⟩) zs.length cap, .int .i64 i, .int .i64 j] w fun e w' => e = .returned (.slice (some ⟨blk, off, none⟩) (zs.length - (j - i)) cap) ∧ ∃ q, w' = putRow encStr (Sort.ahead w q) blk off (zs.take i ++ zs.drop j ++ List.replicate (j - i) []).toArray := Any.slices_Delete_string Tryz.laysNm224 blk off cap i j zs w hH hcap hm hij hj
end Go.Proofs

/- slices.Clone, slices.Delete and slices.Insert of texts, in rows of one's own. -/
namespace Go.Proofs.YtmofncdjhdnoiaaGreatDoor
set_option linter.unusedVariables false
open Go.RowKit Go.Sort

def inRen : Go.Shelf.Ren := ⟨fun | 22 => 39 | 17 => 174 | 29 => 77 | 30 => 78 | 36 => 134 | n => n, fun | 24 => 59 | 9 => 9 | 3 => 3 | 4 => 4 | 0 => 0 | n => n, fun | n => n⟩
theorem inLays : Lays2.n22 Tryz.prog inRen where
  mixed := by kernel_rfl
  f17 := Tryz.func174.trans (congrArg some (by kernel_rfl))
  f22 := Tryz.func39.trans (congrArg some (by kernel_rfl))
  f29 := Tryz.func77.trans (congrArg some (by kernel_rfl))
  f30 := Tryz.func78.trans (congrArg some (by kernel_rfl))
  f36 := Tryz.func134.trans (congrArg some (by kernel_rfl))
  t0 := Tryz.underlying0
  a0 := Tryz.isAgg0
  z0 := Tryz.sizeOf0
  v0 := Tryz.zeroValue0
  t3 := Tryz.underlying3
  a3 := Tryz.isAgg3
  z3 := Tryz.sizeOf3
  v3 := Tryz.zeroValue3
  t4 := Tryz.underlying4
  a4 := Tryz.isAgg4
  z4 := Tryz.sizeOf4
  v4 := Tryz.zeroValue4
  t9 := Tryz.underlying9
  a9 := Tryz.isAgg9
  z9 := Tryz.sizeOf9
  v9 := Tryz.zeroValue9
  t24 := Tryz.underlying59
  a24 := Tryz.isAgg59
  z24 := Tryz.sizeOf59
  v24 := Tryz.zeroValue59
  i9 := by kernel_rfl

/-- A row told by its block and its cells. -/
theorem Own.ofCells {w : World} {base lo g cap : Nat} {e : TypeId} {l : List ByteArray} {cur : Array Value} (hg : w.heap[g]? = some (.cells cur e (0, 0))) (hb : base ≤ g) (h1 : l.length ≤ cap) (h2 : cap ≤ maxLen) (h3 : cur.size = cap)
    (h : ∀ k x, l[k]? = some x → w.cell? ⟨g, k, none⟩ = some (.string x)) : Own strR w base lo e l (.slice (some ⟨g, 0, none⟩) l.length cap) := by
  have hc := (str_cells hg).1
  refine ⟨l.map .string, ⟨by rw [List.length_map]; show _ = _ * 1; omega, .inr ⟨g, cap, cur, rfl, hb, hg, h1, h2, by rw [h3]; show _ = _ * 1; omega, ?_⟩⟩, by rw [List.length_map]; show _ = _ * 1; omega, fun k x hx => ?_⟩
  · apply List.ext_getElem?
    intro k
    rw [List.getElem?_take, List.getElem?_map]
    by_cases hk : k < l.length
    · rw [if_pos (by show k < l.length * 1; omega), List.getElem?_eq_getElem hk, Array.getElem?_toList, ← hc, h k _ (List.getElem?_eq_getElem hk)]
      rfl
    · rw [if_neg (by show ¬ k < l.length * 1; omega), List.getElem?_eq_none (by omega)]
      rfl
  · show ((l.map Value.string).drop (k * 1)).take 1 = [.string x]
    have hk := (List.getElem?_eq_some_iff.1 hx).1
    rw [Nat.mul_one, List.drop_eq_getElem_cons (by simpa using hk), List.take_succ_cons, List.take_zero, List.getElem_map]
    congr 2
    exact (List.getElem?_eq_some_iff.1 hx).2
/-- .. and the other way. -/
theorem Own.toCells {w : World} {base lo g n cap : Nat} {e : TypeId} {l : List ByteArray} (h : Own strR w base lo e l (.slice (some ⟨g, 0, none⟩) n cap)) :
    ∃ cur, w.heap[g]? = some (.cells cur e (0, 0)) ∧ base ≤ g ∧ l.length = n ∧ l.length ≤ cap ∧ cap ≤ maxLen ∧ cur.size = cap ∧ ∀ k x, l[k]? = some x → w.cell? ⟨g, k, none⟩ = some (.string x) := by
  have hcell := fun k hk => Own.cellAt (enc := fun s : ByteArray => [.string s]) (hn := fun _ => rfl) h k hk 0 (by decide)
  obtain ⟨xs, ho, hl⟩ := h
  rcases ho.2 with ⟨hv, _⟩ | ⟨g', cap', cur, hv, hb, hg, h1, h2, h3, h4⟩
  · cases hv
  · injection hv with hv1 hv2 hv3
    injection hv1 with hv1
    injection hv1 with hv1
    subst hv1; subst hv3
    refine ⟨cur, hg, hb, hv2.symm, h1, h2, by rw [h3]; show _ * 1 = _; omega, fun k x hx => ?_⟩
    have := (hcell k (List.getElem?_eq_some_iff.1 hx).1).1
    rw [Nat.mul_one, Nat.add_zero] at this
    rw [this, (List.getElem?_eq_some_iff.1 hx).2]
    rfl
theorem cells_setCell {w : World} {b o : Nat} {e : TypeId} {u : Value} {cur : Array Value} (h : w.heap[b]? = some (.cells cur e (0, 0))) : ∃ cur', (w.setCell ⟨b, o, none⟩ u).heap[b]? = some (.cells cur' e (0, 0)) ∧ cur'.size = cur.size :=
  ⟨cur.setIfInBounds o u, by simp [World.setCell, Array.getElem?_modify, h], by simp⟩
theorem cells_setCells {b : Nat} {e : TypeId} : ∀ (vs : List Value) (o : Nat) (w : World) (cur : Array Value), w.heap[b]? = some (.cells cur e (0, 0)) → ∃ cur', (w.setCells b o vs).heap[b]? = some (.cells cur' e (0, 0)) ∧ cur'.size = cur.size
  | [], _, _, cur, h => ⟨cur, h, rfl⟩
  | v :: r, o, w, cur, h => by
    obtain ⟨c1, h1, e1⟩ := cells_setCell (o := o) (u := v) h
    obtain ⟨c2, h2, e2⟩ := cells_setCells r (o + 1) _ c1 h1
    exact ⟨c2, h2, e2.trans e1⟩
theorem cells_putRow {w : World} {b o : Nat} {e : TypeId} {d : Array (List UInt8)} {cur : Array Value} (h : w.heap[b]? = some (.cells cur e (0, 0))) : ∃ cur', (putRow encStr w b o d).heap[b]? = some (.cells cur' e (0, 0)) ∧ cur'.size = cur.size := by
  refine ⟨putCells encStr o d cur, ?_, by simp [putCells]⟩
  simp [putRow, mapBlock, Array.getElem?_modify, h, onCells]

/-- slices.Clone of a row that is not empty. -/
theorem cloneS_c {F : Nat → Prop} (l : List ByteArray) (v : Value) (w : World) (h : Sli strR w F l v) (h0 : 0 < l.length) (hl : l.length ≤ 1000000000) :
    Calls Tryz.prog 38 #[v] w (fun e w' => ∃ v', e = .returned v' ∧ Own strR w' w.heap.size w.heap.size 9 l v' ∧ v' ≠ .slice none 0 0 ∧ Below w.heap.size w w') := by
  obtain ⟨A, c, rfl, hc1, hc2, h3⟩ := h
  obtain ⟨b, off, cs, rfl, hb, hlay, hc⟩ := h3 h0
  have hcs : ∀ k x, l[k]? = some x → cs[k]? = some (Value.string x) := fun k x hx => by
    have hz : (cs.drop (k * 1)).take 1 = [.string x] := hlay.2 k x hx
    rw [Nat.mul_one] at hz
    have := congrArg (fun q : List Value => q[0]?) hz
    simpa using this
  refine (Tryz.slices_Clone_string b off l.length c l w (Nat.le_refl _) (by omega) fun j hj => ?_).mono ?_
  · refine hc j _ ?_
    rw [hcs j _ (List.getElem?_eq_getElem hj)]
    congr 2
    rw [List.getD_eq_getElem?_getD, List.getElem?_eq_getElem hj]
    rfl
  · rintro e w' ⟨v', rfl, hown, hne, hbel⟩
    rw [List.take_of_length_le (Nat.le_refl _)] at hown
    refine ⟨v', rfl, ⟨_, hown, by rw [List.length_map]; show _ = _ * 1; omega, fun k x hx => ?_⟩, hne, hbel⟩
    show ((l.map Value.string).drop (k * 1)).take 1 = [.string x]
    have hk := (List.getElem?_eq_some_iff.1 hx).1
    rw [Nat.mul_one, List.drop_eq_getElem_cons (by simpa using hk), List.take_succ_cons, List.take_zero, List.getElem_map]
    congr 2
    exact (List.getElem?_eq_some_iff.1 hx).2
def DelS (base lo g cap : Nat) (l : List ByteArray) (w : World) (e : Ending) (w' : World) : Prop := e = .returned (.slice (some ⟨g, 0, none⟩) l.length cap) ∧ Own strR w' base lo 9 l (.slice (some ⟨g, 0, none⟩) l.length cap) ∧ w.grownBy w' (some g)
/-- slices.Delete of one text, in place. -/
theorem delS_c (base lo g n cap i : Nat) (l : List ByteArray) (w : World) (h : Own strR w base lo 9 l (.slice (some ⟨g, 0, none⟩) n cap)) (hi : i < l.length) :
    Calls Tryz.prog 37 #[.slice (some ⟨g, 0, none⟩) n cap, .int .i64 i, .int .i64 (i + 1)] w (DelS base lo g cap (l.take i ++ l.drop (i + 1)) w) := by
  obtain ⟨cur, hg, hb, rfl, h1, h2, h3, hcell⟩ := h.toCells
  obtain ⟨zs, hzs⟩ : ∃ zs : List (List UInt8), zs = l.map fun x => x.data.toList := ⟨_, rfl⟩
  have henc : ∀ x : ByteArray, encStr x.data.toList = .string x := fun x => by cases x; rfl
  have hzl : zs.length = l.length := by rw [hzs, List.length_map]
  have hH : Holds encStr w g 0 zs.toArray := fun j hj => by
    have hj2 : j < l.length := by simpa [hzl] using hj
    refine ⟨?_, (str_cells hg).2 _⟩
    rw [Nat.zero_add, hcell j _ (List.getElem?_eq_getElem hj2), getElem!_pos _ j (by simpa [hzl] using hj2)]
    subst hzs
    simp only [List.getElem_toArray, List.getElem_map, henc]
  have hc63 : cap ≤ 9223372036854775807 := by unfold maxLen at h2; omega
  have hk := Tryz.slices_Delete_string g 0 cap i (i + 1) zs w hH (by omega) hc63 (by omega) (by omega)
  rw [hzl] at hk
  refine hk.mono ?_
  rintro e w' ⟨rfl, q, hw⟩
  have hll : (l.take i ++ l.drop (i + 1)).length = l.length - (i + 1 - i) := by simp; omega
  obtain ⟨D, hD⟩ : ∃ D, (zs.take i ++ zs.drop (i + 1) ++ List.replicate (i + 1 - i) []).toArray = D := ⟨_, rfl⟩
  have hDs : D.size = zs.toArray.size := by rw [← hD]; simp; omega
  rw [hD] at hw
  have hHq : Holds encStr (Sort.ahead w q) g 0 zs.toArray := hH
  obtain ⟨cur', hg', hs'⟩ := cells_putRow (w := Sort.ahead w q) (o := 0) (d := D) hg
  rw [← hw] at hg'
  have hown : Own strR w' base lo 9 (l.take i ++ l.drop (i + 1)) (.slice (some ⟨g, 0, none⟩) (l.take i ++ l.drop (i + 1)).length cap) := by
    refine Own.ofCells hg' hb (by omega) h2 (by omega) fun k x hx => ?_
    have hkl := (List.getElem?_eq_some_iff.1 hx).1
    have hkD : k < D.size := by rw [hDs]; simp [hzl]; omega
    have := cell?_putRow encStr (Sort.ahead w q) g 0 zs.toArray D hHq hDs k hkD
    rw [Nat.zero_add, ← hw] at this
    rw [this, getElem!_pos D k hkD]
    have hx2 : D[k]? = some x.data.toList := by
      rw [← hD, List.getElem?_toArray, hzs, ← List.map_take, ← List.map_drop, ← List.map_append, List.getElem?_append_left (by simpa using hkl), List.getElem?_map, hx]
      rfl
    rw [Array.getElem?_eq_getElem hkD] at hx2
    injection hx2 with hx2
    rw [hx2, henc]
  rw [hll] at hown
  rw [show DelS base lo g cap (l.take i ++ l.drop (i + 1)) w _ w' = _ from rfl]
  unfold DelS
  rw [hll]
  refine ⟨rfl, hown, ?_⟩
  subst hw
  refine ⟨rfl, rfl, rfl, by simp [putRow, mapBlock, Sort.ahead], fun j _ hne => ?_⟩
  have : g ≠ j := fun e => hne (by rw [e])
  simp [putRow, mapBlock, Sort.ahead, Array.getElem?_modify, this]
def InsS (base lo g : Nat) (l : List ByteArray) (w : World) (e : Ending) (w' : World) : Prop := ∃ g' cap', e = .returned (.slice (some ⟨g', 0, none⟩) l.length cap') ∧ Own strR w' base lo 9 l (.slice (some ⟨g', 0, none⟩) l.length cap') ∧ w.grownBy w' (some g) ∧ (some g = some g' ∨ g' = w.heap.size)
/-- slices.Insert of one text. -/
theorem insS_c (base lo g n cap i vb : Nat) (x : ByteArray) (l : List ByteArray) (w : World) (h : Own strR w base lo 9 l (.slice (some ⟨g, 0, none⟩) n cap)) (hi : i < l.length) (hl : l.length ≤ 1000000000) (hv : w.heap[vb]? = some (.cells #[.string x] 9 (0, 0))) (hvg : vb ≠ g) :
    Calls Tryz.prog 39 #[.slice (some ⟨g, 0, none⟩) n cap, .int .i64 i, .slice (some ⟨vb, 0, none⟩) 1 1] w (InsS base lo g (l.take i ++ x :: l.drop i) w) := by
  obtain ⟨cur, hg, hb, rfl, h1, h2, h3, hcell⟩ := h.toCells
  have hc63 : cap ≤ 9223372036854775807 := by unfold maxLen at h2; omega
  obtain ⟨cs, hcs⟩ : ∃ cs : List Value, cs = l.map .string := ⟨_, rfl⟩
  have hcl : cs.length = l.length := by rw [hcs, List.length_map]
  have hcc : ∀ j v, cs[j]? = some v → w.cell? ⟨g, 0 + j, none⟩ = some v := fun j v hj => by
    rw [hcs, List.getElem?_map] at hj
    obtain ⟨y, hy, rfl⟩ := Option.map_eq_some_iff.1 hj
    rw [Nat.zero_add]
    exact hcell j y hy
  have hvs : ∀ j v, [Value.string x][j]? = some v → w.cell? ⟨vb, 0 + j, none⟩ = some v := fun j v hj => by
    rw [Nat.zero_add, (str_cells hv).1 j]
    cases j with
    | zero => exact hj
    | succ j => simp at hj
  have h1c : ∀ v ∈ cs, v.oneCell' = true := fun v hv => by
    rw [hcs] at hv
    obtain ⟨y, _, rfl⟩ := List.mem_map.1 hv
    rfl
  have h1v : ∀ v ∈ [Value.string x], v.oneCell' = true := fun v hv => by rw [List.mem_singleton.1 hv]; rfl
  have hll : (l.take i ++ x :: l.drop i).length = l.length + 1 := by simp; omega
  have hget : ∀ k y, (l.take i ++ x :: l.drop i)[k]? = some y → (k < i ∧ l[k]? = some y) ∨ (k = i ∧ y = x) ∨ (i < k ∧ k ≤ l.length ∧ l[k - 1]? = some y) := fun k y hk => by
    have hkl := (List.getElem?_eq_some_iff.1 hk).1
    rw [hll] at hkl
    by_cases c1 : k < i
    · rw [List.getElem?_append_left (by simp; omega), List.getElem?_take, if_pos c1] at hk
      exact .inl ⟨c1, hk⟩
    · rw [List.getElem?_append_right (by simp; omega), List.length_take, Nat.min_eq_left (by omega)] at hk
      by_cases c2 : k = i
      · subst c2
        rw [Nat.sub_self, List.getElem?_cons_zero] at hk
        exact .inr (.inl ⟨rfl, (Option.some.inj hk).symm⟩)
      · obtain ⟨d, hd⟩ : ∃ d, k - i = d + 1 := ⟨k - i - 1, by omega⟩
        rw [hd, List.getElem?_cons_succ, List.getElem?_drop, show i + d = k - 1 by omega] at hk
        exact .inr (.inr ⟨by omega, by omega, hk⟩)
  have hdrop : ∀ k y, i < k → k ≤ l.length → l[k - 1]? = some y → ∃ h : k - (i + 1) < (cs.drop i).length, (cs.drop i)[k - (i + 1)] = .string y := fun k y c1 c2 hy => by
    refine ⟨by rw [List.length_drop, hcl]; omega, ?_⟩
    have : (cs.drop i)[k - (i + 1)]? = some (.string y) := by
      rw [List.getElem?_drop, show i + (k - (i + 1)) = k - 1 by omega, hcs, List.getElem?_map, hy]
      rfl
    exact (List.getElem?_eq_some_iff.1 this).2
  by_cases hroom : l.length + 1 ≤ cap
  · have hsp : ∀ j, j < l.length + 1 → (w.cell? ⟨g, 0 + j, none⟩).isSome = true := fun j hj => by
      rw [Nat.zero_add, (str_cells hg).1 j, Array.getElem?_eq_getElem (by omega)]
      rfl
    refine (Any2.slices_Insert_string_shift inLays g 0 l.length cap i vb 0 1 1 cs [.string x] w hi (by decide) hroom hc63 hvg hcl rfl hcc hsp (fun j _ => (str_cells hg).2 _) hvs h1c h1v 9 9 1 cap (by simp [World.shape?, hv]) (by simp [World.shape?, hg, h3]) (by omega) ((str_cells hv).2 _) ((str_cells hv).2 _)).mono ?_
    rintro e w' ⟨rfl, rfl⟩
    obtain ⟨c1, hg1, hs1⟩ := cells_setCells (cs.drop i) (0 + (i + 1)) w.drew cur hg
    obtain ⟨c2, hg2, hs2⟩ := cells_setCells [.string x] (0 + i) _ c1 hg1
    refine ⟨g, cap, by rw [hll], Own.ofCells hg2 hb (by omega) h2 (by omega) fun k y hy => ?_, gbTrans (gbTrans (⟨rfl, rfl, rfl, Nat.le_refl _, fun _ _ _ => rfl⟩ : w.grownBy w.drew (some g)) (grown_setCells g _ _ _)) (grown_setCells g _ _ _), .inl rfl⟩
    rcases hget k y hy with ⟨c, hy⟩ | ⟨rfl, rfl⟩ | ⟨c, c', hy⟩
    · rw [World.cell?_setCells_out g _ _ _ _ (fun _ _ => .inl (by dsimp only; omega)), World.cell?_setCells_out g _ _ _ _ (fun _ _ => .inl (by dsimp only; omega))]
      exact hcell k y hy
    · have hc := World.cell?_setCells_in g [.string y] (0 + k) (w.drew.setCells g (0 + (k + 1)) (cs.drop k)) (fun t ht => by
        simp at ht; subst ht
        rw [(str_cells hg1).1, Array.getElem?_eq_getElem (by omega)]; rfl) 0 (by simp)
      simpa using hc
    · obtain ⟨hlt, hd⟩ := hdrop k y c c' hy
      rw [World.cell?_setCells_out g _ _ _ _ (fun _ _ => .inr (by simp; omega))]
      have hc := World.cell?_setCells_in g (cs.drop i) (0 + (i + 1)) w.drew (fun t ht => by
        show (w.cell? _).isSome = true
        rw [show 0 + (i + 1) + t = 0 + (i + 1 + t) by omega]
        rw [List.length_drop, hcl] at ht
        exact hsp _ (by omega)) (k - (i + 1)) hlt
      rw [show 0 + (i + 1) + (k - (i + 1)) = k by omega, hd] at hc
      exact hc
  · refine (Any2.slices_Insert_string_grow inLays g 0 l.length cap i vb 0 1 1 cs [.string x] w hi (by decide) h1 (by omega) (by omega) hcl rfl hcc hvs h1c h1v).mono ?_
    rintro e w' ⟨rfl, rfl⟩
    obtain ⟨G, hG⟩ : ∃ G, grownCap w (l.length + 1) cap (inRen.t 9) = G := ⟨_, rfl⟩
    have hGn : l.length + 1 ≤ G := by rw [← hG]; exact grownCap_ge w _ _ _
    have hG63 : G ≤ maxLen := by rw [← hG]; exact grownCap_le_maxLen w _ _ _ (by unfold maxLen; omega)
    rw [hG]
    obtain ⟨ROW, hROW⟩ : ∃ ROW : Array Value, (cs.take i).toArray ++ Builtin.zeroCells (Value.string ⟨#[]⟩).cells (l.length + 1 - i) ++ Builtin.zeroCells (Value.string ⟨#[]⟩).cells (G - (l.length + 1)) = ROW := ⟨_, rfl⟩
    rw [hROW]
    have hRs : ROW.size = G := by
      rw [← hROW]
      simp [Builtin.zeroCells, Value.cells]
      omega
    have hN : ((w.alloc (.cells ROW (inRen.t 9))).drew).heap[w.heap.size]? = some (.cells ROW 9 (0, 0)) := heap_alloc_new w _
    obtain ⟨c1, hg1, hs1⟩ := cells_setCells [.string x] i _ ROW hN
    have hg1' : ((w.alloc (.cells ROW (inRen.t 9))).drew.setCells w.heap.size i [.string x]).drew.heap[w.heap.size]? = some (.cells c1 9 (0, 0)) := hg1
    obtain ⟨c2, hg2, hs2⟩ := cells_setCells (cs.drop i) (i + 1) _ c1 hg1'
    have hgl := heap_lt hg
    refine ⟨w.heap.size, G, by rw [hll], Own.ofCells hg2 (by omega) (by omega) hG63 (by omega) fun k y hy => ?_, ?_, .inr rfl⟩
    · rcases hget k y hy with ⟨c, hy⟩ | ⟨rfl, rfl⟩ | ⟨c, c', hy⟩
      · rw [World.cell?_setCells_out _ _ _ _ _ (fun _ _ => .inl (by dsimp only; omega))]
        show (World.setCells _ _ _ _).cell? _ = _
        rw [World.cell?_setCells_out _ _ _ _ _ (fun _ _ => .inl (by dsimp only; omega)), (str_cells hN).1, ← hROW, Array.append_assoc, Array.getElem?_append_left (by simp [hcl]; omega), List.getElem?_toArray, List.getElem?_take, if_pos c, hcs, List.getElem?_map, hy]
        rfl
      · rw [World.cell?_setCells_out _ _ _ _ _ (fun _ _ => .inl (by dsimp only; omega))]
        show (World.setCells _ _ _ _).cell? _ = _
        have hc := World.cell?_setCells_in w.heap.size [.string y] k ((w.alloc (.cells ROW (inRen.t 9))).drew) (fun t ht => by
          rw [(str_cells hN).1, Array.getElem?_eq_getElem (by simp at ht; omega)]; rfl) 0 (by simp)
        simpa using hc
      · obtain ⟨hlt, hd⟩ := hdrop k y c c' hy
        have hc := World.cell?_setCells_in w.heap.size (cs.drop i) (i + 1) _ (fun t ht => by
          rw [(str_cells hg1').1, Array.getElem?_eq_getElem (by rw [List.length_drop, hcl] at ht; omega)]; rfl) (k - (i + 1)) hlt
        rw [show (i + 1) + (k - (i + 1)) = k by omega, hd] at hc
        exact hc
    · have q1 := (grown_setCells w.heap.size [.string x] i (w.alloc (.cells ROW (inRen.t 9))).drew)
      have q2 := (grown_setCells w.heap.size (cs.drop i) (i + 1) ((w.alloc (.cells ROW (inRen.t 9))).drew.setCells w.heap.size i [.string x]).drew)
      have q3 : (w.alloc (.cells ROW (inRen.t 9))).drew.heap.size = w.heap.size + 1 := by simp
      have q4 : ((w.alloc (.cells ROW (inRen.t 9))).drew.setCells w.heap.size i [.string x]).drew.heap.size = ((w.alloc (.cells ROW (inRen.t 9))).drew.setCells w.heap.size i [.string x]).heap.size := rfl
      have q5 := q1.size
      have q6 := q2.size
      refine ⟨q2.os.trans q1.os, q2.tape.trans q1.tape, q2.output.trans q1.output, by omega, fun j hj _ => ?_⟩
      rw [q2.block j (by omega) (fun e => by injection e; omega)]
      exact (q1.block j (by omega) (fun e => by injection e; omega)).trans (Below.heap_alloc w _ j hj)
end Go.Proofs.YtmofncdjhdnoiaaGreatDoor

/- Small laws on strings and bytes. No program in sight. -/
namespace Go.Proofs.YtmofncdjhdnoiaaGreatDoor
set_option linter.unusedVariables false
open Go.RowKit

end Go.Proofs.YtmofncdjhdnoiaaGreatDoor

/- The program's codes. -/
namespace Go.Proofs.YtmofncdjhdnoiaaGreatDoor
set_option linter.unusedVariables false
open Go.RowKit Go.Sort

end Go.Proofs.YtmofncdjhdnoiaaGreatDoor

/- A text cut at a byte, in plain words. No program in sight. -/
namespace Go.Proofs.YtmofncdjhdnoiaaGreatDoor
set_option linter.unusedVariables false
open Go.RowKit

/-- Where a byte stands first; the length where it does not stand. -/
def cutI (s : ByteArray) (c : UInt8) : Nat := s.data.toList.findIdx (· == c)
def cutF (s : ByteArray) (c : UInt8) : Bool := decide (cutI s c < s.size)
def cutA (s : ByteArray) (c : UInt8) : ByteArray := s.extract 0 (cutI s c)
def cutB (s : ByteArray) (c : UInt8) : ByteArray := s.extract (cutI s c + 1) s.size
theorem cutI_le (s : ByteArray) (c : UInt8) : cutI s c ≤ s.size := by
  have := List.findIdx_le_length (p := (· == c)) (xs := s.data.toList)
  simpa [cutI] using this
theorem cutA_size (s : ByteArray) (c : UInt8) : (cutA s c).size ≤ s.size := by unfold cutA; rw [ByteArray.size_extract]; omega
theorem cutB_size (s : ByteArray) (c : UInt8) : (cutB s c).size ≤ s.size := by unfold cutB; rw [ByteArray.size_extract]; omega
theorem idxB_no {s : ByteArray} {c : UInt8} (h : ¬ cutI s c < s.size) : Lib.indexByte s.data.toList c = -1 := by
  by_cases h1 : Lib.indexByte s.data.toList c = -1
  · exact h1
  · exfalso
    have hg := Lib.indexByte_ge s.data.toList c
    obtain ⟨o, ho⟩ := Int.eq_ofNat_of_zero_le (show 0 ≤ Lib.indexByte s.data.toList c by omega)
    obtain ⟨h2, _⟩ := Lib.indexByte_some ho
    obtain ⟨hlt, h3⟩ := List.getElem?_eq_some_iff.1 h2
    exact h (by
      have h4 : cutI s c < s.data.toList.length := List.findIdx_lt_length_of_exists ⟨c, by rw [← h3]; exact List.getElem_mem hlt, by simp⟩
      simpa using h4)
theorem idxB_yes {s : ByteArray} {c : UInt8} (h : cutI s c < s.size) : Lib.indexByte s.data.toList c = (cutI s c : Int) := by
  have hl : cutI s c < s.data.toList.length := by simpa using h
  have hg := Lib.indexByte_ge s.data.toList c
  have hc : s.data.toList[cutI s c] = c := by have := List.findIdx_getElem (p := (· == c)) (w := hl); exact eq_of_beq this
  have hne : Lib.indexByte s.data.toList c ≠ -1 := fun e => Lib.indexByte_none e (cutI s c) (by rw [List.getElem?_eq_getElem hl, hc])
  obtain ⟨o, ho⟩ := Int.eq_ofNat_of_zero_le (show 0 ≤ Lib.indexByte s.data.toList c by omega)
  obtain ⟨h2, h3⟩ := Lib.indexByte_some ho
  obtain ⟨hlt, h4⟩ := List.getElem?_eq_some_iff.1 h2
  rcases Nat.lt_trichotomy o (cutI s c) with h5 | h5 | h5
  · have := List.not_of_lt_findIdx (p := (· == c)) (xs := s.data.toList) h5
    simp [h4] at this
  · rw [ho, h5]
  · exact absurd (by rw [List.getElem?_eq_getElem hl, hc]) (h3 _ h5)
theorem findIdx_app {l r : List UInt8} {c : UInt8} (h : ∀ x ∈ l, x ≠ c) : (l ++ c :: r).findIdx (· == c) = l.length := by
  induction l with
  | nil => simp [List.findIdx_cons]
  | cons x l ih =>
    have hx : (x == c) = false := by simpa using h x (by simp)
    simp only [List.cons_append, List.findIdx_cons, hx, cond_false, List.length_cons]
    rw [ih (fun y hy => h y (by simp [hy]))]
theorem extract_list' (s : ByteArray) (a b : Nat) : (s.extract a b).data.toList = (s.data.toList.drop a).take (b - a) := by simp
theorem ba_ext {a b : ByteArray} (h : a.data.toList = b.data.toList) : a = b := by
  rcases a with ⟨⟨a⟩⟩; rcases b with ⟨⟨b⟩⟩; simp at h; rw [h]
/-- A text that is put together is cut where it was put together. -/
theorem cut_app {a b : ByteArray} {c : UInt8} (h : ∀ x ∈ a.data.toList, x ≠ c) : cutI (a ++ ⟨#[c]⟩ ++ b) c = a.size ∧ cutF (a ++ ⟨#[c]⟩ ++ b) c = true ∧ cutA (a ++ ⟨#[c]⟩ ++ b) c = a ∧ cutB (a ++ ⟨#[c]⟩ ++ b) c = b := by
  have e : (a ++ ⟨#[c]⟩ ++ b).data.toList = a.data.toList ++ (c :: b.data.toList) := by simp
  have hs : (a ++ ⟨#[c]⟩ ++ b).size = a.size + 1 + b.size := by rw [ByteArray.size_append, ByteArray.size_append]; rfl
  have hl : a.data.toList.length = a.size := by simp
  have hi : cutI (a ++ ⟨#[c]⟩ ++ b) c = a.size := by
    unfold cutI
    rw [e, findIdx_app h, hl]
  refine ⟨hi, by unfold cutF; rw [hi, hs]; simp; omega, ?_, ?_⟩
  · unfold cutA; rw [hi]; apply ba_ext; rw [extract_list', e]; simp [hl]
  · unfold cutB; rw [hi, hs]; apply ba_ext; rw [extract_list', e]
    rw [show a.data.toList ++ c :: b.data.toList = (a.data.toList ++ [c]) ++ b.data.toList by simp, List.drop_left' (by simp), List.take_of_length_le (by simp)]
end Go.Proofs.YtmofncdjhdnoiaaGreatDoor

/- strings.Cut at one byte, for every string. -/
namespace Go.Proofs.YtmofncdjhdnoiaaGreatDoor
set_option linter.unusedVariables false
open Go.RowKit

set_option maxHeartbeats 400000 in
theorem cutL_c (s : ByteArray) (c : UInt8) (w : World) (hs : s.size ≤ 140737488355328) :
    Calls Tryz.prog 184 #[.string s, .string ⟨#[c]⟩] w fun e w' => e = .returned (.tuple #[.string (cutA s c), .string (cutB s c), .bool (cutF s c)]) ∧ ∃ n, w' = w.drewN n := by
  by_cases h : cutI s c < s.size
  · have HI := Lib.hid (idxB_yes h)
    obtain ⟨i, hi⟩ : ∃ i, cutI s c = i := ⟨_, rfl⟩
    have HV := Lib.hid (show cutA s c = s.extract 0 i ∧ cutB s c = s.extract (i + 1) s.size ∧ cutF s c = true by unfold cutA cutB cutF; rw [← hi]; exact ⟨rfl, rfl, decide_eq_true h⟩)
    rw [hi] at h HI
    clear hi
    have p0 : (0 : Int) ≤ (i : Int) := by omega
    have p1 : (i : Int) ≤ (s.size : Int) := by omega
    have p2 : (i : Int) + 1 ≤ (s.size : Int) := by omega
    have p3 : (0 : Int) ≤ (i : Int) + 1 := by omega
    have p4 : ((i : Int) + 1).toNat = i + 1 := by omega
    have p5 : IntKind.i64.wrap ((i : Int) + 1) = (i : Int) + 1 := IntWalk.i64_in _ (by omega)
    have p6 : i ≤ s.size := by omega
    have p7 : i + 1 ≤ s.size := by omega
    go_enter Tryz.func184, Tryz.ntmps184
    go_wp2_with fail
    refine (Tryz.stringslite_Index_one s c _).mono ?_
    rintro e w' ⟨rfl, rfl⟩
    rw [HI.out]
    go_wp2
    go_quiet (fail)
    go_wp2
    refine bodyPost_ret (v := .tuple #[.string (cutA s c), .string (cutB s c), .bool (cutF s c)]) ?_ rfl ⟨rfl, _, rfl⟩
    rw [HV.out.1, HV.out.2.1, HV.out.2.2]
    simp [results, go_sem]
  · have HI := Lib.hid (idxB_no h)
    have hi : cutI s c = s.size := by have := cutI_le s c; omega
    have HV := Lib.hid (show cutA s c = s ∧ cutB s c = ⟨#[]⟩ ∧ cutF s c = false by
      unfold cutA cutB cutF; rw [hi]
      exact ⟨ba_ext (by simp), ba_ext (by simp), by simp⟩)
    clear hi h
    go_enter Tryz.func184, Tryz.ntmps184
    go_wp2_with fail
    refine (Tryz.stringslite_Index_one s c _).mono ?_
    rintro e w' ⟨rfl, rfl⟩
    rw [HI.out]
    go_wp2
    refine bodyPost_ret (v := .tuple #[.string (cutA s c), .string (cutB s c), .bool (cutF s c)]) ?_ rfl ⟨rfl, 0, rfl⟩
    rw [HV.out.1, HV.out.2.1, HV.out.2.2]
    simp [results, go_sem]
set_option maxHeartbeats 400000 in
theorem cut_c (s : ByteArray) (c : UInt8) (w : World) (hs : s.size ≤ 140737488355328) :
    Calls Tryz.prog 148 #[.string s, .string ⟨#[c]⟩] w fun e w' => e = .returned (.tuple #[.string (cutA s c), .string (cutB s c), .bool (cutF s c)]) ∧ ∃ n, w' = w.drewN n := by
  go_enter Tryz.func148, Tryz.ntmps148
  go_wp2_with fail
  refine (cutL_c s c _ hs).mono ?_
  rintro e w' ⟨rfl, ⟨n, rfl⟩⟩
  go_wp2
  exact bodyPost_ret (v := .tuple #[.string (cutA s c), .string (cutB s c), .bool (cutF s c)]) (by simp [results, go_sem]) rfl ⟨rfl, _, rfl⟩
end Go.Proofs.YtmofncdjhdnoiaaGreatDoor

/- Numerals read by the program and by the reference. -/
namespace Go.Proofs.YtmofncdjhdnoiaaGreatDoor
set_option linter.unusedVariables false
open Go.RowKit Go.Sort

/-- The table of powers of ten lies where it was laid. -/
def PowLaid (w : World) : Prop := Lib.TabIs Tryz.prog w "internal/strconv.uint64pow10" .u64 Lib.pow10Tab
theorem pow_below {w w' : World} {B : Nat} (h : PowLaid w) (hb : Below B w w') (hB : w.heap.size ≤ B) : PowLaid w' :=
  Joins.tab_stays (g := 2) (by kernel_rfl) h hb hB
theorem below_grow {w w' : World} {k : Nat} {os : Array Obj} (h : w' = grow (w.drewN k) os) : Below w.heap.size w w' := by
  subst h
  exact below_regrown w (w.drawn + k) os
theorem itoa_c (n : Int) (w : World) (hn : okI n) (hp : PowLaid w) : Calls Tryz.prog 21 #[.int .i64 n] w fun e w' => e = .returned (.string ⟨(Lib.itoa n).toArray⟩) ∧ Below w.heap.size w w' :=
  (Any.strconv_Itoa Tryz.laysM171 n hn.1 hn.2 w hp).mono fun _ _ ⟨he, k, os, hw⟩ => ⟨he, below_grow hw⟩

end Go.Proofs.YtmofncdjhdnoiaaGreatDoor

/- The generator's changed texts and frames. -/
namespace Go.Proofs.YtmofncdjhdnoiaaGreatDoor
set_option linter.unusedVariables false
open Go.RowKit Go.Sort

theorem enc_size {n : Nat} (h : n < 256) : (Utf8.encode (n : Int)).size ≤ 4 := by
  have : ((List.range 256).all fun n => decide ((Utf8.encode (n : Int)).size ≤ 4)) = true := by decide +kernel
  rw [List.all_eq_true] at this
  simpa using this n (List.mem_range.2 h)
set_option maxHeartbeats 1000000 in
theorem Changed_c (sb : Nat) (k : Int) (t u : ByteArray) (w : World) (hs : Str w sb k) (hk : k ≤ 4000000000000000000) (ht : t.size ≤ 1000000000) (hu : u.size ≤ 1000000000) :
    Calls Tryz.prog 41 #[.pointer (some ⟨sb, 0, none⟩), .string t, .string u] w (Took sb k 3 (isStr (fun x => x.size ≤ t.size + u.size + 8)) w) := by
  have h0 := hs.nonneg
  have S0 := Lib.hid hs; clear hs
  cases he : t.toList.isEmpty with
  | true =>
    go_enter Tryz.func41, Tryz.ntmps41
    go_wp2
    go_ret
    exact ⟨_, k, rfl, ⟨u, by omega, rfl⟩, by omega, S0.out, gRefl _ _⟩
  | false =>
    have hts : 0 < t.size := by
      rw [ByteArray.toList_eq] at he
      cases hd : t.data.toList with
      | nil => rw [hd] at he; cases he
      | cons y l => show 0 < t.data.size; rw [← Array.length_toList, hd]; simp
    cases he2 : u.toList.isEmpty with
    | true =>
      go_enter Tryz.func41, Tryz.ntmps41
      go_wp2
      go_ret
      exact ⟨_, k, rfl, ⟨u, by omega, rfl⟩, by omega, S0.out, gRefl _ _⟩
    | false =>
      have hus : 0 < u.size := by
        rw [ByteArray.toList_eq] at he2
        cases hd : u.data.toList with
        | nil => rw [hd] at he2; cases he2
        | cons y l => show 0 < u.data.size; rw [← Array.length_toList, hd]; simp
      go_enter Tryz.func41, Tryz.ntmps41
      go_wp2_with fail
      refine (next_c sb k t.size _ S0.out (by omega) (by omega) (by omega)).mono ?_
      rintro e w1 ⟨v1, k1, rfl, ⟨x1, hx10, hx11, rfl⟩, hk1, hs1, hg1⟩
      have S1 := Lib.hid hs1; have G1 := Lib.hid hg1; clear hs1 hg1
      obtain ⟨i, rfl⟩ := Int.eq_ofNat_of_zero_le hx10
      go_wp2_with fail
      refine (next_c sb k1 u.size _ S1.out (by omega) (by omega) (by omega)).mono ?_
      rintro e w2 ⟨v2, k2, rfl, ⟨x2, hx20, hx21, rfl⟩, hk2, hs2, hg2⟩
      have S2 := Lib.hid hs2; have G2 := Lib.hid (gTrans G1.out hg2); clear hs2 hg2
      obtain ⟨j, rfl⟩ := Int.eq_ofNat_of_zero_le hx20
      have hi : i < t.size := by omega
      have hj : j < u.size := by omega
      clear hx10 hx11 hx20 hx21
      go_wp2_with fail
      refine (next_c sb k2 3 _ S2.out (by omega) (by omega) (by omega)).mono ?_
      rintro e w3 ⟨v3, k3, rfl, ⟨x3, hx30, hx31, rfl⟩, hk3, hs3, hg3⟩
      have S3 := Lib.hid hs3; have G3 := Lib.hid (gTrans G2.out hg3); clear hs3 hg3
      have q1 : IntKind.i64.wrap ((i : Int) + 1) = (i : Int) + 1 := IntWalk.i64_in _ (by omega)
      have hi1 : (i : Int) + 1 ≤ (t.size : Int) := by omega
      have hn1 : ((i : Int) + 1).toNat = i + 1 := by omega
      have hle : i + 1 ≤ t.size := by omega
      have hle0 : i ≤ t.size := by omega
      have hu8 : u[j].toNat < 256 := u[j].toNat_lt
      generalize u[j].toNat = n8 at hu8 ⊢
      have hz := enc_size hu8
      generalize hE : Utf8.encode (n8 : Int) = E at hz
      have HE := Lib.hid hE
      have hcv : ∀ W, (convert 21 9 (.int .i32 (n8 : Int))).run Tryz.prog W = .ok (.string E) W := fun W => by
        rw [run_convert_int_string W _ _ _ _ (by kernel_rfl) Tryz.underlying9, hE]
      clear hE
      rcases (show x3 = 0 ∨ x3 = 1 ∨ x3 = 2 by omega) with rfl | rfl | rfl
      · go_wp2
        go_quiet (fail)
        go_wp2
        go_ret
        refine ⟨_, k3, rfl, ⟨_, ?_, rfl⟩, by omega, S3.out.drewN _, grown_drewN G3.out _⟩
        show _ ≤ _
        simp; omega
      · go_wp2
        go_quiet (fail)
        go_wp2
        go_ret
        refine ⟨_, k3, rfl, ⟨_, ?_, rfl⟩, by omega, S3.out.drewN _, grown_drewN G3.out _⟩
        show _ ≤ _
        simp; omega
      · go_wp2
        go_quiet (fail)
        go_wp2
        go_ret
        refine ⟨_, k3, rfl, ⟨_, ?_, rfl⟩, by omega, S3.out.drewN _, grown_drewN G3.out _⟩
        show _ ≤ _
        simp; omega
end Go.Proofs.YtmofncdjhdnoiaaGreatDoor

/- The generator's numbers of scenes and setups. -/
namespace Go.Proofs.YtmofncdjhdnoiaaGreatDoor
set_option linter.unusedVariables false
open Go.RowKit Go.Sort

theorem oneOf {l : List ByteArray} {x : ByteArray} {n : Nat} (h : (l.all fun x => decide (x.size ≤ n)) = true) (hx : x ∈ l) : x.size ≤ n := by
  rw [List.all_eq_true] at h; simpa using h x hx
end Go.Proofs.YtmofncdjhdnoiaaGreatDoor

/- Digests: the program's and the reference's. -/
namespace Go.Proofs.YtmofncdjhdnoiaaGreatDoor
set_option linter.unusedVariables false
open Go.RowKit Go.Sort

end Go.Proofs.YtmofncdjhdnoiaaGreatDoor

/- The program's names of files, and copies checked. -/
namespace Go.Proofs.YtmofncdjhdnoiaaGreatDoor
set_option linter.unusedVariables false
open Go.RowKit

theorem idx_set (set : List UInt8) (c : UInt8) : (set.contains c = true → 0 ≤ Lib.indexByte set c) ∧ (set.contains c = false → Lib.indexByte set c < 0) := by
  have hg := Lib.indexByte_ge set c
  constructor
  · intro h
    by_cases h1 : Lib.indexByte set c = -1
    · have hm : c ∈ set := by simpa using h
      obtain ⟨k, hk, e⟩ := List.mem_iff_getElem.1 hm
      exact absurd (by rw [List.getElem?_eq_getElem hk, e]) (Lib.indexByte_none h1 k)
    · omega
  · intro h
    by_cases h1 : 0 ≤ Lib.indexByte set c
    · obtain ⟨o, ho⟩ := Int.eq_ofNat_of_zero_le h1
      obtain ⟨h2, _⟩ := Lib.indexByte_some ho
      have : c ∈ set := List.mem_of_getElem? h2
      simp at h; exact absurd this h
    · omega
/-- strings.IndexByte: below 0 just where the byte is none of the set. -/
theorem idxB_c (set : ByteArray) (c : UInt8) (w : World) : Calls Tryz.prog 132 #[.string set, .int .u8 (c.toNat : Int)] w fun e w' => e = .returned (.int .i64 (Lib.indexByte set.data.toList c)) ∧ w = w' := by
  refine (Tryz.strings_IndexByte set (c.toNat : Int) w).mono ?_
  rintro e w' ⟨he, hw⟩
  refine ⟨?_, hw.symm⟩
  rw [he]
  have : ((c.toNat : Int)).toNat.toUInt8 = c := by simp
  rw [this]

end Go.Proofs.YtmofncdjhdnoiaaGreatDoor

/- Lists of copies checked, and manifests made. -/
namespace Go.Proofs.YtmofncdjhdnoiaaGreatDoor
set_option linter.unusedVariables false
open Go.RowKit

end Go.Proofs.YtmofncdjhdnoiaaGreatDoor

/- Slices compared and looked through; the reference's names of files. -/
namespace Go.Proofs.YtmofncdjhdnoiaaGreatDoor
set_option linter.unusedVariables false
open Go.RowKit

theorem strAt {w : World} {F : Nat → Prop} {l : List ByteArray} {A : Option Addr} {n c : Nat} (h : Sli strR w F l (.slice A n c)) (k : Nat) (hk : k < l.length) : ∃ b off, A = some ⟨b, off, none⟩ ∧ F b ∧ w.cell? ⟨b, off + k, none⟩ = some (.string l[k]) := by
  obtain ⟨b, off, a, e, hb, hr, hc⟩ := h.at_ k hk
  have ha : a = [.string l[k]] := hr
  subst ha
  refine ⟨b, off, e, hb, ?_⟩
  have h := hc 0 _ rfl
  rw [show off + k * strR.n + 0 = off + k from by show off + k * 1 + 0 = _; omega] at h
  exact h
theorem eq_take_next {α : Type} {a b : List α} {k : Nat} (h1 : k < a.length) (h2 : k < b.length) (h : a.take k = b.take k) (e : a[k] = b[k]) : a.take (k + 1) = b.take (k + 1) := by
  rw [List.take_succ_eq_append_getElem h1, List.take_succ_eq_append_getElem h2, h, e]
theorem ne_at {α : Type} {a b : List α} {k : Nat} (h1 : k < a.length) (h2 : k < b.length) (e : ¬ a[k] = b[k]) : ¬ a = b := by
  intro h; subst h; exact e rfl

instance : DecidableEq Copied := fun a b => decidable_of_iff (a.eqB b = true) Copied.eqB_iff
end Go.Proofs.YtmofncdjhdnoiaaGreatDoor

/- What the library has laid, kept beside a stream; Atoi and Itoa there. -/
namespace Go.Proofs.YtmofncdjhdnoiaaGreatDoor
set_option linter.unusedVariables false
open Go.RowKit Go.Sort

theorem pow_block {w w' : World} (h : PowLaid w) (hk : w'.heap[2]? = w.heap[2]?) : PowLaid w' := by
  unfold PowLaid Lib.TabIs World.var? at *
  rw [show Tryz.prog.globalNamed "internal/strconv.uint64pow10" = some 2 by kernel_rfl] at *
  simp only [Option.bind_some] at *
  rw [hk]; exact h
theorem pow_lt {w : World} (h : PowLaid w) : 2 < w.heap.size := by
  unfold PowLaid Lib.TabIs World.var? at h
  rw [show Tryz.prog.globalNamed "internal/strconv.uint64pow10" = some 2 by kernel_rfl] at h
  simp only [Option.bind_some] at h
  rcases Nat.lt_or_ge 2 w.heap.size with h' | h'
  · exact h'
  · simp [Array.getElem?_eq_none h'] at h
/-- The library's errors and its table of powers lie as they were laid, below the stream's block. -/
def LaidS (sb : Nat) (w : World) : Prop := ErrsLaid w ∧ PowLaid w ∧ 8 < sb ∧ 9 < sb ∧ 2 < sb
section
variable {w w' : World} {sb : Nat}
theorem LaidS.start (he : ErrsLaid w) (hp : PowLaid w) : LaidS w.heap.size w := ⟨he, hp, he.2.2.1, he.2.2.2, pow_lt hp⟩
theorem LaidS.keep (h : LaidS sb w) (hs : w.heap.size ≤ w'.heap.size) (hk : ∀ b, b < sb → w'.heap[b]? = w.heap[b]?) : LaidS sb w' :=
  ⟨h.1.keep hs (World.cell?_of_block (hk _ h.2.2.1)) (World.cell?_of_block (hk _ h.2.2.2.1)), pow_block h.2.1 (hk _ h.2.2.2.2), h.2.2⟩
theorem LaidS.grown (h : LaidS sb w) (hlt : sb < w.heap.size) (hg : w.grownBy w' (some sb)) : LaidS sb w' := h.keep hg.size fun b hb => hg.block b (by omega) (by simp; omega)
theorem LaidS.below {B : Nat} (h : LaidS sb w) (hb : Below B w w') (hB : sb ≤ B) : LaidS sb w' := h.keep hb.size fun b hlt => hb.block b (by omega)
theorem LaidS.alloc (h : LaidS sb w) (hlt : sb ≤ w.heap.size) (o : Obj) : LaidS sb (w.alloc o) := h.keep (by simp) fun b hb => Below.heap_alloc w o b (by omega)
theorem LaidS.errs (h : LaidS sb w) : ErrsLaid w := h.1
theorem LaidS.pow (h : LaidS sb w) : PowLaid w := h.2.1
end
def AtoiO (s : ByteArray) (w : World) (e : Ending) (w' : World) : Prop := ∃ n ev, okI n ∧ AtoiP s n ev ∧ e = .returned (.tuple #[.int .i64 n, ev]) ∧ Below w.heap.size w w'
theorem atoi_o (s : ByteArray) (w : World) (hs : s.size ≤ 140737488355328) (hl : ErrsLaid w) : Calls Tryz.prog 171 #[.string s] w (AtoiO s w) := by
  obtain ⟨⟨t1, p1, h1⟩, ⟨t2, p2, h2⟩, _, _⟩ := hl
  cases h : Lib.atoiAll s.data.toList
  case ok v =>
    refine (Any.strconv_Atoi_ok Tryz.laysC172 s (by omega) v h w).mono ?_
    rintro e w' ⟨he, hw⟩
    refine ⟨v, _, atoi_bd h, .inl ⟨h, rfl⟩, he, ?_⟩
    rcases hw with rfl | ⟨t, rfl⟩
    · exact Below.refl _ _
    · exact Joins.below_bytesWorld _ _ _ _ (Nat.le_refl _)
  · refine (Any.strconv_Atoi_syntax Tryz.laysC172 s (by omega) h _ w h1 (.inr ⟨_, _, rfl⟩)).mono ?_
    rintro e w' ⟨N, he, _, _, hb⟩
    exact ⟨_, _, by unfold okI; omega, .inr ⟨(fun v hv => by rw [h] at hv; cases hv), _, _, rfl⟩, he, hb⟩
  · refine (Any.strconv_Atoi_range Tryz.laysC172 s (by omega) h _ w h2 (.inr ⟨_, _, rfl⟩)).mono ?_
    rintro e w' ⟨N, he, _, _, hb⟩
    exact ⟨_, _, by unfold okI Lib.atoiSat; split <;> omega, .inr ⟨(fun v hv => by rw [h] at hv; cases hv), _, _, rfl⟩, he, hb⟩
theorem itoa_sz (n : Int) (h : okI n) : (⟨(Lib.itoa n).toArray⟩ : ByteArray).size ≤ 21 := by
  have := Lib.itoa_length_le n h.1 h.2
  show (Lib.itoa n).toArray.size ≤ 21
  simpa using this
end Go.Proofs.YtmofncdjhdnoiaaGreatDoor

/- The number of a scene, and a setup, in plain words. -/
namespace Go.Proofs.YtmofncdjhdnoiaaGreatDoor
set_option linter.unusedVariables false
open Go.RowKit

def digB (c : UInt8) : Bool := decide (48 ≤ c.toNat) && decide (c.toNat ≤ 57)
def capB (c : UInt8) : Bool := decide (65 ≤ c.toNat) && decide (c.toNat ≤ 90)
def numK (s : ByteArray) : Nat := (s.data.toList.takeWhile digB).length
def numB (s : ByteArray) : Bool :=
  (s.data.toList.drop (numK s)).all capB && decide (s.size - numK s ≤ 5) && !Lib.hasSuffix (s.data.toList.drop (numK s)) [65]
    && (if s.data.toList.take (numK s) = [48] then decide (numK s < s.size) else decide (1 ≤ numK s) && decide (numK s ≤ 3) && decide (s.data.toList.head? ≠ some 48))

theorem takeWhile_len {p : UInt8 → Bool} {l : List UInt8} {k : Nat} (h : ∀ x ∈ l.take k, p x = true) (hk : k ≤ l.length) (he : ∀ hlt : k < l.length, p l[k] = false) : (l.takeWhile p).length = k := by
  induction l generalizing k with
  | nil => simp at hk; simp [hk]
  | cons y l ih =>
    cases k with
    | zero => have := he (by simp); simp at this; simp [this]
    | succ k =>
      have h0 : p y = true := h y (by simp)
      have := ih (k := k) (fun x hx => h x (by simp [hx])) (by simpa using hk) (fun hlt => he (Nat.succ_lt_succ hlt))
      simp [h0, this]
theorem numK_eq {s : ByteArray} {k : Nat} (h : ∀ x ∈ s.data.toList.take k, digB x = true) (hk : k ≤ s.size) (he : ∀ hlt : k < s.size, digB s[k] = false) : numK s = k :=
  takeWhile_len h (by simpa using hk) (fun hlt => he (by simpa using hlt))
theorem extract_list (s : ByteArray) (a b : Nat) : (s.extract a b).data.toList = (s.data.toList.drop a).take (b - a) := by
  simp
theorem extract_end (s : ByteArray) (k : Nat) : (s.extract k s.size).data.toList = s.data.toList.drop k := by
  rw [extract_list, List.take_of_length_le]
  simp

theorem numB_size {s : ByteArray} (h : numB s = true) : s.size ≤ 8 := by
  simp only [numB, Bool.and_eq_true, decide_eq_true_eq] at h
  obtain ⟨⟨⟨_, h1⟩, _⟩, h2⟩ := h
  split at h2
  · rename_i h3
    have := congrArg List.length h3
    simp at this; omega
  · simp only [Bool.and_eq_true, decide_eq_true_eq] at h2; omega

end Go.Proofs.YtmofncdjhdnoiaaGreatDoor

/- Plain texts, in plain words: joined words against no blanks beside blanks. No program in sight. -/
namespace Go.Proofs.YtmofncdjhdnoiaaGreatDoor
set_option linter.unusedVariables false
open Go.RowKit

/-- The words of a text: what stands between blanks. -/
def wordsA : List UInt8 → List UInt8 → List (List UInt8)
  | [], cur => if cur = [] then [] else [cur]
  | c :: l, cur => if c = 32 then (if cur = [] then wordsA l [] else cur :: wordsA l []) else wordsA l (cur ++ [c])
def joinW : List (List UInt8) → List UInt8
  | [] => []
  | [w] => w
  | w :: v :: r => w ++ 32 :: joinW (v :: r)
/-- No blank behind a blank, none at the end. -/
def okA : Bool → List UInt8 → Bool
  | prev, [] => !prev
  | prev, c :: l => if c = 32 then (if prev then false else okA true l) else okA false l
theorem joinW_cons (w : List UInt8) (r : List (List UInt8)) : joinW (w :: r) = if r = [] then w else w ++ 32 :: joinW r := by
  cases r with
  | nil => rfl
  | cons v r => rfl
theorem wordsA_ne (l : List UInt8) : ∀ cur, cur ≠ [] → wordsA l cur ≠ [] := by
  induction l with
  | nil => intro cur h; simp [wordsA, h]
  | cons c l ih =>
    intro cur h
    unfold wordsA
    by_cases hc : c = 32
    · rw [if_pos hc, if_neg h]; simp
    · rw [if_neg hc]; exact ih _ (by simp)
theorem join_len (l : List UInt8) : ∀ cur, (joinW (wordsA l cur)).length ≤ cur.length + l.length := by
  induction l with
  | nil => intro cur; by_cases h : cur = [] <;> simp [wordsA, h, joinW]
  | cons c l ih =>
    intro cur
    unfold wordsA
    by_cases hc : c = 32
    · rw [if_pos hc]
      have h1 := ih []
      by_cases h : cur = []
      · rw [if_pos h]; simp at h1 ⊢; omega
      · rw [if_neg h, joinW_cons]
        split
        · simp
        · simp at h1 ⊢; omega
    · rw [if_neg hc]
      have := ih (cur ++ [c])
      simp at this ⊢; omega
theorem join_ok (l : List UInt8) : (∀ cur, cur ≠ [] → (joinW (wordsA l cur) = cur ++ l ↔ okA false l = true)) ∧ ((wordsA l [] ≠ [] ∧ joinW (wordsA l []) = l) ↔ okA true l = true) := by
  induction l with
  | nil =>
    refine ⟨fun cur h => ?_, ?_⟩
    · simp [wordsA, h, joinW, okA]
    · simp [wordsA, okA]
  | cons c l ih =>
    obtain ⟨ihA, ihB⟩ := ih
    refine ⟨fun cur h => ?_, ?_⟩
    · unfold wordsA okA
      by_cases hc : c = 32
      · rw [if_pos hc, if_neg h, if_pos hc, joinW_cons]
        simp only [Bool.false_eq_true, if_false]
        rw [← ihB]
        by_cases hw : wordsA l [] = []
        · rw [if_pos hw]; simp [hw]
        · rw [if_neg hw, hc]
          simp [hw]
      · rw [if_neg hc, if_neg hc, ← ihA (cur ++ [c]) (by simp)]; simp
    · unfold wordsA okA
      by_cases hc : c = 32
      · rw [if_pos hc, if_pos rfl, if_pos hc]
        simp only [if_true, Bool.false_eq_true, iff_false, not_and]
        intro _ h
        have := join_len l []
        rw [h] at this
        simp at this
        omega
      · rw [if_neg hc, if_neg hc, List.nil_append, ← ihA [c] (by simp)]
        constructor
        · rintro ⟨_, h⟩; exact h
        · intro h; exact ⟨wordsA_ne l _ (by simp), h⟩
def plainL (l : List UInt8) : Bool := decide (l = []) || okA true l
/-- What the reference asks. -/
theorem plain_join (l : List UInt8) : joinW (wordsA l []) = l ↔ plainL l = true := by
  unfold plainL
  cases l with
  | nil => simp [wordsA, joinW]
  | cons c l =>
    have h := (join_ok (c :: l)).2
    simp only [Bool.or_eq_true, decide_eq_true_eq, reduceCtorEq, false_or]
    rw [← h]
    constructor
    · intro he
      refine ⟨fun hw => ?_, he⟩
      rw [hw] at he; cases he
    · exact fun h => h.2
def dblB : List UInt8 → Bool
  | [] => false
  | [_] => false
  | a :: b :: l => (a == 32 && b == 32) || dblB (b :: l)
def sufB : List UInt8 → Bool
  | [] => false
  | [a] => a == 32
  | _ :: b :: l => sufB (b :: l)
/-- What the program asks. -/
theorem okA_prog (l : List UInt8) : ∀ prev c, okA prev (c :: l) = (!dblB (c :: l) && !(prev && c == 32) && !sufB (c :: l)) := by
  induction l with
  | nil =>
    intro prev c
    by_cases hc : c = 32
    · cases prev <;> simp [okA, dblB, sufB, hc]
    · cases prev <;> simp [okA, dblB, sufB, hc]
  | cons d l ih =>
    intro prev c
    by_cases hc : c = 32
    · cases prev
      · rw [okA, if_pos hc]
        simp only [Bool.false_eq_true, if_false]
        rw [ih true d]
        have e : (c == 32) = true := by rw [hc]; rfl
        simp only [dblB, sufB, e, Bool.true_and, Bool.false_and, Bool.not_false, Bool.and_true]
        generalize dblB (d :: l) = x
        generalize sufB (d :: l) = y
        generalize (d == 32) = z
        cases x <;> cases y <;> cases z <;> rfl
      · have e : (c == 32) = true := by rw [hc]; rfl
        simp [okA, hc]
    · rw [okA, if_neg hc, ih false d]
      have e : (c == 32) = false := beq_eq_false_iff_ne.2 hc
      simp only [dblB, sufB, e, Bool.false_and, Bool.and_false, Bool.not_false, Bool.and_true, Bool.false_or]
theorem contains_cons (b : UInt8) (l sub : List UInt8) : Lib.contains (b :: l) sub = (sub.isPrefixOf (b :: l) || Lib.contains l sub) := by
  unfold Lib.contains
  have hg := Lib.index_ge l sub
  rw [Lib.index]
  cases h : sub.isPrefixOf (b :: l) with
  | true => simp
  | false =>
    simp only [Bool.false_eq_true, if_false, Bool.false_or]
    by_cases h1 : Lib.index l sub = -1
    · rw [h1]; rfl
    · rw [if_neg (by simpa using h1), decide_eq_decide]; omega
theorem beqC (a b : UInt8) : (a == b) = (b == a) := by
  rw [show (a == b) = decide (a = b) from rfl, show (b == a) = decide (b = a) from rfl, decide_eq_decide]
  exact ⟨fun h => h.symm, fun h => h.symm⟩
theorem dbl_contains (l : List UInt8) : Lib.contains l [32, 32] = dblB l := by
  induction l with
  | nil => rfl
  | cons a l ih =>
    rw [contains_cons, ih]
    cases l with
    | nil => simp [List.isPrefixOf, dblB]
    | cons b l =>
      simp only [List.isPrefixOf, dblB, Bool.and_true]
      have e1 : ((32 : UInt8) == a) = (a == 32) := beqC 32 a
      have e2 : ((32 : UInt8) == b) = (b == 32) := beqC 32 b
      rw [e1, e2]
theorem suf_has (l : List UInt8) : Lib.hasSuffix l [32] = sufB l := by
  unfold Lib.hasSuffix
  rw [Bool.eq_iff_iff, List.isSuffixOf_iff_suffix]
  induction l with
  | nil => simp [sufB]
  | cons a l ih =>
    rw [List.suffix_cons_iff, ih]
    cases l with
    | nil => simp [sufB]; exact eq_comm
    | cons b l => simp [sufB]
theorem pre_has (l : List UInt8) : Lib.hasPrefix l [32] = decide (l.head? = some 32) := by
  unfold Lib.hasPrefix
  cases l with
  | nil => rfl
  | cons a l =>
    show ((32 : UInt8) == a && List.isPrefixOf [] l) = _
    rw [show List.isPrefixOf ([] : List UInt8) l = true by cases l <;> rfl, Bool.and_true, List.head?_cons]
    rw [show ((32 : UInt8) == a) = decide ((32 : UInt8) = a) from rfl, decide_eq_decide]
    constructor
    · intro h; rw [h]
    · intro h; injection h with h; exact h.symm
/-- The two ways to ask for no blanks beside blanks. -/
theorem plain_prog (l : List UInt8) : plainL l = (!Lib.hasPrefix l [32] && !Lib.hasSuffix l [32] && !Lib.contains l [32, 32]) := by
  rw [dbl_contains, suf_has, pre_has]
  unfold plainL
  cases l with
  | nil => rfl
  | cons c l =>
    rw [okA_prog]
    simp only [reduceCtorEq, decide_false, Bool.false_or, List.head?_cons, Option.some.injEq, Bool.true_and]
    have e : (c == 32) = decide (c = 32) := rfl
    generalize dblB (c :: l) = x
    generalize sufB (c :: l) = y
    by_cases hc : c = 32
    · simp [hc]
    · have e : (c == 32) = false := beq_eq_false_iff_ne.2 hc
      simp only [e, hc, decide_false]; cases x <;> cases y <;> rfl
/-- All bytes from 32 to 126. -/
def prB (c : UInt8) : Bool := decide (32 ≤ c.toNat) && decide (c.toNat ≤ 126)
def plainB (s : ByteArray) : Bool := allB prB s && plainL s.data.toList
end Go.Proofs.YtmofncdjhdnoiaaGreatDoor

/- Reading slates, in plain words. No program in sight. -/
namespace Go.Proofs.YtmofncdjhdnoiaaGreatDoor
set_option linter.unusedVariables false
open Go.RowKit

theorem empty_iff (s : ByteArray) : s.toList.isEmpty = true ↔ s = ⟨#[]⟩ := by
  rw [ByteArray.toList_eq]
  constructor
  · intro h; exact ba_ext (by simpa using h)
  · rintro rfl; rfl
end Go.Proofs.YtmofncdjhdnoiaaGreatDoor

/- Takes as they lie in memory. No program in sight. -/
namespace Go.Proofs.YtmofncdjhdnoiaaGreatDoor
set_option linter.unusedVariables false
open Go.RowKit

end Go.Proofs.YtmofncdjhdnoiaaGreatDoor

