/- Texts packed: AtoiW, BldW, BldK, LawA, RefA, Shelf2, Str, CodeW, CutS, CutW, DecW, GenC, GenE, HexW, FilesW, FilesX, FilesY, EqI, LaidW, NumS, PlainS, SlateS, TkS, NextS, TkT, TlS, TtS, WdS. -/
import Derived.Test.YtkhegeobdcemkaaGreatDoorRows
import Derived.Test.YtkhegeobdcemkaaGreatDoorSc01
import Derived.Test.YtkhegeobdcemkaaGreatDoorSc02
import Derived.Lib.SmallJoins
import Derived.Shelf.Strconv.AtoiAll
import Derived.Shelf.Strings.BuilderK
import Derived.Shelf.Strings.SlTrimAscii
import Derived.Shelf.Strings.Builder1
import Derived.Shelf.Strings.Builder2
import Derived.Shelf.Strings.OnBuilder
import Derived.Shelf.Strings.Trim
import Derived.Shelf.Small.Utf8
import Derived.Shelf.Small.Strs
import Derived.Shelf.Small.Wraps
import Derived.Shelf.Strings.BuilderF
import Derived.Shelf.Strings.Builder2Cap
import Derived.Shelf.Strconv.Atoi
import Derived.Shelf.Strconv.Itoa0
import Derived.Shelf.Strconv.Itoa1
import Derived.Shelf.LaysM
import Derived.Shelf.Strconv.Itoa2
import Derived.Shelf.Strconv.Itoa3
import Derived.Shelf.Strconv.AtoiErrFast
import Derived.Shelf.Strconv.ParseIntEmpty
import Derived.Shelf.Strconv.AtoiFail
import Derived.Shelf.Strconv.Clone
import Derived.Shelf.Strconv.SyntaxError
import Derived.Shelf.LaysC
import Derived.Shelf.Strconv.ToError
import Derived.Shelf.Strconv.Lower
import Derived.Shelf.Strconv.ParseUint10
import Derived.Shelf.Strconv.ParseUint10Empty
import Derived.Shelf.Strconv.ParseUint10Any
import Derived.Shelf.Strconv.ParseInt10
import Derived.Shelf.Strconv.AtoiLong
import Derived.Shelf.Strconv.AtoiInnerAll
import Derived.Shelf.Strconv.RangeError
import Derived.Shelf.Strconv.ToErrorRange
import Derived.Shelf.Strconv.ErrVarAll
import Derived.Shelf.Strings.Search1
import Derived.Shelf.Strings.Search2
import Derived.Shelf.Strings.Search3
import Derived.Shelf.Strings.Cut
import Derived.Shelf.Strings.Count
import Derived.Shelf.Strings.Shaped
import Derived.Shelf.Strings.LastIndex
import Derived.Shelf.Strings.LastIndexAll
import Derived.Shelf.Strings.Prefix
import Derived.Shelf.Strings.Split
import Derived.Shelf.Strings.Fields
import Derived.Shelf.Strings.SplitShaped
import Derived.Shelf.Unicode.Latin
import Derived.Shelf.Unicode.Decode
import Derived.Shelf.Strings.Runes
import Derived.Shelf.Strings.RuneCount
import Derived.Shelf.Strings.IndexAny
import Derived.Shelf.Strings.AsciiSet
import Derived.Shelf.Strings.IndexAnyAll
import Derived.Shelf.Strings.Explode
import Derived.Shelf.Bits.Mul64
import Derived.Shelf.Strings.Repeat
import Derived.Shelf.Unicode.DecodeSlow
import Derived.Shelf.Unicode.DecodeAny
import Derived.Shelf.Unicode.Is16White
import Derived.Shelf.Unicode.IsSpaceAny
import Derived.Shelf.Unicode.DecodeLast
import Derived.Shelf.Strings.FieldsFuncAny
import Derived.Shelf.Unicode.Is16Any
import Derived.Shelf.Unicode.Is32Any
import Derived.Shelf.Unicode.ExclAny
import Derived.Shelf.Strings.FieldsFuncGrows
import Derived.Shelf.Strings.BuilderCap
import Derived.Shelf.Slices.Turned
import Derived.Shelf.Slices.Equal
import Derived.Ground.Names2Prog
import Derived.Shelf.Slices.Clone
import Derived.Shelf.Slices.Delete
import Derived.Shelf.Slices.Empties2
import Derived.Ground.SlgnProg
import Derived.Shelf.SlicesE.Equal
import Derived.Test.YtkhegeobdcemkaaGreatDoorProg
import Derived.Laws.IdiomStrings
import Derived.Lib.QuietBelow
import Derived.BigQuiet
import Derived.Deep.RegionWith
import Derived.Lib.IndexLaws
import Derived.Laws.Bits64
import Derived.Laws.Bits64b
import Derived.Outline
import Derived.Deep.RegionHeld3
import Derived.Deep.AppendLies
import Derived.Deep.QuietTactic
import Derived.Lib.ItoaLen
import Derived.Lib.Strings
import Derived.Lib.ItoaNum
import Derived.Lib.FieldsP
import Derived.Lib.IndexMore
import Derived.Lib.Slices
import Derived.RegionTactic
/- strconv.Atoi at every string: one contract with its three ends. -/
namespace Go.Proofs.YtkhegeobdcemkaaGreatDoor
set_option linter.unusedVariables false
open Go.RowKit

/-- The library's two errors lie where they were laid. -/
def ErrsLaid (w : World) : Prop := (∃ t p, w.cell? ⟨8, 0, none⟩ = some (.iface t p)) ∧ (∃ t p, w.cell? ⟨9, 0, none⟩ = some (.iface t p)) ∧ 8 < w.heap.size ∧ 9 < w.heap.size
theorem ErrsLaid.keep {w w' : World} (h : ErrsLaid w) (hs : w.heap.size ≤ w'.heap.size) (h1 : w'.cell? ⟨8, 0, none⟩ = w.cell? ⟨8, 0, none⟩) (h2 : w'.cell? ⟨9, 0, none⟩ = w.cell? ⟨9, 0, none⟩) : ErrsLaid w' :=
  ⟨by rw [h1]; exact h.1, by rw [h2]; exact h.2.1, by have := h.2.2.1; omega, by have := h.2.2.2; omega⟩
theorem ErrsLaid.below {w w' : World} {B : Nat} (h : ErrsLaid w) (hb : Below B w w') (hB : w.heap.size ≤ B) : ErrsLaid w' :=
  h.keep hb.size (hb.cell (Nat.lt_of_lt_of_le h.2.2.1 hB)) (hb.cell (Nat.lt_of_lt_of_le h.2.2.2 hB))

/-- How Atoi ends: the number and the error. -/
def AtoiP (s : ByteArray) (n : Int) (ev : Value) : Prop :=
  (Lib.atoiAll s.data.toList = .ok n ∧ ev = .nilIface) ∨ ((∀ v, Lib.atoiAll s.data.toList ≠ .ok v) ∧ ∃ t N, ev = .iface t (.pointer (some ⟨N, 0, none⟩)))
def AtoiR (s : ByteArray) (w : World) (e : Ending) (w' : World) : Prop := ∃ n ev, AtoiP s n ev ∧ e = .returned (.tuple #[.int .i64 n, ev]) ∧ Below w.heap.size w w'
theorem atoi_c (s : ByteArray) (w : World) (hs : s.size ≤ 140737488355328) (hl : ErrsLaid w) : Calls Tryz.prog 211 #[.string s] w (AtoiR s w) := by
  obtain ⟨⟨t1, p1, h1⟩, ⟨t2, p2, h2⟩, _, _⟩ := hl
  cases h : Lib.atoiAll s.data.toList
  case ok v =>
    refine (Any.strconv_Atoi_ok Tryz.laysC172 s (by omega) v h w).mono ?_
    rintro e w' ⟨he, hw⟩
    refine ⟨v, _, .inl ⟨h, rfl⟩, he, ?_⟩
    rcases hw with rfl | ⟨t, rfl⟩
    · exact Below.refl _ _
    · exact Joins.below_bytesWorld _ _ _ _ (Nat.le_refl _)
  · refine (Any.strconv_Atoi_syntax Tryz.laysC172 s (by omega) h _ w h1 (.inr ⟨_, _, rfl⟩)).mono ?_
    rintro e w' ⟨N, he, _, _, hb⟩
    exact ⟨_, _, .inr ⟨(fun v hv => by rw [h] at hv; cases hv), _, _, rfl⟩, he, hb⟩
  · refine (Any.strconv_Atoi_range Tryz.laysC172 s (by omega) h _ w h2 (.inr ⟨_, _, rfl⟩)).mono ?_
    rintro e w' ⟨N, he, _, _, hb⟩
    exact ⟨_, _, .inr ⟨(fun v hv => by rw [h] at hv; cases hv), _, _, rfl⟩, he, hb⟩
end Go.Proofs.YtkhegeobdcemkaaGreatDoor

/- strings.Builder written, and strings.Join: the library's contracts at this program. -/
namespace Go.Proofs.YtkhegeobdcemkaaGreatDoor
set_option linter.unusedVariables false
open Go.RowKit

/-- A builder of the call's own, whose block is B, that holds the bytes l. -/
def Bld (w : World) (B : Nat) (l : List UInt8) : Prop := Lib.IsBuilder 148 5 B B (Lib.byteCells l) w
theorem Bld.new (w : World) : Bld (w.alloc (.cells #[.pointer none, .slice none 0 0] 148)) w.heap.size [] := Lib.fresh_isBuilder _ _ w
theorem Bld.lt {w : World} {B : Nat} {l : List UInt8} (h : Bld w B l) : B < w.heap.size := by
  rcases h with h | h
  · exact h.lt
  · exact h.lt
theorem Bld.keep {w w' : World} {B : Nat} {l : List UInt8} (h : Bld w B l) (hk : ∀ b, B ≤ b → b < w.heap.size → w'.heap[b]? = w.heap[b]?) : Bld w' B l := by
  have one : ∀ p, Lib.BuilderAt 148 5 B B p (Lib.byteCells l) w → Lib.BuilderAt 148 5 B B p (Lib.byteCells l) w' := by
    rintro p ⟨hB, v, hb, ho, hne⟩
    refine ⟨hB, v, (hk B (Nat.le_refl _) (Array.getElem?_eq_some_iff.1 hb).1).trans hb, ⟨ho.1, ?_⟩, hne⟩
    rcases ho.2 with hn | ⟨g, cap, cur, rfl, hg0, hg, rest⟩
    · exact .inl hn
    · exact .inr ⟨g, cap, cur, rfl, hg0, (hk g hg0 (Array.getElem?_eq_some_iff.1 hg).1).trans hg, rest⟩
  rcases h with h | h
  · exact .inl (one _ h)
  · exact .inr (one _ h)
theorem Bld.below {w w' : World} {B : Nat} {l : List UInt8} (h : Bld w B l) (hb : Below w.heap.size w w') : Bld w' B l := h.keep fun b _ hlt => hb.block b hlt
theorem Bld.alloc {w : World} {B : Nat} {l : List UInt8} (h : Bld w B l) (o : Obj) : Bld (w.alloc o) B l := h.keep fun b _ hlt => Below.heap_alloc w o b hlt
theorem Bld.drew {w : World} {B : Nat} {l : List UInt8} (h : Bld w B l) : Bld w.drew B l := h
theorem write_c (B : Nat) (l : List UInt8) (s : ByteArray) (w : World) (h : Bld w B l) (hlen : l.length + s.size ≤ 140737488355328) :
    Calls Tryz.prog 117 #[.pointer (some ⟨B, 0, none⟩), .string s] w fun e w' => e = .returned (.tuple #[.int .i64 s.size, .nilIface]) ∧ (Bld w' B (l ++ s.data.toList) ∧ Below B w w') := by
  refine (Any.Builder_WriteString { Tryz.lays156 with } Tryz.Builder_Extra_156 B B (Lib.byteCells l) s w h (by rw [Lib.byteCells_length]; exact hlen) (Nat.le_of_lt h.lt)).mono ?_
  rintro e w' ⟨he, h1, h2⟩
  refine ⟨he, .inr ?_, h2⟩
  rw [Lib.strCells_eq, ← Lib.byteCells_append] at h1
  exact h1
theorem text_c (B : Nat) (l : List UInt8) (w : World) (h : Bld w B l) :
    Calls Tryz.prog 119 #[.pointer (some ⟨B, 0, none⟩)] w fun e w' => e = .returned (.string ⟨l.toArray⟩) ∧ Below B w w' :=
  Tryz.Builder_String_any B B l w h (Nat.le_of_lt h.lt)
/-- strings.Join of words in memory. -/
theorem join_c (l : List ByteArray) (sep : ByteArray) (v : Value) (F : Nat → Prop) (w : World) (hv : Sli strR w F l v) (hF : ∀ b, F b → b < w.heap.size) (hlen : (Lib.join (l.map (·.data.toList)) sep.data.toList).length ≤ 140737488355328) (hN : l.length ≤ 140737488355328) :
    Calls Tryz.prog 86 #[v, .string sep] w fun e w' => e = .returned (.string ⟨(Lib.join (l.map (·.data.toList)) sep.data.toList).toArray⟩) ∧ Below w.heap.size w w' := by
  obtain ⟨A, c, rfl, h1, h2, h3⟩ := hv
  by_cases h0 : 0 < l.length
  · obtain ⟨b, off, cs, rfl, hb, hl, hc⟩ := h3 h0
    refine Any.strings_Join Tryz.lays156 Tryz.Builder_Extra_156 b off c l sep w (fun j x hx => ?_) (hF b hb) hN h1 hlen
    have h4 : (cs.drop (j * 1)).take 1 = [.string x] := hl.2 j x hx
    refine hc j _ ?_
    have h5 : ((cs.drop (j * 1)).take 1)[0]? = some (.string x) := by rw [h4]; rfl
    rw [List.getElem?_take, if_pos (by decide), List.getElem?_drop] at h5
    simpa using h5
  · have : l = [] := List.length_eq_zero_iff.1 (by omega)
    subst this
    exact (Any.strings_Join_none Tryz.lays156 Tryz.Builder_Extra_156 A c sep w).mono fun e w' ⟨he, hw⟩ => ⟨he, hw ▸ Below.refl _ _⟩
/-- .. its result behind a name. -/
theorem joinX (l : List ByteArray) (sep X : ByteArray) (v : Value) (F : Nat → Prop) (w : World) (hX : (⟨(Lib.join (l.map (·.data.toList)) sep.data.toList).toArray⟩ : ByteArray) = X) (hs : X.size ≤ 140737488355328) (hv : Sli strR w F l v) (hF : ∀ b, F b → b < w.heap.size) (hN : l.length ≤ 140737488355328) :
    Calls Tryz.prog 86 #[v, .string sep] w fun e w' => e = .returned (.string X) ∧ Below w.heap.size w w' := by
  subst hX
  exact join_c l sep v F w hv hF (by simpa [ByteArray.size] using hs) hN
theorem strLit (w : World) (l : List ByteArray) (cs : Array Value) (T n : Nat) (hcs : cs = (l.map Value.string).toArray) (hn : n = l.length) (hm : n ≤ 1000) : Sli strR (w.alloc (.cells cs T)) (fun b => b = w.heap.size) l (.slice (some ⟨w.heap.size, 0, none⟩) n n) := by
  subst hcs; subst hn
  refine Sli.new T l.length ⟨by rw [List.length_map]; show _ = _ * 1; omega, fun k x hx => ?_⟩ rfl (Nat.le_refl _) (by omega)
  show ((l.map Value.string).drop (k * 1)).take 1 = [.string x]
  obtain ⟨hk, rfl⟩ := List.getElem?_eq_some_iff.1 hx
  rw [Nat.mul_one, List.drop_eq_getElem_cons (by rw [List.length_map]; exact hk), List.take_succ_cons, List.take_zero, List.getElem_map]
end Go.Proofs.YtkhegeobdcemkaaGreatDoor

/- strings.Builder written, with what stands beside it kept: the library's contracts at this program. -/
namespace Go.Proofs.YtkhegeobdcemkaaGreatDoor
set_option linter.unusedVariables false
open Go.RowKit

/-- A builder of the call's own, whose block is B, that holds the bytes l. -/
def BldK (w : World) (B : Nat) (l : List UInt8) : Prop := Lib.IsBuilderF 148 5 B B (Lib.byteCells l) w
theorem BldK.new (w : World) : BldK (w.alloc (.cells #[.pointer none, .slice none 0 0] 148)) w.heap.size [] := Lib.IsBuilderF.of (Lib.fresh_isBuilder _ _ w)
theorem BldK.lt {w : World} {B : Nat} {l : List UInt8} (h : BldK w B l) : B < w.heap.size := by
  rcases h with ⟨_, v, hb, _⟩ | ⟨_, v, hb, _⟩
  · exact (Array.getElem?_eq_some_iff.1 hb).1
  · exact (Array.getElem?_eq_some_iff.1 hb).1
theorem BldK.keep {w w' : World} {B : Nat} {l : List UInt8} (h : BldK w B l) (hk : ∀ b, B ≤ b → b < w.heap.size → w'.heap[b]? = w.heap[b]?) : BldK w' B l := by
  have one : ∀ p, Lib.BuilderAtF 148 5 B B p (Lib.byteCells l) w → Lib.BuilderAtF 148 5 B B p (Lib.byteCells l) w' := by
    rintro p ⟨hB, v, hb, ho, hne⟩
    refine ⟨hB, v, (hk B (Nat.le_refl _) (Array.getElem?_eq_some_iff.1 hb).1).trans hb, ⟨ho.1, ?_⟩, hne⟩
    rcases ho.2 with hn | ⟨g, cap, cur, fz, rfl, hg0, hg, rest⟩
    · exact .inl hn
    · exact .inr ⟨g, cap, cur, fz, rfl, hg0, (hk g hg0 (Array.getElem?_eq_some_iff.1 hg).1).trans hg, rest⟩
  rcases h with h | h
  · exact .inl (one _ h)
  · exact .inr (one _ h)
theorem BldK.below {w w' : World} {B : Nat} {l : List UInt8} (h : BldK w B l) (hb : Below w.heap.size w w') : BldK w' B l := h.keep fun b _ hlt => hb.block b hlt
theorem BldK.alloc {w : World} {B : Nat} {l : List UInt8} (h : BldK w B l) (o : Obj) : BldK (w.alloc o) B l := h.keep fun b _ hlt => Below.heap_alloc w o b hlt
theorem BldK.drew {w : World} {B : Nat} {l : List UInt8} (h : BldK w B l) : BldK w.drew B l := h
theorem writeK_c (B : Nat) (l : List UInt8) (s : ByteArray) (w : World) (h : BldK w B l) (hlen : l.length + s.size ≤ 140737488355328) :
    Calls Tryz.prog 117 #[.pointer (some ⟨B, 0, none⟩), .string s] w fun e w' => e = .returned (.tuple #[.int .i64 s.size, .nilIface]) ∧ (BldK w' B (l ++ s.data.toList) ∧ Below B w w' ∧ Lib.OthersKept 5 (some B) w w') := by
  refine (Any.Builder_WriteString_k { Tryz.lays156 with } Tryz.Builder_Extra_156 B B (Lib.byteCells l) s w h (by rw [Lib.byteCells_length]; exact hlen) (Nat.le_of_lt h.lt)).mono ?_
  rintro e w' ⟨he, h1, h2, h3⟩
  refine ⟨he, .inr ?_, h2, h3⟩
  rw [Lib.strCells_eq, ← Lib.byteCells_append] at h1
  exact h1
theorem textK_c (B : Nat) (l : List UInt8) (w : World) (h : BldK w B l) :
    Calls Tryz.prog 119 #[.pointer (some ⟨B, 0, none⟩)] w fun e w' => e = .returned (.string ⟨l.toArray⟩) ∧ Below B w w' :=
  (Any.Builder_String_any_k { Tryz.lays156 with } Tryz.Builder_Extra_156 B B l w h (Nat.le_of_lt h.lt)).mono fun _ _ h => ⟨h.1, h.2.2.1⟩
/-- A block of the call's own that is no row of bytes stands behind a write. -/
theorem keptK {w w' : World} {B X : Nat} {cs : Array Value} {T : TypeId} (h : Lib.OthersKept 5 (some B) w w') (hX : w.heap[X]? = some (.cells cs T (0, 0))) (hne : X ≠ B) (hT : T ≠ 5) : w'.heap[X]? = some (.cells cs T (0, 0)) :=
  h X _ hX (fun e => hne (by injection e)) (fun c fz e => hT (by injection e))
end Go.Proofs.YtkhegeobdcemkaaGreatDoor

/- What a law's walk ends with. No law in sight. -/
namespace Go.Proofs.YtkhegeobdcemkaaGreatDoor
set_option linter.unusedVariables false
open Go.RowKit

theorem strNew (w : World) (A : Option Addr) (l : List Int) (c : Nat) (hr : Rs w 0 w.heap.size 1 intc A l) (hl : l.length ≤ 17592186044416) (ho : ∀ x ∈ l, okI x) :
    Str (w.alloc (.cells #[.slice A l.length c, .int .i64 0] 25)) w.heap.size 0 :=
  ⟨A, c, l, heap_alloc_new w _, Int.le_refl _, hr.alloc (Nat.le_refl _) _, hl, ho⟩
theorem gEnd {w w1 : World} {o : Obj} (h : (w.alloc o).grownBy w1 (some w.heap.size)) : Below w.heap.size w w1 :=
  ⟨h.os, h.tape, h.output, by have := h.size; simp at this; omega, fun i hi => (h.block i (by simp; omega) (by simp; omega)).trans (Below.heap_alloc w _ i hi)⟩
theorem gLaid {w w1 : World} {o : Obj} (h : (w.alloc o).grownBy w1 (some w.heap.size)) (hl : ErrsLaid w) : ErrsLaid w1 :=
  hl.below (gEnd h) (Nat.le_refl _)
end Go.Proofs.YtkhegeobdcemkaaGreatDoor

/- The reference's small words on strings. -/
namespace Go.Proofs.YtkhegeobdcemkaaGreatDoor
set_option linter.unusedVariables false
open Go.RowKit

theorem trim_c (s cs : ByteArray) (w : World) (hs : s.size ≤ 140737488355328) (hcs : cs.size ≤ 1000) (ha : (cs.data.toList.all fun b => decide (b.toNat < 128)) = true) :
    Calls Tryz.prog 111 #[.string s, .string cs] w fun e w' => e = .returned (.string ⟨(Lib.trimS s.data.toList cs.data.toList).toArray⟩) ∧ Below w.heap.size w w' :=
  Any.strings_Trim_laid Tryz.lays160 (by kernel_rfl) s cs w (by omega) (by omega) (ascii_of_all ha)

theorem dropWhile_nil {p : UInt8 → Bool} {l : List UInt8} : l.dropWhile p = [] ↔ ∀ x ∈ l, p x = true := by
  induction l with
  | nil => simp
  | cons y l ih =>
    cases h : p y with
    | true => simp [h, ih]
    | false => simp [h]

theorem trimS_nil (l cs : List UInt8) : Lib.trimS l cs = [] ↔ l.all (cs.contains ·) = true := by
  unfold Lib.trimS Lib.trimLeftS Lib.trimRightS
  constructor
  · intro h
    have h1 : ∀ x ∈ (l.reverse.dropWhile (cs.contains ·)), cs.contains x = true := by
      have := dropWhile_nil.1 h
      simpa using this
    cases hd : l.reverse.dropWhile (cs.contains ·) with
    | nil =>
      have := dropWhile_nil.1 hd
      rw [List.all_eq_true]
      intro x hx
      exact this x (by simpa using hx)
    | cons y t =>
      have h2 := h1 y (by rw [hd]; simp)
      have h3 := List.head_dropWhile_not (p := (cs.contains ·)) (l := l.reverse) (by rw [hd]; simp)
      simp only [hd, List.head_cons] at h3
      rw [h3] at h2; cases h2
  · intro h
    rw [List.all_eq_true] at h
    have : l.reverse.dropWhile (cs.contains ·) = [] := dropWhile_nil.2 (fun x hx => h x (by simpa using hx))
    rw [this]; rfl

theorem toList_mk (l : List UInt8) : (⟨l.toArray⟩ : ByteArray).toList = l := by rw [ByteArray.toList_eq]

set_option maxHeartbeats 400000 in
theorem made_c (s cs : ByteArray) (w : World) (hs : s.size ≤ 140737488355328) (hcs : cs.size ≤ 1000) (ha : (cs.data.toList.all fun b => decide (b.toNat < 128)) = true) :
    Calls Tryz.prog 65 #[.string s, .string cs] w fun e w' => e = .returned (.bool (allB (cs.data.toList.contains ·) s)) ∧ Below w.heap.size w w' := by
  cases h : allB (cs.data.toList.contains ·) s with
  | true =>
    have h2 : (⟨(Lib.trimS s.data.toList cs.data.toList).toArray⟩ : ByteArray) = ⟨#[]⟩ := by rw [(trimS_nil _ _).2 h]
    have H := Lib.hid h2
    clear h2 h
    go_enter Tryz.func65, Tryz.ntmps65
    go_wp2_with fail
    refine (trim_c s cs _ hs hcs ha).mono ?_
    rintro e w' ⟨rfl, hb⟩
    rw [H.out]
    go_wp2
    go_ret
    exact ⟨rfl, hb⟩
  | false =>
    have h2 : (⟨(Lib.trimS s.data.toList cs.data.toList).toArray⟩ : ByteArray).toList.isEmpty = false := by
      rw [toList_mk]
      cases he : Lib.trimS s.data.toList cs.data.toList with
      | nil => rw [(trimS_nil _ _).1 he |> (show _ → allB (cs.data.toList.contains ·) s = true from id)] at h; cases h
      | cons y t => rfl
    have H := Lib.hid h2
    clear h2 h
    go_enter Tryz.func65, Tryz.ntmps65
    go_wp2_with fail
    refine (trim_c s cs _ hs hcs ha).mono ?_
    rintro e w' ⟨rfl, hb⟩
    generalize (⟨(Lib.trimS s.data.toList cs.data.toList).toArray⟩ : ByteArray) = t at H ⊢
    have h2 := H.out
    go_wp2
    go_ret
    exact ⟨rfl, hb⟩

set_option maxHeartbeats 400000 in
theorem long_c (s : ByteArray) (lo hi : Int) (w : World) (hs : s.size ≤ 140737488355328) :
    Calls Tryz.prog 43 #[.string s, .int .i64 lo, .int .i64 hi] w fun e w' => e = .returned (.bool (decide (lo ≤ s.size) && decide ((s.size : Int) ≤ hi))) ∧ w = w' := by
  by_cases h1 : lo ≤ (s.size : Int)
  all_goals
    go_enter Tryz.func43, Tryz.ntmps43
    go_wp2
    go_ret
    exact ⟨ret_bool (by first | (simp [h1]; done) | (simp; omega)), rfl⟩
end Go.Proofs.YtkhegeobdcemkaaGreatDoor

/- The shelf contracts that these proofs use, laid at this translation. -/
namespace Go.Proofs
open Go.Shelf

end Go.Proofs

/- Small laws on strings and bytes. No program in sight. -/
namespace Go.Proofs.YtkhegeobdcemkaaGreatDoor
set_option linter.unusedVariables false
open Go.RowKit

/-- 'string([]byte{..})' of a literal that has just been laid. -/
theorem run_bytes_lit {P : Program} (w : World) (src dst e : TypeId) (hs : P.underlying src = some (.slice e)) (he : P.underlying e = some (.int .u8)) (hd : P.underlying dst = some .string) (ns : List Int) (n c : Nat) (hn : n = ns.length) (cs : Array Value) (hcs : cs = (ns.map (Value.int .u8)).toArray) (T : TypeId) :
    (convert src dst (.slice (some ⟨w.heap.size, 0, none⟩) n c)).run P (w.alloc (.cells cs T)) = .ok (.string ⟨(ns.map fun x => UInt8.ofNat x.toNat).toArray⟩) (w.alloc (.cells cs T)) := by
  subst hn; subst hcs
  rw [run_convert_bytes_string _ src dst e _ _ _ hs he hd]
  have hl := run_loadCells_list (P := P) (w.alloc (.cells (ns.map (Value.int .u8)).toArray T)) ⟨w.heap.size, 0, none⟩ (ns.map (Value.int .u8)) (fun j v hj => by
    have : (⟨w.heap.size, 0, none⟩ : Addr).add j = ⟨w.heap.size, j, none⟩ := by unfold Addr.add; split <;> simp [*]
    rw [this]
    rw [World.cell?_alloc_mark]
    simpa using hj)
  simp only [List.length_map] at hl
  rw [run_bytesToString _ _ _ c ns hl]
  have hf : ∀ (l : List Int) (s : ByteArray), l.foldl (fun r x => r.push (UInt8.ofNat x.toNat)) s = ⟨s.data ++ (l.map fun x => UInt8.ofNat x.toNat).toArray⟩ := by
    intro l
    induction l with
    | nil => intro s; simp
    | cons x l ih => intro s; simp only [List.foldl_cons]; rw [ih]; simp [ByteArray.push]
  rw [hf]
  have he0 : ByteArray.empty.data = #[] := rfl
  rw [he0]
  simp

theorem below_of_regrown {w w' : World} (h : ∃ p : Regrown, w' = Sort.grow (redrawn w p.d) p.os) : Below w.heap.size w w' := by
  obtain ⟨p, rfl⟩ := h
  exact below_regrown w p.d p.os
/-- Contracts inside a region that draws its order, the world known up to 'Below'. -/
theorem regL {P : Program} {f : FuncId} {args : Array Value} {w : World} {d : Nat} {os : Array Obj} {v : Value} (h : Calls P f args (Sort.grow (redrawn w d) os) fun e w' => e = .returned v ∧ Sort.grow (redrawn w d) os = w') :
    Calls P f args (Sort.grow (redrawn w d) os) fun e w'' => e = .returned v ∧ ∃ p : Regrown, w'' = Sort.grow (redrawn w p.d) p.os := h.mono fun _ _ ⟨he, hb⟩ => ⟨he, ⟨d, os⟩, hb.symm⟩
theorem regD {P : Program} {f : FuncId} {args : Array Value} {w : World} {d : Nat} {os : Array Obj} {v : Value} (h : Calls P f args (Sort.grow (redrawn w d) os) fun e w' => e = .returned v ∧ ∃ n, w' = (Sort.grow (redrawn w d) os).drewN n) :
    Calls P f args (Sort.grow (redrawn w d) os) fun e w'' => e = .returned v ∧ ∃ p : Regrown, w'' = Sort.grow (redrawn w p.d) p.os := h.mono fun _ _ ⟨he, n, hb⟩ => ⟨he, ⟨d + n, os⟩, hb⟩
end Go.Proofs.YtkhegeobdcemkaaGreatDoor

/- The program's codes. -/
namespace Go.Proofs.YtkhegeobdcemkaaGreatDoor
set_option linter.unusedVariables false
open Go.RowKit Go.Sort

theorem code_eqs {s : Int} (h0 : 0 ≤ s) (h1 : s < 1000000000) : IntKind.i64.wrap (s.tdiv 3600) = s / 3600 ∧ IntKind.i64.wrap (s.tdiv 60) = s / 60 ∧ (s / 60).tmod 60 = s / 60 % 60 ∧ s.tmod 60 = s % 60 := by
  refine ⟨?_, ?_, Int.tmod_eq_emod_of_nonneg (by omega), Int.tmod_eq_emod_of_nonneg h0⟩
  · rw [Int.tdiv_eq_ediv_of_nonneg h0]; exact IntWalk.i64_in _ (by omega)
  · rw [Int.tdiv_eq_ediv_of_nonneg h0]; exact IntWalk.i64_in _ (by omega)

def codeE (r x : Int) : Int := if isRateB r = false then 4 else if x < 0 ∨ framesN r ≤ x then 1 else 0
def codeA (r x : Int) : ByteArray := if codeE r x = 0 then codeS r x else ⟨#[]⟩
end Go.Proofs.YtkhegeobdcemkaaGreatDoor

/- A text cut at a byte, in plain words. No program in sight. -/
namespace Go.Proofs.YtkhegeobdcemkaaGreatDoor
set_option linter.unusedVariables false
open Go.RowKit

/-- Where a byte stands first; the length where it does not stand. -/
def cutI (s : ByteArray) (c : UInt8) : Nat := s.data.toList.findIdx (· == c)
def cutF (s : ByteArray) (c : UInt8) : Bool := decide (cutI s c < s.size)
def cutA (s : ByteArray) (c : UInt8) : ByteArray := s.extract 0 (cutI s c)
def cutB (s : ByteArray) (c : UInt8) : ByteArray := s.extract (cutI s c + 1) s.size
theorem cutI_le (s : ByteArray) (c : UInt8) : cutI s c ≤ s.size := by
  have := List.findIdx_le_length (p := (· == c)) (xs := s.data.toList)
  simpa [cutI] using this
theorem cutA_size (s : ByteArray) (c : UInt8) : (cutA s c).size ≤ s.size := by unfold cutA; rw [ByteArray.size_extract]; omega
theorem cutB_size (s : ByteArray) (c : UInt8) : (cutB s c).size ≤ s.size := by unfold cutB; rw [ByteArray.size_extract]; omega
theorem idxB_no {s : ByteArray} {c : UInt8} (h : ¬ cutI s c < s.size) : Lib.indexByte s.data.toList c = -1 := by
  by_cases h1 : Lib.indexByte s.data.toList c = -1
  · exact h1
  · exfalso
    have hg := Lib.indexByte_ge s.data.toList c
    obtain ⟨o, ho⟩ := Int.eq_ofNat_of_zero_le (show 0 ≤ Lib.indexByte s.data.toList c by omega)
    obtain ⟨h2, _⟩ := Lib.indexByte_some ho
    obtain ⟨hlt, h3⟩ := List.getElem?_eq_some_iff.1 h2
    exact h (by
      have h4 : cutI s c < s.data.toList.length := List.findIdx_lt_length_of_exists ⟨c, by rw [← h3]; exact List.getElem_mem hlt, by simp⟩
      simpa using h4)
theorem idxB_yes {s : ByteArray} {c : UInt8} (h : cutI s c < s.size) : Lib.indexByte s.data.toList c = (cutI s c : Int) := by
  have hl : cutI s c < s.data.toList.length := by simpa using h
  have hg := Lib.indexByte_ge s.data.toList c
  have hc : s.data.toList[cutI s c] = c := by have := List.findIdx_getElem (p := (· == c)) (w := hl); exact eq_of_beq this
  have hne : Lib.indexByte s.data.toList c ≠ -1 := fun e => Lib.indexByte_none e (cutI s c) (by rw [List.getElem?_eq_getElem hl, hc])
  obtain ⟨o, ho⟩ := Int.eq_ofNat_of_zero_le (show 0 ≤ Lib.indexByte s.data.toList c by omega)
  obtain ⟨h2, h3⟩ := Lib.indexByte_some ho
  obtain ⟨hlt, h4⟩ := List.getElem?_eq_some_iff.1 h2
  rcases Nat.lt_trichotomy o (cutI s c) with h5 | h5 | h5
  · have := List.not_of_lt_findIdx (p := (· == c)) (xs := s.data.toList) h5
    simp [h4] at this
  · rw [ho, h5]
  · exact absurd (by rw [List.getElem?_eq_getElem hl, hc]) (h3 _ h5)
theorem findIdx_app {l r : List UInt8} {c : UInt8} (h : ∀ x ∈ l, x ≠ c) : (l ++ c :: r).findIdx (· == c) = l.length := by
  induction l with
  | nil => simp [List.findIdx_cons]
  | cons x l ih =>
    have hx : (x == c) = false := by simpa using h x (by simp)
    simp only [List.cons_append, List.findIdx_cons, hx, cond_false, List.length_cons]
    rw [ih (fun y hy => h y (by simp [hy]))]
theorem extract_list' (s : ByteArray) (a b : Nat) : (s.extract a b).data.toList = (s.data.toList.drop a).take (b - a) := by simp
theorem ba_ext {a b : ByteArray} (h : a.data.toList = b.data.toList) : a = b := by
  rcases a with ⟨⟨a⟩⟩; rcases b with ⟨⟨b⟩⟩; simp at h; rw [h]
/-- A text that is put together is cut where it was put together. -/
theorem cut_app {a b : ByteArray} {c : UInt8} (h : ∀ x ∈ a.data.toList, x ≠ c) : cutI (a ++ ⟨#[c]⟩ ++ b) c = a.size ∧ cutF (a ++ ⟨#[c]⟩ ++ b) c = true ∧ cutA (a ++ ⟨#[c]⟩ ++ b) c = a ∧ cutB (a ++ ⟨#[c]⟩ ++ b) c = b := by
  have e : (a ++ ⟨#[c]⟩ ++ b).data.toList = a.data.toList ++ (c :: b.data.toList) := by simp
  have hs : (a ++ ⟨#[c]⟩ ++ b).size = a.size + 1 + b.size := by rw [ByteArray.size_append, ByteArray.size_append]; rfl
  have hl : a.data.toList.length = a.size := by simp
  have hi : cutI (a ++ ⟨#[c]⟩ ++ b) c = a.size := by
    unfold cutI
    rw [e, findIdx_app h, hl]
  refine ⟨hi, by unfold cutF; rw [hi, hs]; simp; omega, ?_, ?_⟩
  · unfold cutA; rw [hi]; apply ba_ext; rw [extract_list', e]; simp [hl]
  · unfold cutB; rw [hi, hs]; apply ba_ext; rw [extract_list', e]
    rw [show a.data.toList ++ c :: b.data.toList = (a.data.toList ++ [c]) ++ b.data.toList by simp, List.drop_left' (by simp), List.take_of_length_le (by simp)]
theorem cut_none {a : ByteArray} {c : UInt8} (h : ∀ x ∈ a.data.toList, x ≠ c) : cutF a c = false ∧ cutA a c = a ∧ cutB a c = ⟨#[]⟩ := by
  have hi : cutI a c = a.size := by
    unfold cutI
    rw [List.findIdx_eq_length_of_false (fun x hx => by simpa using h x hx)]; simp
  refine ⟨by unfold cutF; rw [hi]; simp, ?_, ?_⟩
  · unfold cutA; rw [hi]; apply ba_ext; simp
  · unfold cutB; rw [hi]; apply ba_ext; simp
end Go.Proofs.YtkhegeobdcemkaaGreatDoor

/- strings.Cut at one byte, for every string. -/
namespace Go.Proofs.YtkhegeobdcemkaaGreatDoor
set_option linter.unusedVariables false
open Go.RowKit

set_option maxHeartbeats 400000 in
theorem cutL_c (s : ByteArray) (c : UInt8) (w : World) (hs : s.size ≤ 140737488355328) :
    Calls Tryz.prog 222 #[.string s, .string ⟨#[c]⟩] w fun e w' => e = .returned (.tuple #[.string (cutA s c), .string (cutB s c), .bool (cutF s c)]) ∧ ∃ n, w' = w.drewN n := by
  by_cases h : cutI s c < s.size
  · have HI := Lib.hid (idxB_yes h)
    obtain ⟨i, hi⟩ : ∃ i, cutI s c = i := ⟨_, rfl⟩
    have HV := Lib.hid (show cutA s c = s.extract 0 i ∧ cutB s c = s.extract (i + 1) s.size ∧ cutF s c = true by unfold cutA cutB cutF; rw [← hi]; exact ⟨rfl, rfl, decide_eq_true h⟩)
    rw [hi] at h HI
    clear hi
    have p0 : (0 : Int) ≤ (i : Int) := by omega
    have p1 : (i : Int) ≤ (s.size : Int) := by omega
    have p2 : (i : Int) + 1 ≤ (s.size : Int) := by omega
    have p3 : (0 : Int) ≤ (i : Int) + 1 := by omega
    have p4 : ((i : Int) + 1).toNat = i + 1 := by omega
    have p5 : IntKind.i64.wrap ((i : Int) + 1) = (i : Int) + 1 := IntWalk.i64_in _ (by omega)
    have p6 : i ≤ s.size := by omega
    have p7 : i + 1 ≤ s.size := by omega
    go_enter Tryz.func222, Tryz.ntmps222
    go_wp2_with fail
    refine (Tryz.stringslite_Index_one s c _).mono ?_
    rintro e w' ⟨rfl, rfl⟩
    rw [HI.out]
    go_wp2
    go_quiet (fail)
    go_wp2
    refine bodyPost_ret (v := .tuple #[.string (cutA s c), .string (cutB s c), .bool (cutF s c)]) ?_ rfl ⟨rfl, _, rfl⟩
    rw [HV.out.1, HV.out.2.1, HV.out.2.2]
    simp [results, go_sem]
  · have HI := Lib.hid (idxB_no h)
    have hi : cutI s c = s.size := by have := cutI_le s c; omega
    have HV := Lib.hid (show cutA s c = s ∧ cutB s c = ⟨#[]⟩ ∧ cutF s c = false by
      unfold cutA cutB cutF; rw [hi]
      exact ⟨ba_ext (by simp), ba_ext (by simp), by simp⟩)
    clear hi h
    go_enter Tryz.func222, Tryz.ntmps222
    go_wp2_with fail
    refine (Tryz.stringslite_Index_one s c _).mono ?_
    rintro e w' ⟨rfl, rfl⟩
    rw [HI.out]
    go_wp2
    refine bodyPost_ret (v := .tuple #[.string (cutA s c), .string (cutB s c), .bool (cutF s c)]) ?_ rfl ⟨rfl, 0, rfl⟩
    rw [HV.out.1, HV.out.2.1, HV.out.2.2]
    simp [results, go_sem]
set_option maxHeartbeats 400000 in
theorem cut_c (s : ByteArray) (c : UInt8) (w : World) (hs : s.size ≤ 140737488355328) :
    Calls Tryz.prog 188 #[.string s, .string ⟨#[c]⟩] w fun e w' => e = .returned (.tuple #[.string (cutA s c), .string (cutB s c), .bool (cutF s c)]) ∧ ∃ n, w' = w.drewN n := by
  go_enter Tryz.func188, Tryz.ntmps188
  go_wp2_with fail
  refine (cutL_c s c _ hs).mono ?_
  rintro e w' ⟨rfl, ⟨n, rfl⟩⟩
  go_wp2
  exact bodyPost_ret (v := .tuple #[.string (cutA s c), .string (cutB s c), .bool (cutF s c)]) (by simp [results, go_sem]) rfl ⟨rfl, _, rfl⟩
end Go.Proofs.YtkhegeobdcemkaaGreatDoor

/- Numerals read by the program and by the reference. -/
namespace Go.Proofs.YtkhegeobdcemkaaGreatDoor
set_option linter.unusedVariables false
open Go.RowKit Go.Sort

/-- The table of powers of ten lies where it was laid. -/
def PowLaid (w : World) : Prop := Lib.TabIs Tryz.prog w "internal/strconv.uint64pow10" .u64 Lib.pow10Tab
theorem pow_below {w w' : World} {B : Nat} (h : PowLaid w) (hb : Below B w w') (hB : w.heap.size ≤ B) : PowLaid w' :=
  Joins.tab_stays (g := 2) (by kernel_rfl) h hb hB
theorem below_grow {w w' : World} {k : Nat} {os : Array Obj} (h : w' = grow (w.drewN k) os) : Below w.heap.size w w' := by
  subst h
  exact below_regrown w (w.drawn + k) os
theorem itoa_c (n : Int) (w : World) (hn : okI n) (hp : PowLaid w) : Calls Tryz.prog 39 #[.int .i64 n] w fun e w' => e = .returned (.string ⟨(Lib.itoa n).toArray⟩) ∧ Below w.heap.size w w' :=
  (Any.strconv_Itoa Tryz.laysM171 n hn.1 hn.2 w hp).mono fun _ _ ⟨he, k, os, hw⟩ => ⟨he, below_grow hw⟩

/-- strings.Trim at the figures: empty just where all bytes are figures. -/
def TrimF (s : ByteArray) (w : World) (e : Ending) (w' : World) : Prop := ∃ t : ByteArray, e = .returned (.string t) ∧ (allB figC s = true → t = ⟨#[]⟩) ∧ (allB figC s = false → t.toList.isEmpty = false) ∧ Below w.heap.size w w'
theorem figC_eq (s : ByteArray) : allB (([48, 49, 50, 51, 52, 53, 54, 55, 56, 57] : List UInt8).contains ·) s = allB figC s := allB_congr (by decide +kernel) s
theorem trimF_c (s : ByteArray) (w : World) (hs : s.size ≤ 140737488355328) : Calls Tryz.prog 111 #[.string s, .string ⟨#[48, 49, 50, 51, 52, 53, 54, 55, 56, 57]⟩] w (TrimF s w) := by
  refine (trim_c s _ w hs (by decide) (by decide)).mono ?_
  rintro e w' ⟨he, hb⟩
  refine ⟨_, he, fun h => ?_, fun h => ?_, hb⟩
  · rw [← figC_eq] at h
    rw [(trimS_nil _ _).2 h]
  · rw [toList_mk]
    rw [← figC_eq] at h
    cases hd : Lib.trimS s.data.toList (ByteArray.mk #[48, 49, 50, 51, 52, 53, 54, 55, 56, 57]).data.toList with
    | nil => have := (trimS_nil _ _).1 hd; rw [show s.data.toList.all _ = allB _ s from rfl] at this; rw [this] at h; cases h
    | cons y t => rfl

def decA (s : ByteArray) (most : Int) : Int := bif decB s most then decV s else 0
/-- How the reference reads a number of at most so many digits. -/
def NumP (s : ByteArray) (most n : Int) (ok : Bool) : Prop :=
  (ok = true → Lib.itoa n = s.data.toList ∧ okI n ∧ ((Lib.trimPrefix s.data.toList [45]).length : Int) ≤ most) ∧ (ok = false → ∀ m, okI m → Lib.itoa m = s.data.toList → ¬ ((Lib.trimPrefix s.data.toList [45]).length : Int) ≤ most)
def NumR (s : ByteArray) (most : Int) (w : World) (e : Ending) (w' : World) : Prop := ∃ n ok, NumP s most n ok ∧ e = .returned (.tuple #[.int .i64 n, .bool ok]) ∧ Below w.heap.size w w'
theorem mk_size (l : List UInt8) : (⟨l.toArray⟩ : ByteArray).size = l.length := rfl
theorem trimPrefix_len (l p : List UInt8) : (Lib.trimPrefix l p).length ≤ l.length := by
  unfold Lib.trimPrefix; split
  · simp
  · exact Nat.le_refl _
theorem itoa_ok {s : ByteArray} {n m : Int} (h : Lib.atoiAll s.data.toList = .ok n) (hm : okI m) (e : Lib.itoa m = s.data.toList) : n = m := by
  rw [← e, atoi_itoa m hm] at h
  injection h with h; exact h.symm
end Go.Proofs.YtkhegeobdcemkaaGreatDoor

/- The generator's changed texts and frames. -/
namespace Go.Proofs.YtkhegeobdcemkaaGreatDoor
set_option linter.unusedVariables false
open Go.RowKit Go.Sort

theorem enc_size {n : Nat} (h : n < 256) : (Utf8.encode (n : Int)).size ≤ 4 := by
  have : ((List.range 256).all fun n => decide ((Utf8.encode (n : Int)).size ≤ 4)) = true := by decide +kernel
  rw [List.all_eq_true] at this
  simpa using this n (List.mem_range.2 h)
set_option maxHeartbeats 1000000 in
theorem Changed_c (sb : Nat) (k : Int) (t u : ByteArray) (w : World) (hs : Str w sb k) (hk : k ≤ 4000000000000000000) (ht : t.size ≤ 1000000000) (hu : u.size ≤ 1000000000) :
    Calls Tryz.prog 85 #[.pointer (some ⟨sb, 0, none⟩), .string t, .string u] w (Took sb k 3 (isStr (fun x => x.size ≤ t.size + u.size + 8)) w) := by
  have h0 := hs.nonneg
  have S0 := Lib.hid hs; clear hs
  cases he : t.toList.isEmpty with
  | true =>
    go_enter Tryz.func85, Tryz.ntmps85
    go_wp2
    go_ret
    exact ⟨_, k, rfl, ⟨u, by omega, rfl⟩, by omega, S0.out, gRefl _ _⟩
  | false =>
    have hts : 0 < t.size := by
      rw [ByteArray.toList_eq] at he
      cases hd : t.data.toList with
      | nil => rw [hd] at he; cases he
      | cons y l => show 0 < t.data.size; rw [← Array.length_toList, hd]; simp
    cases he2 : u.toList.isEmpty with
    | true =>
      go_enter Tryz.func85, Tryz.ntmps85
      go_wp2
      go_ret
      exact ⟨_, k, rfl, ⟨u, by omega, rfl⟩, by omega, S0.out, gRefl _ _⟩
    | false =>
      have hus : 0 < u.size := by
        rw [ByteArray.toList_eq] at he2
        cases hd : u.data.toList with
        | nil => rw [hd] at he2; cases he2
        | cons y l => show 0 < u.data.size; rw [← Array.length_toList, hd]; simp
      go_enter Tryz.func85, Tryz.ntmps85
      go_wp2_with fail
      refine (next_c sb k t.size _ S0.out (by omega) (by omega) (by omega)).mono ?_
      rintro e w1 ⟨v1, k1, rfl, ⟨x1, hx10, hx11, rfl⟩, hk1, hs1, hg1⟩
      have S1 := Lib.hid hs1; have G1 := Lib.hid hg1; clear hs1 hg1
      obtain ⟨i, rfl⟩ := Int.eq_ofNat_of_zero_le hx10
      go_wp2_with fail
      refine (next_c sb k1 u.size _ S1.out (by omega) (by omega) (by omega)).mono ?_
      rintro e w2 ⟨v2, k2, rfl, ⟨x2, hx20, hx21, rfl⟩, hk2, hs2, hg2⟩
      have S2 := Lib.hid hs2; have G2 := Lib.hid (gTrans G1.out hg2); clear hs2 hg2
      obtain ⟨j, rfl⟩ := Int.eq_ofNat_of_zero_le hx20
      have hi : i < t.size := by omega
      have hj : j < u.size := by omega
      clear hx10 hx11 hx20 hx21
      go_wp2_with fail
      refine (next_c sb k2 3 _ S2.out (by omega) (by omega) (by omega)).mono ?_
      rintro e w3 ⟨v3, k3, rfl, ⟨x3, hx30, hx31, rfl⟩, hk3, hs3, hg3⟩
      have S3 := Lib.hid hs3; have G3 := Lib.hid (gTrans G2.out hg3); clear hs3 hg3
      have q1 : IntKind.i64.wrap ((i : Int) + 1) = (i : Int) + 1 := IntWalk.i64_in _ (by omega)
      have hi1 : (i : Int) + 1 ≤ (t.size : Int) := by omega
      have hn1 : ((i : Int) + 1).toNat = i + 1 := by omega
      have hle : i + 1 ≤ t.size := by omega
      have hle0 : i ≤ t.size := by omega
      have hu8 : u[j].toNat < 256 := u[j].toNat_lt
      generalize u[j].toNat = n8 at hu8 ⊢
      have hz := enc_size hu8
      generalize hE : Utf8.encode (n8 : Int) = E at hz
      have HE := Lib.hid hE
      have hcv : ∀ W, (convert 21 9 (.int .i32 (n8 : Int))).run Tryz.prog W = .ok (.string E) W := fun W => by
        rw [run_convert_int_string W _ _ _ _ (by kernel_rfl) Tryz.underlying9, hE]
      clear hE
      rcases (show x3 = 0 ∨ x3 = 1 ∨ x3 = 2 by omega) with rfl | rfl | rfl
      · go_wp2
        go_quiet (fail)
        go_wp2
        go_ret
        refine ⟨_, k3, rfl, ⟨_, ?_, rfl⟩, by omega, S3.out.drewN _, grown_drewN G3.out _⟩
        show _ ≤ _
        simp; omega
      · go_wp2
        go_quiet (fail)
        go_wp2
        go_ret
        refine ⟨_, k3, rfl, ⟨_, ?_, rfl⟩, by omega, S3.out.drewN _, grown_drewN G3.out _⟩
        show _ ≤ _
        simp; omega
      · go_wp2
        go_quiet (fail)
        go_wp2
        go_ret
        refine ⟨_, k3, rfl, ⟨_, ?_, rfl⟩, by omega, S3.out.drewN _, grown_drewN G3.out _⟩
        show _ ≤ _
        simp; omega
end Go.Proofs.YtkhegeobdcemkaaGreatDoor

/- The generator's numbers of scenes and setups. -/
namespace Go.Proofs.YtkhegeobdcemkaaGreatDoor
set_option linter.unusedVariables false
open Go.RowKit Go.Sort

theorem oneOf {l : List ByteArray} {x : ByteArray} {n : Nat} (h : (l.all fun x => decide (x.size ≤ n)) = true) (hx : x ∈ l) : x.size ≤ n := by
  rw [List.all_eq_true] at h; simpa using h x hx
end Go.Proofs.YtkhegeobdcemkaaGreatDoor

/- Digests: the program's and the reference's. -/
namespace Go.Proofs.YtkhegeobdcemkaaGreatDoor
set_option linter.unusedVariables false
open Go.RowKit Go.Sort

theorem step_eq {h : Nat} (c : UInt8) (hh : h < 18446744073709551616) : IntKind.u64.wrap (bits BinOp.xor IntKind.u64 (h : Int) (c.toNat : Int) * 1099511628211) = ((hashStep h c : Nat) : Int) := by
  have hc := c.toNat_lt
  rw [bits_xor_u64_nat h c.toNat hh (by omega), IntKind.wrap_u64]
  unfold hashStep
  generalize h ^^^ c.toNat = x
  omega
theorem ret_u64 {a b : Int} (h : a = b) : Value.int .u64 a = .int .u64 b := by rw [h]

/-- The one cell of the library's table that a base of sixteen reads. -/
def TzLaid (w : World) : Prop := w.cell? ⟨7, 15, none⟩ = some (.int .u8 4) ∧ 7 < w.heap.size
theorem tz_below {w w' : World} {B : Nat} (h : TzLaid w) (hb : Below B w w') (hB : w.heap.size ≤ B) : TzLaid w' :=
  ⟨(hb.cell (Nat.lt_of_lt_of_le h.2 hB)).trans h.1, Nat.lt_of_lt_of_le h.2 hb.size⟩

set_option maxHeartbeats 800000 in
theorem tz16_c (w : World) (h : TzLaid w) : Calls Tryz.prog 228 #[.int .u64 16] w fun e w' => e = .returned (.int .i64 4) ∧ w = w' := by
  obtain ⟨h1, h2⟩ := h
  have e1 : bits BinOp.and IntKind.u64 16 (IntKind.u64.wrap (-16)) = 16 := by decide +kernel
  have e2 : IntKind.u64.wrap 4573926000821661840 = 4573926000821661840 := by decide +kernel
  have e3 : IntKind.u64.wrap (16 * 285870213051353865) / 288230376151711744 = 15 := by decide +kernel
  have e4 : IntKind.u64.wrap 4573923408821661840 / 288230376151711744 = 15 := by decide +kernel
  clear e2
  go_enter Tryz.func228, Tryz.ntmps228
  go_wp2
  go_ret
  exact ⟨rfl, rfl⟩

def digs : ByteArray := ⟨#[48, 49, 50, 51, 52, 53, 54, 55, 56, 57, 97, 98, 99, 100, 101, 102, 103, 104, 105, 106, 107, 108, 109, 110, 111, 112, 113, 114, 115, 116, 117, 118, 119, 120, 121, 122]⟩
theorem dig_tab : ∀ v : Fin 16, ((ByteArray.mk #[48, 49, 50, 51, 52, 53, 54, 55, 56, 57, 97, 98, 99, 100, 101, 102, 103, 104, 105, 106, 107, 108, 109, 110, 111, 112, 113, 114, 115, 116, 117, 118, 119, 120, 121, 122])[v.val]'(by have := v.isLt; show v.val < 36; omega)).toNat = (hexd v.val).toNat := by decide +kernel
theorem dig_run {P : Program} {T : TypeId} (hT : P.underlying T = some .string) (u : Nat) (hu : u < 16) (W : World) : (Instr.index T (.string ⟨#[48, 49, 50, 51, 52, 53, 54, 55, 56, 57, 97, 98, 99, 100, 101, 102, 103, 104, 105, 106, 107, 108, 109, 110, 111, 112, 113, 114, 115, 116, 117, 118, 119, 120, 121, 122]⟩) (.int .u64 (u : Int))).run P W = .ok (.int .u8 ((hexd u).toNat : Int)) W := by
  rw [run_index_string W T _ _ _ hT, dif_pos ⟨by omega, by show (u : Int) < 36; omega⟩]
  have h2 := dig_tab ⟨u, hu⟩
  simp only [Int.toNat_natCast]
  rw [h2]
/-- 'string(b)' of bytes that lie in a block. -/
theorem run_bytes_at {P : Program} (w : World) (src dst e : TypeId) (hs : P.underlying src = some (.slice e)) (he : P.underlying e = some (.int .u8)) (hd : P.underlying dst = some .string) (B i n c : Nat) (l : List UInt8) (hn : n = l.length) (hc : ∀ (j : Nat) (x : UInt8), l[j]? = some x → w.cell? ⟨B, i + j, none⟩ = some (.int .u8 (x.toNat : Int))) :
    (convert src dst (.slice (some ⟨B, i, none⟩) n c)).run P w = .ok (.string ⟨l.toArray⟩) w := by
  subst hn
  rw [run_convert_bytes_string _ src dst e _ _ _ hs he hd]
  have hl := run_loadCells_list (P := P) w ⟨B, i, none⟩ (l.map fun x => Value.int .u8 (x.toNat : Int)) (fun j v hj => by
    have : (⟨B, i, none⟩ : Addr).add j = ⟨B, i + j, none⟩ := by unfold Addr.add; split <;> simp_all
    rw [this]
    rw [List.getElem?_map] at hj
    cases hx : l[j]? with
    | none => rw [hx] at hj; cases hj
    | some x => rw [hx] at hj; simp at hj; rw [← hj]; exact hc j x hx)
  have hm : (l.map fun x => Value.int .u8 (x.toNat : Int)) = ((l.map fun x => (x.toNat : Int)).map (Value.int .u8)) := by simp
  rw [hm] at hl
  simp only [List.length_map] at hl
  rw [run_bytesToString _ _ _ c (l.map fun x => (x.toNat : Int)) hl]
  have hf : ∀ (l : List UInt8) (s : ByteArray), (l.map fun x => (x.toNat : Int)).foldl (fun r x => r.push (UInt8.ofNat x.toNat)) s = ⟨s.data ++ l.toArray⟩ := by
    intro l
    induction l with
    | nil => intro s; simp
    | cons x l ih => intro s; simp only [List.map_cons, List.foldl_cons]; rw [ih]; simp [ByteArray.push]
  rw [hf]
  have he0 : ByteArray.empty.data = #[] := rfl
  rw [he0]
  simp
theorem ba_ext' {a b : ByteArray} (h : a.data.toList = b.data.toList) : a = b := by
  rcases a with ⟨⟨a⟩⟩; rcases b with ⟨⟨b⟩⟩; simp at h; rw [h]
theorem setBlk' {w : World} {B i : Nat} {cs : Array Value} {t : TypeId} (v : Value) (h : w.heap[B]? = some (.cells cs t (0, 0))) : (w.setCell ⟨B, i, none⟩ v).heap[B]? = some (.cells (cs.setIfInBounds i v) t (0, 0)) := by
  simp [World.setCell, Array.getElem?_modify, h]
theorem drop_set_eq {l : List UInt8} {q : Nat} (hq : q < l.length) {c : UInt8} : (l.set q c).drop q = c :: l.drop (q + 1) := by
  rw [List.drop_eq_getElem_cons (by simpa using hq)]
  simp [List.drop_set_of_lt]
/-- The bytes of a block of 65, from one on. -/
def Blk65 (w : World) (B : Nat) (i : Nat) (l : List UInt8) : Prop := ∃ (cs : List UInt8) (T : TypeId), cs.length = 65 ∧ w.heap[B]? = some (.cells (cs.map fun c => Value.int .u8 (c.toNat : Int)).toArray T (0, 0)) ∧ cs.drop i = l
set_option maxRecDepth 100000 in
set_option maxHeartbeats 1600000 in
theorem formatBits_c (h : Nat) (w : World) (hh : h < 18446744073709551616) (ht : TzLaid w) :
    Calls Tryz.prog 196 #[.slice none 0 0, .int .u64 (h : Int), .int .i64 16, .bool false, .bool false] w fun e w' => e = .returned (.tuple #[.slice none 0 0, .string ⟨(hexL h).toArray⟩]) ∧ Below w.heap.size w w' := by
  have HT := Lib.hid ht; clear ht
  have e0 : bits BinOp.and IntKind.i64 16 15 = 0 := by decide +kernel
  go_enter Tryz.func196, Tryz.ntmps196
  go_wp2_with (first | (go_at_call 228; refine (tz16_c _ (tz_below HT.out ((Below.refl _ _).alloc (Nat.le_refl _) _) (Nat.le_refl _))).mono ?_; rintro e w' ⟨rfl, rfl⟩) | go_in)
  go_loopw [1, 13] (fun s1 s13 wr => ∃ (p j u : Nat) (l : List UInt8), p + j = 65 ∧ j ≤ 15 ∧ u < 18446744073709551616 ∧ s1 = .int .u64 (u : Int) ∧ s13 = .int .i64 (p : Int) ∧ Below w.heap.size w wr ∧ w.heap.size < wr.heap.size ∧ Hid (u < 16 ^ (16 - j)) ∧ Hid (Blk65 wr w.heap.size p l) ∧ Hid (hexL h = hexL u ++ l)) (fun s1 _ _ => (intOf s1).toNat)
  case atStart => exact ⟨65, 0, h, [], rfl, by omega, hh, rfl, rfl, (Below.refl _ _).alloc (Nat.le_refl _) _, by simp, (by show h < 16 ^ 16; simpa using hh), ⟨List.replicate 65 0, _, by simp, heap_alloc_new w _, by simp⟩, by unfold Hid; simp⟩
  case round =>
    obtain ⟨p, j, u, l, hp, hj, hu, rfl, rfl, hb, hz, HU, HB, HX⟩ := hrel
    obtain ⟨q, rfl⟩ : ∃ q, p = q + 1 := ⟨p - 1, by omega⟩
    obtain ⟨d, hd⟩ : ∃ d, u % 16 = d := ⟨_, rfl⟩
    have hd16 : d < 16 := by omega
    by_cases hlt : 16 ≤ u
    · have ha : bits BinOp.and IntKind.u64 (u : Int) 15 = (d : Int) := by
        rw [show (15 : Int) = ((15 : Nat) : Int) from rfl, bits_and_u64_nat u 15 hu (by omega), show u &&& 15 = u % 16 from Nat.and_two_pow_sub_one_eq_mod u 4, hd]
      have hdr := fun W => dig_run (P := Tryz.prog) (T := 9) Tryz.underlying9 d hd16 W
      have hj14 : j ≤ 14 := by
        have := HU.out
        by_cases hc : j ≤ 14
        · exact hc
        · have e : j = 15 := by omega
          rw [e] at this; simp at this; omega
      have HU2 := Lib.hid (show u / 16 < 16 ^ (16 - (j + 1)) by
        have := HU.out
        rw [show 16 - j = (16 - (j + 1)) + 1 by omega, Nat.pow_succ] at this
        omega)
      have HX2 := Lib.hid (show hexL h = hexL (u / 16) ++ (hexd d :: l) by rw [HX.out, hexL_ge (by omega), hd]; simp)
      obtain ⟨cs, T, hl65, hblk, hdrop⟩ := HB.out
      obtain ⟨hc, hf⟩ := str_cells hblk
      have hq : q < cs.length := by omega
      have c0 : wr.cell? ⟨w.heap.size, q, none⟩ = some (.int .u8 (cs[q].toNat : Int)) := by rw [hc]; simp [hq]
      have f0 := hf q
      have HBK := Lib.hid hblk
      have HD := Lib.hid hdrop
      clear hc hf hblk hdrop hd
      go_wp2
      go_roundw
      case rel => exact ⟨q, j + 1, u / 16, hexd d :: l, by omega, by omega, by omega, ret_u64 (by omega), rfl, hb.setCell (Nat.le_refl _) _, by show _ < (World.setCell _ _ _).heap.size; simpa [World.setCell] using hz, HU2.out,
        ⟨cs.set q (hexd d), T, by simpa using hl65, by rw [setBlk' _ HBK.out]; simp [List.map_set], by rw [drop_set_eq hq]; rw [HD.out]⟩, HX2.out⟩
      case measure => simp [intOf]; omega
    · have hdr := fun W => dig_run (P := Tryz.prog) (T := 9) Tryz.underlying9 u (by omega) W
      have HX2 := Lib.hid (show hexL h = hexd u :: l by rw [HX.out, hexL_lt (by omega)]; rfl)
      obtain ⟨cs, T, hl65, hblk, hdrop⟩ := HB.out
      obtain ⟨hc, hf⟩ := str_cells hblk
      have hq : q < cs.length := by omega
      have c0 : wr.cell? ⟨w.heap.size, q, none⟩ = some (.int .u8 (cs[q].toNat : Int)) := by rw [hc]; simp [hq]
      have f0 := hf q
      have HBK := Lib.hid hblk
      have HD := Lib.hid hdrop
      clear hc hf hblk hdrop hd
      have hcv := run_bytes_at (P := Tryz.prog) (wr.setCell ⟨w.heap.size, q, none⟩ (.int .u8 ((hexd u).toNat : Int))) 140 9 5 Tryz.underlying140 Tryz.underlying5 Tryz.underlying9 w.heap.size q (65 - q) (65 - q) (hexd u :: l) (by rw [← HD.out]; simp; omega) (fun j x hj => by
        have hb2 := setBlk' (w := wr) (i := q) (.int .u8 ((hexd u).toNat : Int)) HBK.out
        rw [(str_cells hb2).1]
        rw [← HD.out, ← drop_set_eq hq, List.getElem?_drop] at hj
        rw [List.setIfInBounds_toArray, List.getElem?_toArray, show Value.int .u8 ((hexd u).toNat : Int) = (fun c : UInt8 => Value.int .u8 (c.toNat : Int)) (hexd u) from rfl, ← List.map_set, List.getElem?_map, hj]
        rfl)
      have p1 : (q : Int) ≤ 65 := by omega
      have p2 : (0 : Int) ≤ (q : Int) := by omega
      have p3 : ¬ 65 = q := by omega
      have p4 : q ≤ 65 := by omega
      go_wp2
      go_ret2
      exact ⟨by rw [HX2.out]; rfl, hb.setCell (Nat.le_refl _) _⟩

theorem rep48 (k : Nat) : (⟨(Lib.repeatL (ByteArray.mk #[48]).data.toList k).toArray⟩ : ByteArray) = ⟨(List.replicate k 48).toArray⟩ := by
  have : ∀ k, Lib.repeatL [48] k = List.replicate k (48 : UInt8) := by
    intro k
    induction k with
    | zero => rfl
    | succ k ih => rw [Lib.repeatL, ih]; rfl
  rw [show (ByteArray.mk #[48]).data.toList = [48] from rfl, this]
end Go.Proofs.YtkhegeobdcemkaaGreatDoor

/- The program's names of files, and copies checked. -/
namespace Go.Proofs.YtkhegeobdcemkaaGreatDoor
set_option linter.unusedVariables false
open Go.RowKit

theorem idx_set (set : List UInt8) (c : UInt8) : (set.contains c = true → 0 ≤ Lib.indexByte set c) ∧ (set.contains c = false → Lib.indexByte set c < 0) := by
  have hg := Lib.indexByte_ge set c
  constructor
  · intro h
    by_cases h1 : Lib.indexByte set c = -1
    · have hm : c ∈ set := by simpa using h
      obtain ⟨k, hk, e⟩ := List.mem_iff_getElem.1 hm
      exact absurd (by rw [List.getElem?_eq_getElem hk, e]) (Lib.indexByte_none h1 k)
    · omega
  · intro h
    by_cases h1 : 0 ≤ Lib.indexByte set c
    · obtain ⟨o, ho⟩ := Int.eq_ofNat_of_zero_le h1
      obtain ⟨h2, _⟩ := Lib.indexByte_some ho
      have : c ∈ set := List.mem_of_getElem? h2
      simp at h; exact absurd this h
    · omega
/-- strings.IndexByte: below 0 just where the byte is none of the set. -/
theorem idxB_c (set : ByteArray) (c : UInt8) (w : World) : Calls Tryz.prog 164 #[.string set, .int .u8 (c.toNat : Int)] w fun e w' => e = .returned (.int .i64 (Lib.indexByte set.data.toList c)) ∧ w = w' := by
  refine (Tryz.strings_IndexByte set (c.toNat : Int) w).mono ?_
  rintro e w' ⟨he, hw⟩
  refine ⟨?_, hw.symm⟩
  rw [he]
  have : ((c.toNat : Int)).toNat.toUInt8 = c := by simp
  rw [this]

/-- A map of names that have come. -/
def seenN (pre : List ByteArray) (m : List (ByteArray × Value)) : Prop := ∀ x, lk m x = if (pre.any fun y => decide (y = x)) = true then some (.bool true) else none
theorem seenN_nil : seenN [] [] := fun x => rfl
theorem seenN_snoc {pre : List ByteArray} {m : List (ByteArray × Value)} (h : seenN pre m) (s : ByteArray) : seenN (pre ++ [s]) (up m s (.bool true)) := by
  intro x
  rw [lk_up, h x]
  by_cases hx : x = s
  · subst hx; simp
  · have h2 : (pre ++ [s]).any (fun y => decide (y = x)) = pre.any (fun y => decide (y = x)) := by
      rw [List.any_append, List.any_cons, List.any_nil, decide_eq_false (fun e => hx e.symm)]; simp
    rw [if_neg hx, h2]
theorem keyS' : PlainKey Tryz.prog 9 Value.string := plainKey_string Tryz.underlying9
theorem zeroB' (w : World) : (zeroValue 4).run Tryz.prog w = .ok (.bool false) w := by kernel_rfl

def FileF (pre : List ByteArray) (s : ByteArray) (mb : Nat) (w : World) (e : Ending) (w' : World) : Prop :=
  e = .returned (.int .i64 (nameF pre s)) ∧ w.grownBy w' (some mb) ∧ (nameF pre s = 0 → ∃ m', MapL w' mb Value.string m' ∧ seenN (pre ++ [s]) m')
theorem hexC_eq (s : ByteArray) : allB (([48, 49, 50, 51, 52, 53, 54, 55, 56, 57, 97, 98, 99, 100, 101, 102] : List UInt8).contains ·) s = allB hexC s := allB_congr (by decide +kernel) s
def TrimX (s : ByteArray) (w : World) (e : Ending) (w' : World) : Prop := ∃ t : ByteArray, e = .returned (.string t) ∧ (allB hexC s = true → t = ⟨#[]⟩) ∧ (allB hexC s = false → t.toList.isEmpty = false) ∧ Below w.heap.size w w'
theorem trimX_c (s : ByteArray) (w : World) (hs : s.size ≤ 140737488355328) : Calls Tryz.prog 111 #[.string s, .string ⟨#[48, 49, 50, 51, 52, 53, 54, 55, 56, 57, 97, 98, 99, 100, 101, 102]⟩] w (TrimX s w) := by
  refine (trim_c s _ w hs (by decide) (by decide)).mono ?_
  rintro e w' ⟨he, hb⟩
  refine ⟨_, he, fun h => ?_, fun h => ?_, hb⟩
  · rw [← hexC_eq] at h
    rw [(trimS_nil _ _).2 h]
  · rw [toList_mk]
    rw [← hexC_eq] at h
    cases hd : Lib.trimS s.data.toList (ByteArray.mk #[48, 49, 50, 51, 52, 53, 54, 55, 56, 57, 97, 98, 99, 100, 101, 102]).data.toList with
    | nil => have := (trimS_nil _ _).1 hd; rw [show s.data.toList.all _ = allB _ s from rfl] at this; rw [this] at h; cases h
    | cons y t => rfl
end Go.Proofs.YtkhegeobdcemkaaGreatDoor

/- Lists of copies checked, and manifests made. -/
namespace Go.Proofs.YtkhegeobdcemkaaGreatDoor
set_option linter.unusedVariables false
open Go.RowKit

def CopySz (l : List Copied) : Prop := ∀ x ∈ l, x.name.size ≤ 140737488355328 ∧ x.sum.size ≤ 140737488355328
end Go.Proofs.YtkhegeobdcemkaaGreatDoor

/- Slices compared and looked through; the reference's names of files. -/
namespace Go.Proofs.YtkhegeobdcemkaaGreatDoor
set_option linter.unusedVariables false
open Go.RowKit

theorem strAt {w : World} {F : Nat → Prop} {l : List ByteArray} {A : Option Addr} {n c : Nat} (h : Sli strR w F l (.slice A n c)) (k : Nat) (hk : k < l.length) : ∃ b off, A = some ⟨b, off, none⟩ ∧ F b ∧ w.cell? ⟨b, off + k, none⟩ = some (.string l[k]) := by
  obtain ⟨b, off, a, e, hb, hr, hc⟩ := h.at_ k hk
  have ha : a = [.string l[k]] := hr
  subst ha
  refine ⟨b, off, e, hb, ?_⟩
  have h := hc 0 _ rfl
  rw [show off + k * strR.n + 0 = off + k from by show off + k * 1 + 0 = _; omega] at h
  exact h
theorem copAt {w : World} {F : Nat → Prop} {l : List Copied} {A : Option Addr} {n c : Nat} (h : Sli copR w F l (.slice A n c)) (k : Nat) (hk : k < l.length) : ∃ b off, A = some ⟨b, off, none⟩ ∧ F b ∧ w.cell? ⟨b, off + k * 3, none⟩ = some (.string l[k].name) ∧ w.cell? ⟨b, off + k * 3 + 1, none⟩ = some (.int .i64 l[k].size) ∧ w.cell? ⟨b, off + k * 3 + 2, none⟩ = some (.string l[k].sum) := by
  obtain ⟨b, off, a, e, hb, hr, hc⟩ := h.at_ k hk
  have ha : a = (l[k]).cells := hr
  subst ha
  exact ⟨b, off, e, hb, hc 0 _ rfl, hc 1 _ rfl, hc 2 _ rfl⟩

theorem eq_take_next {α : Type} {a b : List α} {k : Nat} (h1 : k < a.length) (h2 : k < b.length) (h : a.take k = b.take k) (e : a[k] = b[k]) : a.take (k + 1) = b.take (k + 1) := by
  rw [List.take_succ_eq_append_getElem h1, List.take_succ_eq_append_getElem h2, h, e]
theorem ne_at {α : Type} {a b : List α} {k : Nat} (h1 : k < a.length) (h2 : k < b.length) (e : ¬ a[k] = b[k]) : ¬ a = b := by
  intro h; subst h; exact e rfl

set_option maxRecDepth 100000 in
set_option maxHeartbeats 800000 in
theorem eqStr_c (l1 l2 : List ByteArray) (v1 v2 : Value) (F : Nat → Prop) (w : World) (h1 : Sli strR w F l1 v1) (h2 : Sli strR w F l2 v2) (hF : ∀ b, F b → b < w.heap.size) :
    Calls Tryz.prog 31 #[v1, v2] w fun e w' => e = .returned (.bool (decide (l1 = l2))) ∧ Below w.heap.size w w' := by
  obtain ⟨A1, c1, rfl, hlc1, hc1⟩ := h1.form
  obtain ⟨A2, c2, rfl, hlc2, hc2⟩ := h2.form
  have H1 := Lib.hid h1; clear h1
  have H2 := Lib.hid h2; clear h2
  have HF := Lib.hid hF; clear hF
  by_cases hne : l1.length = l2.length
  · obtain ⟨n, hn1⟩ : ∃ n, l1.length = n := ⟨_, rfl⟩
    have hn2 : l2.length = n := by omega
    rw [hn1] at H1 hlc1 ⊢
    rw [hn2] at H2 ⊢
    go_enter Tryz.func31, Tryz.ntmps31
    go_wp2
    go_loopw [13] (fun i wr => ∃ k : Nat, k ≤ n ∧ i = .int .i64 k ∧ Below w.heap.size w wr ∧ Hid (l1.take k = l2.take k)) (fun i _ => n - (intOf i).toNat)
    case atStart => exact ⟨0, Nat.zero_le _, rfl, Below.refl _ _, rfl⟩
    case round =>
      obtain ⟨k, hk, rfl, hb, HT⟩ := hrel
      by_cases hlt : k < n
      · obtain ⟨b, off, rfl, hfb, c0⟩ := strAt (H1.out.below hb HF.out) k (by omega)
        obtain ⟨b2, off2, rfl, hfb2, d0⟩ := strAt (H2.out.below hb HF.out) k (by omega)
        by_cases he : l1[k]'(by omega) = l2[k]'(by omega)
        · have HN := Lib.hid (eq_take_next (by omega) (by omega) HT.out he)
          rw [he] at c0
          clear he
          generalize l2[k]'(by omega) = x at *
          go_wp2
          go_quiet (fail)
          go_wp2
          go_roundw
          case rel => exact ⟨k + 1, by omega, intNum, by first | exact hb | exact hb.drew | exact below_drewN hb _, HN.out⟩
          case measure => simp [intOf]; omega
        · have HN := Lib.hid (ne_at (by omega) (by omega) he)
          generalize l1[k]'(by omega) = x at *
          generalize l2[k]'(by omega) = y at *
          have hq : (x.toList == y.toList) = false := by rw [beqS]; simpa using he
          go_wp2
          go_quiet (fail)
          go_wp2
          go_ret
          exact ⟨ret_bool (by symm; simpa using HN.out), by first | exact hb | exact hb.drew | exact below_drewN hb _⟩
      · have e : k = n := by omega
        have HN := Lib.hid (show l1 = l2 by have := HT.out; rwa [List.take_of_length_le (by omega), List.take_of_length_le (by omega)] at this)
        go_wp2
        go_ret
        exact ⟨ret_bool (by symm; simpa using HN.out), hb⟩
  · have HN := Lib.hid (show ¬ l1 = l2 by intro h; exact hne (by rw [h]))
    have hz : ¬ (l1.length : Int) = l2.length := by omega
    go_enter Tryz.func31, Tryz.ntmps31
    go_wp2
    go_ret
    exact ⟨ret_bool (by symm; simpa using HN.out), Below.refl _ _⟩

instance : DecidableEq Copied := fun a b => decidable_of_iff (a.eqB b = true) Copied.eqB_iff
set_option maxHeartbeats 800000 in
theorem idxStr_c (l : List ByteArray) (s : ByteArray) (v : Value) (F : Nat → Prop) (w : World) (h1 : Sli strR w F l v) :
    Calls Tryz.prog 220 #[v, .string s] w fun e w' => e = .returned (.int .i64 (idxV (l.findIdx? fun y => decide (y = s)))) ∧ w = w' := by
  obtain ⟨A1, c1, rfl, hlc1, hc1⟩ := h1.form
  have H1 := Lib.hid h1; clear h1
  go_enter Tryz.func220, Tryz.ntmps220
  go_wp2
  go_loop [8] (fun i => ∃ k : Nat, k ≤ l.length ∧ i = .int .i64 k ∧ Hid (∀ x ∈ l.take k, decide (x = s) = false)) (fun i => l.length - (intOf i).toNat)
  case atStart => exact ⟨0, Nat.zero_le _, rfl, by intro x hx; simp at hx⟩
  case round =>
    obtain ⟨k, hk, rfl, HT⟩ := hrel
    by_cases hlt : k < l.length
    · obtain ⟨b, off, rfl, hfb, c0⟩ := strAt H1.out k hlt
      by_cases he : l[k] = s
      · have H := Lib.hid (findIdx_at (p := fun y => decide (y = s)) HT.out hlt (by simpa using he))
        rw [he] at c0
        clear he
        go_wp2
        go_ret
        exact ⟨by rw [H.out]; rfl, rfl⟩
      · have HN := Lib.hid (take_next (q := fun y => decide (y = s) = false) hlt HT.out (by simpa using he))
        generalize l[k] = x at *
        have hq : (s.toList == x.toList) = false := by rw [beqS]; simpa using (fun e => he e.symm)
        go_wp2
        go_round
        case rel => exact ⟨k + 1, by omega, intNum, HN.out⟩
        case measure => simp [intOf]; omega
    · have H := Lib.hid (findIdx_no (take_all hlt HT.out))
      go_wp2
      go_ret
      exact ⟨by rw [H.out]; rfl, rfl⟩
theorem contains_c (l : List ByteArray) (s : ByteArray) (v : Value) (F : Nat → Prop) (w : World) (h1 : Sli strR w F l v) :
    Calls Tryz.prog 189 #[v, .string s] w fun e w' => e = .returned (.bool (l.any fun y => decide (y = s))) ∧ w = w' := by
  have HC := Lib.hid (idxStr_c l s v F w h1); clear h1
  cases h : l.findIdx? (fun y => decide (y = s)) with
  | none =>
    have HV := Lib.hid (show (l.any fun y => decide (y = s)) = false by rw [List.findIdx?_eq_none_iff] at h; rw [List.any_eq_false]; intro x hx; simp [h x hx])
    rw [h] at HC
    go_enter Tryz.func189, Tryz.ntmps189
    go_wp2_with fail
    refine HC.out.mono ?_
    rintro e w' ⟨rfl, rfl⟩
    rw [show idxV none = -1 from rfl]
    go_wp2
    go_ret
    exact ⟨ret_bool (by rw [HV.out]), rfl⟩
  | some i =>
    have HV := Lib.hid (show (l.any fun y => decide (y = s)) = true by
      obtain ⟨hi, hp, _⟩ := List.findIdx?_eq_some_iff_getElem.1 h
      rw [List.any_eq_true]; exact ⟨_, List.getElem_mem hi, hp⟩)
    rw [h] at HC
    go_enter Tryz.func189, Tryz.ntmps189
    go_wp2_with fail
    refine HC.out.mono ?_
    rintro e w' ⟨rfl, rfl⟩
    rw [show idxV (some i) = (i : Int) from rfl]
    have : (0 : Int) ≤ (i : Int) := by omega
    go_wp2
    go_ret
    exact ⟨ret_bool (by rw [HV.out]), rfl⟩

end Go.Proofs.YtkhegeobdcemkaaGreatDoor

/- Lists of whole numbers compared: the library's, walked. -/
namespace Go.Proofs.YtkhegeobdcemkaaGreatDoor
set_option linter.unusedVariables false
open Go.RowKit

theorem intAt {w : World} {F : Nat → Prop} {l : List Int} {A : Option Addr} {n c : Nat} (h : Sli intR w F l (.slice A n c)) (k : Nat) (hk : k < l.length) : ∃ b off, A = some ⟨b, off, none⟩ ∧ F b ∧ w.cell? ⟨b, off + k, none⟩ = some (.int .i64 l[k]) := by
  obtain ⟨b, off, a, e, hb, hr, hc⟩ := h.at_ k hk
  have ha : a = [.int .i64 l[k]] := hr
  subst ha
  refine ⟨b, off, e, hb, ?_⟩
  have h := hc 0 _ rfl
  rw [show off + k * intR.n + 0 = off + k from by show off + k * 1 + 0 = _; omega] at h
  exact h
set_option maxRecDepth 100000 in
set_option maxHeartbeats 800000 in
theorem eqInt_c (l1 l2 : List Int) (v1 v2 : Value) (F : Nat → Prop) (w : World) (h1 : Sli intR w F l1 v1) (h2 : Sli intR w F l2 v2) (hF : ∀ b, F b → b < w.heap.size) :
    Calls Tryz.prog 30 #[v1, v2] w fun e w' => e = .returned (.bool (decide (l1 = l2))) ∧ Below w.heap.size w w' := by
  obtain ⟨A1, c1, rfl, hlc1, hc1⟩ := h1.form
  obtain ⟨A2, c2, rfl, hlc2, hc2⟩ := h2.form
  have H1 := Lib.hid h1; clear h1
  have H2 := Lib.hid h2; clear h2
  have HF := Lib.hid hF; clear hF
  by_cases hne : l1.length = l2.length
  · obtain ⟨n, hn1⟩ : ∃ n, l1.length = n := ⟨_, rfl⟩
    have hn2 : l2.length = n := by omega
    rw [hn1] at H1 hlc1 ⊢
    rw [hn2] at H2 ⊢
    go_enter Tryz.func30, Tryz.ntmps30
    go_wp2
    go_loopw [13] (fun i wr => ∃ k : Nat, k ≤ n ∧ i = .int .i64 k ∧ Below w.heap.size w wr ∧ Hid (l1.take k = l2.take k)) (fun i _ => n - (intOf i).toNat)
    case atStart => exact ⟨0, Nat.zero_le _, rfl, Below.refl _ _, rfl⟩
    case round =>
      obtain ⟨k, hk, rfl, hb, HT⟩ := hrel
      by_cases hlt : k < n
      · obtain ⟨b, off, rfl, hfb, c0⟩ := intAt (H1.out.below hb HF.out) k (by omega)
        obtain ⟨b2, off2, rfl, hfb2, d0⟩ := intAt (H2.out.below hb HF.out) k (by omega)
        by_cases he : l1[k]'(by omega) = l2[k]'(by omega)
        · have HN := Lib.hid (eq_take_next (by omega) (by omega) HT.out he)
          rw [he] at c0
          clear he
          generalize l2[k]'(by omega) = x at *
          have hq : (x != x) = false := by simp
          go_wp2
          go_quiet (fail)
          go_wp2
          go_roundw
          case rel => exact ⟨k + 1, by omega, intNum, by first | exact hb | exact hb.drew | exact below_drewN hb _, HN.out⟩
          case measure => simp [intOf]; omega
        · have HN := Lib.hid (ne_at (by omega) (by omega) he)
          generalize l1[k]'(by omega) = x at *
          generalize l2[k]'(by omega) = y at *
          have hq : (x != y) = true := bne_iff_ne.2 he
          clear he
          go_wp2
          go_quiet (fail)
          go_wp2
          go_ret
          exact ⟨ret_bool (by symm; simpa using HN.out), by first | exact hb | exact hb.drew | exact below_drewN hb _⟩
      · have e : k = n := by omega
        have HN := Lib.hid (show l1 = l2 by have := HT.out; rwa [List.take_of_length_le (by omega), List.take_of_length_le (by omega)] at this)
        go_wp2
        go_ret
        exact ⟨ret_bool (by symm; simpa using HN.out), hb⟩
  · have HN := Lib.hid (show ¬ l1 = l2 by intro h; exact hne (by rw [h]))
    have hz : ¬ (l1.length : Int) = l2.length := by omega
    go_enter Tryz.func30, Tryz.ntmps30
    go_wp2
    go_ret
    exact ⟨ret_bool (by symm; simpa using HN.out), Below.refl _ _⟩
end Go.Proofs.YtkhegeobdcemkaaGreatDoor

/- What the library has laid, kept beside a stream; Atoi and Itoa there. -/
namespace Go.Proofs.YtkhegeobdcemkaaGreatDoor
set_option linter.unusedVariables false
open Go.RowKit Go.Sort

theorem pow_block {w w' : World} (h : PowLaid w) (hk : w'.heap[2]? = w.heap[2]?) : PowLaid w' := by
  unfold PowLaid Lib.TabIs World.var? at *
  rw [show Tryz.prog.globalNamed "internal/strconv.uint64pow10" = some 2 by kernel_rfl] at *
  simp only [Option.bind_some] at *
  rw [hk]; exact h
theorem pow_lt {w : World} (h : PowLaid w) : 2 < w.heap.size := by
  unfold PowLaid Lib.TabIs World.var? at h
  rw [show Tryz.prog.globalNamed "internal/strconv.uint64pow10" = some 2 by kernel_rfl] at h
  simp only [Option.bind_some] at h
  rcases Nat.lt_or_ge 2 w.heap.size with h' | h'
  · exact h'
  · simp [Array.getElem?_eq_none h'] at h
/-- The library's errors and its table of powers lie as they were laid, below the stream's block. -/
def LaidS (sb : Nat) (w : World) : Prop := ErrsLaid w ∧ PowLaid w ∧ 8 < sb ∧ 9 < sb ∧ 2 < sb
section
variable {w w' : World} {sb : Nat}
theorem LaidS.start (he : ErrsLaid w) (hp : PowLaid w) : LaidS w.heap.size w := ⟨he, hp, he.2.2.1, he.2.2.2, pow_lt hp⟩
theorem LaidS.keep (h : LaidS sb w) (hs : w.heap.size ≤ w'.heap.size) (hk : ∀ b, b < sb → w'.heap[b]? = w.heap[b]?) : LaidS sb w' :=
  ⟨h.1.keep hs (World.cell?_of_block (hk _ h.2.2.1)) (World.cell?_of_block (hk _ h.2.2.2.1)), pow_block h.2.1 (hk _ h.2.2.2.2), h.2.2⟩
theorem LaidS.grown (h : LaidS sb w) (hlt : sb < w.heap.size) (hg : w.grownBy w' (some sb)) : LaidS sb w' := h.keep hg.size fun b hb => hg.block b (by omega) (by simp; omega)
theorem LaidS.below {B : Nat} (h : LaidS sb w) (hb : Below B w w') (hB : sb ≤ B) : LaidS sb w' := h.keep hb.size fun b hlt => hb.block b (by omega)
theorem LaidS.alloc (h : LaidS sb w) (hlt : sb ≤ w.heap.size) (o : Obj) : LaidS sb (w.alloc o) := h.keep (by simp) fun b hb => Below.heap_alloc w o b (by omega)
theorem LaidS.errs (h : LaidS sb w) : ErrsLaid w := h.1
theorem LaidS.pow (h : LaidS sb w) : PowLaid w := h.2.1
end
theorem okI_wrap (n : Int) : okI (IntKind.i64.wrap n) := by rw [IntKind.wrap_i64]; unfold okI; omega
def AtoiO (s : ByteArray) (w : World) (e : Ending) (w' : World) : Prop := ∃ n ev, okI n ∧ AtoiP s n ev ∧ e = .returned (.tuple #[.int .i64 n, ev]) ∧ Below w.heap.size w w'
theorem atoi_o (s : ByteArray) (w : World) (hs : s.size ≤ 140737488355328) (hl : ErrsLaid w) : Calls Tryz.prog 211 #[.string s] w (AtoiO s w) := by
  obtain ⟨⟨t1, p1, h1⟩, ⟨t2, p2, h2⟩, _, _⟩ := hl
  cases h : Lib.atoiAll s.data.toList
  case ok v =>
    refine (Any.strconv_Atoi_ok Tryz.laysC172 s (by omega) v h w).mono ?_
    rintro e w' ⟨he, hw⟩
    refine ⟨v, _, atoi_bd h, .inl ⟨h, rfl⟩, he, ?_⟩
    rcases hw with rfl | ⟨t, rfl⟩
    · exact Below.refl _ _
    · exact Joins.below_bytesWorld _ _ _ _ (Nat.le_refl _)
  · refine (Any.strconv_Atoi_syntax Tryz.laysC172 s (by omega) h _ w h1 (.inr ⟨_, _, rfl⟩)).mono ?_
    rintro e w' ⟨N, he, _, _, hb⟩
    exact ⟨_, _, by unfold okI; omega, .inr ⟨(fun v hv => by rw [h] at hv; cases hv), _, _, rfl⟩, he, hb⟩
  · refine (Any.strconv_Atoi_range Tryz.laysC172 s (by omega) h _ w h2 (.inr ⟨_, _, rfl⟩)).mono ?_
    rintro e w' ⟨N, he, _, _, hb⟩
    exact ⟨_, _, by unfold okI Lib.atoiSat; split <;> omega, .inr ⟨(fun v hv => by rw [h] at hv; cases hv), _, _, rfl⟩, he, hb⟩
theorem itoa_sz (n : Int) (h : okI n) : (⟨(Lib.itoa n).toArray⟩ : ByteArray).size ≤ 21 := by
  have := Lib.itoa_length_le n h.1 h.2
  show (Lib.itoa n).toArray.size ≤ 21
  simpa using this
end Go.Proofs.YtkhegeobdcemkaaGreatDoor

/- The number of a scene, and a setup, in plain words. -/
namespace Go.Proofs.YtkhegeobdcemkaaGreatDoor
set_option linter.unusedVariables false
open Go.RowKit

def digB (c : UInt8) : Bool := decide (48 ≤ c.toNat) && decide (c.toNat ≤ 57)
def capB (c : UInt8) : Bool := decide (65 ≤ c.toNat) && decide (c.toNat ≤ 90)
def numK (s : ByteArray) : Nat := (s.data.toList.takeWhile digB).length
def numB (s : ByteArray) : Bool :=
  (s.data.toList.drop (numK s)).all capB && decide (s.size - numK s ≤ 5) && !Lib.hasSuffix (s.data.toList.drop (numK s)) [65]
    && (if s.data.toList.take (numK s) = [48] then decide (numK s < s.size) else decide (1 ≤ numK s) && decide (numK s ≤ 3) && decide (s.data.toList.head? ≠ some 48))

theorem takeWhile_len {p : UInt8 → Bool} {l : List UInt8} {k : Nat} (h : ∀ x ∈ l.take k, p x = true) (hk : k ≤ l.length) (he : ∀ hlt : k < l.length, p l[k] = false) : (l.takeWhile p).length = k := by
  induction l generalizing k with
  | nil => simp at hk; simp [hk]
  | cons y l ih =>
    cases k with
    | zero => have := he (by simp); simp at this; simp [this]
    | succ k =>
      have h0 : p y = true := h y (by simp)
      have := ih (k := k) (fun x hx => h x (by simp [hx])) (by simpa using hk) (fun hlt => he (Nat.succ_lt_succ hlt))
      simp [h0, this]
theorem numK_eq {s : ByteArray} {k : Nat} (h : ∀ x ∈ s.data.toList.take k, digB x = true) (hk : k ≤ s.size) (he : ∀ hlt : k < s.size, digB s[k] = false) : numK s = k :=
  takeWhile_len h (by simpa using hk) (fun hlt => he (by simpa using hlt))
theorem extract_list (s : ByteArray) (a b : Nat) : (s.extract a b).data.toList = (s.data.toList.drop a).take (b - a) := by
  simp
theorem extract_end (s : ByteArray) (k : Nat) : (s.extract k s.size).data.toList = s.data.toList.drop k := by
  rw [extract_list, List.take_of_length_le]
  simp

theorem numB_size {s : ByteArray} (h : numB s = true) : s.size ≤ 8 := by
  simp only [numB, Bool.and_eq_true, decide_eq_true_eq] at h
  obtain ⟨⟨⟨_, h1⟩, _⟩, h2⟩ := h
  split at h2
  · rename_i h3
    have := congrArg List.length h3
    simp at this; omega
  · simp only [Bool.and_eq_true, decide_eq_true_eq] at h2; omega

def setC (c : UInt8) : Bool := capB c && decide (c.toNat ≠ 73) && decide (c.toNat ≠ 79)
def setupB (s : ByteArray) : Bool := allB setC s && decide (s.size ≤ 2)
theorem setupB_size {s : ByteArray} (h : setupB s = true) : s.size ≤ 2 := by
  simp only [setupB, Bool.and_eq_true, decide_eq_true_eq] at h; exact h.2
def slateE (scene setup : ByteArray) (n : Int) : Int := if numB scene = false then 5 else if setupB setup = false then 5 else if n < 1 ∨ 99 < n then 1 else 0
def slateS (scene setup : ByteArray) (n : Nat) : ByteArray := (if setup.toList.isEmpty = true then scene else scene ++ (⟨#[47]⟩ ++ setup)) ++ ⟨#[45]⟩ ++ ⟨(Lib.decDigits n).toArray⟩
def slateA (scene setup : ByteArray) (n : Int) : ByteArray := if slateE scene setup n = 0 then slateS scene setup n.toNat else ⟨#[]⟩
end Go.Proofs.YtkhegeobdcemkaaGreatDoor

/- Plain texts, in plain words: joined words against no blanks beside blanks. No program in sight. -/
namespace Go.Proofs.YtkhegeobdcemkaaGreatDoor
set_option linter.unusedVariables false
open Go.RowKit

/-- The words of a text: what stands between blanks. -/
def wordsA : List UInt8 → List UInt8 → List (List UInt8)
  | [], cur => if cur = [] then [] else [cur]
  | c :: l, cur => if c = 32 then (if cur = [] then wordsA l [] else cur :: wordsA l []) else wordsA l (cur ++ [c])
def joinW : List (List UInt8) → List UInt8
  | [] => []
  | [w] => w
  | w :: v :: r => w ++ 32 :: joinW (v :: r)
/-- No blank behind a blank, none at the end. -/
def okA : Bool → List UInt8 → Bool
  | prev, [] => !prev
  | prev, c :: l => if c = 32 then (if prev then false else okA true l) else okA false l
theorem joinW_cons (w : List UInt8) (r : List (List UInt8)) : joinW (w :: r) = if r = [] then w else w ++ 32 :: joinW r := by
  cases r with
  | nil => rfl
  | cons v r => rfl
theorem wordsA_ne (l : List UInt8) : ∀ cur, cur ≠ [] → wordsA l cur ≠ [] := by
  induction l with
  | nil => intro cur h; simp [wordsA, h]
  | cons c l ih =>
    intro cur h
    unfold wordsA
    by_cases hc : c = 32
    · rw [if_pos hc, if_neg h]; simp
    · rw [if_neg hc]; exact ih _ (by simp)
theorem join_len (l : List UInt8) : ∀ cur, (joinW (wordsA l cur)).length ≤ cur.length + l.length := by
  induction l with
  | nil => intro cur; by_cases h : cur = [] <;> simp [wordsA, h, joinW]
  | cons c l ih =>
    intro cur
    unfold wordsA
    by_cases hc : c = 32
    · rw [if_pos hc]
      have h1 := ih []
      by_cases h : cur = []
      · rw [if_pos h]; simp at h1 ⊢; omega
      · rw [if_neg h, joinW_cons]
        split
        · simp
        · simp at h1 ⊢; omega
    · rw [if_neg hc]
      have := ih (cur ++ [c])
      simp at this ⊢; omega
theorem join_ok (l : List UInt8) : (∀ cur, cur ≠ [] → (joinW (wordsA l cur) = cur ++ l ↔ okA false l = true)) ∧ ((wordsA l [] ≠ [] ∧ joinW (wordsA l []) = l) ↔ okA true l = true) := by
  induction l with
  | nil =>
    refine ⟨fun cur h => ?_, ?_⟩
    · simp [wordsA, h, joinW, okA]
    · simp [wordsA, okA]
  | cons c l ih =>
    obtain ⟨ihA, ihB⟩ := ih
    refine ⟨fun cur h => ?_, ?_⟩
    · unfold wordsA okA
      by_cases hc : c = 32
      · rw [if_pos hc, if_neg h, if_pos hc, joinW_cons]
        simp only [Bool.false_eq_true, if_false]
        rw [← ihB]
        by_cases hw : wordsA l [] = []
        · rw [if_pos hw]; simp [hw]
        · rw [if_neg hw, hc]
          simp [hw]
      · rw [if_neg hc, if_neg hc, ← ihA (cur ++ [c]) (by simp)]; simp
    · unfold wordsA okA
      by_cases hc : c = 32
      · rw [if_pos hc, if_pos rfl, if_pos hc]
        simp only [if_true, Bool.false_eq_true, iff_false, not_and]
        intro _ h
        have := join_len l []
        rw [h] at this
        simp at this
        omega
      · rw [if_neg hc, if_neg hc, List.nil_append, ← ihA [c] (by simp)]
        constructor
        · rintro ⟨_, h⟩; exact h
        · intro h; exact ⟨wordsA_ne l _ (by simp), h⟩
def plainL (l : List UInt8) : Bool := decide (l = []) || okA true l
/-- What the reference asks. -/
theorem plain_join (l : List UInt8) : joinW (wordsA l []) = l ↔ plainL l = true := by
  unfold plainL
  cases l with
  | nil => simp [wordsA, joinW]
  | cons c l =>
    have h := (join_ok (c :: l)).2
    simp only [Bool.or_eq_true, decide_eq_true_eq, reduceCtorEq, false_or]
    rw [← h]
    constructor
    · intro he
      refine ⟨fun hw => ?_, he⟩
      rw [hw] at he; cases he
    · exact fun h => h.2
def dblB : List UInt8 → Bool
  | [] => false
  | [_] => false
  | a :: b :: l => (a == 32 && b == 32) || dblB (b :: l)
def sufB : List UInt8 → Bool
  | [] => false
  | [a] => a == 32
  | _ :: b :: l => sufB (b :: l)
/-- What the program asks. -/
theorem okA_prog (l : List UInt8) : ∀ prev c, okA prev (c :: l) = (!dblB (c :: l) && !(prev && c == 32) && !sufB (c :: l)) := by
  induction l with
  | nil =>
    intro prev c
    by_cases hc : c = 32
    · cases prev <;> simp [okA, dblB, sufB, hc]
    · cases prev <;> simp [okA, dblB, sufB, hc]
  | cons d l ih =>
    intro prev c
    by_cases hc : c = 32
    · cases prev
      · rw [okA, if_pos hc]
        simp only [Bool.false_eq_true, if_false]
        rw [ih true d]
        have e : (c == 32) = true := by rw [hc]; rfl
        simp only [dblB, sufB, e, Bool.true_and, Bool.false_and, Bool.not_false, Bool.and_true]
        generalize dblB (d :: l) = x
        generalize sufB (d :: l) = y
        generalize (d == 32) = z
        cases x <;> cases y <;> cases z <;> rfl
      · have e : (c == 32) = true := by rw [hc]; rfl
        simp [okA, hc]
    · rw [okA, if_neg hc, ih false d]
      have e : (c == 32) = false := beq_eq_false_iff_ne.2 hc
      simp only [dblB, sufB, e, Bool.false_and, Bool.and_false, Bool.not_false, Bool.and_true, Bool.false_or]
theorem contains_cons (b : UInt8) (l sub : List UInt8) : Lib.contains (b :: l) sub = (sub.isPrefixOf (b :: l) || Lib.contains l sub) := by
  unfold Lib.contains
  have hg := Lib.index_ge l sub
  rw [Lib.index]
  cases h : sub.isPrefixOf (b :: l) with
  | true => simp
  | false =>
    simp only [Bool.false_eq_true, if_false, Bool.false_or]
    by_cases h1 : Lib.index l sub = -1
    · rw [h1]; rfl
    · rw [if_neg (by simpa using h1), decide_eq_decide]; omega
theorem beqC (a b : UInt8) : (a == b) = (b == a) := by
  rw [show (a == b) = decide (a = b) from rfl, show (b == a) = decide (b = a) from rfl, decide_eq_decide]
  exact ⟨fun h => h.symm, fun h => h.symm⟩
theorem dbl_contains (l : List UInt8) : Lib.contains l [32, 32] = dblB l := by
  induction l with
  | nil => rfl
  | cons a l ih =>
    rw [contains_cons, ih]
    cases l with
    | nil => simp [List.isPrefixOf, dblB]
    | cons b l =>
      simp only [List.isPrefixOf, dblB, Bool.and_true]
      have e1 : ((32 : UInt8) == a) = (a == 32) := beqC 32 a
      have e2 : ((32 : UInt8) == b) = (b == 32) := beqC 32 b
      rw [e1, e2]
theorem suf_has (l : List UInt8) : Lib.hasSuffix l [32] = sufB l := by
  unfold Lib.hasSuffix
  rw [Bool.eq_iff_iff, List.isSuffixOf_iff_suffix]
  induction l with
  | nil => simp [sufB]
  | cons a l ih =>
    rw [List.suffix_cons_iff, ih]
    cases l with
    | nil => simp [sufB]; exact eq_comm
    | cons b l => simp [sufB]
theorem pre_has (l : List UInt8) : Lib.hasPrefix l [32] = decide (l.head? = some 32) := by
  unfold Lib.hasPrefix
  cases l with
  | nil => rfl
  | cons a l =>
    show ((32 : UInt8) == a && List.isPrefixOf [] l) = _
    rw [show List.isPrefixOf ([] : List UInt8) l = true by cases l <;> rfl, Bool.and_true, List.head?_cons]
    rw [show ((32 : UInt8) == a) = decide ((32 : UInt8) = a) from rfl, decide_eq_decide]
    constructor
    · intro h; rw [h]
    · intro h; injection h with h; exact h.symm
/-- The two ways to ask for no blanks beside blanks. -/
theorem plain_prog (l : List UInt8) : plainL l = (!Lib.hasPrefix l [32] && !Lib.hasSuffix l [32] && !Lib.contains l [32, 32]) := by
  rw [dbl_contains, suf_has, pre_has]
  unfold plainL
  cases l with
  | nil => rfl
  | cons c l =>
    rw [okA_prog]
    simp only [reduceCtorEq, decide_false, Bool.false_or, List.head?_cons, Option.some.injEq, Bool.true_and]
    have e : (c == 32) = decide (c = 32) := rfl
    generalize dblB (c :: l) = x
    generalize sufB (c :: l) = y
    by_cases hc : c = 32
    · simp [hc]
    · have e : (c == 32) = false := beq_eq_false_iff_ne.2 hc
      simp only [e, hc, decide_false]; cases x <;> cases y <;> rfl
/-- All bytes from 32 to 126. -/
def prB (c : UInt8) : Bool := decide (32 ≤ c.toNat) && decide (c.toNat ≤ 126)
def plainB (s : ByteArray) : Bool := allB prB s && plainL s.data.toList
end Go.Proofs.YtkhegeobdcemkaaGreatDoor

/- Reading slates, in plain words. No program in sight. -/
namespace Go.Proofs.YtkhegeobdcemkaaGreatDoor
set_option linter.unusedVariables false
open Go.RowKit

theorem numB_bytes {s : ByteArray} (h : numB s = true) : ∀ c ∈ s.data.toList, digB c = true ∨ capB c = true := by
  simp only [numB, Bool.and_eq_true] at h
  obtain ⟨⟨⟨h1, _⟩, _⟩, _⟩ := h
  intro c hc
  rw [← List.take_append_drop (numK s) s.data.toList, List.mem_append] at hc
  rcases hc with hc | hc
  · left
    have ht : s.data.toList.take (numK s) = s.data.toList.takeWhile digB := by
      unfold numK
      conv => lhs; rw [← List.takeWhile_append_dropWhile (p := digB) (l := s.data.toList)]
      rw [List.takeWhile_append_dropWhile, ← List.prefix_iff_eq_take.1 (List.takeWhile_prefix digB)]
    rw [ht] at hc
    exact (List.all_eq_true.1 (List.all_takeWhile (p := digB) (l := s.data.toList))) c hc
  · right; exact (List.all_eq_true.1 h1) c hc
theorem setupB_bytes {s : ByteArray} (h : setupB s = true) : ∀ c ∈ s.data.toList, capB c = true := by
  simp only [setupB, Bool.and_eq_true] at h
  intro c hc
  have := (List.all_eq_true.1 (show s.data.toList.all setC = true from h.1)) c hc
  simp only [setC, Bool.and_eq_true] at this
  exact this.1.1
theorem dig_ne {c : UInt8} (h : digB c = true ∨ capB c = true) : c ≠ 45 ∧ c ≠ 47 := by
  simp only [digB, capB, Bool.and_eq_true, decide_eq_true_eq] at h
  constructor <;> (rintro rfl; revert h; decide)
theorem slateE_ok {sc se : ByteArray} {n : Int} (h : slateE sc se n = 0) : numB sc = true ∧ setupB se = true ∧ 1 ≤ n ∧ n ≤ 99 := by
  unfold slateE at h
  split at h
  · cases h
  · split at h
    · cases h
    · split at h
      · cases h
      · rename_i h1 h2 h3
        exact ⟨by simpa using h1, by simpa using h2, by omega, by omega⟩
theorem slateE_mk {sc se : ByteArray} {n : Int} (h1 : numB sc = true) (h2 : setupB se = true) (h3 : 1 ≤ n) (h4 : n ≤ 99) : slateE sc se n = 0 := by
  unfold slateE; rw [if_neg (by rw [h1]; simp), if_neg (by rw [h2]; simp), if_neg (by omega)]
def whatS (sc se : ByteArray) : ByteArray := if se.toList.isEmpty = true then sc else sc ++ ⟨#[47]⟩ ++ se
theorem slateS_eq (sc se : ByteArray) (n : Nat) : slateS sc se n = whatS sc se ++ ⟨#[45]⟩ ++ ⟨(Lib.decDigits n).toArray⟩ := by
  unfold slateS whatS
  split
  · rfl
  · simp only [ByteArray.append_assoc]
theorem empty_iff (s : ByteArray) : s.toList.isEmpty = true ↔ s = ⟨#[]⟩ := by
  rw [ByteArray.toList_eq]
  constructor
  · intro h; exact ba_ext (by simpa using h)
  · rintro rfl; rfl
/-- A right slate is cut into its parts. -/
theorem slate_read {sc se : ByteArray} {n : Int} (h : slateE sc se n = 0) :
    cutB (slateS sc se n.toNat) 45 = ⟨(Lib.decDigits n.toNat).toArray⟩ ∧ cutA (cutA (slateS sc se n.toNat) 45) 47 = sc ∧ cutB (cutA (slateS sc se n.toNat) 45) 47 = se := by
  obtain ⟨h1, h2, _, _⟩ := slateE_ok h
  have b1 : ∀ c ∈ sc.data.toList, c ≠ 45 ∧ c ≠ 47 := fun c hc => dig_ne (numB_bytes h1 c hc)
  have b2 : ∀ c ∈ se.data.toList, c ≠ 45 ∧ c ≠ 47 := fun c hc => dig_ne (.inr (setupB_bytes h2 c hc))
  have b3 : ∀ c ∈ (whatS sc se).data.toList, c ≠ 45 := by
    intro c hc
    unfold whatS at hc
    split at hc
    · exact (b1 c hc).1
    · simp at hc
      rcases hc with hc | rfl | hc
      · exact (b1 c (by simpa using hc)).1
      · decide
      · exact (b2 c (by simpa using hc)).1
  rw [slateS_eq]
  obtain ⟨_, _, e1, e2⟩ := cut_app (b := ⟨(Lib.decDigits n.toNat).toArray⟩) b3
  rw [e1, e2]
  refine ⟨rfl, ?_⟩
  unfold whatS
  by_cases he : se.toList.isEmpty = true
  · rw [if_pos he]
    obtain ⟨_, e3, e4⟩ := cut_none (a := sc) (c := 47) (fun x hx => (b1 x hx).2)
    rw [e3, e4]
    exact ⟨rfl, ((empty_iff se).1 he).symm⟩
  · rw [if_neg he]
    obtain ⟨_, _, e3, e4⟩ := cut_app (a := sc) (b := se) (c := 47) (fun x hx => (b1 x hx).2)
    exact ⟨e3, e4⟩
/-- What a reader of slates must say. -/
def slP (t sc se : ByteArray) (n : Int) (ok : Bool) : Prop :=
  (ok = true → slateE sc se n = 0 ∧ slateS sc se n.toNat = t) ∧ (ok = false → ∀ (a b : ByteArray) (m : Int), slateE a b m = 0 → slateS a b m.toNat ≠ t)
theorem slP_same {t sc se a b : ByteArray} {n m : Int} {ok ok' : Bool} (h : slP t sc se n ok) (h' : slP t a b m ok') : ok = ok' ∧ (ok = true → sc = a ∧ se = b ∧ n = m) := by
  cases ok <;> cases ok'
  · exact ⟨rfl, fun h => by cases h⟩
  · obtain ⟨x, y⟩ := h'.1 rfl
    exact absurd y (h.2 rfl _ _ _ x)
  · obtain ⟨x, y⟩ := h.1 rfl
    exact absurd y (h'.2 rfl _ _ _ x)
  · obtain ⟨x, y⟩ := h.1 rfl
    obtain ⟨x', y'⟩ := h'.1 rfl
    refine ⟨rfl, fun _ => ?_⟩
    obtain ⟨r1, r2, r3⟩ := slate_read x
    obtain ⟨q1, q2, q3⟩ := slate_read x'
    rw [y] at r1 r2 r3
    rw [y'] at q1 q2 q3
    refine ⟨by rw [← r2, q2], by rw [← r3, q3], ?_⟩
    rw [q1] at r1
    have h1 : Lib.decDigits m.toNat = Lib.decDigits n.toNat := by
      have := congrArg (fun x : ByteArray => x.data.toList) r1
      simpa using this
    have h2 := congrArg (dval 0) h1
    rw [dec_val, dec_val] at h2
    obtain ⟨_, _, x1, x2⟩ := slateE_ok x
    obtain ⟨_, _, x3, x4⟩ := slateE_ok x'
    omega
/-- A reader that cuts the text, reads the number and writes the slate anew. -/
theorem slP_of {t : ByteArray} {n : Int} {ok okn : Bool} (hn : okn = true → (⟨(Lib.decDigits n.toNat).toArray⟩ : ByteArray) = cutB t 45 ∧ (0 ≤ n ∨ True))
    (hf : okn = false → ∀ m : Nat, 1 ≤ m → m ≤ 99 → (⟨(Lib.decDigits m).toArray⟩ : ByteArray) ≠ cutB t 45)
    (hv : okn = true → ∀ m : Nat, 1 ≤ m → m ≤ 99 → (⟨(Lib.decDigits m).toArray⟩ : ByteArray) = cutB t 45 → n = m)
    (h : ok = true ↔ okn = true ∧ slateE (cutA (cutA t 45) 47) (cutB (cutA t 45) 47) n = 0 ∧ slateS (cutA (cutA t 45) 47) (cutB (cutA t 45) 47) n.toNat = t) :
    slP t (cutA (cutA t 45) 47) (cutB (cutA t 45) 47) n ok := by
  refine ⟨fun hh => (h.1 hh).2, fun hh a b m hm ht => ?_⟩
  obtain ⟨r1, r2, r3⟩ := slate_read hm
  rw [ht] at r1 r2 r3
  obtain ⟨_, _, m1, m2⟩ := slateE_ok hm
  cases hk : okn with
  | false => exact hf hk m.toNat (by omega) (by omega) r1.symm
  | true =>
    have e := hv hk m.toNat (by omega) (by omega) r1.symm
    have e' : n = m := by omega
    have := h.2 ⟨hk, by rw [r2, r3, e']; exact hm, by rw [r2, r3, e']; exact ht⟩
    rw [hh] at this; cases this
end Go.Proofs.YtkhegeobdcemkaaGreatDoor

/- Takes as they lie in memory. No program in sight. -/
namespace Go.Proofs.YtkhegeobdcemkaaGreatDoor
set_option linter.unusedVariables false
open Go.RowKit

structure Cov where
  para : Int
  tin : Int
  tout : Int
  on : Bool
structure Tk where
  scene : ByteArray
  setup : ByteArray
  number : Int
  roll : ByteArray
  sound : ByteArray
  tin : Int
  tout : Int
  good : Bool
  covers : List Cov
def Cov.cells (c : Cov) : List Value := [.int .i64 c.para, .int .i64 c.tin, .int .i64 c.tout, .bool c.on]
abbrev covR : Rep Cov := Rep.flat 4 Cov.cells (fun _ => rfl)
def Tk.cells (t : Tk) (v : Value) : List Value := [.string t.scene, .string t.setup, .int .i64 t.number, .string t.roll, .string t.sound, .int .i64 t.tin, .int .i64 t.tout, .bool t.good, v]
abbrev tvR : Rep (Tk × Value) := Rep.flat 9 (fun x => x.1.cells x.2) (fun _ => rfl)
theorem tvFlat {w w' : World} {F F' : Nat → Prop} {x : Tk × Value} {cs : List Value} (h : tvR.rel w F x cs) : tvR.rel w' F' x cs := h
theorem covFlat {w w' : World} {F F' : Nat → Prop} {x : Cov} {cs : List Value} (h : covR.rel w F x cs) : covR.rel w' F' x cs := h
/-- What made takes stay within. -/
def covB (B : Int) (c : Cov) : Prop := -B ≤ c.para ∧ c.para ≤ B ∧ -B ≤ c.tin ∧ c.tin ≤ B ∧ -B ≤ c.tout ∧ c.tout ≤ B
def tkB (B : Int) (t : Tk) : Prop := t.scene.size ≤ 1000 ∧ t.setup.size ≤ 1000 ∧ -1000 ≤ t.number ∧ t.number ≤ 10000 ∧ t.roll.size ≤ 1000 ∧ t.sound.size ≤ 1000 ∧ -B ≤ t.tin ∧ t.tin ≤ B ∧ -B ≤ t.tout ∧ t.tout ≤ B ∧ t.covers.length ≤ 70 ∧ ∀ c ∈ t.covers, covB B c
abbrev covBd (c : Cov) : Prop := covB 200000000 c
abbrev tkBd (t : Tk) : Prop := tkB 200000000 t
theorem covB.more {B B' : Int} {c : Cov} (h : covB B c) (hB : B ≤ B') : covB B' c := ⟨by have := h.1; omega, by have := h.2.1; omega, by have := h.2.2.1; omega, by have := h.2.2.2.1; omega, by have := h.2.2.2.2.1; omega, by have := h.2.2.2.2.2; omega⟩
theorem tkB.more {B B' : Int} {t : Tk} (h : tkB B t) (hB : B ≤ B') : tkB B' t := by
  obtain ⟨h1, h2, h3, h4, h5, h6, h7, h8, h9, h10, h11, h12⟩ := h
  exact ⟨h1, h2, h3, h4, h5, h6, by omega, by omega, by omega, by omega, h11, fun c hc => (h12 c hc).more hB⟩
end Go.Proofs.YtkhegeobdcemkaaGreatDoor

/- The next number and the next setup in plain words. No program in sight. -/
namespace Go.Proofs.YtkhegeobdcemkaaGreatDoor
set_option linter.unusedVariables false
open Go.RowKit

def letL : List UInt8 := [65, 66, 67, 68, 69, 70, 71, 72, 74, 75, 76, 77, 78, 80, 81, 82, 83, 84, 85, 86, 87, 88, 89, 90]
/-- All setups in order. -/
def allSetups : List ByteArray := ⟨#[]⟩ :: (letL.map fun c => ⟨#[c]⟩) ++ letL.flatMap fun c => letL.map fun d => ⟨#[c, d]⟩
theorem allSetups_len : allSetups.length = 601 := by decide +kernel
def ltI (c : UInt8) : Nat := letL.idxOf c
/-- The place of a setup among all. -/
def suK (s : ByteArray) : Nat := match s.data.toList with
  | [] => 0
  | [c] => 1 + ltI c
  | c :: d :: _ => 25 + 24 * ltI c + ltI d
theorem setC_mem (c : UInt8) : setC c = letL.contains c := u8_eq (by decide +kernel) c
theorem ltI_lt {c : UInt8} (h : setC c = true) : ltI c < 24 := by
  rw [setC_mem] at h
  exact List.idxOf_lt_length_of_mem (by simpa using h)
def ltAt (i : Nat) : UInt8 := (letL[i]?).getD 0
theorem ltAt_ltI {c : UInt8} (h : setC c = true) : ltAt (ltI c) = c := by
  have hh : ∀ c, (!setC c || (ltAt (ltI c) == c)) = true := u8_eq (q := fun _ => true) (by decide +kernel)
  have := hh c
  rw [h] at this
  simpa using this
theorem ltI_cmp {c d : UInt8} (hc : setC c = true) (hd : setC d = true) : (ltI c < ltI d ↔ c.toNat < d.toNat) ∧ (ltI c = ltI d ↔ c = d) := by
  have h : ∀ i : Fin 24, ∀ j : Fin 24, (i.val < j.val ↔ (ltAt i.val).toNat < (ltAt j.val).toNat) ∧ (i.val = j.val ↔ ltAt i.val = ltAt j.val) := by decide +kernel
  have h1 := h ⟨ltI c, ltI_lt hc⟩ ⟨ltI d, ltI_lt hd⟩
  dsimp only at h1
  rw [ltAt_ltI hc, ltAt_ltI hd] at h1
  exact h1
/-- The three forms of a setup. -/
theorem setup_form {s : ByteArray} (h : setupB s = true) : s = ⟨#[]⟩ ∨ (∃ c, setC c = true ∧ s = ⟨#[c]⟩) ∨ ∃ c d, setC c = true ∧ setC d = true ∧ s = ⟨#[c, d]⟩ := by
  simp only [setupB, Bool.and_eq_true, decide_eq_true_eq, allB, List.all_eq_true] at h
  obtain ⟨h1, h2⟩ := h
  rcases s with ⟨⟨l⟩⟩
  have h3 : l.length ≤ 2 := h2
  have h4 : ∀ x ∈ l, setC x = true := h1
  match l, h3, h4 with
  | [], _, _ => exact .inl rfl
  | [c], _, h => exact .inr (.inl ⟨c, h c (by simp), rfl⟩)
  | [c, d], _, h => exact .inr (.inr ⟨c, d, h c (by simp), h d (by simp), rfl⟩)
theorem suK_lt {s : ByteArray} (h : setupB s = true) : suK s < 601 := by
  rcases setup_form h with rfl | ⟨c, hc, rfl⟩ | ⟨c, d, hc, hd, rfl⟩
  · decide
  · have := ltI_lt hc; show 1 + ltI c < 601; omega
  · have := ltI_lt hc; have := ltI_lt hd; show 25 + 24 * ltI c + ltI d < 601; omega
theorem all_one : ∀ i : Fin 24, allSetups[1 + i.val]? = some ⟨#[ltAt i.val]⟩ := by decide +kernel
theorem all_two : ∀ i j : Fin 24, allSetups[25 + 24 * i.val + j.val]? = some ⟨#[ltAt i.val, ltAt j.val]⟩ := by decide +kernel
theorem suK_at {s : ByteArray} (h : setupB s = true) : allSetups[suK s]? = some s := by
  rcases setup_form h with rfl | ⟨c, hc, rfl⟩ | ⟨c, d, hc, hd, rfl⟩
  · rfl
  · have := all_one ⟨ltI c, ltI_lt hc⟩
    dsimp only at this
    rw [ltAt_ltI hc] at this
    exact this
  · have := all_two ⟨ltI c, ltI_lt hc⟩ ⟨ltI d, ltI_lt hd⟩
    dsimp only at this
    rw [ltAt_ltI hc, ltAt_ltI hd] at this
    exact this
theorem ltI_inv : ∀ i : Fin 24, setC (ltAt i.val) = true ∧ ltI (ltAt i.val) = i.val := by decide +kernel
theorem mem_letL {c : UInt8} (h : c ∈ letL) : setC c = true := by rw [setC_mem]; simpa using h
theorem all_setup : ∀ s ∈ allSetups, setupB s = true := by
  intro s hs
  simp only [allSetups, List.cons_append, List.mem_cons, List.mem_append, List.mem_map, List.mem_flatMap] at hs
  rcases hs with rfl | ⟨c, hc, rfl⟩ | ⟨c, hc, d, hd, rfl⟩
  · rfl
  · simp [setupB, allB, mem_letL hc]; show 1 ≤ 2; omega
  · simp [setupB, allB, mem_letL hc, mem_letL hd]; show 2 ≤ 2; omega
theorem suK_all (i : Nat) (s : ByteArray) (h : allSetups[i]? = some s) : suK s = i := by
  have hi : i < 601 := by rw [← allSetups_len]; exact (List.getElem?_eq_some_iff.1 h).1
  rcases Nat.lt_or_ge i 1 with h1 | h1
  · obtain rfl : i = 0 := by omega
    injection h with h; subst h; rfl
  · rcases Nat.lt_or_ge i 25 with h2 | h2
    · have e := all_one ⟨i - 1, by omega⟩
      have hv := ltI_inv ⟨i - 1, by omega⟩
      dsimp only at e hv
      rw [show 1 + (i - 1) = i by omega, h] at e
      injection e with e
      subst e
      show 1 + ltI _ = i
      rw [hv.2]; omega
    · have e := all_two ⟨(i - 25) / 24, by omega⟩ ⟨(i - 25) % 24, Nat.mod_lt _ (by decide)⟩
      have hv := ltI_inv ⟨(i - 25) / 24, by omega⟩
      have hv2 := ltI_inv ⟨(i - 25) % 24, Nat.mod_lt _ (by decide)⟩
      dsimp only at e hv hv2
      rw [show 25 + 24 * ((i - 25) / 24) + (i - 25) % 24 = i by omega, h] at e
      injection e with e
      subst e
      show 25 + 24 * ltI _ + ltI _ = i
      rw [hv.2, hv2.2]; omega
theorem suK_inj {a b : ByteArray} (ha : setupB a = true) (hb : setupB b = true) (h : suK a = suK b) : a = b := by
  have h1 := suK_at ha
  rw [h, suK_at hb] at h1
  injection h1 with h1
  exact h1.symm
/-- The place that the reference's search finds. -/
theorem find_setup (s : ByteArray) : allSetups.findIdx? (fun y => decide (y = s)) = if setupB s = true then some (suK s) else none := by
  cases h : setupB s with
  | false =>
    rw [if_neg (by simp)]
    rw [List.findIdx?_eq_none_iff]
    intro x hx
    have := all_setup x hx
    exact decide_eq_false (fun e => by rw [e, h] at this; cases this)
  | true =>
    rw [if_pos rfl]
    have hat := suK_at h
    obtain ⟨hk, he⟩ := List.getElem?_eq_some_iff.1 hat
    refine findIdx_at (fun x hx => ?_) hk (by simp [he])
    obtain ⟨i, hi⟩ := List.mem_iff_getElem?.1 hx
    rw [List.getElem?_take] at hi
    split at hi
    · rename_i hlt
      refine decide_eq_false (fun e => ?_)
      subst e
      have h1 := suK_all i x (by rw [← hi])
      omega
    · cases hi

/-- The next setup's place: behind all of the scene's. -/
def nextK (scene : ByteArray) : List Tk → Nat
  | [] => 0
  | t :: r => max (if t.scene = scene ∧ setupB t.setup = true then suK t.setup + 1 else 0) (nextK scene r)
theorem nextK_snoc (scene : ByteArray) (l : List Tk) (t : Tk) : nextK scene (l ++ [t]) = max (nextK scene l) (if t.scene = scene ∧ setupB t.setup = true then suK t.setup + 1 else 0) := by
  induction l with
  | nil => simp [nextK]
  | cons y l ih => rw [List.cons_append, nextK, ih, nextK]; omega
theorem nextK_le (scene : ByteArray) (l : List Tk) : nextK scene l ≤ 601 := by
  induction l with
  | nil => simp [nextK]
  | cons y l ih =>
    rw [nextK]
    split
    · rename_i h; have := suK_lt h.2; omega
    · omega
def nextS (scene : ByteArray) (l : List Tk) : ByteArray := if nextK scene l < 601 then allSetups.getD (nextK scene l) ⟨#[]⟩ else ⟨#[]⟩
def nextSE (scene : ByteArray) (l : List Tk) : Int := if nextK scene l < 601 then 0 else 11

/-- The numbers of a slate's takes. -/
def numsOf (scene setup : ByteArray) (l : List Tk) : List Int := (l.filter fun t => decide (t.scene = scene) && decide (t.setup = setup)).map (·.number)
/-- The greatest number of a slate's takes; 0 if there is none. -/
def topN (scene setup : ByteArray) (l : List Tk) : Int := Lib.maxOf (numsOf scene setup l)
theorem maxOf_snoc (l : List Int) (x : Int) : Lib.maxOf (l ++ [x]) = if l = [] then x else max (Lib.maxOf l) x := by
  unfold Lib.maxOf
  cases l with
  | nil => simp
  | cons y r => simp [List.foldl_append]
theorem numsOf_snoc (scene setup : ByteArray) (l : List Tk) (t : Tk) : numsOf scene setup (l ++ [t]) = if t.scene = scene ∧ t.setup = setup then numsOf scene setup l ++ [t.number] else numsOf scene setup l := by
  unfold numsOf
  by_cases h : t.scene = scene ∧ t.setup = setup
  · rw [if_pos h, List.filter_append, List.map_append]
    simp [h.1, h.2]
  · rw [if_neg h, List.filter_append]
    have : (decide (t.scene = scene) && decide (t.setup = setup)) = false := by
      rw [Bool.and_eq_false_iff, decide_eq_false_iff_not, decide_eq_false_iff_not]
      by_cases h1 : t.scene = scene
      · exact .inr fun h2 => h ⟨h1, h2⟩
      · exact .inl h1
    simp [this]
def nextN (scene setup : ByteArray) (l : List Tk) : Int := if numsOf scene setup l = [] then 1 else min (topN scene setup l) 99 + 1
def nnE (bad : Int) (top : Int) : Int := if bad = 0 then (if 99 ≤ top then 11 else 0) else bad
def nnV (bad : Int) (top : Int) : Int := if bad = 0 then (if 99 ≤ top then 0 else top + 1) else 0
theorem nextN_top (scene setup : ByteArray) (l : List Tk) : nextN scene setup l = min (topN scene setup l) 99 + 1 := by
  unfold nextN
  by_cases h : numsOf scene setup l = []
  · rw [if_pos h]
    unfold topN
    rw [h]
    rfl
  · rw [if_neg h]
end Go.Proofs.YtkhegeobdcemkaaGreatDoor

/- The cells of a take in a list of takes; the greater and the lesser of two numbers. No program in sight. -/
namespace Go.Proofs.YtkhegeobdcemkaaGreatDoor
set_option linter.unusedVariables false
open Go.RowKit

theorem tkAt {w : World} {F : Nat → Prop} {l : List (Tk × Value)} {A : Option Addr} {n c : Nat} (h : Sli tvR w F l (.slice A n c)) (k : Nat) (hk : k < l.length) : ∃ b off, A = some ⟨b, off, none⟩ ∧ F b ∧ w.cell? ⟨b, off + k * 9, none⟩ = some (.string l[k].1.scene) ∧ w.cell? ⟨b, off + k * 9 + 1, none⟩ = some (.string l[k].1.setup) ∧ w.cell? ⟨b, off + k * 9 + 2, none⟩ = some (.int .i64 l[k].1.number) ∧ w.cell? ⟨b, off + k * 9 + 3, none⟩ = some (.string l[k].1.roll) ∧ w.cell? ⟨b, off + k * 9 + 4, none⟩ = some (.string l[k].1.sound) ∧ w.cell? ⟨b, off + k * 9 + 5, none⟩ = some (.int .i64 l[k].1.tin) ∧ w.cell? ⟨b, off + k * 9 + 6, none⟩ = some (.int .i64 l[k].1.tout) ∧ w.cell? ⟨b, off + k * 9 + 7, none⟩ = some (.bool l[k].1.good) ∧ w.cell? ⟨b, off + k * 9 + 8, none⟩ = some l[k].2 := by
  obtain ⟨b, off, a, e, hb, hr, hc⟩ := h.at_ k hk
  have ha : a = (l[k]).1.cells l[k].2 := hr
  subst ha
  exact ⟨b, off, e, hb, hc 0 _ rfl, hc 1 _ rfl, hc 2 _ rfl, hc 3 _ rfl, hc 4 _ rfl, hc 5 _ rfl, hc 6 _ rfl, hc 7 _ rfl, hc 8 _ rfl⟩
def maxI (x y : Int) : Int := if y > x then y else x
def minI (x y : Int) : Int := if y < x then y else x
theorem run_max {P : Program} (ats : Array TypeId) (ty : TypeId) (x y : Int) (w : World) : (Builtin.max_ ats ty #[.int .i64 x, .int .i64 y]).run P w = .ok (.int .i64 (maxI x y)) w := rfl
theorem run_min {P : Program} (ats : Array TypeId) (ty : TypeId) (x y : Int) (w : World) : (Builtin.min_ ats ty #[.int .i64 x, .int .i64 y]).run P w = .ok (.int .i64 (minI x y)) w := rfl
theorem maxI_eq (x y : Int) : maxI x y = max x y := by unfold maxI; split <;> omega
theorem minI_eq (x y : Int) : minI x y = min x y := by unfold minI; split <;> omega
end Go.Proofs.YtkhegeobdcemkaaGreatDoor

/- How many scenes each set has, in plain words. No program in sight. -/
namespace Go.Proofs.YtkhegeobdcemkaaGreatDoor
set_option linter.unusedVariables false
open Go.RowKit

instance memBA (s : ByteArray) (a : List ByteArray) : Decidable (s ∈ a) := decidable_of_iff (∃ x ∈ a, x = s) (by simp)
/-- The different texts of a list, as they come first. -/
def nmsS : List ByteArray → List ByteArray := fun l => l.foldl (fun a s => if s ∈ a then a else a ++ [s]) []
theorem nmsS_snoc (l : List ByteArray) (s : ByteArray) : nmsS (l ++ [s]) = if s ∈ nmsS l then nmsS l else nmsS l ++ [s] := by
  unfold nmsS
  rw [List.foldl_append]
  rfl
theorem snocInd {p : List ByteArray → Prop} (h0 : p []) (h1 : ∀ l s, p l → p (l ++ [s])) (l : List ByteArray) : p l := by
  rw [← List.reverse_reverse l]
  induction l.reverse with
  | nil => exact h0
  | cons x r ih => rw [List.reverse_cons]; exact h1 _ _ ih
theorem nmsS_mem (l : List ByteArray) : ∀ x, x ∈ nmsS l ↔ x ∈ l := by
  refine snocInd (p := fun l => ∀ x, x ∈ nmsS l ↔ x ∈ l) (by intro x; rfl) (fun l s ih x => ?_) l
  rw [nmsS_snoc]
  by_cases h : s ∈ nmsS l
  · rw [if_pos h, ih, List.mem_append, List.mem_singleton]
    constructor
    · exact .inl
    · rintro (h2 | rfl)
      · exact h2
      · exact (ih x).1 h
  · rw [if_neg h, List.mem_append, List.mem_append, ih]
theorem nmsS_nodup (l : List ByteArray) : (nmsS l).Nodup := by
  refine snocInd (p := fun l => (nmsS l).Nodup) List.nodup_nil (fun l s ih => ?_) l
  rw [nmsS_snoc]
  split
  · exact ih
  · rename_i h
    exact List.nodup_append.2 ⟨ih, by simp, fun a ha b hb => by rw [List.mem_singleton] at hb; subst hb; exact fun e => h (e ▸ ha)⟩
theorem nmsS_len (l : List ByteArray) : (nmsS l).length ≤ l.length := by
  refine snocInd (p := fun l => (nmsS l).length ≤ l.length) (Nat.le_refl _) (fun l s ih => ?_) l
  rw [nmsS_snoc, List.length_append]
  split
  · simp; omega
  · rw [List.length_append]; simp; omega
abbrev Tly := ByteArray × Int
def cntS (l : List ByteArray) (s : ByteArray) : Int := ((l.filter fun x => decide (x = s)).length : Int)
def tlyS (l ns : List ByteArray) : List Tly := ns.map fun s => (s, cntS l s)
theorem cntS_snoc (l : List ByteArray) (x s : ByteArray) : cntS (l ++ [x]) s = cntS l s + (if x = s then 1 else 0) := by
  unfold cntS
  rw [List.filter_append, List.length_append]
  by_cases h : x = s
  · rw [if_pos h]; simp [h]
  · rw [if_neg h]; simp [h]
theorem cntS_none {l : List ByteArray} {s : ByteArray} (h : s ∉ l) : cntS l s = 0 := by
  unfold cntS
  rw [List.filter_eq_nil_iff.2 (fun x hx => by simp only [decide_eq_true_eq]; intro e; exact h (e ▸ hx))]
  rfl
theorem cntS_bd (l : List ByteArray) (s : ByteArray) : 0 ≤ cntS l s ∧ cntS l s ≤ l.length := by
  unfold cntS
  exact ⟨by omega, by have := List.length_filter_le (fun x => decide (x = s)) l; omega⟩
/-- One scene more, of a set that is there. -/
theorem tly_old {l : List ByteArray} {s : ByteArray} {n : Nat} (hn : n < (nmsS l).length) (hs : (nmsS l)[n] = s) : tlyS (l ++ [s]) (nmsS (l ++ [s])) = (tlyS l (nmsS l)).modify n fun y => (y.1, y.2 + 1) := by
  have hm : s ∈ nmsS l := hs ▸ List.getElem_mem hn
  rw [nmsS_snoc, if_pos hm]
  apply List.ext_getElem?
  intro i
  unfold tlyS
  rw [List.getElem?_map, List.getElem?_modify, List.getElem?_map]
  cases hi : (nmsS l)[i]? with
  | none => rfl
  | some x =>
    obtain ⟨hil, hix⟩ := List.getElem?_eq_some_iff.1 hi
    simp only [Option.map_some]
    rw [cntS_snoc]
    by_cases e : n = i
    · subst e
      rw [if_pos (hs.symm.trans hix)]
      simp
    · rw [if_neg (fun h => e ((List.getElem_inj (nmsS_nodup l)).1 (by rw [hs, hix]; exact h)))]
      simp [e]
/-- One scene more, of a new set. -/
theorem tly_new {l : List ByteArray} {s : ByteArray} (h : s ∉ nmsS l) : tlyS (l ++ [s]) (nmsS (l ++ [s])) = tlyS l (nmsS l) ++ [(s, 1)] := by
  rw [nmsS_snoc, if_neg h]
  unfold tlyS
  rw [List.map_append]
  congr 1
  · refine List.map_congr_left fun x hx => ?_
    rw [cntS_snoc, if_neg (fun (e : s = x) => h (e ▸ hx)), Int.add_zero]
  · rw [List.map_singleton, cntS_snoc, if_pos rfl, cntS_none (fun hm => h ((nmsS_mem l s).2 hm))]
    rfl
/-- Where each text stands. -/
def idxM (ns : List ByteArray) : List (ByteArray × Value) := ns.zipIdx.map fun p => (p.1, .int .i64 (p.2 : Int))
theorem lk_zip (ns : List ByteArray) (x : ByteArray) : ∀ k : Nat, (x ∉ ns → lk ((ns.zipIdx k).map fun p => (p.1, Value.int .i64 (p.2 : Int))) x = none) ∧ (ns.Nodup → ∀ n (hn : n < ns.length), ns[n] = x → lk ((ns.zipIdx k).map fun p => (p.1, Value.int .i64 (p.2 : Int))) x = some (.int .i64 ((k + n : Nat) : Int))) := by
  induction ns with
  | nil => intro k; exact ⟨fun _ => rfl, fun _ n hn => by simp at hn⟩
  | cons y r ih =>
    intro k
    obtain ⟨h1, h2⟩ := ih (k + 1)
    refine ⟨fun h => ?_, fun hd n hn hx => ?_⟩
    · rw [List.zipIdx_cons, List.map_cons, lk, if_neg (fun e => h (by rw [e]; simp))]
      exact h1 (fun hm => h (by simp [hm]))
    · rw [List.zipIdx_cons, List.map_cons, lk]
      rw [List.nodup_cons] at hd
      cases n with
      | zero => rw [if_pos (by simpa using hx.symm)]; simp
      | succ n =>
        have hx2 : r[n]'(by simpa using hn) = x := by simpa using hx
        rw [if_neg (fun (e : x = y) => hd.1 (by rw [← e, ← hx2]; exact List.getElem_mem _))]
        rw [h2 hd.2 n (by simpa using hn) hx2]
        congr 3
        omega
theorem idxM_no {ns : List ByteArray} {x : ByteArray} (h : x ∉ ns) : lk (idxM ns) x = none := (lk_zip ns x 0).1 h
theorem idxM_yes {ns : List ByteArray} (hd : ns.Nodup) {n : Nat} (hn : n < ns.length) : lk (idxM ns) ns[n] = some (.int .i64 (n : Int)) := by
  have := (lk_zip ns ns[n] 0).2 hd n hn rfl
  rwa [Nat.zero_add] at this
theorem idxM_up {ns : List ByteArray} {s : ByteArray} (h : s ∉ ns) : up (idxM ns) s (.int .i64 (ns.length : Int)) = idxM (ns ++ [s]) := by
  have key : ∀ (ns : List ByteArray) (k : Nat), s ∉ ns → up ((ns.zipIdx k).map fun p => (p.1, Value.int .i64 (p.2 : Int))) s (.int .i64 ((k + ns.length : Nat) : Int)) = ((ns ++ [s]).zipIdx k).map fun p => (p.1, Value.int .i64 (p.2 : Int)) := by
    intro ns
    induction ns with
    | nil => intro k _; simp [up]
    | cons y r ih =>
      intro k hs
      rw [List.zipIdx_cons, List.map_cons, up, if_neg (fun e => hs (by rw [e]; simp)), List.cons_append, List.zipIdx_cons, List.map_cons]
      rw [← ih (k + 1) (fun hm => hs (by simp [hm]))]
      congr 4
      rw [List.length_cons]
      omega
  have := key ns 0 h
  rwa [Nat.zero_add] at this
def talS (l : List ByteArray) : List Tly := tlyS l (nmsS l)
theorem talS_len (l : List ByteArray) : (talS l).length = (nmsS l).length := by simp [talS, tlyS]
theorem talS_new {l : List ByteArray} {s : ByteArray} (h : s ∉ nmsS l) : (talS l ++ [(s, 0)]).modify (nmsS l).length (fun y => (y.1, y.2 + 1)) = talS (l ++ [s]) := by
  have hx := tly_new h
  unfold talS
  rw [hx]
  have hl : (tlyS l (nmsS l)).length = (nmsS l).length := by simp [tlyS]
  apply List.ext_getElem?
  intro i
  rw [List.getElem?_modify]
  by_cases e : (nmsS l).length = i
  · subst e
    rw [← hl, List.getElem?_append_right (Nat.le_refl _), List.getElem?_append_right (Nat.le_refl _)]
    simp
  · simp only [e, if_false]
    rcases Nat.lt_or_ge i (nmsS l).length with h2 | h2
    · rw [List.getElem?_append_left (by omega), List.getElem?_append_left (by omega)]; simp
    · rw [List.getElem?_append_right (by omega), List.getElem?_append_right (by omega), List.getElem?_eq_none (by simp; omega), List.getElem?_eq_none (by simp; omega)]; rfl
theorem talS_old {l : List ByteArray} {s : ByteArray} {n : Nat} (hn : n < (nmsS l).length) (hs : (nmsS l)[n] = s) : (talS l).modify n (fun y => (y.1, y.2 + 1)) = talS (l ++ [s]) := (tly_old hn hs).symm
theorem talS_bd (l : List ByteArray) : ∀ y ∈ talS l, 0 ≤ y.2 ∧ y.2 ≤ l.length := by
  intro y hy
  obtain ⟨s, _, rfl⟩ := List.mem_map.1 hy
  exact cntS_bd l s
theorem modAt {α : Type} {l : List α} {n : Nat} {f g : α → α} (hn : n < l.length) (h : f l[n] = g l[n]) : l.modify n f = l.modify n g := by
  apply List.ext_getElem?
  intro i
  rw [List.getElem?_modify, List.getElem?_modify]
  by_cases e : n = i
  · subst e
    rw [List.getElem?_eq_getElem hn]
    simp [h]
  · simp [e]
theorem nmsS_old {l : List ByteArray} {s : ByteArray} (h : s ∈ nmsS l) : nmsS (l ++ [s]) = nmsS l := by rw [nmsS_snoc, if_pos h]
theorem nmsS_new {l : List ByteArray} {s : ByteArray} (h : s ∉ nmsS l) : nmsS (l ++ [s]) = nmsS l ++ [s] := by rw [nmsS_snoc, if_neg h]
theorem tlyS_snoc (l ns : List ByteArray) (s : ByteArray) : tlyS l (ns ++ [s]) = tlyS l ns ++ [(s, cntS l s)] := by simp [tlyS]
theorem cntS_next {l : List ByteArray} {k : Nat} (h : k < l.length) (s : ByteArray) : cntS (l.take (k + 1)) s = cntS (l.take k) s + (if l[k] = s then 1 else 0) := by rw [List.take_succ_eq_append_getElem h, cntS_snoc]
/-- Nobody of the first m is s, of those before i. -/
def firB (l : List ByteArray) (s : ByteArray) (i m : Nat) : Bool := decide (s ∉ l.take (min m i))
theorem firB_next {l : List ByteArray} {s : ByteArray} {i m : Nat} (h : m < l.length) : firB l s i (m + 1) = if l[m] = s then (firB l s i m && decide (i ≤ m)) else firB l s i m := by
  unfold firB
  by_cases hi : i ≤ m
  · rw [Nat.min_eq_right (show i ≤ m + 1 by omega), Nat.min_eq_right hi]
    simp [hi]
  · rw [Nat.min_eq_left (show m + 1 ≤ i by omega), Nat.min_eq_left (show m ≤ i by omega), List.take_succ_eq_append_getElem h]
    have hx : ∀ y, (s ∉ l.take m ++ [y]) ↔ (s ∉ l.take m ∧ ¬ y = s) := fun y => by
      rw [List.mem_append, List.mem_singleton, not_or]
      exact ⟨fun h => ⟨h.1, fun e => h.2 e.symm⟩, fun h => ⟨h.1, fun e => h.2 e.symm⟩⟩
    rw [decide_eq_decide.2 (hx _)]
    by_cases e : l[m] = s
    · rw [if_pos e, decide_eq_false (fun h => h.2 e), decide_eq_false hi, Bool.and_false]
    · rw [if_neg e]
      exact decide_eq_decide.2 ⟨fun h => h.1, fun h => ⟨h, e⟩⟩
theorem firB_end {l : List ByteArray} {s : ByteArray} {i : Nat} (h : i ≤ l.length) : firB l s i l.length = decide (s ∉ nmsS (l.take i)) := by
  unfold firB
  rw [Nat.min_eq_right h]
  simp [nmsS_mem]
def tyR : Rep Tly := Rep.flat 2 (fun x => [.string x.1, .int .i64 x.2]) (fun _ => rfl)
end Go.Proofs.YtkhegeobdcemkaaGreatDoor

/- The error of a take that is written, in plain words. No program in sight. -/
namespace Go.Proofs.YtkhegeobdcemkaaGreatDoor
set_option linter.unusedVariables false
open Go.RowKit

/-- The numbers of a take: where it begins and ends, and those of its covers. -/
def covN (c : Cov) : List Int := [c.para, c.tin, c.tout]
def numsT (t : Tk) : List Int := [t.tin, t.tout] ++ t.covers.flatMap covN
def badN (n : Int) : Bool := decide (n < 0) || decide (10000000 < n)
def tkFE (t : Tk) : Int :=
  if ¬ slateE t.scene t.setup t.number = 0 then slateE t.scene t.setup t.number
  else if rollNameB t.roll = false ∨ (¬ t.sound = ⟨#[]⟩ ∧ rollNameB t.sound = false) then 5
  else if (numsT t).any badN = true then 1 else 0
theorem flat_take (l : List Cov) (k : Nat) (hk : k < l.length) : (l.take (k + 1)).flatMap covN = (l.take k).flatMap covN ++ covN l[k] := by
  rw [List.take_succ_eq_append_getElem hk, List.flatMap_append]
  simp
theorem covN_len (l : List Cov) : (l.flatMap covN).length = 3 * l.length := by
  induction l with
  | nil => rfl
  | cons c r ih => rw [List.flatMap_cons, List.length_append, ih]; show 3 + 3 * r.length = 3 * (r.length + 1); omega
end Go.Proofs.YtkhegeobdcemkaaGreatDoor

/- The words of a text, in plain words. No program in sight. -/
namespace Go.Proofs.YtkhegeobdcemkaaGreatDoor
set_option linter.unusedVariables false
open Go.RowKit

def lowB (c : UInt8) : Bool := decide (97 ≤ c.toNat) && decide (c.toNat ≤ 122)
/-- A letter or a figure. -/
def alnB (c : UInt8) : Bool := capB c || lowB c || digB c
def inWB (c : UInt8) : Bool := alnB c || c == 39
def loC (c : UInt8) : UInt8 := if capB c = true then c + 32 else c
def wdOk (cur : List UInt8) : Bool := cur.any fun c => c != 39
def flW (cur : List UInt8) : List ByteArray := if wdOk cur = true then [⟨cur.toArray⟩] else []
/-- The words of what is left of a text, where these bytes of a word are at hand. -/
def wdS : List UInt8 → List UInt8 → List ByteArray
  | cur, [] => flW cur
  | cur, c :: r => if inWB c = true then wdS (cur ++ [loC c]) r else flW cur ++ wdS [] r
def wordsT (s : ByteArray) : List ByteArray := wdS [] s.data.toList
theorem flW_len (cur : List UInt8) : (flW cur).length ≤ 1 := by unfold flW; split <;> simp
theorem wdS_len : ∀ (r cur : List UInt8), (wdS cur r).length ≤ r.length + 1
  | [], cur => by rw [wdS]; exact flW_len cur
  | c :: r, cur => by
    rw [wdS]
    split
    · have := wdS_len r (cur ++ [loC c]); simp; omega
    · have h1 := flW_len cur
      have h2 := wdS_len r []
      rw [List.length_append]; simp; omega
theorem flW_sz (cur : List UInt8) : ∀ x ∈ flW cur, x.size = cur.length := by
  unfold flW
  split
  · intro x hx
    rw [List.mem_singleton.1 hx]
    show cur.toArray.size = _
    simp
  · intro x hx; cases hx
theorem wdS_sz : ∀ (r cur : List UInt8), ∀ x ∈ wdS cur r, x.size ≤ cur.length + r.length
  | [], cur => fun x hx => by have := flW_sz cur x hx; simp; omega
  | c :: r, cur => fun x hx => by
    rw [wdS] at hx
    split at hx
    · have := wdS_sz r _ x hx; simp at this ⊢; omega
    · rcases List.mem_append.1 hx with hx | hx
      · have := flW_sz cur x hx; simp; omega
      · have := wdS_sz r [] x hx; simp at this ⊢; omega
theorem wordsT_len (s : ByteArray) : (wordsT s).length ≤ s.size + 1 := by have := wdS_len s.data.toList []; simpa [wordsT] using this
theorem wordsT_sz {s x : ByteArray} (h : x ∈ wordsT s) : x.size ≤ s.size := by have := wdS_sz s.data.toList [] x h; simpa using this
/-- Where a walk through a text stands: behind k bytes, with these words and these bytes at hand. -/
def WdI (s : ByteArray) (k : Nat) (out : List ByteArray) (cur : List UInt8) : Prop := out ++ wdS cur (s.data.toList.drop k) = wordsT s ∧ cur.length ≤ k ∧ out.length ≤ k
theorem WdI.start (s : ByteArray) : WdI s 0 [] [] := ⟨rfl, Nat.le_refl _, Nat.le_refl _⟩
theorem WdI.in_ {s : ByteArray} {k : Nat} {out : List ByteArray} {cur : List UInt8} (h : WdI s k out cur) (hk : k < s.size) (hc : inWB s[k] = true) : WdI s (k + 1) out (cur ++ [loC s[k]]) := by
  refine ⟨?_, by have := h.2.1; simp; omega, by have := h.2.2; omega⟩
  have h1 := h.1
  rw [List.drop_eq_getElem_cons (by simpa using hk), wdS, if_pos (by exact hc)] at h1
  exact h1
theorem WdI.out_ {s : ByteArray} {k : Nat} {out : List ByteArray} {cur : List UInt8} (h : WdI s k out cur) (hk : k < s.size) (hc : inWB s[k] = false) : WdI s (k + 1) (out ++ flW cur) [] := by
  refine ⟨?_, Nat.zero_le _, by have := h.2.2; have := flW_len cur; rw [List.length_append]; omega⟩
  have h1 := h.1
  rw [List.drop_eq_getElem_cons (by simpa using hk), wdS, if_neg (by show ¬ inWB s[k] = true; rw [hc]; decide)] at h1
  rw [List.append_assoc]
  exact h1
theorem WdI.end_ {s : ByteArray} {k : Nat} {out : List ByteArray} {cur : List UInt8} (h : WdI s k out cur) (hk : ¬ k < s.size) : out ++ flW cur = wordsT s := by
  have h1 := h.1
  rw [List.drop_eq_nil_of_le (by simpa using hk), wdS] at h1
  exact h1
theorem wdOk_snoc (cur : List UInt8) (c : UInt8) : wdOk (cur ++ [c]) = (wdOk cur || c != 39) := by simp [wdOk]
theorem flW_no {cur : List UInt8} (h : wdOk cur = false) : flW cur = [] := if_neg (by rw [h]; decide)
theorem flW_yes {cur : List UInt8} (h : wdOk cur = true) : flW cur = [⟨cur.toArray⟩] := if_pos h
theorem loC_aln {c : UInt8} (h : alnB c = true) : (loC c != 39) = true := by
  have hh : ∀ c, (!alnB c || (loC c != 39)) = true := u8_eq (q := fun _ => true) (by decide +kernel)
  have := hh c
  rw [h] at this
  simpa using this
/-- Where some words follow one another among others. -/
def fndL (ws sm : List ByteArray) : List Nat := (List.range (ws.length + 1 - sm.length)).filter fun i => decide ((ws.drop i).take sm.length = sm)
theorem fnd_next (ws sm : List ByteArray) (k : Nat) : (List.range (k + 1)).filter (fun i => decide ((ws.drop i).take sm.length = sm)) = (List.range k).filter (fun i => decide ((ws.drop i).take sm.length = sm)) ++ (if (ws.drop k).take sm.length = sm then [k] else []) := by
  rw [List.range_succ, List.filter_append]
  congr 1
  by_cases h : (ws.drop k).take sm.length = sm
  · rw [if_pos h]; simp [h]
  · rw [if_neg h]; simp [h]
end Go.Proofs.YtkhegeobdcemkaaGreatDoor

