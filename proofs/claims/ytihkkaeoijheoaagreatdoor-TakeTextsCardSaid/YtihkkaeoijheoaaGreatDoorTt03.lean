/- Texts packed: AtoiW, BldW, BldK, LawA, RefA, Shelf2, Shelf3, Str, CodeW, CutS, CutW, DecW, GenC, GenE, HexW, FilesW, FilesX, FilesY, LaidW, NumS, PlainS, SlateS, TkS, TkT, TtS. -/
import Derived.Test.YtihkkaeoijheoaaGreatDoorRows
import Derived.Test.YtihkkaeoijheoaaGreatDoorTt01
import Derived.Test.YtihkkaeoijheoaaGreatDoorTt02
import Derived.Lib.SmallJoins
import Derived.Shelf.Strconv.AtoiAll
import Derived.Shelf.Strings.BuilderK
import Derived.Shelf.Strings.SlTrimAscii
import Derived.Shelf.Strings.Builder1
import Derived.Shelf.Strings.Builder2
import Derived.Shelf.Strings.OnBuilder
import Derived.Shelf.Strings.Trim
import Derived.Shelf.Small.Utf8
import Derived.Shelf.Small.Strs
import Derived.Shelf.Small.Wraps
import Derived.Shelf.Strings.BuilderF
import Derived.Shelf.Strings.Builder2Cap
import Derived.Shelf.Strconv.Atoi
import Derived.Shelf.Strconv.Itoa0
import Derived.Shelf.Strconv.Itoa1
import Derived.Shelf.LaysM
import Derived.Shelf.Strconv.Itoa2
import Derived.Shelf.Strconv.Itoa3
import Derived.Shelf.Strconv.AtoiErrFast
import Derived.Shelf.Strconv.ParseIntEmpty
import Derived.Shelf.Strconv.AtoiFail
import Derived.Shelf.Strconv.Clone
import Derived.Shelf.Strconv.SyntaxError
import Derived.Shelf.LaysC
import Derived.Shelf.Strconv.ToError
import Derived.Shelf.Strconv.Lower
import Derived.Shelf.Strconv.ParseUint10
import Derived.Shelf.Strconv.ParseUint10Empty
import Derived.Shelf.Strconv.ParseUint10Any
import Derived.Shelf.Strconv.ParseInt10
import Derived.Shelf.Strconv.AtoiLong
import Derived.Shelf.Strconv.AtoiInnerAll
import Derived.Shelf.Strconv.RangeError
import Derived.Shelf.Strconv.ToErrorRange
import Derived.Shelf.Strconv.ErrVarAll
import Derived.Shelf.Strings.Search1
import Derived.Shelf.Strings.Search2
import Derived.Shelf.Strings.Search3
import Derived.Shelf.Strings.Cut
import Derived.Shelf.Strings.Count
import Derived.Shelf.Strings.Shaped
import Derived.Shelf.Strings.LastIndex
import Derived.Shelf.Strings.LastIndexAll
import Derived.Shelf.Strings.Prefix
import Derived.Shelf.Strings.Split
import Derived.Shelf.Strings.Fields
import Derived.Shelf.Strings.SplitShaped
import Derived.Shelf.Unicode.Latin
import Derived.Shelf.Unicode.Decode
import Derived.Shelf.Strings.Runes
import Derived.Shelf.Strings.RuneCount
import Derived.Shelf.Strings.IndexAny
import Derived.Shelf.Strings.AsciiSet
import Derived.Shelf.Strings.IndexAnyAll
import Derived.Shelf.Strings.Explode
import Derived.Shelf.Bits.Mul64
import Derived.Shelf.Strings.Repeat
import Derived.Shelf.Unicode.DecodeSlow
import Derived.Shelf.Unicode.DecodeAny
import Derived.Shelf.Unicode.Is16White
import Derived.Shelf.Unicode.IsSpaceAny
import Derived.Shelf.Unicode.DecodeLast
import Derived.Shelf.Strings.FieldsFuncAny
import Derived.Shelf.Unicode.Is16Any
import Derived.Shelf.Unicode.Is32Any
import Derived.Shelf.Unicode.ExclAny
import Derived.Shelf.Strings.FieldsFuncGrows
import Derived.Shelf.Strings.BuilderCap
import Derived.Shelf.Slices.Turned
import Derived.Shelf.Slices.Equal
import Derived.Shelf.Slices.Empties2
import Derived.Ground.SlgnProg
import Derived.Shelf.SlicesE.Equal
import Derived.Test.YtihkkaeoijheoaaGreatDoorProg
import Derived.Laws.IdiomStrings
import Derived.Lib.QuietBelow
import Derived.BigQuiet
import Derived.Deep.RegionWith
import Derived.Lib.IndexLaws
import Derived.Laws.Bits64
import Derived.Laws.Bits64b
import Derived.Outline
import Derived.Deep.RegionHeld3
import Derived.Deep.AppendLies
import Derived.Deep.QuietTactic
import Derived.Lib.ItoaLen
import Derived.Lib.Strings
import Derived.Lib.ItoaNum
import Derived.Lib.FieldsP
import Derived.Lib.IndexMore
import Derived.RegionTactic
/- strconv.Atoi at every string: one contract with its three ends. -/
namespace Go.Proofs.YtihkkaeoijheoaaGreatDoor
set_option linter.unusedVariables false
open Go.RowKit

/-- The library's two errors lie where they were laid. -/
def ErrsLaid (w : World) : Prop := (∃ t p, w.cell? ⟨3, 0, none⟩ = some (.iface t p)) ∧ (∃ t p, w.cell? ⟨4, 0, none⟩ = some (.iface t p)) ∧ 3 < w.heap.size ∧ 4 < w.heap.size
theorem ErrsLaid.keep {w w' : World} (h : ErrsLaid w) (hs : w.heap.size ≤ w'.heap.size) (h1 : w'.cell? ⟨3, 0, none⟩ = w.cell? ⟨3, 0, none⟩) (h2 : w'.cell? ⟨4, 0, none⟩ = w.cell? ⟨4, 0, none⟩) : ErrsLaid w' :=
  ⟨by rw [h1]; exact h.1, by rw [h2]; exact h.2.1, by have := h.2.2.1; omega, by have := h.2.2.2; omega⟩
theorem ErrsLaid.below {w w' : World} {B : Nat} (h : ErrsLaid w) (hb : Below B w w') (hB : w.heap.size ≤ B) : ErrsLaid w' :=
  h.keep hb.size (hb.cell (Nat.lt_of_lt_of_le h.2.2.1 hB)) (hb.cell (Nat.lt_of_lt_of_le h.2.2.2 hB))

/-- How Atoi ends: the number and the error. -/
def AtoiP (s : ByteArray) (n : Int) (ev : Value) : Prop :=
  (Lib.atoiAll s.data.toList = .ok n ∧ ev = .nilIface) ∨ ((∀ v, Lib.atoiAll s.data.toList ≠ .ok v) ∧ ∃ t N, ev = .iface t (.pointer (some ⟨N, 0, none⟩)))
def AtoiR (s : ByteArray) (w : World) (e : Ending) (w' : World) : Prop := ∃ n ev, AtoiP s n ev ∧ e = .returned (.tuple #[.int .i64 n, ev]) ∧ Below w.heap.size w w'
theorem atoi_c (s : ByteArray) (w : World) (hs : s.size ≤ 140737488355328) (hl : ErrsLaid w) : Calls Tryz.prog 168 #[.string s] w (AtoiR s w) := by
  obtain ⟨⟨t1, p1, h1⟩, ⟨t2, p2, h2⟩, _, _⟩ := hl
  cases h : Lib.atoiAll s.data.toList
  case ok v =>
    refine (Any.strconv_Atoi_ok Tryz.laysC172 s (by omega) v h w).mono ?_
    rintro e w' ⟨he, hw⟩
    refine ⟨v, _, .inl ⟨h, rfl⟩, he, ?_⟩
    rcases hw with rfl | ⟨t, rfl⟩
    · exact Below.refl _ _
    · exact Joins.below_bytesWorld _ _ _ _ (Nat.le_refl _)
  · refine (Any.strconv_Atoi_syntax Tryz.laysC172 s (by omega) h _ w h1 (.inr ⟨_, _, rfl⟩)).mono ?_
    rintro e w' ⟨N, he, _, _, hb⟩
    exact ⟨_, _, .inr ⟨(fun v hv => by rw [h] at hv; cases hv), _, _, rfl⟩, he, hb⟩
  · refine (Any.strconv_Atoi_range Tryz.laysC172 s (by omega) h _ w h2 (.inr ⟨_, _, rfl⟩)).mono ?_
    rintro e w' ⟨N, he, _, _, hb⟩
    exact ⟨_, _, .inr ⟨(fun v hv => by rw [h] at hv; cases hv), _, _, rfl⟩, he, hb⟩
end Go.Proofs.YtihkkaeoijheoaaGreatDoor

/- strings.Builder written, and strings.Join: the library's contracts at this program. -/
namespace Go.Proofs.YtihkkaeoijheoaaGreatDoor
set_option linter.unusedVariables false
open Go.RowKit

/-- A builder of the call's own, whose block is B, that holds the bytes l. -/
def Bld (w : World) (B : Nat) (l : List UInt8) : Prop := Lib.IsBuilder 135 5 B B (Lib.byteCells l) w
theorem Bld.new (w : World) : Bld (w.alloc (.cells #[.pointer none, .slice none 0 0] 135)) w.heap.size [] := Lib.fresh_isBuilder _ _ w
theorem Bld.lt {w : World} {B : Nat} {l : List UInt8} (h : Bld w B l) : B < w.heap.size := by
  rcases h with h | h
  · exact h.lt
  · exact h.lt
theorem Bld.keep {w w' : World} {B : Nat} {l : List UInt8} (h : Bld w B l) (hk : ∀ b, B ≤ b → b < w.heap.size → w'.heap[b]? = w.heap[b]?) : Bld w' B l := by
  have one : ∀ p, Lib.BuilderAt 135 5 B B p (Lib.byteCells l) w → Lib.BuilderAt 135 5 B B p (Lib.byteCells l) w' := by
    rintro p ⟨hB, v, hb, ho, hne⟩
    refine ⟨hB, v, (hk B (Nat.le_refl _) (Array.getElem?_eq_some_iff.1 hb).1).trans hb, ⟨ho.1, ?_⟩, hne⟩
    rcases ho.2 with hn | ⟨g, cap, cur, rfl, hg0, hg, rest⟩
    · exact .inl hn
    · exact .inr ⟨g, cap, cur, rfl, hg0, (hk g hg0 (Array.getElem?_eq_some_iff.1 hg).1).trans hg, rest⟩
  rcases h with h | h
  · exact .inl (one _ h)
  · exact .inr (one _ h)
theorem Bld.below {w w' : World} {B : Nat} {l : List UInt8} (h : Bld w B l) (hb : Below w.heap.size w w') : Bld w' B l := h.keep fun b _ hlt => hb.block b hlt
theorem Bld.alloc {w : World} {B : Nat} {l : List UInt8} (h : Bld w B l) (o : Obj) : Bld (w.alloc o) B l := h.keep fun b _ hlt => Below.heap_alloc w o b hlt
theorem Bld.drew {w : World} {B : Nat} {l : List UInt8} (h : Bld w B l) : Bld w.drew B l := h
theorem write_c (B : Nat) (l : List UInt8) (s : ByteArray) (w : World) (h : Bld w B l) (hlen : l.length + s.size ≤ 140737488355328) :
    Calls Tryz.prog 94 #[.pointer (some ⟨B, 0, none⟩), .string s] w fun e w' => e = .returned (.tuple #[.int .i64 s.size, .nilIface]) ∧ (Bld w' B (l ++ s.data.toList) ∧ Below B w w') := by
  refine (Any.Builder_WriteString { Tryz.lays156 with } Tryz.Builder_Extra_156 B B (Lib.byteCells l) s w h (by rw [Lib.byteCells_length]; exact hlen) (Nat.le_of_lt h.lt)).mono ?_
  rintro e w' ⟨he, h1, h2⟩
  refine ⟨he, .inr ?_, h2⟩
  rw [Lib.strCells_eq, ← Lib.byteCells_append] at h1
  exact h1
theorem text_c (B : Nat) (l : List UInt8) (w : World) (h : Bld w B l) :
    Calls Tryz.prog 98 #[.pointer (some ⟨B, 0, none⟩)] w fun e w' => e = .returned (.string ⟨l.toArray⟩) ∧ Below B w w' :=
  Tryz.Builder_String_any B B l w h (Nat.le_of_lt h.lt)
/-- strings.Join of words in memory. -/
theorem join_c (l : List ByteArray) (sep : ByteArray) (v : Value) (F : Nat → Prop) (w : World) (hv : Sli strR w F l v) (hF : ∀ b, F b → b < w.heap.size) (hlen : (Lib.join (l.map (·.data.toList)) sep.data.toList).length ≤ 140737488355328) (hN : l.length ≤ 140737488355328) :
    Calls Tryz.prog 95 #[v, .string sep] w fun e w' => e = .returned (.string ⟨(Lib.join (l.map (·.data.toList)) sep.data.toList).toArray⟩) ∧ Below w.heap.size w w' := by
  obtain ⟨A, c, rfl, h1, h2, h3⟩ := hv
  by_cases h0 : 0 < l.length
  · obtain ⟨b, off, cs, rfl, hb, hl, hc⟩ := h3 h0
    refine Any.strings_Join Tryz.lays156 Tryz.Builder_Extra_156 b off c l sep w (fun j x hx => ?_) (hF b hb) hN h1 hlen
    have h4 : (cs.drop (j * 1)).take 1 = [.string x] := hl.2 j x hx
    refine hc j _ ?_
    have h5 : ((cs.drop (j * 1)).take 1)[0]? = some (.string x) := by rw [h4]; rfl
    rw [List.getElem?_take, if_pos (by decide), List.getElem?_drop] at h5
    simpa using h5
  · have : l = [] := List.length_eq_zero_iff.1 (by omega)
    subst this
    exact (Any.strings_Join_none Tryz.lays156 Tryz.Builder_Extra_156 A c sep w).mono fun e w' ⟨he, hw⟩ => ⟨he, hw ▸ Below.refl _ _⟩
/-- .. its result behind a name. -/
theorem joinX (l : List ByteArray) (sep X : ByteArray) (v : Value) (F : Nat → Prop) (w : World) (hX : (⟨(Lib.join (l.map (·.data.toList)) sep.data.toList).toArray⟩ : ByteArray) = X) (hs : X.size ≤ 140737488355328) (hv : Sli strR w F l v) (hF : ∀ b, F b → b < w.heap.size) (hN : l.length ≤ 140737488355328) :
    Calls Tryz.prog 95 #[v, .string sep] w fun e w' => e = .returned (.string X) ∧ Below w.heap.size w w' := by
  subst hX
  exact join_c l sep v F w hv hF (by simpa [ByteArray.size] using hs) hN
theorem strLit (w : World) (l : List ByteArray) (cs : Array Value) (T n : Nat) (hcs : cs = (l.map Value.string).toArray) (hn : n = l.length) (hm : n ≤ 1000) : Sli strR (w.alloc (.cells cs T)) (fun b => b = w.heap.size) l (.slice (some ⟨w.heap.size, 0, none⟩) n n) := by
  subst hcs; subst hn
  refine Sli.new T l.length ⟨by rw [List.length_map]; show _ = _ * 1; omega, fun k x hx => ?_⟩ rfl (Nat.le_refl _) (by omega)
  show ((l.map Value.string).drop (k * 1)).take 1 = [.string x]
  obtain ⟨hk, rfl⟩ := List.getElem?_eq_some_iff.1 hx
  rw [Nat.mul_one, List.drop_eq_getElem_cons (by rw [List.length_map]; exact hk), List.take_succ_cons, List.take_zero, List.getElem_map]
end Go.Proofs.YtihkkaeoijheoaaGreatDoor

/- strings.Builder written, with what stands beside it kept: the library's contracts at this program. -/
namespace Go.Proofs.YtihkkaeoijheoaaGreatDoor
set_option linter.unusedVariables false
open Go.RowKit

/-- A builder of the call's own, whose block is B, that holds the bytes l. -/
def BldK (w : World) (B : Nat) (l : List UInt8) : Prop := Lib.IsBuilderF 135 5 B B (Lib.byteCells l) w
theorem BldK.new (w : World) : BldK (w.alloc (.cells #[.pointer none, .slice none 0 0] 135)) w.heap.size [] := Lib.IsBuilderF.of (Lib.fresh_isBuilder _ _ w)
theorem BldK.lt {w : World} {B : Nat} {l : List UInt8} (h : BldK w B l) : B < w.heap.size := by
  rcases h with ⟨_, v, hb, _⟩ | ⟨_, v, hb, _⟩
  · exact (Array.getElem?_eq_some_iff.1 hb).1
  · exact (Array.getElem?_eq_some_iff.1 hb).1
theorem BldK.keep {w w' : World} {B : Nat} {l : List UInt8} (h : BldK w B l) (hk : ∀ b, B ≤ b → b < w.heap.size → w'.heap[b]? = w.heap[b]?) : BldK w' B l := by
  have one : ∀ p, Lib.BuilderAtF 135 5 B B p (Lib.byteCells l) w → Lib.BuilderAtF 135 5 B B p (Lib.byteCells l) w' := by
    rintro p ⟨hB, v, hb, ho, hne⟩
    refine ⟨hB, v, (hk B (Nat.le_refl _) (Array.getElem?_eq_some_iff.1 hb).1).trans hb, ⟨ho.1, ?_⟩, hne⟩
    rcases ho.2 with hn | ⟨g, cap, cur, fz, rfl, hg0, hg, rest⟩
    · exact .inl hn
    · exact .inr ⟨g, cap, cur, fz, rfl, hg0, (hk g hg0 (Array.getElem?_eq_some_iff.1 hg).1).trans hg, rest⟩
  rcases h with h | h
  · exact .inl (one _ h)
  · exact .inr (one _ h)
theorem BldK.below {w w' : World} {B : Nat} {l : List UInt8} (h : BldK w B l) (hb : Below w.heap.size w w') : BldK w' B l := h.keep fun b _ hlt => hb.block b hlt
theorem BldK.alloc {w : World} {B : Nat} {l : List UInt8} (h : BldK w B l) (o : Obj) : BldK (w.alloc o) B l := h.keep fun b _ hlt => Below.heap_alloc w o b hlt
theorem BldK.drew {w : World} {B : Nat} {l : List UInt8} (h : BldK w B l) : BldK w.drew B l := h
theorem writeK_c (B : Nat) (l : List UInt8) (s : ByteArray) (w : World) (h : BldK w B l) (hlen : l.length + s.size ≤ 140737488355328) :
    Calls Tryz.prog 94 #[.pointer (some ⟨B, 0, none⟩), .string s] w fun e w' => e = .returned (.tuple #[.int .i64 s.size, .nilIface]) ∧ (BldK w' B (l ++ s.data.toList) ∧ Below B w w' ∧ Lib.OthersKept 5 (some B) w w') := by
  refine (Any.Builder_WriteString_k { Tryz.lays156 with } Tryz.Builder_Extra_156 B B (Lib.byteCells l) s w h (by rw [Lib.byteCells_length]; exact hlen) (Nat.le_of_lt h.lt)).mono ?_
  rintro e w' ⟨he, h1, h2, h3⟩
  refine ⟨he, .inr ?_, h2, h3⟩
  rw [Lib.strCells_eq, ← Lib.byteCells_append] at h1
  exact h1
theorem textK_c (B : Nat) (l : List UInt8) (w : World) (h : BldK w B l) :
    Calls Tryz.prog 98 #[.pointer (some ⟨B, 0, none⟩)] w fun e w' => e = .returned (.string ⟨l.toArray⟩) ∧ Below B w w' :=
  (Any.Builder_String_any_k { Tryz.lays156 with } Tryz.Builder_Extra_156 B B l w h (Nat.le_of_lt h.lt)).mono fun _ _ h => ⟨h.1, h.2.2.1⟩
/-- A block of the call's own that is no row of bytes stands behind a write. -/
theorem keptK {w w' : World} {B X : Nat} {cs : Array Value} {T : TypeId} (h : Lib.OthersKept 5 (some B) w w') (hX : w.heap[X]? = some (.cells cs T (0, 0))) (hne : X ≠ B) (hT : T ≠ 5) : w'.heap[X]? = some (.cells cs T (0, 0)) :=
  h X _ hX (fun e => hne (by injection e)) (fun c fz e => hT (by injection e))
end Go.Proofs.YtihkkaeoijheoaaGreatDoor

/- What a law's walk ends with. No law in sight. -/
namespace Go.Proofs.YtihkkaeoijheoaaGreatDoor
set_option linter.unusedVariables false
open Go.RowKit

theorem strNew (w : World) (A : Option Addr) (l : List Int) (c : Nat) (hr : Rs w 0 w.heap.size 1 intc A l) (hl : l.length ≤ 17592186044416) (ho : ∀ x ∈ l, okI x) :
    Str (w.alloc (.cells #[.slice A l.length c, .int .i64 0] 25)) w.heap.size 0 :=
  ⟨A, c, l, heap_alloc_new w _, Int.le_refl _, hr.alloc (Nat.le_refl _) _, hl, ho⟩
theorem gEnd {w w1 : World} {o : Obj} (h : (w.alloc o).grownBy w1 (some w.heap.size)) : Below w.heap.size w w1 :=
  ⟨h.os, h.tape, h.output, by have := h.size; simp at this; omega, fun i hi => (h.block i (by simp; omega) (by simp; omega)).trans (Below.heap_alloc w _ i hi)⟩
theorem gLaid {w w1 : World} {o : Obj} (h : (w.alloc o).grownBy w1 (some w.heap.size)) (hl : ErrsLaid w) : ErrsLaid w1 :=
  hl.below (gEnd h) (Nat.le_refl _)
end Go.Proofs.YtihkkaeoijheoaaGreatDoor

/- The reference's small words on strings. -/
namespace Go.Proofs.YtihkkaeoijheoaaGreatDoor
set_option linter.unusedVariables false
open Go.RowKit

theorem trim_c (s cs : ByteArray) (w : World) (hs : s.size ≤ 140737488355328) (hcs : cs.size ≤ 1000) (ha : (cs.data.toList.all fun b => decide (b.toNat < 128)) = true) :
    Calls Tryz.prog 128 #[.string s, .string cs] w fun e w' => e = .returned (.string ⟨(Lib.trimS s.data.toList cs.data.toList).toArray⟩) ∧ Below w.heap.size w w' :=
  Any.strings_Trim_laid Tryz.lays160 (by kernel_rfl) s cs w (by omega) (by omega) (ascii_of_all ha)

theorem dropWhile_nil {p : UInt8 → Bool} {l : List UInt8} : l.dropWhile p = [] ↔ ∀ x ∈ l, p x = true := by
  induction l with
  | nil => simp
  | cons y l ih =>
    cases h : p y with
    | true => simp [h, ih]
    | false => simp [h]

theorem trimS_nil (l cs : List UInt8) : Lib.trimS l cs = [] ↔ l.all (cs.contains ·) = true := by
  unfold Lib.trimS Lib.trimLeftS Lib.trimRightS
  constructor
  · intro h
    have h1 : ∀ x ∈ (l.reverse.dropWhile (cs.contains ·)), cs.contains x = true := by
      have := dropWhile_nil.1 h
      simpa using this
    cases hd : l.reverse.dropWhile (cs.contains ·) with
    | nil =>
      have := dropWhile_nil.1 hd
      rw [List.all_eq_true]
      intro x hx
      exact this x (by simpa using hx)
    | cons y t =>
      have h2 := h1 y (by rw [hd]; simp)
      have h3 := List.head_dropWhile_not (p := (cs.contains ·)) (l := l.reverse) (by rw [hd]; simp)
      simp only [hd, List.head_cons] at h3
      rw [h3] at h2; cases h2
  · intro h
    rw [List.all_eq_true] at h
    have : l.reverse.dropWhile (cs.contains ·) = [] := dropWhile_nil.2 (fun x hx => h x (by simpa using hx))
    rw [this]; rfl

theorem toList_mk (l : List UInt8) : (⟨l.toArray⟩ : ByteArray).toList = l := by rw [ByteArray.toList_eq]

set_option maxHeartbeats 400000 in
theorem made_c (s cs : ByteArray) (w : World) (hs : s.size ≤ 140737488355328) (hcs : cs.size ≤ 1000) (ha : (cs.data.toList.all fun b => decide (b.toNat < 128)) = true) :
    Calls Tryz.prog 145 #[.string s, .string cs] w fun e w' => e = .returned (.bool (allB (cs.data.toList.contains ·) s)) ∧ Below w.heap.size w w' := by
  cases h : allB (cs.data.toList.contains ·) s with
  | true =>
    have h2 : (⟨(Lib.trimS s.data.toList cs.data.toList).toArray⟩ : ByteArray) = ⟨#[]⟩ := by rw [(trimS_nil _ _).2 h]
    have H := Lib.hid h2
    clear h2 h
    go_enter Tryz.func145, Tryz.ntmps145
    go_wp2_with fail
    refine (trim_c s cs _ hs hcs ha).mono ?_
    rintro e w' ⟨rfl, hb⟩
    rw [H.out]
    go_wp2
    go_ret
    exact ⟨rfl, hb⟩
  | false =>
    have h2 : (⟨(Lib.trimS s.data.toList cs.data.toList).toArray⟩ : ByteArray).toList.isEmpty = false := by
      rw [toList_mk]
      cases he : Lib.trimS s.data.toList cs.data.toList with
      | nil => rw [(trimS_nil _ _).1 he |> (show _ → allB (cs.data.toList.contains ·) s = true from id)] at h; cases h
      | cons y t => rfl
    have H := Lib.hid h2
    clear h2 h
    go_enter Tryz.func145, Tryz.ntmps145
    go_wp2_with fail
    refine (trim_c s cs _ hs hcs ha).mono ?_
    rintro e w' ⟨rfl, hb⟩
    generalize (⟨(Lib.trimS s.data.toList cs.data.toList).toArray⟩ : ByteArray) = t at H ⊢
    have h2 := H.out
    go_wp2
    go_ret
    exact ⟨rfl, hb⟩

set_option maxHeartbeats 400000 in
theorem long_c (s : ByteArray) (lo hi : Int) (w : World) (hs : s.size ≤ 140737488355328) :
    Calls Tryz.prog 118 #[.string s, .int .i64 lo, .int .i64 hi] w fun e w' => e = .returned (.bool (decide (lo ≤ s.size) && decide ((s.size : Int) ≤ hi))) ∧ w = w' := by
  by_cases h1 : lo ≤ (s.size : Int)
  all_goals
    go_enter Tryz.func118, Tryz.ntmps118
    go_wp2
    go_ret
    exact ⟨ret_bool (by first | (simp [h1]; done) | (simp; omega)), rfl⟩
end Go.Proofs.YtihkkaeoijheoaaGreatDoor

/- The shelf contracts that these proofs use, laid at this translation. -/
namespace Go.Proofs
open Go.Shelf

end Go.Proofs

/- The shelf contracts that these proofs use, laid at this translation. -/
namespace Go.Proofs
open Go.Shelf

end Go.Proofs

/- Small laws on strings and bytes. No program in sight. -/
namespace Go.Proofs.YtihkkaeoijheoaaGreatDoor
set_option linter.unusedVariables false
open Go.RowKit

/-- 'string([]byte{..})' of a literal that has just been laid. -/
theorem run_bytes_lit {P : Program} (w : World) (src dst e : TypeId) (hs : P.underlying src = some (.slice e)) (he : P.underlying e = some (.int .u8)) (hd : P.underlying dst = some .string) (ns : List Int) (n c : Nat) (hn : n = ns.length) (cs : Array Value) (hcs : cs = (ns.map (Value.int .u8)).toArray) (T : TypeId) :
    (convert src dst (.slice (some ⟨w.heap.size, 0, none⟩) n c)).run P (w.alloc (.cells cs T)) = .ok (.string ⟨(ns.map fun x => UInt8.ofNat x.toNat).toArray⟩) (w.alloc (.cells cs T)) := by
  subst hn; subst hcs
  rw [run_convert_bytes_string _ src dst e _ _ _ hs he hd]
  have hl := run_loadCells_list (P := P) (w.alloc (.cells (ns.map (Value.int .u8)).toArray T)) ⟨w.heap.size, 0, none⟩ (ns.map (Value.int .u8)) (fun j v hj => by
    have : (⟨w.heap.size, 0, none⟩ : Addr).add j = ⟨w.heap.size, j, none⟩ := by unfold Addr.add; split <;> simp [*]
    rw [this]
    rw [World.cell?_alloc_mark]
    simpa using hj)
  simp only [List.length_map] at hl
  rw [run_bytesToString _ _ _ c ns hl]
  have hf : ∀ (l : List Int) (s : ByteArray), l.foldl (fun r x => r.push (UInt8.ofNat x.toNat)) s = ⟨s.data ++ (l.map fun x => UInt8.ofNat x.toNat).toArray⟩ := by
    intro l
    induction l with
    | nil => intro s; simp
    | cons x l ih => intro s; simp only [List.foldl_cons]; rw [ih]; simp [ByteArray.push]
  rw [hf]
  have he0 : ByteArray.empty.data = #[] := rfl
  rw [he0]
  simp

theorem below_of_regrown {w w' : World} (h : ∃ p : Regrown, w' = Sort.grow (redrawn w p.d) p.os) : Below w.heap.size w w' := by
  obtain ⟨p, rfl⟩ := h
  exact below_regrown w p.d p.os
/-- Contracts inside a region that draws its order, the world known up to 'Below'. -/
theorem regL {P : Program} {f : FuncId} {args : Array Value} {w : World} {d : Nat} {os : Array Obj} {v : Value} (h : Calls P f args (Sort.grow (redrawn w d) os) fun e w' => e = .returned v ∧ Sort.grow (redrawn w d) os = w') :
    Calls P f args (Sort.grow (redrawn w d) os) fun e w'' => e = .returned v ∧ ∃ p : Regrown, w'' = Sort.grow (redrawn w p.d) p.os := h.mono fun _ _ ⟨he, hb⟩ => ⟨he, ⟨d, os⟩, hb.symm⟩
theorem regD {P : Program} {f : FuncId} {args : Array Value} {w : World} {d : Nat} {os : Array Obj} {v : Value} (h : Calls P f args (Sort.grow (redrawn w d) os) fun e w' => e = .returned v ∧ ∃ n, w' = (Sort.grow (redrawn w d) os).drewN n) :
    Calls P f args (Sort.grow (redrawn w d) os) fun e w'' => e = .returned v ∧ ∃ p : Regrown, w'' = Sort.grow (redrawn w p.d) p.os := h.mono fun _ _ ⟨he, n, hb⟩ => ⟨he, ⟨d + n, os⟩, hb⟩
end Go.Proofs.YtihkkaeoijheoaaGreatDoor

/- The program's codes. -/
namespace Go.Proofs.YtihkkaeoijheoaaGreatDoor
set_option linter.unusedVariables false
open Go.RowKit Go.Sort

set_option maxHeartbeats 400000 in
theorem two_any (n : Int) (w : World) : Calls Tryz.prog 237 #[.int .i64 n] w fun e w' => e = .returned (.string (twoS n)) ∧ Below w.heap.size w w' := by
  have hcv := fun (a b : Int) => run_bytes_lit (P := Tryz.prog) w 133 9 5 Tryz.underlying133 Tryz.underlying5 Tryz.underlying9 [a, b] 2 2 rfl _ rfl 5
  simp only [List.map_cons, List.map_nil] at hcv
  go_enter Tryz.func237, Tryz.ntmps237
  go_wp2
  go_ret
  exact ⟨rfl, (Below.refl _ _).alloc (Nat.le_refl _) _⟩

theorem code_eqs {s : Int} (h0 : 0 ≤ s) (h1 : s < 1000000000) : IntKind.i64.wrap (s.tdiv 3600) = s / 3600 ∧ IntKind.i64.wrap (s.tdiv 60) = s / 60 ∧ (s / 60).tmod 60 = s / 60 % 60 ∧ s.tmod 60 = s % 60 := by
  refine ⟨?_, ?_, Int.tmod_eq_emod_of_nonneg (by omega), Int.tmod_eq_emod_of_nonneg h0⟩
  · rw [Int.tdiv_eq_ediv_of_nonneg h0]; exact IntWalk.i64_in _ (by omega)
  · rw [Int.tdiv_eq_ediv_of_nonneg h0]; exact IntWalk.i64_in _ (by omega)

set_option maxHeartbeats 1000000 in
theorem code_c (r x : Int) (w : World) (hr : isRateB r = true) (h0 : 0 ≤ x) (h1 : x < framesN r) : Calls Tryz.prog 185 #[.int .i64 r, .int .i64 x] w fun e w' => e = .returned (.string (codeS r x)) ∧ Below w.heap.size w w' := by
  rcases rate_cases hr with rfl | rfl | rfl | rfl
  ·
    have e1 : countedN 1 = 24 := rfl
    have h2 : x < 2073600 := h1
    have HE := Lib.hid (show codeS 1 x = fmtS 1 (x / 24) (x % 24) from rfl)
    clear h1 hr
    go_enter Tryz.func185, Tryz.ntmps185
    go_wp2_with fail
    refine (counted_c _ _ rfl).mono ?_
    rintro e w' ⟨rfl, rfl⟩
    go_wp2
    obtain ⟨q1, q2, q3, q4⟩ := code_eqs (s := x / 24) (by omega) (by omega)
    have q5 : x.tmod 24 = x % 24 := Int.tmod_eq_emod_of_nonneg h0
    generalize x / 24 = s at *
    generalize x % 24 = n at *
    clear h0 h2
    have hz : ∀ n, (twoS n).size = 2 := fun _ => rfl
    refine wp_region_quiet_below (by kernel_rfl) (by kernel_rfl) ?_
    repeat (first | go_big_quiet_step ((go_at_call 237; exact Calls.regrown_of (two_any _ _))) | quiet_step ((go_at_call 237; exact Calls.regrown_of (two_any _ _))))
    refine wpQuiet_nil ?_
    intro wq hwq
    have hbq := below_of_regrown hwq
    clear hwq
    go_wp2
    go_ret
    exact ⟨by rw [HE.out]; rfl, hbq⟩
  ·
    have e1 : countedN 2 = 25 := rfl
    have h2 : x < 2160000 := h1
    have HE := Lib.hid (show codeS 2 x = fmtS 2 (x / 25) (x % 25) from rfl)
    clear h1 hr
    go_enter Tryz.func185, Tryz.ntmps185
    go_wp2_with fail
    refine (counted_c _ _ rfl).mono ?_
    rintro e w' ⟨rfl, rfl⟩
    go_wp2
    obtain ⟨q1, q2, q3, q4⟩ := code_eqs (s := x / 25) (by omega) (by omega)
    have q5 : x.tmod 25 = x % 25 := Int.tmod_eq_emod_of_nonneg h0
    generalize x / 25 = s at *
    generalize x % 25 = n at *
    clear h0 h2
    have hz : ∀ n, (twoS n).size = 2 := fun _ => rfl
    refine wp_region_quiet_below (by kernel_rfl) (by kernel_rfl) ?_
    repeat (first | go_big_quiet_step ((go_at_call 237; exact Calls.regrown_of (two_any _ _))) | quiet_step ((go_at_call 237; exact Calls.regrown_of (two_any _ _))))
    refine wpQuiet_nil ?_
    intro wq hwq
    have hbq := below_of_regrown hwq
    clear hwq
    go_wp2
    go_ret
    exact ⟨by rw [HE.out]; rfl, hbq⟩
  ·
    have e1 : countedN 3 = 30 := rfl
    have h2 : x < 2592000 := h1
    have HE := Lib.hid (show codeS 3 x = fmtS 3 (x / 30) (x % 30) from rfl)
    clear h1 hr
    go_enter Tryz.func185, Tryz.ntmps185
    go_wp2_with fail
    refine (counted_c _ _ rfl).mono ?_
    rintro e w' ⟨rfl, rfl⟩
    go_wp2
    obtain ⟨q1, q2, q3, q4⟩ := code_eqs (s := x / 30) (by omega) (by omega)
    have q5 : x.tmod 30 = x % 30 := Int.tmod_eq_emod_of_nonneg h0
    generalize x / 30 = s at *
    generalize x % 30 = n at *
    clear h0 h2
    have hz : ∀ n, (twoS n).size = 2 := fun _ => rfl
    refine wp_region_quiet_below (by kernel_rfl) (by kernel_rfl) ?_
    repeat (first | go_big_quiet_step ((go_at_call 237; exact Calls.regrown_of (two_any _ _))) | quiet_step ((go_at_call 237; exact Calls.regrown_of (two_any _ _))))
    refine wpQuiet_nil ?_
    intro wq hwq
    have hbq := below_of_regrown hwq
    clear hwq
    go_wp2
    go_ret
    exact ⟨by rw [HE.out]; rfl, hbq⟩
  ·
    have e1 : countedN 4 = 30 := rfl
    have h2 : x < 2589408 := h1
    clear h1 hr
    by_cases hc : 1800 ≤ x % 17982
    ·
      have HE := Lib.hid (show codeS 4 x = fmtS 4 ((x + 18 * (x / 17982) + (2 + 2 * ((x % 17982 - 1800) / 1798))) / 30) ((x + 18 * (x / 17982) + (2 + 2 * ((x % 17982 - 1800) / 1798))) % 30) by unfold codeS; rw [show adjN 4 x = x + 18 * (x / 17982) + (2 + 2 * ((x % 17982 - 1800) / 1798)) by unfold adjN; rw [if_pos rfl]; rw [if_pos hc]]; rfl)
      have HY := Lib.hid (show 0 ≤ x + 18 * (x / 17982) + (2 + 2 * ((x % 17982 - 1800) / 1798)) ∧ x + 18 * (x / 17982) + (2 + 2 * ((x % 17982 - 1800) / 1798)) ≤ 2700000 by omega)
      go_enter Tryz.func185, Tryz.ntmps185
      go_wp2_with fail
      refine (counted_c _ _ rfl).mono ?_
      rintro e w' ⟨rfl, rfl⟩
      go_wp2
      have hy := HY.out
      clear HY
      generalize x + 18 * (x / 17982) + (2 + 2 * ((x % 17982 - 1800) / 1798)) = y at *
      obtain ⟨q1, q2, q3, q4⟩ := code_eqs (s := y / 30) (by omega) (by omega)
      have q5 : y.tmod 30 = y % 30 := Int.tmod_eq_emod_of_nonneg hy.1
      generalize y / 30 = s at *
      generalize y % 30 = n at *
      clear h0 h2 hy hc
      have hz : ∀ n, (twoS n).size = 2 := fun _ => rfl
      refine wp_region_quiet_below (by kernel_rfl) (by kernel_rfl) ?_
      repeat (first | go_big_quiet_step ((go_at_call 237; exact Calls.regrown_of (two_any _ _))) | quiet_step ((go_at_call 237; exact Calls.regrown_of (two_any _ _))))
      refine wpQuiet_nil ?_
      intro wq hwq
      have hbq := below_of_regrown hwq
      clear hwq
      go_wp2
      go_ret
      exact ⟨by rw [HE.out]; rfl, hbq⟩
    ·
      have HE := Lib.hid (show codeS 4 x = fmtS 4 ((x + 18 * (x / 17982)) / 30) ((x + 18 * (x / 17982)) % 30) by unfold codeS; rw [show adjN 4 x = x + 18 * (x / 17982) by unfold adjN; rw [if_pos rfl]; rw [if_neg hc]; omega]; rfl)
      have HY := Lib.hid (show 0 ≤ x + 18 * (x / 17982) ∧ x + 18 * (x / 17982) ≤ 2700000 by omega)
      go_enter Tryz.func185, Tryz.ntmps185
      go_wp2_with fail
      refine (counted_c _ _ rfl).mono ?_
      rintro e w' ⟨rfl, rfl⟩
      go_wp2
      have hy := HY.out
      clear HY
      generalize x + 18 * (x / 17982) = y at *
      obtain ⟨q1, q2, q3, q4⟩ := code_eqs (s := y / 30) (by omega) (by omega)
      have q5 : y.tmod 30 = y % 30 := Int.tmod_eq_emod_of_nonneg hy.1
      generalize y / 30 = s at *
      generalize y % 30 = n at *
      clear h0 h2 hy hc
      have hz : ∀ n, (twoS n).size = 2 := fun _ => rfl
      refine wp_region_quiet_below (by kernel_rfl) (by kernel_rfl) ?_
      repeat (first | go_big_quiet_step ((go_at_call 237; exact Calls.regrown_of (two_any _ _))) | quiet_step ((go_at_call 237; exact Calls.regrown_of (two_any _ _))))
      refine wpQuiet_nil ?_
      intro wq hwq
      have hbq := below_of_regrown hwq
      clear hwq
      go_wp2
      go_ret
      exact ⟨by rw [HE.out]; rfl, hbq⟩

def codeE (r x : Int) : Int := if isRateB r = false then 4 else if x < 0 ∨ framesN r ≤ x then 1 else 0
def codeA (r x : Int) : ByteArray := if codeE r x = 0 then codeS r x else ⟨#[]⟩
set_option maxHeartbeats 400000 in
theorem Code_c (r x : Int) (w : World) : Calls Tryz.prog 111 #[.int .i64 r, .int .i64 x] w fun e w' => e = .returned (.tuple #[.string (codeA r x), .int .i64 (codeE r x)]) ∧ Below w.heap.size w w' := by
  cases hr : isRateB r with
  | false =>
    have E1 := Lib.hid (show codeE r x = 4 from if_pos hr)
    have E2 := Lib.hid (show codeA r x = ⟨#[]⟩ by unfold codeA; rw [E1.out]; rfl)
    go_enter Tryz.func111, Tryz.ntmps111
    go_wp2_with fail
    refine (isRate_c _ _).mono ?_
    rintro e w' ⟨rfl, rfl⟩
    go_wp2
    go_ret2
    exact ⟨by rw [E1.out, E2.out]; rfl, Below.refl _ _⟩
  | true =>
    have HR := Lib.hid hr
    by_cases h0 : x < 0
    · have E1 := Lib.hid (show codeE r x = 1 by unfold codeE; rw [if_neg (by rw [hr]; simp), if_pos (.inl h0)])
      have E2 := Lib.hid (show codeA r x = ⟨#[]⟩ by unfold codeA; rw [E1.out]; rfl)
      go_enter Tryz.func111, Tryz.ntmps111
      go_wp2_with fail
      refine (isRate_c _ _).mono ?_
      rintro e w' ⟨rfl, rfl⟩
      go_wp2
      go_ret2
      exact ⟨by rw [E1.out, E2.out]; rfl, Below.refl _ _⟩
    · by_cases h1 : framesN r ≤ x
      · have E1 := Lib.hid (show codeE r x = 1 by unfold codeE; rw [if_neg (by rw [hr]; simp), if_pos (.inr h1)])
        have E2 := Lib.hid (show codeA r x = ⟨#[]⟩ by unfold codeA; rw [E1.out]; rfl)
        go_enter Tryz.func111, Tryz.ntmps111
        go_wp2_with fail
        refine (isRate_c _ _).mono ?_
        rintro e w' ⟨rfl, rfl⟩
        go_wp2_with fail
        refine (frames_c _ _ HR.out).mono ?_
        rintro e w' ⟨rfl, rfl⟩
        go_wp2
        go_ret2
        exact ⟨by rw [E1.out, E2.out]; rfl, Below.refl _ _⟩
      · have E1 := Lib.hid (show codeE r x = 0 by unfold codeE; rw [if_neg (by rw [hr]; simp), if_neg (by omega)])
        have E2 := Lib.hid (show codeA r x = codeS r x by unfold codeA; rw [E1.out]; rfl)
        go_enter Tryz.func111, Tryz.ntmps111
        go_wp2_with fail
        refine (isRate_c _ _).mono ?_
        rintro e w' ⟨rfl, rfl⟩
        go_wp2_with fail
        refine (frames_c _ _ HR.out).mono ?_
        rintro e w' ⟨rfl, rfl⟩
        go_wp2_with fail
        refine (code_c _ _ _ HR.out (by omega) (by omega)).mono ?_
        rintro e w' ⟨rfl, hb⟩
        go_wp2
        go_ret2
        exact ⟨by rw [E1.out, E2.out]; rfl, hb⟩
end Go.Proofs.YtihkkaeoijheoaaGreatDoor

/- A text cut at a byte, in plain words. No program in sight. -/
namespace Go.Proofs.YtihkkaeoijheoaaGreatDoor
set_option linter.unusedVariables false
open Go.RowKit

/-- Where a byte stands first; the length where it does not stand. -/
def cutI (s : ByteArray) (c : UInt8) : Nat := s.data.toList.findIdx (· == c)
def cutF (s : ByteArray) (c : UInt8) : Bool := decide (cutI s c < s.size)
def cutA (s : ByteArray) (c : UInt8) : ByteArray := s.extract 0 (cutI s c)
def cutB (s : ByteArray) (c : UInt8) : ByteArray := s.extract (cutI s c + 1) s.size
theorem cutI_le (s : ByteArray) (c : UInt8) : cutI s c ≤ s.size := by
  have := List.findIdx_le_length (p := (· == c)) (xs := s.data.toList)
  simpa [cutI] using this
theorem cutA_size (s : ByteArray) (c : UInt8) : (cutA s c).size ≤ s.size := by unfold cutA; rw [ByteArray.size_extract]; omega
theorem cutB_size (s : ByteArray) (c : UInt8) : (cutB s c).size ≤ s.size := by unfold cutB; rw [ByteArray.size_extract]; omega
theorem idxB_no {s : ByteArray} {c : UInt8} (h : ¬ cutI s c < s.size) : Lib.indexByte s.data.toList c = -1 := by
  by_cases h1 : Lib.indexByte s.data.toList c = -1
  · exact h1
  · exfalso
    have hg := Lib.indexByte_ge s.data.toList c
    obtain ⟨o, ho⟩ := Int.eq_ofNat_of_zero_le (show 0 ≤ Lib.indexByte s.data.toList c by omega)
    obtain ⟨h2, _⟩ := Lib.indexByte_some ho
    obtain ⟨hlt, h3⟩ := List.getElem?_eq_some_iff.1 h2
    exact h (by
      have h4 : cutI s c < s.data.toList.length := List.findIdx_lt_length_of_exists ⟨c, by rw [← h3]; exact List.getElem_mem hlt, by simp⟩
      simpa using h4)
theorem idxB_yes {s : ByteArray} {c : UInt8} (h : cutI s c < s.size) : Lib.indexByte s.data.toList c = (cutI s c : Int) := by
  have hl : cutI s c < s.data.toList.length := by simpa using h
  have hg := Lib.indexByte_ge s.data.toList c
  have hc : s.data.toList[cutI s c] = c := by have := List.findIdx_getElem (p := (· == c)) (w := hl); exact eq_of_beq this
  have hne : Lib.indexByte s.data.toList c ≠ -1 := fun e => Lib.indexByte_none e (cutI s c) (by rw [List.getElem?_eq_getElem hl, hc])
  obtain ⟨o, ho⟩ := Int.eq_ofNat_of_zero_le (show 0 ≤ Lib.indexByte s.data.toList c by omega)
  obtain ⟨h2, h3⟩ := Lib.indexByte_some ho
  obtain ⟨hlt, h4⟩ := List.getElem?_eq_some_iff.1 h2
  rcases Nat.lt_trichotomy o (cutI s c) with h5 | h5 | h5
  · have := List.not_of_lt_findIdx (p := (· == c)) (xs := s.data.toList) h5
    simp [h4] at this
  · rw [ho, h5]
  · exact absurd (by rw [List.getElem?_eq_getElem hl, hc]) (h3 _ h5)
theorem findIdx_app {l r : List UInt8} {c : UInt8} (h : ∀ x ∈ l, x ≠ c) : (l ++ c :: r).findIdx (· == c) = l.length := by
  induction l with
  | nil => simp [List.findIdx_cons]
  | cons x l ih =>
    have hx : (x == c) = false := by simpa using h x (by simp)
    simp only [List.cons_append, List.findIdx_cons, hx, cond_false, List.length_cons]
    rw [ih (fun y hy => h y (by simp [hy]))]
theorem extract_list' (s : ByteArray) (a b : Nat) : (s.extract a b).data.toList = (s.data.toList.drop a).take (b - a) := by simp
theorem ba_ext {a b : ByteArray} (h : a.data.toList = b.data.toList) : a = b := by
  rcases a with ⟨⟨a⟩⟩; rcases b with ⟨⟨b⟩⟩; simp at h; rw [h]
/-- A text that is put together is cut where it was put together. -/
theorem cut_app {a b : ByteArray} {c : UInt8} (h : ∀ x ∈ a.data.toList, x ≠ c) : cutI (a ++ ⟨#[c]⟩ ++ b) c = a.size ∧ cutF (a ++ ⟨#[c]⟩ ++ b) c = true ∧ cutA (a ++ ⟨#[c]⟩ ++ b) c = a ∧ cutB (a ++ ⟨#[c]⟩ ++ b) c = b := by
  have e : (a ++ ⟨#[c]⟩ ++ b).data.toList = a.data.toList ++ (c :: b.data.toList) := by simp
  have hs : (a ++ ⟨#[c]⟩ ++ b).size = a.size + 1 + b.size := by rw [ByteArray.size_append, ByteArray.size_append]; rfl
  have hl : a.data.toList.length = a.size := by simp
  have hi : cutI (a ++ ⟨#[c]⟩ ++ b) c = a.size := by
    unfold cutI
    rw [e, findIdx_app h, hl]
  refine ⟨hi, by unfold cutF; rw [hi, hs]; simp; omega, ?_, ?_⟩
  · unfold cutA; rw [hi]; apply ba_ext; rw [extract_list', e]; simp [hl]
  · unfold cutB; rw [hi, hs]; apply ba_ext; rw [extract_list', e]
    rw [show a.data.toList ++ c :: b.data.toList = (a.data.toList ++ [c]) ++ b.data.toList by simp, List.drop_left' (by simp), List.take_of_length_le (by simp)]
theorem cut_none {a : ByteArray} {c : UInt8} (h : ∀ x ∈ a.data.toList, x ≠ c) : cutF a c = false ∧ cutA a c = a ∧ cutB a c = ⟨#[]⟩ := by
  have hi : cutI a c = a.size := by
    unfold cutI
    rw [List.findIdx_eq_length_of_false (fun x hx => by simpa using h x hx)]; simp
  refine ⟨by unfold cutF; rw [hi]; simp, ?_, ?_⟩
  · unfold cutA; rw [hi]; apply ba_ext; simp
  · unfold cutB; rw [hi]; apply ba_ext; simp
end Go.Proofs.YtihkkaeoijheoaaGreatDoor

/- strings.Cut at one byte, for every string. -/
namespace Go.Proofs.YtihkkaeoijheoaaGreatDoor
set_option linter.unusedVariables false
open Go.RowKit

set_option maxHeartbeats 400000 in
theorem cutL_c (s : ByteArray) (c : UInt8) (w : World) (hs : s.size ≤ 140737488355328) :
    Calls Tryz.prog 151 #[.string s, .string ⟨#[c]⟩] w fun e w' => e = .returned (.tuple #[.string (cutA s c), .string (cutB s c), .bool (cutF s c)]) ∧ ∃ n, w' = w.drewN n := by
  by_cases h : cutI s c < s.size
  · have HI := Lib.hid (idxB_yes h)
    obtain ⟨i, hi⟩ : ∃ i, cutI s c = i := ⟨_, rfl⟩
    have HV := Lib.hid (show cutA s c = s.extract 0 i ∧ cutB s c = s.extract (i + 1) s.size ∧ cutF s c = true by unfold cutA cutB cutF; rw [← hi]; exact ⟨rfl, rfl, decide_eq_true h⟩)
    rw [hi] at h HI
    clear hi
    have p0 : (0 : Int) ≤ (i : Int) := by omega
    have p1 : (i : Int) ≤ (s.size : Int) := by omega
    have p2 : (i : Int) + 1 ≤ (s.size : Int) := by omega
    have p3 : (0 : Int) ≤ (i : Int) + 1 := by omega
    have p4 : ((i : Int) + 1).toNat = i + 1 := by omega
    have p5 : IntKind.i64.wrap ((i : Int) + 1) = (i : Int) + 1 := IntWalk.i64_in _ (by omega)
    have p6 : i ≤ s.size := by omega
    have p7 : i + 1 ≤ s.size := by omega
    go_enter Tryz.func151, Tryz.ntmps151
    go_wp2_with fail
    refine (Tryz.stringslite_Index_one s c _).mono ?_
    rintro e w' ⟨rfl, rfl⟩
    rw [HI.out]
    go_wp2
    go_quiet (fail)
    go_wp2
    refine bodyPost_ret (v := .tuple #[.string (cutA s c), .string (cutB s c), .bool (cutF s c)]) ?_ rfl ⟨rfl, _, rfl⟩
    rw [HV.out.1, HV.out.2.1, HV.out.2.2]
    simp [results, go_sem]
  · have HI := Lib.hid (idxB_no h)
    have hi : cutI s c = s.size := by have := cutI_le s c; omega
    have HV := Lib.hid (show cutA s c = s ∧ cutB s c = ⟨#[]⟩ ∧ cutF s c = false by
      unfold cutA cutB cutF; rw [hi]
      exact ⟨ba_ext (by simp), ba_ext (by simp), by simp⟩)
    clear hi h
    go_enter Tryz.func151, Tryz.ntmps151
    go_wp2_with fail
    refine (Tryz.stringslite_Index_one s c _).mono ?_
    rintro e w' ⟨rfl, rfl⟩
    rw [HI.out]
    go_wp2
    refine bodyPost_ret (v := .tuple #[.string (cutA s c), .string (cutB s c), .bool (cutF s c)]) ?_ rfl ⟨rfl, 0, rfl⟩
    rw [HV.out.1, HV.out.2.1, HV.out.2.2]
    simp [results, go_sem]
set_option maxHeartbeats 400000 in
theorem cut_c (s : ByteArray) (c : UInt8) (w : World) (hs : s.size ≤ 140737488355328) :
    Calls Tryz.prog 62 #[.string s, .string ⟨#[c]⟩] w fun e w' => e = .returned (.tuple #[.string (cutA s c), .string (cutB s c), .bool (cutF s c)]) ∧ ∃ n, w' = w.drewN n := by
  go_enter Tryz.func62, Tryz.ntmps62
  go_wp2_with fail
  refine (cutL_c s c _ hs).mono ?_
  rintro e w' ⟨rfl, ⟨n, rfl⟩⟩
  go_wp2
  exact bodyPost_ret (v := .tuple #[.string (cutA s c), .string (cutB s c), .bool (cutF s c)]) (by simp [results, go_sem]) rfl ⟨rfl, _, rfl⟩
end Go.Proofs.YtihkkaeoijheoaaGreatDoor

/- Numerals read by the program and by the reference. -/
namespace Go.Proofs.YtihkkaeoijheoaaGreatDoor
set_option linter.unusedVariables false
open Go.RowKit Go.Sort

/-- The table of powers of ten lies where it was laid. -/
def PowLaid (w : World) : Prop := Lib.TabIs Tryz.prog w "internal/strconv.uint64pow10" .u64 Lib.pow10Tab
theorem pow_below {w w' : World} {B : Nat} (h : PowLaid w) (hb : Below B w w') (hB : w.heap.size ≤ B) : PowLaid w' :=
  Joins.tab_stays (g := 5) (by kernel_rfl) h hb hB
theorem below_grow {w w' : World} {k : Nat} {os : Array Obj} (h : w' = grow (w.drewN k) os) : Below w.heap.size w w' := by
  subst h
  exact below_regrown w (w.drawn + k) os
theorem itoa_c (n : Int) (w : World) (hn : okI n) (hp : PowLaid w) : Calls Tryz.prog 96 #[.int .i64 n] w fun e w' => e = .returned (.string ⟨(Lib.itoa n).toArray⟩) ∧ Below w.heap.size w w' :=
  (Any.strconv_Itoa Tryz.laysM171 n hn.1 hn.2 w hp).mono fun _ _ ⟨he, k, os, hw⟩ => ⟨he, below_grow hw⟩

/-- strings.Trim at the figures: empty just where all bytes are figures. -/
def TrimF (s : ByteArray) (w : World) (e : Ending) (w' : World) : Prop := ∃ t : ByteArray, e = .returned (.string t) ∧ (allB figC s = true → t = ⟨#[]⟩) ∧ (allB figC s = false → t.toList.isEmpty = false) ∧ Below w.heap.size w w'
theorem figC_eq (s : ByteArray) : allB (([48, 49, 50, 51, 52, 53, 54, 55, 56, 57] : List UInt8).contains ·) s = allB figC s := allB_congr (by decide +kernel) s
theorem trimF_c (s : ByteArray) (w : World) (hs : s.size ≤ 140737488355328) : Calls Tryz.prog 128 #[.string s, .string ⟨#[48, 49, 50, 51, 52, 53, 54, 55, 56, 57]⟩] w (TrimF s w) := by
  refine (trim_c s _ w hs (by decide) (by decide)).mono ?_
  rintro e w' ⟨he, hb⟩
  refine ⟨_, he, fun h => ?_, fun h => ?_, hb⟩
  · rw [← figC_eq] at h
    rw [(trimS_nil _ _).2 h]
  · rw [toList_mk]
    rw [← figC_eq] at h
    cases hd : Lib.trimS s.data.toList (ByteArray.mk #[48, 49, 50, 51, 52, 53, 54, 55, 56, 57]).data.toList with
    | nil => have := (trimS_nil _ _).1 hd; rw [show s.data.toList.all _ = allB _ s from rfl] at this; rw [this] at h; cases h
    | cons y t => rfl

def decA (s : ByteArray) (most : Int) : Int := bif decB s most then decV s else 0
set_option maxRecDepth 100000 in
set_option maxHeartbeats 800000 in
theorem decimal_c (s : ByteArray) (most : Int) (w : World) (hs : s.size ≤ 140737488355328) (h0 : 1 ≤ most) (h1 : most ≤ 18) (hl : ErrsLaid w) :
    Calls Tryz.prog 234 #[.string s, .int .i64 most] w fun e w' => e = .returned (.tuple #[.int .i64 (decA s most), .bool (decB s most)]) ∧ Below w.heap.size w w' := by
  have HL := Lib.hid hl; clear hl
  by_cases c1 : s.size < 1
  · have HV := Lib.hid (show decB s most = false by simp [decB]; omega)
    have HA := Lib.hid (show decA s most = 0 by unfold decA; rw [HV.out]; rfl)
    go_enter Tryz.func234, Tryz.ntmps234
    go_wp2
    go_ret2
    exact ⟨by rw [HV.out, HA.out]; rfl, Below.refl _ _⟩
  · by_cases c2 : most < (s.size : Int)
    · have HV := Lib.hid (show decB s most = false by simp [decB]; omega)
      have HA := Lib.hid (show decA s most = 0 by unfold decA; rw [HV.out]; rfl)
      have c1' : 1 ≤ s.size := by omega
      go_enter Tryz.func234, Tryz.ntmps234
      go_wp2
      go_ret2
      exact ⟨by rw [HV.out, HA.out]; rfl, Below.refl _ _⟩
    · have hsz : 0 < s.size := by omega
      have c1' : 1 ≤ s.size := by omega
      have c2' : (s.size : Int) ≤ most := by omega
      have hu := s[0].toNat_lt
      have hhd : s.data.toList.head?.map (·.toNat) = some s[0].toNat := by
        rw [List.head?_eq_getElem?, List.getElem?_eq_getElem (by simpa using hsz)]; rfl
      have HH := Lib.hid hhd; clear hhd
      by_cases c3 : 1 < s.size ∧ s[0].toNat = 48
      · have HV := Lib.hid (show decB s most = false by
          unfold decB; rw [HH.out, c3.2]; simp; intros; omega)
        have HA := Lib.hid (show decA s most = 0 by unfold decA; rw [HV.out]; rfl)
        obtain ⟨c3, c4⟩ := c3
        have c4' : ((s[0].toNat : Int) == 48) = true := by rw [c4]; rfl
        clear c4
        go_enter Tryz.func234, Tryz.ntmps234
        go_wp2
        go_ret2
        exact ⟨by rw [HV.out, HA.out]; rfl, Below.refl _ _⟩
      · have HC := Lib.hid (show decB s most = allB figC s by
          unfold decB; rw [HH.out]; simp; intros; omega)
        have c4' : s.size ≤ 1 ∨ (1 < s.size ∧ ((s[0].toNat : Int) == 48) = false) := by
          by_cases h : 1 < s.size
          · right; exact ⟨h, by rw [beq_eq_false_iff_ne]; omega⟩
          · exact .inl (by omega)
        clear c3
        cases hf : allB figC s with
        | false =>
          have HF := Lib.hid hf
          have HV := Lib.hid (show decB s most = false by rw [HC.out, hf])
          have HA := Lib.hid (show decA s most = 0 by unfold decA; rw [HV.out]; rfl)
          clear hf
          rcases c4' with c4 | ⟨c40, c4⟩
          all_goals
            go_enter Tryz.func234, Tryz.ntmps234
            go_wp2_with fail
            refine (trimF_c s _ hs).mono ?_
            rintro e w' ⟨t, rfl, _, ht, hb⟩
            have ht' := ht HF.out
            clear ht
            go_wp2
            go_ret2
            exact ⟨by rw [HV.out, HA.out]; rfl, hb⟩
        | true =>
          have HF := Lib.hid hf
          have HV := Lib.hid (show decB s most = true by rw [HC.out, hf])
          have HA := Lib.hid (show decA s most = decV s by unfold decA; rw [HV.out]; rfl)
          have hlt : decV s < 10 ^ 18 := decV_lt (most := 18) (decB_iff.2 ⟨(decB_iff.1 HV.out).1, by omega⟩)
          have HN := Lib.hid (show Lib.atoiAll s.data.toList = .ok (decV s : Int) from atoi_digits (decB_iff.1 HV.out).1.1 (decB_iff.1 HV.out).1.2.1 (by unfold decV at hlt; omega))
          clear hf hlt
          rcases c4' with c4 | ⟨c40, c4⟩
          all_goals
            go_enter Tryz.func234, Tryz.ntmps234
            go_wp2_with fail
            refine (trimF_c s _ hs).mono ?_
            rintro e w' ⟨t, rfl, ht, _, hb⟩
            obtain rfl := ht HF.out
            clear ht
            have HB := Lib.hid hb; clear hb
            go_wp2_with fail
            refine (atoi_c s _ hs (HL.out.below HB.out (Nat.le_refl _))).mono ?_
            rintro e w2 ⟨n, ev, hP, rfl, hb2⟩
            obtain ⟨rfl, rfl⟩ : n = decV s ∧ ev = .nilIface := by
              rcases hP with ⟨h, he⟩ | ⟨h, _⟩
              · rw [HN.out] at h; injection h with h; exact ⟨h.symm, he⟩
              · exact absurd HN.out (h _)
            have HB2 := Lib.hid (HB.out.trans (hb2.mono HB.out.size))
            clear hP hb2
            go_wp2
            go_ret2
            exact ⟨by rw [HV.out, HA.out]; rfl, HB2.out⟩

/-- How the reference reads a number of at most so many digits. -/
def NumP (s : ByteArray) (most n : Int) (ok : Bool) : Prop :=
  (ok = true → Lib.itoa n = s.data.toList ∧ okI n ∧ ((Lib.trimPrefix s.data.toList [45]).length : Int) ≤ most) ∧ (ok = false → ∀ m, okI m → Lib.itoa m = s.data.toList → ¬ ((Lib.trimPrefix s.data.toList [45]).length : Int) ≤ most)
def NumR (s : ByteArray) (most : Int) (w : World) (e : Ending) (w' : World) : Prop := ∃ n ok, NumP s most n ok ∧ e = .returned (.tuple #[.int .i64 n, .bool ok]) ∧ Below w.heap.size w w'
theorem mk_size (l : List UInt8) : (⟨l.toArray⟩ : ByteArray).size = l.length := rfl
theorem trimPrefix_len (l p : List UInt8) : (Lib.trimPrefix l p).length ≤ l.length := by
  unfold Lib.trimPrefix; split
  · simp
  · exact Nat.le_refl _
theorem itoa_ok {s : ByteArray} {n m : Int} (h : Lib.atoiAll s.data.toList = .ok n) (hm : okI m) (e : Lib.itoa m = s.data.toList) : n = m := by
  rw [← e, atoi_itoa m hm] at h
  injection h with h; exact h.symm
set_option maxHeartbeats 800000 in
theorem number_c (s : ByteArray) (most : Int) (w : World) (hs : s.size ≤ 140737488355328) (h0 : 0 ≤ most) (h1 : most ≤ 1000) (hl : ErrsLaid w) (hp : PowLaid w) :
    Calls Tryz.prog 182 #[.string s, .int .i64 most] w (NumR s most w) := by
  have HP := Lib.hid hp; clear hp
  have HL := Lib.hid hl; clear hl
  go_enter Tryz.func182, Tryz.ntmps182
  go_wp2_with fail
  refine (atoi_c s _ hs HL.out).mono ?_
  rintro e w1 ⟨n, ev, hP, rfl, hb1⟩
  have HB1 := Lib.hid hb1; clear hb1
  rcases hP with ⟨ha, rfl⟩ | ⟨ha, t, N, rfl⟩
  · have hn := atoi_bd ha
    have HA := Lib.hid ha; clear ha
    go_wp2_with fail
    refine (itoa_c n _ hn (pow_below HP.out HB1.out (Nat.le_refl _))).mono ?_
    rintro e w2 ⟨rfl, hb2⟩
    have HB2 := Lib.hid (HB1.out.trans (hb2.mono HB1.out.size)); clear hb2
    by_cases he : Lib.itoa n = s.data.toList
    · have e1 : ((⟨(Lib.itoa n).toArray⟩ : ByteArray).toList == s.toList) = true := by rw [beqS, decide_eq_true_iff]; exact ba_ext (by simpa using he)
      have HE := Lib.hid he; clear he
      have hsz : ((Lib.trimPrefix s.data.toList [45]).length : Int) ≤ s.size := by
        have h2 := trimPrefix_len s.data.toList [45]
        have h3 : s.data.toList.length = s.size := by simp
        omega
      generalize (⟨(Lib.itoa n).toArray⟩ : ByteArray) = T1 at e1 ⊢
      go_wp2_with fail
      refine (Tryz.strings_TrimPrefix s ⟨#[45]⟩ _).mono ?_
      rintro e w' ⟨rfl, rfl⟩
      generalize hT : (⟨(Lib.trimPrefix s.data.toList (ByteArray.mk #[45]).data.toList).toArray⟩ : ByteArray) = T
      have hTl : ((Lib.trimPrefix s.data.toList [45]).length : Int) = (T.size : Int) := by rw [← hT, mk_size]
      have hTb : T.size ≤ 140737488355328 := by omega
      clear hT
      by_cases hm : (T.size : Int) ≤ most
      · have HV := Lib.hid (show NumP s most n true from ⟨fun _ => ⟨HE.out, hn, by omega⟩, fun h => by cases h⟩)
        have hd : decide ((T.size : Int) ≤ most) = true := decide_eq_true hm
        clear hTl hsz
        go_wp2
        go_ret2
        exact ⟨n, true, HV.out, rfl, HB2.out⟩
      · have HV := Lib.hid (show NumP s most n false from ⟨(fun h => by cases h), fun _ m hm' e => by omega⟩)
        have hd : decide ((T.size : Int) ≤ most) = false := decide_eq_false hm
        clear hTl hsz
        go_wp2
        go_ret2
        exact ⟨n, false, HV.out, rfl, HB2.out⟩
    · have e1 : ((⟨(Lib.itoa n).toArray⟩ : ByteArray).toList == s.toList) = false := by
        rw [beqS, decide_eq_false_iff_not]; intro h; exact he (congrArg (fun x : ByteArray => x.data.toList) h)
      have HV := Lib.hid (show NumP s most n false from ⟨(fun h => by cases h), fun _ m hm e => absurd (by rw [itoa_ok HA.out hm e]; exact e) he⟩)
      clear he
      generalize (⟨(Lib.itoa n).toArray⟩ : ByteArray) = T1 at e1 ⊢
      go_wp2
      go_ret2
      exact ⟨n, false, HV.out, rfl, HB2.out⟩
  · have HV := Lib.hid (show NumP s most n false from ⟨(fun h => by cases h), fun _ m hm e => absurd (by rw [← e]; exact atoi_itoa m hm) (ha m)⟩)
    clear ha
    go_wp2
    go_ret2
    exact ⟨n, false, HV.out, rfl, HB1.out⟩
end Go.Proofs.YtihkkaeoijheoaaGreatDoor

/- The generator's changed texts and frames. -/
namespace Go.Proofs.YtihkkaeoijheoaaGreatDoor
set_option linter.unusedVariables false
open Go.RowKit Go.Sort

theorem enc_size {n : Nat} (h : n < 256) : (Utf8.encode (n : Int)).size ≤ 4 := by
  have : ((List.range 256).all fun n => decide ((Utf8.encode (n : Int)).size ≤ 4)) = true := by decide +kernel
  rw [List.all_eq_true] at this
  simpa using this n (List.mem_range.2 h)
set_option maxHeartbeats 1000000 in
theorem Changed_c (sb : Nat) (k : Int) (t u : ByteArray) (w : World) (hs : Str w sb k) (hk : k ≤ 4000000000000000000) (ht : t.size ≤ 1000000000) (hu : u.size ≤ 1000000000) :
    Calls Tryz.prog 61 #[.pointer (some ⟨sb, 0, none⟩), .string t, .string u] w (Took sb k 3 (isStr (fun x => x.size ≤ t.size + u.size + 8)) w) := by
  have h0 := hs.nonneg
  have S0 := Lib.hid hs; clear hs
  cases he : t.toList.isEmpty with
  | true =>
    go_enter Tryz.func61, Tryz.ntmps61
    go_wp2
    go_ret
    exact ⟨_, k, rfl, ⟨u, by omega, rfl⟩, by omega, S0.out, gRefl _ _⟩
  | false =>
    have hts : 0 < t.size := by
      rw [ByteArray.toList_eq] at he
      cases hd : t.data.toList with
      | nil => rw [hd] at he; cases he
      | cons y l => show 0 < t.data.size; rw [← Array.length_toList, hd]; simp
    cases he2 : u.toList.isEmpty with
    | true =>
      go_enter Tryz.func61, Tryz.ntmps61
      go_wp2
      go_ret
      exact ⟨_, k, rfl, ⟨u, by omega, rfl⟩, by omega, S0.out, gRefl _ _⟩
    | false =>
      have hus : 0 < u.size := by
        rw [ByteArray.toList_eq] at he2
        cases hd : u.data.toList with
        | nil => rw [hd] at he2; cases he2
        | cons y l => show 0 < u.data.size; rw [← Array.length_toList, hd]; simp
      go_enter Tryz.func61, Tryz.ntmps61
      go_wp2_with fail
      refine (next_c sb k t.size _ S0.out (by omega) (by omega) (by omega)).mono ?_
      rintro e w1 ⟨v1, k1, rfl, ⟨x1, hx10, hx11, rfl⟩, hk1, hs1, hg1⟩
      have S1 := Lib.hid hs1; have G1 := Lib.hid hg1; clear hs1 hg1
      obtain ⟨i, rfl⟩ := Int.eq_ofNat_of_zero_le hx10
      go_wp2_with fail
      refine (next_c sb k1 u.size _ S1.out (by omega) (by omega) (by omega)).mono ?_
      rintro e w2 ⟨v2, k2, rfl, ⟨x2, hx20, hx21, rfl⟩, hk2, hs2, hg2⟩
      have S2 := Lib.hid hs2; have G2 := Lib.hid (gTrans G1.out hg2); clear hs2 hg2
      obtain ⟨j, rfl⟩ := Int.eq_ofNat_of_zero_le hx20
      have hi : i < t.size := by omega
      have hj : j < u.size := by omega
      clear hx10 hx11 hx20 hx21
      go_wp2_with fail
      refine (next_c sb k2 3 _ S2.out (by omega) (by omega) (by omega)).mono ?_
      rintro e w3 ⟨v3, k3, rfl, ⟨x3, hx30, hx31, rfl⟩, hk3, hs3, hg3⟩
      have S3 := Lib.hid hs3; have G3 := Lib.hid (gTrans G2.out hg3); clear hs3 hg3
      have q1 : IntKind.i64.wrap ((i : Int) + 1) = (i : Int) + 1 := IntWalk.i64_in _ (by omega)
      have hi1 : (i : Int) + 1 ≤ (t.size : Int) := by omega
      have hn1 : ((i : Int) + 1).toNat = i + 1 := by omega
      have hle : i + 1 ≤ t.size := by omega
      have hle0 : i ≤ t.size := by omega
      have hu8 : u[j].toNat < 256 := u[j].toNat_lt
      generalize u[j].toNat = n8 at hu8 ⊢
      have hz := enc_size hu8
      generalize hE : Utf8.encode (n8 : Int) = E at hz
      have HE := Lib.hid hE
      have hcv : ∀ W, (convert 21 9 (.int .i32 (n8 : Int))).run Tryz.prog W = .ok (.string E) W := fun W => by
        rw [run_convert_int_string W _ _ _ _ (by kernel_rfl) Tryz.underlying9, hE]
      clear hE
      rcases (show x3 = 0 ∨ x3 = 1 ∨ x3 = 2 by omega) with rfl | rfl | rfl
      · go_wp2
        go_quiet (fail)
        go_wp2
        go_ret
        refine ⟨_, k3, rfl, ⟨_, ?_, rfl⟩, by omega, S3.out.drewN _, grown_drewN G3.out _⟩
        show _ ≤ _
        simp; omega
      · go_wp2
        go_quiet (fail)
        go_wp2
        go_ret
        refine ⟨_, k3, rfl, ⟨_, ?_, rfl⟩, by omega, S3.out.drewN _, grown_drewN G3.out _⟩
        show _ ≤ _
        simp; omega
      · go_wp2
        go_quiet (fail)
        go_wp2
        go_ret
        refine ⟨_, k3, rfl, ⟨_, ?_, rfl⟩, by omega, S3.out.drewN _, grown_drewN G3.out _⟩
        show _ ≤ _
        simp; omega
end Go.Proofs.YtihkkaeoijheoaaGreatDoor

/- The generator's numbers of scenes and setups. -/
namespace Go.Proofs.YtihkkaeoijheoaaGreatDoor
set_option linter.unusedVariables false
open Go.RowKit Go.Sort

theorem oneOf {l : List ByteArray} {x : ByteArray} {n : Nat} (h : (l.all fun x => decide (x.size ≤ n)) = true) (hx : x ∈ l) : x.size ≤ n := by
  rw [List.all_eq_true] at h; simpa using h x hx
set_option maxHeartbeats 800000 in
theorem No_c (sb : Nat) (k : Int) (w : World) (hs : Str w sb k) (hk : k ≤ 4000000000000000000) :
    Calls Tryz.prog 90 #[.pointer (some ⟨sb, 0, none⟩)] w (Took sb k 1 (isStr (fun x => x.size ≤ 100)) w) := by
  have S0 := Lib.hid hs; clear hs
  go_enter Tryz.func90, Tryz.ntmps90
  go_wp2_with fail
  refine (oneL w [⟨#[]⟩, ⟨#[49]⟩, ⟨#[50]⟩, ⟨#[57]⟩, ⟨#[49, 50]⟩, ⟨#[49, 50, 66]⟩, ⟨#[49, 50, 65, 66]⟩, ⟨#[49, 50, 66, 66]⟩, ⟨#[49, 50, 90, 90, 90, 90, 90]⟩, ⟨#[49, 51]⟩, ⟨#[48, 66]⟩, ⟨#[48, 65, 66]⟩, ⟨#[48, 65, 65, 65, 65, 66]⟩, ⟨#[57, 57, 57]⟩, ⟨#[57, 57, 57, 66]⟩, ⟨#[57, 57, 57, 90, 90, 90, 90, 90]⟩, ⟨#[57, 57, 56, 90, 90, 90, 90, 90]⟩, ⟨#[49, 65]⟩, ⟨#[48]⟩, ⟨#[48, 49]⟩, ⟨#[49, 98]⟩, ⟨#[49, 48, 48, 48]⟩] _ _ _ _ rfl rfl (by decide) (by decide) S0.out (by omega)).mono ?_
  rintro e w1 ⟨v1, k1, rfl, ⟨x1, hx1, rfl⟩, hk1, hs1, hg1⟩
  have b1 : x1.size ≤ 100 := oneOf (by decide +kernel) hx1
  have S1 := Lib.hid hs1; have G1 := Lib.hid (gTrans (gAlloc (gRefl w sb) _) hg1); clear hs1 hg1 hx1
  go_wp2
  go_ret
  exact ⟨_, k1, rfl, ⟨x1, b1, rfl⟩, hk1, S1.out, G1.out⟩
end Go.Proofs.YtihkkaeoijheoaaGreatDoor

/- Digests: the program's and the reference's. -/
namespace Go.Proofs.YtihkkaeoijheoaaGreatDoor
set_option linter.unusedVariables false
open Go.RowKit Go.Sort

theorem step_eq {h : Nat} (c : UInt8) (hh : h < 18446744073709551616) : IntKind.u64.wrap (bits BinOp.xor IntKind.u64 (h : Int) (c.toNat : Int) * 1099511628211) = ((hashStep h c : Nat) : Int) := by
  have hc := c.toNat_lt
  rw [bits_xor_u64_nat h c.toNat hh (by omega), IntKind.wrap_u64]
  unfold hashStep
  generalize h ^^^ c.toNat = x
  omega
theorem ret_u64 {a b : Int} (h : a = b) : Value.int .u64 a = .int .u64 b := by rw [h]

/-- The one cell of the library's table that a base of sixteen reads. -/
def TzLaid (w : World) : Prop := w.cell? ⟨9, 15, none⟩ = some (.int .u8 4) ∧ 9 < w.heap.size
theorem tz_below {w w' : World} {B : Nat} (h : TzLaid w) (hb : Below B w w') (hB : w.heap.size ≤ B) : TzLaid w' :=
  ⟨(hb.cell (Nat.lt_of_lt_of_le h.2 hB)).trans h.1, Nat.lt_of_lt_of_le h.2 hb.size⟩

set_option maxHeartbeats 800000 in
theorem tz16_c (w : World) (h : TzLaid w) : Calls Tryz.prog 285 #[.int .u64 16] w fun e w' => e = .returned (.int .i64 4) ∧ w = w' := by
  obtain ⟨h1, h2⟩ := h
  have e1 : bits BinOp.and IntKind.u64 16 (IntKind.u64.wrap (-16)) = 16 := by decide +kernel
  have e2 : IntKind.u64.wrap 4573926000821661840 = 4573926000821661840 := by decide +kernel
  have e3 : IntKind.u64.wrap (16 * 285870213051353865) / 288230376151711744 = 15 := by decide +kernel
  have e4 : IntKind.u64.wrap 4573923408821661840 / 288230376151711744 = 15 := by decide +kernel
  clear e2
  go_enter Tryz.func285, Tryz.ntmps285
  go_wp2
  go_ret
  exact ⟨rfl, rfl⟩

def digs : ByteArray := ⟨#[48, 49, 50, 51, 52, 53, 54, 55, 56, 57, 97, 98, 99, 100, 101, 102, 103, 104, 105, 106, 107, 108, 109, 110, 111, 112, 113, 114, 115, 116, 117, 118, 119, 120, 121, 122]⟩
theorem dig_tab : ∀ v : Fin 16, ((ByteArray.mk #[48, 49, 50, 51, 52, 53, 54, 55, 56, 57, 97, 98, 99, 100, 101, 102, 103, 104, 105, 106, 107, 108, 109, 110, 111, 112, 113, 114, 115, 116, 117, 118, 119, 120, 121, 122])[v.val]'(by have := v.isLt; show v.val < 36; omega)).toNat = (hexd v.val).toNat := by decide +kernel
theorem dig_run {P : Program} {T : TypeId} (hT : P.underlying T = some .string) (u : Nat) (hu : u < 16) (W : World) : (Instr.index T (.string ⟨#[48, 49, 50, 51, 52, 53, 54, 55, 56, 57, 97, 98, 99, 100, 101, 102, 103, 104, 105, 106, 107, 108, 109, 110, 111, 112, 113, 114, 115, 116, 117, 118, 119, 120, 121, 122]⟩) (.int .u64 (u : Int))).run P W = .ok (.int .u8 ((hexd u).toNat : Int)) W := by
  rw [run_index_string W T _ _ _ hT, dif_pos ⟨by omega, by show (u : Int) < 36; omega⟩]
  have h2 := dig_tab ⟨u, hu⟩
  simp only [Int.toNat_natCast]
  rw [h2]
/-- 'string(b)' of bytes that lie in a block. -/
theorem run_bytes_at {P : Program} (w : World) (src dst e : TypeId) (hs : P.underlying src = some (.slice e)) (he : P.underlying e = some (.int .u8)) (hd : P.underlying dst = some .string) (B i n c : Nat) (l : List UInt8) (hn : n = l.length) (hc : ∀ (j : Nat) (x : UInt8), l[j]? = some x → w.cell? ⟨B, i + j, none⟩ = some (.int .u8 (x.toNat : Int))) :
    (convert src dst (.slice (some ⟨B, i, none⟩) n c)).run P w = .ok (.string ⟨l.toArray⟩) w := by
  subst hn
  rw [run_convert_bytes_string _ src dst e _ _ _ hs he hd]
  have hl := run_loadCells_list (P := P) w ⟨B, i, none⟩ (l.map fun x => Value.int .u8 (x.toNat : Int)) (fun j v hj => by
    have : (⟨B, i, none⟩ : Addr).add j = ⟨B, i + j, none⟩ := by unfold Addr.add; split <;> simp_all
    rw [this]
    rw [List.getElem?_map] at hj
    cases hx : l[j]? with
    | none => rw [hx] at hj; cases hj
    | some x => rw [hx] at hj; simp at hj; rw [← hj]; exact hc j x hx)
  have hm : (l.map fun x => Value.int .u8 (x.toNat : Int)) = ((l.map fun x => (x.toNat : Int)).map (Value.int .u8)) := by simp
  rw [hm] at hl
  simp only [List.length_map] at hl
  rw [run_bytesToString _ _ _ c (l.map fun x => (x.toNat : Int)) hl]
  have hf : ∀ (l : List UInt8) (s : ByteArray), (l.map fun x => (x.toNat : Int)).foldl (fun r x => r.push (UInt8.ofNat x.toNat)) s = ⟨s.data ++ l.toArray⟩ := by
    intro l
    induction l with
    | nil => intro s; simp
    | cons x l ih => intro s; simp only [List.map_cons, List.foldl_cons]; rw [ih]; simp [ByteArray.push]
  rw [hf]
  have he0 : ByteArray.empty.data = #[] := rfl
  rw [he0]
  simp
theorem ba_ext' {a b : ByteArray} (h : a.data.toList = b.data.toList) : a = b := by
  rcases a with ⟨⟨a⟩⟩; rcases b with ⟨⟨b⟩⟩; simp at h; rw [h]
theorem setBlk' {w : World} {B i : Nat} {cs : Array Value} {t : TypeId} (v : Value) (h : w.heap[B]? = some (.cells cs t (0, 0))) : (w.setCell ⟨B, i, none⟩ v).heap[B]? = some (.cells (cs.setIfInBounds i v) t (0, 0)) := by
  simp [World.setCell, Array.getElem?_modify, h]
theorem drop_set_eq {l : List UInt8} {q : Nat} (hq : q < l.length) {c : UInt8} : (l.set q c).drop q = c :: l.drop (q + 1) := by
  rw [List.drop_eq_getElem_cons (by simpa using hq)]
  simp [List.drop_set_of_lt]
/-- The bytes of a block of 65, from one on. -/
def Blk65 (w : World) (B : Nat) (i : Nat) (l : List UInt8) : Prop := ∃ (cs : List UInt8) (T : TypeId), cs.length = 65 ∧ w.heap[B]? = some (.cells (cs.map fun c => Value.int .u8 (c.toNat : Int)).toArray T (0, 0)) ∧ cs.drop i = l
set_option maxRecDepth 100000 in
set_option maxHeartbeats 1600000 in
theorem formatBits_c (h : Nat) (w : World) (hh : h < 18446744073709551616) (ht : TzLaid w) :
    Calls Tryz.prog 266 #[.slice none 0 0, .int .u64 (h : Int), .int .i64 16, .bool false, .bool false] w fun e w' => e = .returned (.tuple #[.slice none 0 0, .string ⟨(hexL h).toArray⟩]) ∧ Below w.heap.size w w' := by
  have HT := Lib.hid ht; clear ht
  have e0 : bits BinOp.and IntKind.i64 16 15 = 0 := by decide +kernel
  go_enter Tryz.func266, Tryz.ntmps266
  go_wp2_with (first | (go_at_call 285; refine (tz16_c _ (tz_below HT.out ((Below.refl _ _).alloc (Nat.le_refl _) _) (Nat.le_refl _))).mono ?_; rintro e w' ⟨rfl, rfl⟩) | go_in)
  go_loopw [1, 13] (fun s1 s13 wr => ∃ (p j u : Nat) (l : List UInt8), p + j = 65 ∧ j ≤ 15 ∧ u < 18446744073709551616 ∧ s1 = .int .u64 (u : Int) ∧ s13 = .int .i64 (p : Int) ∧ Below w.heap.size w wr ∧ w.heap.size < wr.heap.size ∧ Hid (u < 16 ^ (16 - j)) ∧ Hid (Blk65 wr w.heap.size p l) ∧ Hid (hexL h = hexL u ++ l)) (fun s1 _ _ => (intOf s1).toNat)
  case atStart => exact ⟨65, 0, h, [], rfl, by omega, hh, rfl, rfl, (Below.refl _ _).alloc (Nat.le_refl _) _, by simp, (by show h < 16 ^ 16; simpa using hh), ⟨List.replicate 65 0, _, by simp, heap_alloc_new w _, by simp⟩, by unfold Hid; simp⟩
  case round =>
    obtain ⟨p, j, u, l, hp, hj, hu, rfl, rfl, hb, hz, HU, HB, HX⟩ := hrel
    obtain ⟨q, rfl⟩ : ∃ q, p = q + 1 := ⟨p - 1, by omega⟩
    obtain ⟨d, hd⟩ : ∃ d, u % 16 = d := ⟨_, rfl⟩
    have hd16 : d < 16 := by omega
    by_cases hlt : 16 ≤ u
    · have ha : bits BinOp.and IntKind.u64 (u : Int) 15 = (d : Int) := by
        rw [show (15 : Int) = ((15 : Nat) : Int) from rfl, bits_and_u64_nat u 15 hu (by omega), show u &&& 15 = u % 16 from Nat.and_two_pow_sub_one_eq_mod u 4, hd]
      have hdr := fun W => dig_run (P := Tryz.prog) (T := 9) Tryz.underlying9 d hd16 W
      have hj14 : j ≤ 14 := by
        have := HU.out
        by_cases hc : j ≤ 14
        · exact hc
        · have e : j = 15 := by omega
          rw [e] at this; simp at this; omega
      have HU2 := Lib.hid (show u / 16 < 16 ^ (16 - (j + 1)) by
        have := HU.out
        rw [show 16 - j = (16 - (j + 1)) + 1 by omega, Nat.pow_succ] at this
        omega)
      have HX2 := Lib.hid (show hexL h = hexL (u / 16) ++ (hexd d :: l) by rw [HX.out, hexL_ge (by omega), hd]; simp)
      obtain ⟨cs, T, hl65, hblk, hdrop⟩ := HB.out
      obtain ⟨hc, hf⟩ := str_cells hblk
      have hq : q < cs.length := by omega
      have c0 : wr.cell? ⟨w.heap.size, q, none⟩ = some (.int .u8 (cs[q].toNat : Int)) := by rw [hc]; simp [hq]
      have f0 := hf q
      have HBK := Lib.hid hblk
      have HD := Lib.hid hdrop
      clear hc hf hblk hdrop hd
      go_wp2
      go_roundw
      case rel => exact ⟨q, j + 1, u / 16, hexd d :: l, by omega, by omega, by omega, ret_u64 (by omega), rfl, hb.setCell (Nat.le_refl _) _, by show _ < (World.setCell _ _ _).heap.size; simpa [World.setCell] using hz, HU2.out,
        ⟨cs.set q (hexd d), T, by simpa using hl65, by rw [setBlk' _ HBK.out]; simp [List.map_set], by rw [drop_set_eq hq]; rw [HD.out]⟩, HX2.out⟩
      case measure => simp [intOf]; omega
    · have hdr := fun W => dig_run (P := Tryz.prog) (T := 9) Tryz.underlying9 u (by omega) W
      have HX2 := Lib.hid (show hexL h = hexd u :: l by rw [HX.out, hexL_lt (by omega)]; rfl)
      obtain ⟨cs, T, hl65, hblk, hdrop⟩ := HB.out
      obtain ⟨hc, hf⟩ := str_cells hblk
      have hq : q < cs.length := by omega
      have c0 : wr.cell? ⟨w.heap.size, q, none⟩ = some (.int .u8 (cs[q].toNat : Int)) := by rw [hc]; simp [hq]
      have f0 := hf q
      have HBK := Lib.hid hblk
      have HD := Lib.hid hdrop
      clear hc hf hblk hdrop hd
      have hcv := run_bytes_at (P := Tryz.prog) (wr.setCell ⟨w.heap.size, q, none⟩ (.int .u8 ((hexd u).toNat : Int))) 133 9 5 Tryz.underlying133 Tryz.underlying5 Tryz.underlying9 w.heap.size q (65 - q) (65 - q) (hexd u :: l) (by rw [← HD.out]; simp; omega) (fun j x hj => by
        have hb2 := setBlk' (w := wr) (i := q) (.int .u8 ((hexd u).toNat : Int)) HBK.out
        rw [(str_cells hb2).1]
        rw [← HD.out, ← drop_set_eq hq, List.getElem?_drop] at hj
        rw [List.setIfInBounds_toArray, List.getElem?_toArray, show Value.int .u8 ((hexd u).toNat : Int) = (fun c : UInt8 => Value.int .u8 (c.toNat : Int)) (hexd u) from rfl, ← List.map_set, List.getElem?_map, hj]
        rfl)
      have p1 : (q : Int) ≤ 65 := by omega
      have p2 : (0 : Int) ≤ (q : Int) := by omega
      have p3 : ¬ 65 = q := by omega
      have p4 : q ≤ 65 := by omega
      go_wp2
      go_ret2
      exact ⟨by rw [HX2.out]; rfl, hb.setCell (Nat.le_refl _) _⟩

theorem rep48 (k : Nat) : (⟨(Lib.repeatL (ByteArray.mk #[48]).data.toList k).toArray⟩ : ByteArray) = ⟨(List.replicate k 48).toArray⟩ := by
  have : ∀ k, Lib.repeatL [48] k = List.replicate k (48 : UInt8) := by
    intro k
    induction k with
    | zero => rfl
    | succ k ih => rw [Lib.repeatL, ih]; rfl
  rw [show (ByteArray.mk #[48]).data.toList = [48] from rfl, this]
end Go.Proofs.YtihkkaeoijheoaaGreatDoor

/- The program's names of files, and copies checked. -/
namespace Go.Proofs.YtihkkaeoijheoaaGreatDoor
set_option linter.unusedVariables false
open Go.RowKit

theorem idx_set (set : List UInt8) (c : UInt8) : (set.contains c = true → 0 ≤ Lib.indexByte set c) ∧ (set.contains c = false → Lib.indexByte set c < 0) := by
  have hg := Lib.indexByte_ge set c
  constructor
  · intro h
    by_cases h1 : Lib.indexByte set c = -1
    · have hm : c ∈ set := by simpa using h
      obtain ⟨k, hk, e⟩ := List.mem_iff_getElem.1 hm
      exact absurd (by rw [List.getElem?_eq_getElem hk, e]) (Lib.indexByte_none h1 k)
    · omega
  · intro h
    by_cases h1 : 0 ≤ Lib.indexByte set c
    · obtain ⟨o, ho⟩ := Int.eq_ofNat_of_zero_le h1
      obtain ⟨h2, _⟩ := Lib.indexByte_some ho
      have : c ∈ set := List.mem_of_getElem? h2
      simp at h; exact absurd this h
    · omega
/-- strings.IndexByte: below 0 just where the byte is none of the set. -/
theorem idxB_c (set : ByteArray) (c : UInt8) (w : World) : Calls Tryz.prog 209 #[.string set, .int .u8 (c.toNat : Int)] w fun e w' => e = .returned (.int .i64 (Lib.indexByte set.data.toList c)) ∧ w = w' := by
  refine (Tryz.strings_IndexByte set (c.toNat : Int) w).mono ?_
  rintro e w' ⟨he, hw⟩
  refine ⟨?_, hw.symm⟩
  rw [he]
  have : ((c.toNat : Int)).toNat.toUInt8 = c := by simp
  rw [this]

/-- A map of names that have come. -/
def seenN (pre : List ByteArray) (m : List (ByteArray × Value)) : Prop := ∀ x, lk m x = if (pre.any fun y => decide (y = x)) = true then some (.bool true) else none
theorem seenN_nil : seenN [] [] := fun x => rfl
theorem seenN_snoc {pre : List ByteArray} {m : List (ByteArray × Value)} (h : seenN pre m) (s : ByteArray) : seenN (pre ++ [s]) (up m s (.bool true)) := by
  intro x
  rw [lk_up, h x]
  by_cases hx : x = s
  · subst hx; simp
  · have h2 : (pre ++ [s]).any (fun y => decide (y = x)) = pre.any (fun y => decide (y = x)) := by
      rw [List.any_append, List.any_cons, List.any_nil, decide_eq_false (fun e => hx e.symm)]; simp
    rw [if_neg hx, h2]
theorem keyS' : PlainKey Tryz.prog 9 Value.string := plainKey_string Tryz.underlying9
theorem zeroB' (w : World) : (zeroValue 4).run Tryz.prog w = .ok (.bool false) w := by kernel_rfl

def FileF (pre : List ByteArray) (s : ByteArray) (mb : Nat) (w : World) (e : Ending) (w' : World) : Prop :=
  e = .returned (.int .i64 (nameF pre s)) ∧ w.grownBy w' (some mb) ∧ (nameF pre s = 0 → ∃ m', MapL w' mb Value.string m' ∧ seenN (pre ++ [s]) m')
theorem hexC_eq (s : ByteArray) : allB (([48, 49, 50, 51, 52, 53, 54, 55, 56, 57, 97, 98, 99, 100, 101, 102] : List UInt8).contains ·) s = allB hexC s := allB_congr (by decide +kernel) s
def TrimX (s : ByteArray) (w : World) (e : Ending) (w' : World) : Prop := ∃ t : ByteArray, e = .returned (.string t) ∧ (allB hexC s = true → t = ⟨#[]⟩) ∧ (allB hexC s = false → t.toList.isEmpty = false) ∧ Below w.heap.size w w'
theorem trimX_c (s : ByteArray) (w : World) (hs : s.size ≤ 140737488355328) : Calls Tryz.prog 128 #[.string s, .string ⟨#[48, 49, 50, 51, 52, 53, 54, 55, 56, 57, 97, 98, 99, 100, 101, 102]⟩] w (TrimX s w) := by
  refine (trim_c s _ w hs (by decide) (by decide)).mono ?_
  rintro e w' ⟨he, hb⟩
  refine ⟨_, he, fun h => ?_, fun h => ?_, hb⟩
  · rw [← hexC_eq] at h
    rw [(trimS_nil _ _).2 h]
  · rw [toList_mk]
    rw [← hexC_eq] at h
    cases hd : Lib.trimS s.data.toList (ByteArray.mk #[48, 49, 50, 51, 52, 53, 54, 55, 56, 57, 97, 98, 99, 100, 101, 102]).data.toList with
    | nil => have := (trimS_nil _ _).1 hd; rw [show s.data.toList.all _ = allB _ s from rfl] at this; rw [this] at h; cases h
    | cons y t => rfl
end Go.Proofs.YtihkkaeoijheoaaGreatDoor

/- Lists of copies checked, and manifests made. -/
namespace Go.Proofs.YtihkkaeoijheoaaGreatDoor
set_option linter.unusedVariables false
open Go.RowKit

def CopySz (l : List Copied) : Prop := ∀ x ∈ l, x.name.size ≤ 140737488355328 ∧ x.sum.size ≤ 140737488355328
end Go.Proofs.YtihkkaeoijheoaaGreatDoor

/- Slices compared and looked through; the reference's names of files. -/
namespace Go.Proofs.YtihkkaeoijheoaaGreatDoor
set_option linter.unusedVariables false
open Go.RowKit

theorem strAt {w : World} {F : Nat → Prop} {l : List ByteArray} {A : Option Addr} {n c : Nat} (h : Sli strR w F l (.slice A n c)) (k : Nat) (hk : k < l.length) : ∃ b off, A = some ⟨b, off, none⟩ ∧ F b ∧ w.cell? ⟨b, off + k, none⟩ = some (.string l[k]) := by
  obtain ⟨b, off, a, e, hb, hr, hc⟩ := h.at_ k hk
  have ha : a = [.string l[k]] := hr
  subst ha
  refine ⟨b, off, e, hb, ?_⟩
  have h := hc 0 _ rfl
  rw [show off + k * strR.n + 0 = off + k from by show off + k * 1 + 0 = _; omega] at h
  exact h
theorem copAt {w : World} {F : Nat → Prop} {l : List Copied} {A : Option Addr} {n c : Nat} (h : Sli copR w F l (.slice A n c)) (k : Nat) (hk : k < l.length) : ∃ b off, A = some ⟨b, off, none⟩ ∧ F b ∧ w.cell? ⟨b, off + k * 3, none⟩ = some (.string l[k].name) ∧ w.cell? ⟨b, off + k * 3 + 1, none⟩ = some (.int .i64 l[k].size) ∧ w.cell? ⟨b, off + k * 3 + 2, none⟩ = some (.string l[k].sum) := by
  obtain ⟨b, off, a, e, hb, hr, hc⟩ := h.at_ k hk
  have ha : a = (l[k]).cells := hr
  subst ha
  exact ⟨b, off, e, hb, hc 0 _ rfl, hc 1 _ rfl, hc 2 _ rfl⟩

theorem eq_take_next {α : Type} {a b : List α} {k : Nat} (h1 : k < a.length) (h2 : k < b.length) (h : a.take k = b.take k) (e : a[k] = b[k]) : a.take (k + 1) = b.take (k + 1) := by
  rw [List.take_succ_eq_append_getElem h1, List.take_succ_eq_append_getElem h2, h, e]
theorem ne_at {α : Type} {a b : List α} {k : Nat} (h1 : k < a.length) (h2 : k < b.length) (e : ¬ a[k] = b[k]) : ¬ a = b := by
  intro h; subst h; exact e rfl

set_option maxRecDepth 100000 in
set_option maxHeartbeats 800000 in
theorem eqStr_c (l1 l2 : List ByteArray) (v1 v2 : Value) (F : Nat → Prop) (w : World) (h1 : Sli strR w F l1 v1) (h2 : Sli strR w F l2 v2) (hF : ∀ b, F b → b < w.heap.size) :
    Calls Tryz.prog 39 #[v1, v2] w fun e w' => e = .returned (.bool (decide (l1 = l2))) ∧ Below w.heap.size w w' := by
  obtain ⟨A1, c1, rfl, hlc1, hc1⟩ := h1.form
  obtain ⟨A2, c2, rfl, hlc2, hc2⟩ := h2.form
  have H1 := Lib.hid h1; clear h1
  have H2 := Lib.hid h2; clear h2
  have HF := Lib.hid hF; clear hF
  by_cases hne : l1.length = l2.length
  · obtain ⟨n, hn1⟩ : ∃ n, l1.length = n := ⟨_, rfl⟩
    have hn2 : l2.length = n := by omega
    rw [hn1] at H1 hlc1 ⊢
    rw [hn2] at H2 ⊢
    go_enter Tryz.func39, Tryz.ntmps39
    go_wp2
    go_loopw [13] (fun i wr => ∃ k : Nat, k ≤ n ∧ i = .int .i64 k ∧ Below w.heap.size w wr ∧ Hid (l1.take k = l2.take k)) (fun i _ => n - (intOf i).toNat)
    case atStart => exact ⟨0, Nat.zero_le _, rfl, Below.refl _ _, rfl⟩
    case round =>
      obtain ⟨k, hk, rfl, hb, HT⟩ := hrel
      by_cases hlt : k < n
      · obtain ⟨b, off, rfl, hfb, c0⟩ := strAt (H1.out.below hb HF.out) k (by omega)
        obtain ⟨b2, off2, rfl, hfb2, d0⟩ := strAt (H2.out.below hb HF.out) k (by omega)
        by_cases he : l1[k]'(by omega) = l2[k]'(by omega)
        · have HN := Lib.hid (eq_take_next (by omega) (by omega) HT.out he)
          rw [he] at c0
          clear he
          generalize l2[k]'(by omega) = x at *
          go_wp2
          go_quiet (fail)
          go_wp2
          go_roundw
          case rel => exact ⟨k + 1, by omega, intNum, by first | exact hb | exact hb.drew | exact below_drewN hb _, HN.out⟩
          case measure => simp [intOf]; omega
        · have HN := Lib.hid (ne_at (by omega) (by omega) he)
          generalize l1[k]'(by omega) = x at *
          generalize l2[k]'(by omega) = y at *
          have hq : (x.toList == y.toList) = false := by rw [beqS]; simpa using he
          go_wp2
          go_quiet (fail)
          go_wp2
          go_ret
          exact ⟨ret_bool (by symm; simpa using HN.out), by first | exact hb | exact hb.drew | exact below_drewN hb _⟩
      · have e : k = n := by omega
        have HN := Lib.hid (show l1 = l2 by have := HT.out; rwa [List.take_of_length_le (by omega), List.take_of_length_le (by omega)] at this)
        go_wp2
        go_ret
        exact ⟨ret_bool (by symm; simpa using HN.out), hb⟩
  · have HN := Lib.hid (show ¬ l1 = l2 by intro h; exact hne (by rw [h]))
    have hz : ¬ (l1.length : Int) = l2.length := by omega
    go_enter Tryz.func39, Tryz.ntmps39
    go_wp2
    go_ret
    exact ⟨ret_bool (by symm; simpa using HN.out), Below.refl _ _⟩

instance : DecidableEq Copied := fun a b => decidable_of_iff (a.eqB b = true) Copied.eqB_iff
set_option maxHeartbeats 800000 in
theorem idxStr_c (l : List ByteArray) (s : ByteArray) (v : Value) (F : Nat → Prop) (w : World) (h1 : Sli strR w F l v) :
    Calls Tryz.prog 65 #[v, .string s] w fun e w' => e = .returned (.int .i64 (idxV (l.findIdx? fun y => decide (y = s)))) ∧ w = w' := by
  obtain ⟨A1, c1, rfl, hlc1, hc1⟩ := h1.form
  have H1 := Lib.hid h1; clear h1
  go_enter Tryz.func65, Tryz.ntmps65
  go_wp2
  go_loop [8] (fun i => ∃ k : Nat, k ≤ l.length ∧ i = .int .i64 k ∧ Hid (∀ x ∈ l.take k, decide (x = s) = false)) (fun i => l.length - (intOf i).toNat)
  case atStart => exact ⟨0, Nat.zero_le _, rfl, by intro x hx; simp at hx⟩
  case round =>
    obtain ⟨k, hk, rfl, HT⟩ := hrel
    by_cases hlt : k < l.length
    · obtain ⟨b, off, rfl, hfb, c0⟩ := strAt H1.out k hlt
      by_cases he : l[k] = s
      · have H := Lib.hid (findIdx_at (p := fun y => decide (y = s)) HT.out hlt (by simpa using he))
        rw [he] at c0
        clear he
        go_wp2
        go_ret
        exact ⟨by rw [H.out]; rfl, rfl⟩
      · have HN := Lib.hid (take_next (q := fun y => decide (y = s) = false) hlt HT.out (by simpa using he))
        generalize l[k] = x at *
        have hq : (s.toList == x.toList) = false := by rw [beqS]; simpa using (fun e => he e.symm)
        go_wp2
        go_round
        case rel => exact ⟨k + 1, by omega, intNum, HN.out⟩
        case measure => simp [intOf]; omega
    · have H := Lib.hid (findIdx_no (take_all hlt HT.out))
      go_wp2
      go_ret
      exact ⟨by rw [H.out]; rfl, rfl⟩
theorem contains_c (l : List ByteArray) (s : ByteArray) (v : Value) (F : Nat → Prop) (w : World) (h1 : Sli strR w F l v) :
    Calls Tryz.prog 69 #[v, .string s] w fun e w' => e = .returned (.bool (l.any fun y => decide (y = s))) ∧ w = w' := by
  have HC := Lib.hid (idxStr_c l s v F w h1); clear h1
  cases h : l.findIdx? (fun y => decide (y = s)) with
  | none =>
    have HV := Lib.hid (show (l.any fun y => decide (y = s)) = false by rw [List.findIdx?_eq_none_iff] at h; rw [List.any_eq_false]; intro x hx; simp [h x hx])
    rw [h] at HC
    go_enter Tryz.func69, Tryz.ntmps69
    go_wp2_with fail
    refine HC.out.mono ?_
    rintro e w' ⟨rfl, rfl⟩
    rw [show idxV none = -1 from rfl]
    go_wp2
    go_ret
    exact ⟨ret_bool (by rw [HV.out]), rfl⟩
  | some i =>
    have HV := Lib.hid (show (l.any fun y => decide (y = s)) = true by
      obtain ⟨hi, hp, _⟩ := List.findIdx?_eq_some_iff_getElem.1 h
      rw [List.any_eq_true]; exact ⟨_, List.getElem_mem hi, hp⟩)
    rw [h] at HC
    go_enter Tryz.func69, Tryz.ntmps69
    go_wp2_with fail
    refine HC.out.mono ?_
    rintro e w' ⟨rfl, rfl⟩
    rw [show idxV (some i) = (i : Int) from rfl]
    have : (0 : Int) ≤ (i : Int) := by omega
    go_wp2
    go_ret
    exact ⟨ret_bool (by rw [HV.out]), rfl⟩

end Go.Proofs.YtihkkaeoijheoaaGreatDoor

/- What the library has laid, kept beside a stream; Atoi and Itoa there. -/
namespace Go.Proofs.YtihkkaeoijheoaaGreatDoor
set_option linter.unusedVariables false
open Go.RowKit Go.Sort

theorem pow_block {w w' : World} (h : PowLaid w) (hk : w'.heap[5]? = w.heap[5]?) : PowLaid w' := by
  unfold PowLaid Lib.TabIs World.var? at *
  rw [show Tryz.prog.globalNamed "internal/strconv.uint64pow10" = some 5 by kernel_rfl] at *
  simp only [Option.bind_some] at *
  rw [hk]; exact h
theorem pow_lt {w : World} (h : PowLaid w) : 5 < w.heap.size := by
  unfold PowLaid Lib.TabIs World.var? at h
  rw [show Tryz.prog.globalNamed "internal/strconv.uint64pow10" = some 5 by kernel_rfl] at h
  simp only [Option.bind_some] at h
  rcases Nat.lt_or_ge 5 w.heap.size with h' | h'
  · exact h'
  · simp [Array.getElem?_eq_none h'] at h
/-- The library's errors and its table of powers lie as they were laid, below the stream's block. -/
def LaidS (sb : Nat) (w : World) : Prop := ErrsLaid w ∧ PowLaid w ∧ 3 < sb ∧ 4 < sb ∧ 5 < sb
section
variable {w w' : World} {sb : Nat}
theorem LaidS.start (he : ErrsLaid w) (hp : PowLaid w) : LaidS w.heap.size w := ⟨he, hp, he.2.2.1, he.2.2.2, pow_lt hp⟩
theorem LaidS.keep (h : LaidS sb w) (hs : w.heap.size ≤ w'.heap.size) (hk : ∀ b, b < sb → w'.heap[b]? = w.heap[b]?) : LaidS sb w' :=
  ⟨h.1.keep hs (World.cell?_of_block (hk _ h.2.2.1)) (World.cell?_of_block (hk _ h.2.2.2.1)), pow_block h.2.1 (hk _ h.2.2.2.2), h.2.2⟩
theorem LaidS.grown (h : LaidS sb w) (hlt : sb < w.heap.size) (hg : w.grownBy w' (some sb)) : LaidS sb w' := h.keep hg.size fun b hb => hg.block b (by omega) (by simp; omega)
theorem LaidS.below {B : Nat} (h : LaidS sb w) (hb : Below B w w') (hB : sb ≤ B) : LaidS sb w' := h.keep hb.size fun b hlt => hb.block b (by omega)
theorem LaidS.alloc (h : LaidS sb w) (hlt : sb ≤ w.heap.size) (o : Obj) : LaidS sb (w.alloc o) := h.keep (by simp) fun b hb => Below.heap_alloc w o b (by omega)
theorem LaidS.errs (h : LaidS sb w) : ErrsLaid w := h.1
theorem LaidS.pow (h : LaidS sb w) : PowLaid w := h.2.1
end
theorem okI_wrap (n : Int) : okI (IntKind.i64.wrap n) := by rw [IntKind.wrap_i64]; unfold okI; omega
def AtoiO (s : ByteArray) (w : World) (e : Ending) (w' : World) : Prop := ∃ n ev, okI n ∧ AtoiP s n ev ∧ e = .returned (.tuple #[.int .i64 n, ev]) ∧ Below w.heap.size w w'
theorem atoi_o (s : ByteArray) (w : World) (hs : s.size ≤ 140737488355328) (hl : ErrsLaid w) : Calls Tryz.prog 168 #[.string s] w (AtoiO s w) := by
  obtain ⟨⟨t1, p1, h1⟩, ⟨t2, p2, h2⟩, _, _⟩ := hl
  cases h : Lib.atoiAll s.data.toList
  case ok v =>
    refine (Any.strconv_Atoi_ok Tryz.laysC172 s (by omega) v h w).mono ?_
    rintro e w' ⟨he, hw⟩
    refine ⟨v, _, atoi_bd h, .inl ⟨h, rfl⟩, he, ?_⟩
    rcases hw with rfl | ⟨t, rfl⟩
    · exact Below.refl _ _
    · exact Joins.below_bytesWorld _ _ _ _ (Nat.le_refl _)
  · refine (Any.strconv_Atoi_syntax Tryz.laysC172 s (by omega) h _ w h1 (.inr ⟨_, _, rfl⟩)).mono ?_
    rintro e w' ⟨N, he, _, _, hb⟩
    exact ⟨_, _, by unfold okI; omega, .inr ⟨(fun v hv => by rw [h] at hv; cases hv), _, _, rfl⟩, he, hb⟩
  · refine (Any.strconv_Atoi_range Tryz.laysC172 s (by omega) h _ w h2 (.inr ⟨_, _, rfl⟩)).mono ?_
    rintro e w' ⟨N, he, _, _, hb⟩
    exact ⟨_, _, by unfold okI Lib.atoiSat; split <;> omega, .inr ⟨(fun v hv => by rw [h] at hv; cases hv), _, _, rfl⟩, he, hb⟩
theorem itoa_sz (n : Int) (h : okI n) : (⟨(Lib.itoa n).toArray⟩ : ByteArray).size ≤ 21 := by
  have := Lib.itoa_length_le n h.1 h.2
  show (Lib.itoa n).toArray.size ≤ 21
  simpa using this
end Go.Proofs.YtihkkaeoijheoaaGreatDoor

/- The number of a scene, and a setup, in plain words. -/
namespace Go.Proofs.YtihkkaeoijheoaaGreatDoor
set_option linter.unusedVariables false
open Go.RowKit

def digB (c : UInt8) : Bool := decide (48 ≤ c.toNat) && decide (c.toNat ≤ 57)
def capB (c : UInt8) : Bool := decide (65 ≤ c.toNat) && decide (c.toNat ≤ 90)
def numK (s : ByteArray) : Nat := (s.data.toList.takeWhile digB).length
def numB (s : ByteArray) : Bool :=
  (s.data.toList.drop (numK s)).all capB && decide (s.size - numK s ≤ 5) && !Lib.hasSuffix (s.data.toList.drop (numK s)) [65]
    && (if s.data.toList.take (numK s) = [48] then decide (numK s < s.size) else decide (1 ≤ numK s) && decide (numK s ≤ 3) && decide (s.data.toList.head? ≠ some 48))

theorem takeWhile_len {p : UInt8 → Bool} {l : List UInt8} {k : Nat} (h : ∀ x ∈ l.take k, p x = true) (hk : k ≤ l.length) (he : ∀ hlt : k < l.length, p l[k] = false) : (l.takeWhile p).length = k := by
  induction l generalizing k with
  | nil => simp at hk; simp [hk]
  | cons y l ih =>
    cases k with
    | zero => have := he (by simp); simp at this; simp [this]
    | succ k =>
      have h0 : p y = true := h y (by simp)
      have := ih (k := k) (fun x hx => h x (by simp [hx])) (by simpa using hk) (fun hlt => he (Nat.succ_lt_succ hlt))
      simp [h0, this]
theorem numK_eq {s : ByteArray} {k : Nat} (h : ∀ x ∈ s.data.toList.take k, digB x = true) (hk : k ≤ s.size) (he : ∀ hlt : k < s.size, digB s[k] = false) : numK s = k :=
  takeWhile_len h (by simpa using hk) (fun hlt => he (by simpa using hlt))
theorem extract_list (s : ByteArray) (a b : Nat) : (s.extract a b).data.toList = (s.data.toList.drop a).take (b - a) := by
  simp
theorem extract_end (s : ByteArray) (k : Nat) : (s.extract k s.size).data.toList = s.data.toList.drop k := by
  rw [extract_list, List.take_of_length_le]
  simp

theorem numB_size {s : ByteArray} (h : numB s = true) : s.size ≤ 8 := by
  simp only [numB, Bool.and_eq_true, decide_eq_true_eq] at h
  obtain ⟨⟨⟨_, h1⟩, _⟩, h2⟩ := h
  split at h2
  · rename_i h3
    have := congrArg List.length h3
    simp at this; omega
  · simp only [Bool.and_eq_true, decide_eq_true_eq] at h2; omega

def setC (c : UInt8) : Bool := capB c && decide (c.toNat ≠ 73) && decide (c.toNat ≠ 79)
def setupB (s : ByteArray) : Bool := allB setC s && decide (s.size ≤ 2)
theorem setupB_size {s : ByteArray} (h : setupB s = true) : s.size ≤ 2 := by
  simp only [setupB, Bool.and_eq_true, decide_eq_true_eq] at h; exact h.2
def slateE (scene setup : ByteArray) (n : Int) : Int := if numB scene = false then 5 else if setupB setup = false then 5 else if n < 1 ∨ 99 < n then 1 else 0
def slateS (scene setup : ByteArray) (n : Nat) : ByteArray := (if setup.toList.isEmpty = true then scene else scene ++ (⟨#[47]⟩ ++ setup)) ++ ⟨#[45]⟩ ++ ⟨(Lib.decDigits n).toArray⟩
def slateA (scene setup : ByteArray) (n : Int) : ByteArray := if slateE scene setup n = 0 then slateS scene setup n.toNat else ⟨#[]⟩
end Go.Proofs.YtihkkaeoijheoaaGreatDoor

/- Plain texts, in plain words: joined words against no blanks beside blanks. No program in sight. -/
namespace Go.Proofs.YtihkkaeoijheoaaGreatDoor
set_option linter.unusedVariables false
open Go.RowKit

/-- The words of a text: what stands between blanks. -/
def wordsA : List UInt8 → List UInt8 → List (List UInt8)
  | [], cur => if cur = [] then [] else [cur]
  | c :: l, cur => if c = 32 then (if cur = [] then wordsA l [] else cur :: wordsA l []) else wordsA l (cur ++ [c])
def joinW : List (List UInt8) → List UInt8
  | [] => []
  | [w] => w
  | w :: v :: r => w ++ 32 :: joinW (v :: r)
/-- No blank behind a blank, none at the end. -/
def okA : Bool → List UInt8 → Bool
  | prev, [] => !prev
  | prev, c :: l => if c = 32 then (if prev then false else okA true l) else okA false l
theorem joinW_cons (w : List UInt8) (r : List (List UInt8)) : joinW (w :: r) = if r = [] then w else w ++ 32 :: joinW r := by
  cases r with
  | nil => rfl
  | cons v r => rfl
theorem wordsA_ne (l : List UInt8) : ∀ cur, cur ≠ [] → wordsA l cur ≠ [] := by
  induction l with
  | nil => intro cur h; simp [wordsA, h]
  | cons c l ih =>
    intro cur h
    unfold wordsA
    by_cases hc : c = 32
    · rw [if_pos hc, if_neg h]; simp
    · rw [if_neg hc]; exact ih _ (by simp)
theorem join_len (l : List UInt8) : ∀ cur, (joinW (wordsA l cur)).length ≤ cur.length + l.length := by
  induction l with
  | nil => intro cur; by_cases h : cur = [] <;> simp [wordsA, h, joinW]
  | cons c l ih =>
    intro cur
    unfold wordsA
    by_cases hc : c = 32
    · rw [if_pos hc]
      have h1 := ih []
      by_cases h : cur = []
      · rw [if_pos h]; simp at h1 ⊢; omega
      · rw [if_neg h, joinW_cons]
        split
        · simp
        · simp at h1 ⊢; omega
    · rw [if_neg hc]
      have := ih (cur ++ [c])
      simp at this ⊢; omega
theorem join_ok (l : List UInt8) : (∀ cur, cur ≠ [] → (joinW (wordsA l cur) = cur ++ l ↔ okA false l = true)) ∧ ((wordsA l [] ≠ [] ∧ joinW (wordsA l []) = l) ↔ okA true l = true) := by
  induction l with
  | nil =>
    refine ⟨fun cur h => ?_, ?_⟩
    · simp [wordsA, h, joinW, okA]
    · simp [wordsA, okA]
  | cons c l ih =>
    obtain ⟨ihA, ihB⟩ := ih
    refine ⟨fun cur h => ?_, ?_⟩
    · unfold wordsA okA
      by_cases hc : c = 32
      · rw [if_pos hc, if_neg h, if_pos hc, joinW_cons]
        simp only [Bool.false_eq_true, if_false]
        rw [← ihB]
        by_cases hw : wordsA l [] = []
        · rw [if_pos hw]; simp [hw]
        · rw [if_neg hw, hc]
          simp [hw]
      · rw [if_neg hc, if_neg hc, ← ihA (cur ++ [c]) (by simp)]; simp
    · unfold wordsA okA
      by_cases hc : c = 32
      · rw [if_pos hc, if_pos rfl, if_pos hc]
        simp only [if_true, Bool.false_eq_true, iff_false, not_and]
        intro _ h
        have := join_len l []
        rw [h] at this
        simp at this
        omega
      · rw [if_neg hc, if_neg hc, List.nil_append, ← ihA [c] (by simp)]
        constructor
        · rintro ⟨_, h⟩; exact h
        · intro h; exact ⟨wordsA_ne l _ (by simp), h⟩
def plainL (l : List UInt8) : Bool := decide (l = []) || okA true l
/-- What the reference asks. -/
theorem plain_join (l : List UInt8) : joinW (wordsA l []) = l ↔ plainL l = true := by
  unfold plainL
  cases l with
  | nil => simp [wordsA, joinW]
  | cons c l =>
    have h := (join_ok (c :: l)).2
    simp only [Bool.or_eq_true, decide_eq_true_eq, reduceCtorEq, false_or]
    rw [← h]
    constructor
    · intro he
      refine ⟨fun hw => ?_, he⟩
      rw [hw] at he; cases he
    · exact fun h => h.2
def dblB : List UInt8 → Bool
  | [] => false
  | [_] => false
  | a :: b :: l => (a == 32 && b == 32) || dblB (b :: l)
def sufB : List UInt8 → Bool
  | [] => false
  | [a] => a == 32
  | _ :: b :: l => sufB (b :: l)
/-- What the program asks. -/
theorem okA_prog (l : List UInt8) : ∀ prev c, okA prev (c :: l) = (!dblB (c :: l) && !(prev && c == 32) && !sufB (c :: l)) := by
  induction l with
  | nil =>
    intro prev c
    by_cases hc : c = 32
    · cases prev <;> simp [okA, dblB, sufB, hc]
    · cases prev <;> simp [okA, dblB, sufB, hc]
  | cons d l ih =>
    intro prev c
    by_cases hc : c = 32
    · cases prev
      · rw [okA, if_pos hc]
        simp only [Bool.false_eq_true, if_false]
        rw [ih true d]
        have e : (c == 32) = true := by rw [hc]; rfl
        simp only [dblB, sufB, e, Bool.true_and, Bool.false_and, Bool.not_false, Bool.and_true]
        generalize dblB (d :: l) = x
        generalize sufB (d :: l) = y
        generalize (d == 32) = z
        cases x <;> cases y <;> cases z <;> rfl
      · have e : (c == 32) = true := by rw [hc]; rfl
        simp [okA, hc]
    · rw [okA, if_neg hc, ih false d]
      have e : (c == 32) = false := beq_eq_false_iff_ne.2 hc
      simp only [dblB, sufB, e, Bool.false_and, Bool.and_false, Bool.not_false, Bool.and_true, Bool.false_or]
theorem contains_cons (b : UInt8) (l sub : List UInt8) : Lib.contains (b :: l) sub = (sub.isPrefixOf (b :: l) || Lib.contains l sub) := by
  unfold Lib.contains
  have hg := Lib.index_ge l sub
  rw [Lib.index]
  cases h : sub.isPrefixOf (b :: l) with
  | true => simp
  | false =>
    simp only [Bool.false_eq_true, if_false, Bool.false_or]
    by_cases h1 : Lib.index l sub = -1
    · rw [h1]; rfl
    · rw [if_neg (by simpa using h1), decide_eq_decide]; omega
theorem beqC (a b : UInt8) : (a == b) = (b == a) := by
  rw [show (a == b) = decide (a = b) from rfl, show (b == a) = decide (b = a) from rfl, decide_eq_decide]
  exact ⟨fun h => h.symm, fun h => h.symm⟩
theorem dbl_contains (l : List UInt8) : Lib.contains l [32, 32] = dblB l := by
  induction l with
  | nil => rfl
  | cons a l ih =>
    rw [contains_cons, ih]
    cases l with
    | nil => simp [List.isPrefixOf, dblB]
    | cons b l =>
      simp only [List.isPrefixOf, dblB, Bool.and_true]
      have e1 : ((32 : UInt8) == a) = (a == 32) := beqC 32 a
      have e2 : ((32 : UInt8) == b) = (b == 32) := beqC 32 b
      rw [e1, e2]
theorem suf_has (l : List UInt8) : Lib.hasSuffix l [32] = sufB l := by
  unfold Lib.hasSuffix
  rw [Bool.eq_iff_iff, List.isSuffixOf_iff_suffix]
  induction l with
  | nil => simp [sufB]
  | cons a l ih =>
    rw [List.suffix_cons_iff, ih]
    cases l with
    | nil => simp [sufB]; exact eq_comm
    | cons b l => simp [sufB]
theorem pre_has (l : List UInt8) : Lib.hasPrefix l [32] = decide (l.head? = some 32) := by
  unfold Lib.hasPrefix
  cases l with
  | nil => rfl
  | cons a l =>
    show ((32 : UInt8) == a && List.isPrefixOf [] l) = _
    rw [show List.isPrefixOf ([] : List UInt8) l = true by cases l <;> rfl, Bool.and_true, List.head?_cons]
    rw [show ((32 : UInt8) == a) = decide ((32 : UInt8) = a) from rfl, decide_eq_decide]
    constructor
    · intro h; rw [h]
    · intro h; injection h with h; exact h.symm
/-- The two ways to ask for no blanks beside blanks. -/
theorem plain_prog (l : List UInt8) : plainL l = (!Lib.hasPrefix l [32] && !Lib.hasSuffix l [32] && !Lib.contains l [32, 32]) := by
  rw [dbl_contains, suf_has, pre_has]
  unfold plainL
  cases l with
  | nil => rfl
  | cons c l =>
    rw [okA_prog]
    simp only [reduceCtorEq, decide_false, Bool.false_or, List.head?_cons, Option.some.injEq, Bool.true_and]
    have e : (c == 32) = decide (c = 32) := rfl
    generalize dblB (c :: l) = x
    generalize sufB (c :: l) = y
    by_cases hc : c = 32
    · simp [hc]
    · have e : (c == 32) = false := beq_eq_false_iff_ne.2 hc
      simp only [e, hc, decide_false]; cases x <;> cases y <;> rfl
/-- All bytes from 32 to 126. -/
def prB (c : UInt8) : Bool := decide (32 ≤ c.toNat) && decide (c.toNat ≤ 126)
def plainB (s : ByteArray) : Bool := allB prB s && plainL s.data.toList
end Go.Proofs.YtihkkaeoijheoaaGreatDoor

/- Reading slates, in plain words. No program in sight. -/
namespace Go.Proofs.YtihkkaeoijheoaaGreatDoor
set_option linter.unusedVariables false
open Go.RowKit

theorem numB_bytes {s : ByteArray} (h : numB s = true) : ∀ c ∈ s.data.toList, digB c = true ∨ capB c = true := by
  simp only [numB, Bool.and_eq_true] at h
  obtain ⟨⟨⟨h1, _⟩, _⟩, _⟩ := h
  intro c hc
  rw [← List.take_append_drop (numK s) s.data.toList, List.mem_append] at hc
  rcases hc with hc | hc
  · left
    have ht : s.data.toList.take (numK s) = s.data.toList.takeWhile digB := by
      unfold numK
      conv => lhs; rw [← List.takeWhile_append_dropWhile (p := digB) (l := s.data.toList)]
      rw [List.takeWhile_append_dropWhile, ← List.prefix_iff_eq_take.1 (List.takeWhile_prefix digB)]
    rw [ht] at hc
    exact (List.all_eq_true.1 (List.all_takeWhile (p := digB) (l := s.data.toList))) c hc
  · right; exact (List.all_eq_true.1 h1) c hc
theorem setupB_bytes {s : ByteArray} (h : setupB s = true) : ∀ c ∈ s.data.toList, capB c = true := by
  simp only [setupB, Bool.and_eq_true] at h
  intro c hc
  have := (List.all_eq_true.1 (show s.data.toList.all setC = true from h.1)) c hc
  simp only [setC, Bool.and_eq_true] at this
  exact this.1.1
theorem dig_ne {c : UInt8} (h : digB c = true ∨ capB c = true) : c ≠ 45 ∧ c ≠ 47 := by
  simp only [digB, capB, Bool.and_eq_true, decide_eq_true_eq] at h
  constructor <;> (rintro rfl; revert h; decide)
theorem slateE_ok {sc se : ByteArray} {n : Int} (h : slateE sc se n = 0) : numB sc = true ∧ setupB se = true ∧ 1 ≤ n ∧ n ≤ 99 := by
  unfold slateE at h
  split at h
  · cases h
  · split at h
    · cases h
    · split at h
      · cases h
      · rename_i h1 h2 h3
        exact ⟨by simpa using h1, by simpa using h2, by omega, by omega⟩
theorem slateE_mk {sc se : ByteArray} {n : Int} (h1 : numB sc = true) (h2 : setupB se = true) (h3 : 1 ≤ n) (h4 : n ≤ 99) : slateE sc se n = 0 := by
  unfold slateE; rw [if_neg (by rw [h1]; simp), if_neg (by rw [h2]; simp), if_neg (by omega)]
def whatS (sc se : ByteArray) : ByteArray := if se.toList.isEmpty = true then sc else sc ++ ⟨#[47]⟩ ++ se
theorem slateS_eq (sc se : ByteArray) (n : Nat) : slateS sc se n = whatS sc se ++ ⟨#[45]⟩ ++ ⟨(Lib.decDigits n).toArray⟩ := by
  unfold slateS whatS
  split
  · rfl
  · simp only [ByteArray.append_assoc]
theorem empty_iff (s : ByteArray) : s.toList.isEmpty = true ↔ s = ⟨#[]⟩ := by
  rw [ByteArray.toList_eq]
  constructor
  · intro h; exact ba_ext (by simpa using h)
  · rintro rfl; rfl
/-- A right slate is cut into its parts. -/
theorem slate_read {sc se : ByteArray} {n : Int} (h : slateE sc se n = 0) :
    cutB (slateS sc se n.toNat) 45 = ⟨(Lib.decDigits n.toNat).toArray⟩ ∧ cutA (cutA (slateS sc se n.toNat) 45) 47 = sc ∧ cutB (cutA (slateS sc se n.toNat) 45) 47 = se := by
  obtain ⟨h1, h2, _, _⟩ := slateE_ok h
  have b1 : ∀ c ∈ sc.data.toList, c ≠ 45 ∧ c ≠ 47 := fun c hc => dig_ne (numB_bytes h1 c hc)
  have b2 : ∀ c ∈ se.data.toList, c ≠ 45 ∧ c ≠ 47 := fun c hc => dig_ne (.inr (setupB_bytes h2 c hc))
  have b3 : ∀ c ∈ (whatS sc se).data.toList, c ≠ 45 := by
    intro c hc
    unfold whatS at hc
    split at hc
    · exact (b1 c hc).1
    · simp at hc
      rcases hc with hc | rfl | hc
      · exact (b1 c (by simpa using hc)).1
      · decide
      · exact (b2 c (by simpa using hc)).1
  rw [slateS_eq]
  obtain ⟨_, _, e1, e2⟩ := cut_app (b := ⟨(Lib.decDigits n.toNat).toArray⟩) b3
  rw [e1, e2]
  refine ⟨rfl, ?_⟩
  unfold whatS
  by_cases he : se.toList.isEmpty = true
  · rw [if_pos he]
    obtain ⟨_, e3, e4⟩ := cut_none (a := sc) (c := 47) (fun x hx => (b1 x hx).2)
    rw [e3, e4]
    exact ⟨rfl, ((empty_iff se).1 he).symm⟩
  · rw [if_neg he]
    obtain ⟨_, _, e3, e4⟩ := cut_app (a := sc) (b := se) (c := 47) (fun x hx => (b1 x hx).2)
    exact ⟨e3, e4⟩
/-- What a reader of slates must say. -/
def slP (t sc se : ByteArray) (n : Int) (ok : Bool) : Prop :=
  (ok = true → slateE sc se n = 0 ∧ slateS sc se n.toNat = t) ∧ (ok = false → ∀ (a b : ByteArray) (m : Int), slateE a b m = 0 → slateS a b m.toNat ≠ t)
theorem slP_same {t sc se a b : ByteArray} {n m : Int} {ok ok' : Bool} (h : slP t sc se n ok) (h' : slP t a b m ok') : ok = ok' ∧ (ok = true → sc = a ∧ se = b ∧ n = m) := by
  cases ok <;> cases ok'
  · exact ⟨rfl, fun h => by cases h⟩
  · obtain ⟨x, y⟩ := h'.1 rfl
    exact absurd y (h.2 rfl _ _ _ x)
  · obtain ⟨x, y⟩ := h.1 rfl
    exact absurd y (h'.2 rfl _ _ _ x)
  · obtain ⟨x, y⟩ := h.1 rfl
    obtain ⟨x', y'⟩ := h'.1 rfl
    refine ⟨rfl, fun _ => ?_⟩
    obtain ⟨r1, r2, r3⟩ := slate_read x
    obtain ⟨q1, q2, q3⟩ := slate_read x'
    rw [y] at r1 r2 r3
    rw [y'] at q1 q2 q3
    refine ⟨by rw [← r2, q2], by rw [← r3, q3], ?_⟩
    rw [q1] at r1
    have h1 : Lib.decDigits m.toNat = Lib.decDigits n.toNat := by
      have := congrArg (fun x : ByteArray => x.data.toList) r1
      simpa using this
    have h2 := congrArg (dval 0) h1
    rw [dec_val, dec_val] at h2
    obtain ⟨_, _, x1, x2⟩ := slateE_ok x
    obtain ⟨_, _, x3, x4⟩ := slateE_ok x'
    omega
/-- A reader that cuts the text, reads the number and writes the slate anew. -/
theorem slP_of {t : ByteArray} {n : Int} {ok okn : Bool} (hn : okn = true → (⟨(Lib.decDigits n.toNat).toArray⟩ : ByteArray) = cutB t 45 ∧ (0 ≤ n ∨ True))
    (hf : okn = false → ∀ m : Nat, 1 ≤ m → m ≤ 99 → (⟨(Lib.decDigits m).toArray⟩ : ByteArray) ≠ cutB t 45)
    (hv : okn = true → ∀ m : Nat, 1 ≤ m → m ≤ 99 → (⟨(Lib.decDigits m).toArray⟩ : ByteArray) = cutB t 45 → n = m)
    (h : ok = true ↔ okn = true ∧ slateE (cutA (cutA t 45) 47) (cutB (cutA t 45) 47) n = 0 ∧ slateS (cutA (cutA t 45) 47) (cutB (cutA t 45) 47) n.toNat = t) :
    slP t (cutA (cutA t 45) 47) (cutB (cutA t 45) 47) n ok := by
  refine ⟨fun hh => (h.1 hh).2, fun hh a b m hm ht => ?_⟩
  obtain ⟨r1, r2, r3⟩ := slate_read hm
  rw [ht] at r1 r2 r3
  obtain ⟨_, _, m1, m2⟩ := slateE_ok hm
  cases hk : okn with
  | false => exact hf hk m.toNat (by omega) (by omega) r1.symm
  | true =>
    have e := hv hk m.toNat (by omega) (by omega) r1.symm
    have e' : n = m := by omega
    have := h.2 ⟨hk, by rw [r2, r3, e']; exact hm, by rw [r2, r3, e']; exact ht⟩
    rw [hh] at this; cases this
end Go.Proofs.YtihkkaeoijheoaaGreatDoor

/- Takes as they lie in memory. No program in sight. -/
namespace Go.Proofs.YtihkkaeoijheoaaGreatDoor
set_option linter.unusedVariables false
open Go.RowKit

structure Cov where
  para : Int
  tin : Int
  tout : Int
  on : Bool
structure Tk where
  scene : ByteArray
  setup : ByteArray
  number : Int
  roll : ByteArray
  sound : ByteArray
  tin : Int
  tout : Int
  good : Bool
  covers : List Cov
def Cov.cells (c : Cov) : List Value := [.int .i64 c.para, .int .i64 c.tin, .int .i64 c.tout, .bool c.on]
abbrev covR : Rep Cov := Rep.flat 4 Cov.cells (fun _ => rfl)
def Tk.cells (t : Tk) (v : Value) : List Value := [.string t.scene, .string t.setup, .int .i64 t.number, .string t.roll, .string t.sound, .int .i64 t.tin, .int .i64 t.tout, .bool t.good, v]
abbrev tvR : Rep (Tk × Value) := Rep.flat 9 (fun x => x.1.cells x.2) (fun _ => rfl)
theorem tvFlat {w w' : World} {F F' : Nat → Prop} {x : Tk × Value} {cs : List Value} (h : tvR.rel w F x cs) : tvR.rel w' F' x cs := h
theorem covFlat {w w' : World} {F F' : Nat → Prop} {x : Cov} {cs : List Value} (h : covR.rel w F x cs) : covR.rel w' F' x cs := h
/-- What made takes stay within. -/
def covB (B : Int) (c : Cov) : Prop := -B ≤ c.para ∧ c.para ≤ B ∧ -B ≤ c.tin ∧ c.tin ≤ B ∧ -B ≤ c.tout ∧ c.tout ≤ B
def tkB (B : Int) (t : Tk) : Prop := t.scene.size ≤ 1000 ∧ t.setup.size ≤ 1000 ∧ -1000 ≤ t.number ∧ t.number ≤ 10000 ∧ t.roll.size ≤ 1000 ∧ t.sound.size ≤ 1000 ∧ -B ≤ t.tin ∧ t.tin ≤ B ∧ -B ≤ t.tout ∧ t.tout ≤ B ∧ t.covers.length ≤ 70 ∧ ∀ c ∈ t.covers, covB B c
abbrev covBd (c : Cov) : Prop := covB 200000000 c
abbrev tkBd (t : Tk) : Prop := tkB 200000000 t
theorem covB.more {B B' : Int} {c : Cov} (h : covB B c) (hB : B ≤ B') : covB B' c := ⟨by have := h.1; omega, by have := h.2.1; omega, by have := h.2.2.1; omega, by have := h.2.2.2.1; omega, by have := h.2.2.2.2.1; omega, by have := h.2.2.2.2.2; omega⟩
theorem tkB.more {B B' : Int} {t : Tk} (h : tkB B t) (hB : B ≤ B') : tkB B' t := by
  obtain ⟨h1, h2, h3, h4, h5, h6, h7, h8, h9, h10, h11, h12⟩ := h
  exact ⟨h1, h2, h3, h4, h5, h6, by omega, by omega, by omega, by omega, h11, fun c hc => (h12 c hc).more hB⟩
end Go.Proofs.YtihkkaeoijheoaaGreatDoor

/- The cells of a take in a list of takes; the greater and the lesser of two numbers. No program in sight. -/
namespace Go.Proofs.YtihkkaeoijheoaaGreatDoor
set_option linter.unusedVariables false
open Go.RowKit

theorem tkAt {w : World} {F : Nat → Prop} {l : List (Tk × Value)} {A : Option Addr} {n c : Nat} (h : Sli tvR w F l (.slice A n c)) (k : Nat) (hk : k < l.length) : ∃ b off, A = some ⟨b, off, none⟩ ∧ F b ∧ w.cell? ⟨b, off + k * 9, none⟩ = some (.string l[k].1.scene) ∧ w.cell? ⟨b, off + k * 9 + 1, none⟩ = some (.string l[k].1.setup) ∧ w.cell? ⟨b, off + k * 9 + 2, none⟩ = some (.int .i64 l[k].1.number) ∧ w.cell? ⟨b, off + k * 9 + 3, none⟩ = some (.string l[k].1.roll) ∧ w.cell? ⟨b, off + k * 9 + 4, none⟩ = some (.string l[k].1.sound) ∧ w.cell? ⟨b, off + k * 9 + 5, none⟩ = some (.int .i64 l[k].1.tin) ∧ w.cell? ⟨b, off + k * 9 + 6, none⟩ = some (.int .i64 l[k].1.tout) ∧ w.cell? ⟨b, off + k * 9 + 7, none⟩ = some (.bool l[k].1.good) ∧ w.cell? ⟨b, off + k * 9 + 8, none⟩ = some l[k].2 := by
  obtain ⟨b, off, a, e, hb, hr, hc⟩ := h.at_ k hk
  have ha : a = (l[k]).1.cells l[k].2 := hr
  subst ha
  exact ⟨b, off, e, hb, hc 0 _ rfl, hc 1 _ rfl, hc 2 _ rfl, hc 3 _ rfl, hc 4 _ rfl, hc 5 _ rfl, hc 6 _ rfl, hc 7 _ rfl, hc 8 _ rfl⟩
def maxI (x y : Int) : Int := if y > x then y else x
def minI (x y : Int) : Int := if y < x then y else x
theorem run_max {P : Program} (ats : Array TypeId) (ty : TypeId) (x y : Int) (w : World) : (Builtin.max_ ats ty #[.int .i64 x, .int .i64 y]).run P w = .ok (.int .i64 (maxI x y)) w := rfl
theorem run_min {P : Program} (ats : Array TypeId) (ty : TypeId) (x y : Int) (w : World) : (Builtin.min_ ats ty #[.int .i64 x, .int .i64 y]).run P w = .ok (.int .i64 (minI x y)) w := rfl
theorem maxI_eq (x y : Int) : maxI x y = max x y := by unfold maxI; split <;> omega
theorem minI_eq (x y : Int) : minI x y = min x y := by unfold minI; split <;> omega
end Go.Proofs.YtihkkaeoijheoaaGreatDoor

/- The error of a take that is written, in plain words. No program in sight. -/
namespace Go.Proofs.YtihkkaeoijheoaaGreatDoor
set_option linter.unusedVariables false
open Go.RowKit

/-- The numbers of a take: where it begins and ends, and those of its covers. -/
def covN (c : Cov) : List Int := [c.para, c.tin, c.tout]
def numsT (t : Tk) : List Int := [t.tin, t.tout] ++ t.covers.flatMap covN
def badN (n : Int) : Bool := decide (n < 0) || decide (10000000 < n)
def tkFE (t : Tk) : Int :=
  if ¬ slateE t.scene t.setup t.number = 0 then slateE t.scene t.setup t.number
  else if rollNameB t.roll = false ∨ (¬ t.sound = ⟨#[]⟩ ∧ rollNameB t.sound = false) then 5
  else if (numsT t).any badN = true then 1 else 0
theorem flat_take (l : List Cov) (k : Nat) (hk : k < l.length) : (l.take (k + 1)).flatMap covN = (l.take k).flatMap covN ++ covN l[k] := by
  rw [List.take_succ_eq_append_getElem hk, List.flatMap_append]
  simp
theorem covN_len (l : List Cov) : (l.flatMap covN).length = 3 * l.length := by
  induction l with
  | nil => rfl
  | cons c r ih => rw [List.flatMap_cons, List.length_append, ih]; show 3 + 3 * r.length = 3 * (r.length + 1); omega
end Go.Proofs.YtihkkaeoijheoaaGreatDoor

