/- Texts packed: AtoiW, BldW, BldK, LawA, RefA, Shelf2, Str, CodeW, CutS, CutW, DecW, GenC, GenE, HexW, FilesW, FilesX, FilesY, EqI, LaidW, NumS, PlainS, SlateS, TcO, TkS, NextS, TkT, TlS, TtS, WdS, WpS. -/
import Derived.Test.YtlfnmmnbfoimeaaGreatDoorRows
import Derived.Test.YtlfnmmnbfoimeaaGreatDoorSc01
import Derived.Lib.SmallJoins
import Derived.Shelf.Strconv.AtoiAll
import Derived.Shelf.Strings.BuilderK
import Derived.Shelf.Strings.SlTrimAscii
import Derived.Shelf.Strings.Builder1
import Derived.Shelf.Strings.Builder2
import Derived.Shelf.Strings.OnBuilder
import Derived.Shelf.Strings.Trim
import Derived.Shelf.Small.Utf8
import Derived.Shelf.Small.Strs
import Derived.Shelf.Small.Wraps
import Derived.Shelf.Strings.BuilderF
import Derived.Shelf.Strings.Builder2Cap
import Derived.Shelf.Strconv.Atoi
import Derived.Shelf.Strconv.Itoa0
import Derived.Shelf.Strconv.Itoa1
import Derived.Shelf.LaysM
import Derived.Shelf.Strconv.Itoa2
import Derived.Shelf.Strconv.Itoa3
import Derived.Shelf.Strconv.AtoiErrFast
import Derived.Shelf.Strconv.ParseIntEmpty
import Derived.Shelf.Strconv.AtoiFail
import Derived.Shelf.Strconv.Clone
import Derived.Shelf.Strconv.SyntaxError
import Derived.Shelf.LaysC
import Derived.Shelf.Strconv.ToError
import Derived.Shelf.Strconv.Lower
import Derived.Shelf.Strconv.ParseUint10
import Derived.Shelf.Strconv.ParseUint10Empty
import Derived.Shelf.Strconv.ParseUint10Any
import Derived.Shelf.Strconv.ParseInt10
import Derived.Shelf.Strconv.AtoiLong
import Derived.Shelf.Strconv.AtoiInnerAll
import Derived.Shelf.Strconv.RangeError
import Derived.Shelf.Strconv.ToErrorRange
import Derived.Shelf.Strconv.ErrVarAll
import Derived.Shelf.Strings.Search1
import Derived.Shelf.Strings.Search2
import Derived.Shelf.Strings.Search3
import Derived.Shelf.Strings.Count
import Derived.Shelf.Strings.Shaped
import Derived.Shelf.Strings.Prefix
import Derived.Shelf.Strings.Split
import Derived.Shelf.Strings.Fields
import Derived.Shelf.Strings.SplitShaped
import Derived.Shelf.Unicode.Latin
import Derived.Shelf.Unicode.Decode
import Derived.Shelf.Strings.Runes
import Derived.Shelf.Strings.RuneCount
import Derived.Shelf.Strings.IndexAny
import Derived.Shelf.Strings.AsciiSet
import Derived.Shelf.Strings.IndexAnyAll
import Derived.Shelf.Strings.Explode
import Derived.Shelf.Bits.Mul64
import Derived.Shelf.Strings.Repeat
import Derived.Shelf.Unicode.DecodeSlow
import Derived.Shelf.Unicode.DecodeAny
import Derived.Shelf.Unicode.Is16White
import Derived.Shelf.Unicode.IsSpaceAny
import Derived.Shelf.Unicode.DecodeLast
import Derived.Shelf.Strings.FieldsFuncAny
import Derived.Shelf.Unicode.Is16Any
import Derived.Shelf.Unicode.Is32Any
import Derived.Shelf.Unicode.ExclAny
import Derived.Shelf.Strings.FieldsFuncGrows
import Derived.Shelf.Strings.BuilderCap
import Derived.Shelf.Slices.Turned
import Derived.Test.YtlfnmmnbfoimeaaGreatDoorProg
import Derived.Laws.IdiomStrings
import Derived.Lib.QuietBelow
import Derived.BigQuiet
import Derived.Deep.RegionWith
import Derived.Lib.IndexLaws
import Derived.Laws.Bits64
import Derived.Laws.Bits64b
import Derived.Lib.Repeat
import Derived.Outline
import Derived.Deep.RegionHeld3
import Derived.Deep.AppendLies
import Derived.Deep.QuietTactic
import Derived.Lib.ItoaLen
import Derived.Lib.Strings
import Derived.Lib.ItoaNum
import Derived.Lib.FieldsP
import Derived.Lib.IndexMore
import Derived.Lib.Slices
import Derived.RegionTactic
/- strconv.Atoi at every string: one contract with its three ends. -/
namespace Go.Proofs.YtlfnmmnbfoimeaaGreatDoor
set_option linter.unusedVariables false
open Go.RowKit

/-- The library's two errors lie where they were laid. -/
def ErrsLaid (w : World) : Prop := (∃ t p, w.cell? ⟨3, 0, none⟩ = some (.iface t p)) ∧ (∃ t p, w.cell? ⟨4, 0, none⟩ = some (.iface t p)) ∧ 3 < w.heap.size ∧ 4 < w.heap.size
theorem ErrsLaid.keep {w w' : World} (h : ErrsLaid w) (hs : w.heap.size ≤ w'.heap.size) (h1 : w'.cell? ⟨3, 0, none⟩ = w.cell? ⟨3, 0, none⟩) (h2 : w'.cell? ⟨4, 0, none⟩ = w.cell? ⟨4, 0, none⟩) : ErrsLaid w' :=
  ⟨by rw [h1]; exact h.1, by rw [h2]; exact h.2.1, by have := h.2.2.1; omega, by have := h.2.2.2; omega⟩
theorem ErrsLaid.below {w w' : World} {B : Nat} (h : ErrsLaid w) (hb : Below B w w') (hB : w.heap.size ≤ B) : ErrsLaid w' :=
  h.keep hb.size (hb.cell (Nat.lt_of_lt_of_le h.2.2.1 hB)) (hb.cell (Nat.lt_of_lt_of_le h.2.2.2 hB))

/-- How Atoi ends: the number and the error. -/
def AtoiP (s : ByteArray) (n : Int) (ev : Value) : Prop :=
  (Lib.atoiAll s.data.toList = .ok n ∧ ev = .nilIface) ∨ ((∀ v, Lib.atoiAll s.data.toList ≠ .ok v) ∧ ∃ t N, ev = .iface t (.pointer (some ⟨N, 0, none⟩)))
def AtoiR (s : ByteArray) (w : World) (e : Ending) (w' : World) : Prop := ∃ n ev, AtoiP s n ev ∧ e = .returned (.tuple #[.int .i64 n, ev]) ∧ Below w.heap.size w w'
theorem atoi_c (s : ByteArray) (w : World) (hs : s.size ≤ 140737488355328) (hl : ErrsLaid w) : Calls Tryz.prog 74 #[.string s] w (AtoiR s w) := by
  obtain ⟨⟨t1, p1, h1⟩, ⟨t2, p2, h2⟩, _, _⟩ := hl
  cases h : Lib.atoiAll s.data.toList
  case ok v =>
    refine (Any.strconv_Atoi_ok Tryz.laysC172 s (by omega) v h w).mono ?_
    rintro e w' ⟨he, hw⟩
    refine ⟨v, _, .inl ⟨h, rfl⟩, he, ?_⟩
    rcases hw with rfl | ⟨t, rfl⟩
    · exact Below.refl _ _
    · exact Joins.below_bytesWorld _ _ _ _ (Nat.le_refl _)
  · refine (Any.strconv_Atoi_syntax Tryz.laysC172 s (by omega) h _ w h1 (.inr ⟨_, _, rfl⟩)).mono ?_
    rintro e w' ⟨N, he, _, _, hb⟩
    exact ⟨_, _, .inr ⟨(fun v hv => by rw [h] at hv; cases hv), _, _, rfl⟩, he, hb⟩
  · refine (Any.strconv_Atoi_range Tryz.laysC172 s (by omega) h _ w h2 (.inr ⟨_, _, rfl⟩)).mono ?_
    rintro e w' ⟨N, he, _, _, hb⟩
    exact ⟨_, _, .inr ⟨(fun v hv => by rw [h] at hv; cases hv), _, _, rfl⟩, he, hb⟩
end Go.Proofs.YtlfnmmnbfoimeaaGreatDoor

/- strings.Builder written, and strings.Join: the library's contracts at this program. -/
namespace Go.Proofs.YtlfnmmnbfoimeaaGreatDoor
set_option linter.unusedVariables false
open Go.RowKit

/-- strings.Join of words in memory. -/
theorem join_c (l : List ByteArray) (sep : ByteArray) (v : Value) (F : Nat → Prop) (w : World) (hv : Sli strR w F l v) (hF : ∀ b, F b → b < w.heap.size) (hlen : (Lib.join (l.map (·.data.toList)) sep.data.toList).length ≤ 140737488355328) (hN : l.length ≤ 140737488355328) :
    Calls Tryz.prog 46 #[v, .string sep] w fun e w' => e = .returned (.string ⟨(Lib.join (l.map (·.data.toList)) sep.data.toList).toArray⟩) ∧ Below w.heap.size w w' := by
  obtain ⟨A, c, rfl, h1, h2, h3⟩ := hv
  by_cases h0 : 0 < l.length
  · obtain ⟨b, off, cs, rfl, hb, hl, hc⟩ := h3 h0
    refine Any.strings_Join Tryz.lays156 Tryz.Builder_Extra_156 b off c l sep w (fun j x hx => ?_) (hF b hb) hN h1 hlen
    have h4 : (cs.drop (j * 1)).take 1 = [.string x] := hl.2 j x hx
    refine hc j _ ?_
    have h5 : ((cs.drop (j * 1)).take 1)[0]? = some (.string x) := by rw [h4]; rfl
    rw [List.getElem?_take, if_pos (by decide), List.getElem?_drop] at h5
    simpa using h5
  · have : l = [] := List.length_eq_zero_iff.1 (by omega)
    subst this
    exact (Any.strings_Join_none Tryz.lays156 Tryz.Builder_Extra_156 A c sep w).mono fun e w' ⟨he, hw⟩ => ⟨he, hw ▸ Below.refl _ _⟩
/-- .. its result behind a name. -/
theorem joinX (l : List ByteArray) (sep X : ByteArray) (v : Value) (F : Nat → Prop) (w : World) (hX : (⟨(Lib.join (l.map (·.data.toList)) sep.data.toList).toArray⟩ : ByteArray) = X) (hs : X.size ≤ 140737488355328) (hv : Sli strR w F l v) (hF : ∀ b, F b → b < w.heap.size) (hN : l.length ≤ 140737488355328) :
    Calls Tryz.prog 46 #[v, .string sep] w fun e w' => e = .returned (.string X) ∧ Below w.heap.size w w' := by
  subst hX
  exact join_c l sep v F w hv hF (by simpa [ByteArray.size] using hs) hN
theorem strLit (w : World) (l : List ByteArray) (cs : Array Value) (T n : Nat) (hcs : cs = (l.map Value.string).toArray) (hn : n = l.length) (hm : n ≤ 1000) : Sli strR (w.alloc (.cells cs T)) (fun b => b = w.heap.size) l (.slice (some ⟨w.heap.size, 0, none⟩) n n) := by
  subst hcs; subst hn
  refine Sli.new T l.length ⟨by rw [List.length_map]; show _ = _ * 1; omega, fun k x hx => ?_⟩ rfl (Nat.le_refl _) (by omega)
  show ((l.map Value.string).drop (k * 1)).take 1 = [.string x]
  obtain ⟨hk, rfl⟩ := List.getElem?_eq_some_iff.1 hx
  rw [Nat.mul_one, List.drop_eq_getElem_cons (by rw [List.length_map]; exact hk), List.take_succ_cons, List.take_zero, List.getElem_map]
end Go.Proofs.YtlfnmmnbfoimeaaGreatDoor

/- strings.Builder written, with what stands beside it kept: the library's contracts at this program. -/
namespace Go.Proofs.YtlfnmmnbfoimeaaGreatDoor
set_option linter.unusedVariables false
open Go.RowKit

end Go.Proofs.YtlfnmmnbfoimeaaGreatDoor

/- What a law's walk ends with. No law in sight. -/
namespace Go.Proofs.YtlfnmmnbfoimeaaGreatDoor
set_option linter.unusedVariables false
open Go.RowKit

theorem strNew (w : World) (A : Option Addr) (l : List Int) (c : Nat) (hr : Rs w 0 w.heap.size 1 intc A l) (hl : l.length ≤ 17592186044416) (ho : ∀ x ∈ l, okI x) :
    Str (w.alloc (.cells #[.slice A l.length c, .int .i64 0] 25)) w.heap.size 0 :=
  ⟨A, c, l, heap_alloc_new w _, Int.le_refl _, hr.alloc (Nat.le_refl _) _, hl, ho⟩
theorem gEnd {w w1 : World} {o : Obj} (h : (w.alloc o).grownBy w1 (some w.heap.size)) : Below w.heap.size w w1 :=
  ⟨h.os, h.tape, h.output, by have := h.size; simp at this; omega, fun i hi => (h.block i (by simp; omega) (by simp; omega)).trans (Below.heap_alloc w _ i hi)⟩
end Go.Proofs.YtlfnmmnbfoimeaaGreatDoor

/- The reference's small words on strings. -/
namespace Go.Proofs.YtlfnmmnbfoimeaaGreatDoor
set_option linter.unusedVariables false
open Go.RowKit

theorem trim_c (s cs : ByteArray) (w : World) (hs : s.size ≤ 140737488355328) (hcs : cs.size ≤ 1000) (ha : (cs.data.toList.all fun b => decide (b.toNat < 128)) = true) :
    Calls Tryz.prog 92 #[.string s, .string cs] w fun e w' => e = .returned (.string ⟨(Lib.trimS s.data.toList cs.data.toList).toArray⟩) ∧ Below w.heap.size w w' :=
  Any.strings_Trim_laid Tryz.lays160 (by kernel_rfl) s cs w (by omega) (by omega) (ascii_of_all ha)

theorem dropWhile_nil {p : UInt8 → Bool} {l : List UInt8} : l.dropWhile p = [] ↔ ∀ x ∈ l, p x = true := by
  induction l with
  | nil => simp
  | cons y l ih =>
    cases h : p y with
    | true => simp [h, ih]
    | false => simp [h]

theorem trimS_nil (l cs : List UInt8) : Lib.trimS l cs = [] ↔ l.all (cs.contains ·) = true := by
  unfold Lib.trimS Lib.trimLeftS Lib.trimRightS
  constructor
  · intro h
    have h1 : ∀ x ∈ (l.reverse.dropWhile (cs.contains ·)), cs.contains x = true := by
      have := dropWhile_nil.1 h
      simpa using this
    cases hd : l.reverse.dropWhile (cs.contains ·) with
    | nil =>
      have := dropWhile_nil.1 hd
      rw [List.all_eq_true]
      intro x hx
      exact this x (by simpa using hx)
    | cons y t =>
      have h2 := h1 y (by rw [hd]; simp)
      have h3 := List.head_dropWhile_not (p := (cs.contains ·)) (l := l.reverse) (by rw [hd]; simp)
      simp only [hd, List.head_cons] at h3
      rw [h3] at h2; cases h2
  · intro h
    rw [List.all_eq_true] at h
    have : l.reverse.dropWhile (cs.contains ·) = [] := dropWhile_nil.2 (fun x hx => h x (by simpa using hx))
    rw [this]; rfl

theorem toList_mk (l : List UInt8) : (⟨l.toArray⟩ : ByteArray).toList = l := by rw [ByteArray.toList_eq]

set_option maxHeartbeats 400000 in
theorem made_c (s cs : ByteArray) (w : World) (hs : s.size ≤ 140737488355328) (hcs : cs.size ≤ 1000) (ha : (cs.data.toList.all fun b => decide (b.toNat < 128)) = true) :
    Calls Tryz.prog 55 #[.string s, .string cs] w fun e w' => e = .returned (.bool (allB (cs.data.toList.contains ·) s)) ∧ Below w.heap.size w w' := by
  cases h : allB (cs.data.toList.contains ·) s with
  | true =>
    have h2 : (⟨(Lib.trimS s.data.toList cs.data.toList).toArray⟩ : ByteArray) = ⟨#[]⟩ := by rw [(trimS_nil _ _).2 h]
    have H := Lib.hid h2
    clear h2 h
    go_enter Tryz.func55, Tryz.ntmps55
    go_wp2_with fail
    refine (trim_c s cs _ hs hcs ha).mono ?_
    rintro e w' ⟨rfl, hb⟩
    rw [H.out]
    go_wp2
    go_ret
    exact ⟨rfl, hb⟩
  | false =>
    have h2 : (⟨(Lib.trimS s.data.toList cs.data.toList).toArray⟩ : ByteArray).toList.isEmpty = false := by
      rw [toList_mk]
      cases he : Lib.trimS s.data.toList cs.data.toList with
      | nil => rw [(trimS_nil _ _).1 he |> (show _ → allB (cs.data.toList.contains ·) s = true from id)] at h; cases h
      | cons y t => rfl
    have H := Lib.hid h2
    clear h2 h
    go_enter Tryz.func55, Tryz.ntmps55
    go_wp2_with fail
    refine (trim_c s cs _ hs hcs ha).mono ?_
    rintro e w' ⟨rfl, hb⟩
    generalize (⟨(Lib.trimS s.data.toList cs.data.toList).toArray⟩ : ByteArray) = t at H ⊢
    have h2 := H.out
    go_wp2
    go_ret
    exact ⟨rfl, hb⟩

set_option maxHeartbeats 400000 in
theorem long_c (s : ByteArray) (lo hi : Int) (w : World) (hs : s.size ≤ 140737488355328) :
    Calls Tryz.prog 53 #[.string s, .int .i64 lo, .int .i64 hi] w fun e w' => e = .returned (.bool (decide (lo ≤ s.size) && decide ((s.size : Int) ≤ hi))) ∧ w = w' := by
  by_cases h1 : lo ≤ (s.size : Int)
  all_goals
    go_enter Tryz.func53, Tryz.ntmps53
    go_wp2
    go_ret
    exact ⟨ret_bool (by first | (simp [h1]; done) | (simp; omega)), rfl⟩
end Go.Proofs.YtlfnmmnbfoimeaaGreatDoor

/- The shelf contracts that these proofs use, laid at this translation. -/
namespace Go.Proofs
open Go.Shelf

end Go.Proofs

/- Small laws on strings and bytes. No program in sight. -/
namespace Go.Proofs.YtlfnmmnbfoimeaaGreatDoor
set_option linter.unusedVariables false
open Go.RowKit

end Go.Proofs.YtlfnmmnbfoimeaaGreatDoor

/- The program's codes. -/
namespace Go.Proofs.YtlfnmmnbfoimeaaGreatDoor
set_option linter.unusedVariables false
open Go.RowKit Go.Sort

end Go.Proofs.YtlfnmmnbfoimeaaGreatDoor

/- A text cut at a byte, in plain words. No program in sight. -/
namespace Go.Proofs.YtlfnmmnbfoimeaaGreatDoor
set_option linter.unusedVariables false
open Go.RowKit

/-- Where a byte stands first; the length where it does not stand. -/
def cutI (s : ByteArray) (c : UInt8) : Nat := s.data.toList.findIdx (· == c)
def cutF (s : ByteArray) (c : UInt8) : Bool := decide (cutI s c < s.size)
def cutA (s : ByteArray) (c : UInt8) : ByteArray := s.extract 0 (cutI s c)
def cutB (s : ByteArray) (c : UInt8) : ByteArray := s.extract (cutI s c + 1) s.size
theorem cutB_size (s : ByteArray) (c : UInt8) : (cutB s c).size ≤ s.size := by unfold cutB; rw [ByteArray.size_extract]; omega
theorem idxB_no {s : ByteArray} {c : UInt8} (h : ¬ cutI s c < s.size) : Lib.indexByte s.data.toList c = -1 := by
  by_cases h1 : Lib.indexByte s.data.toList c = -1
  · exact h1
  · exfalso
    have hg := Lib.indexByte_ge s.data.toList c
    obtain ⟨o, ho⟩ := Int.eq_ofNat_of_zero_le (show 0 ≤ Lib.indexByte s.data.toList c by omega)
    obtain ⟨h2, _⟩ := Lib.indexByte_some ho
    obtain ⟨hlt, h3⟩ := List.getElem?_eq_some_iff.1 h2
    exact h (by
      have h4 : cutI s c < s.data.toList.length := List.findIdx_lt_length_of_exists ⟨c, by rw [← h3]; exact List.getElem_mem hlt, by simp⟩
      simpa using h4)
theorem idxB_yes {s : ByteArray} {c : UInt8} (h : cutI s c < s.size) : Lib.indexByte s.data.toList c = (cutI s c : Int) := by
  have hl : cutI s c < s.data.toList.length := by simpa using h
  have hg := Lib.indexByte_ge s.data.toList c
  have hc : s.data.toList[cutI s c] = c := by have := List.findIdx_getElem (p := (· == c)) (w := hl); exact eq_of_beq this
  have hne : Lib.indexByte s.data.toList c ≠ -1 := fun e => Lib.indexByte_none e (cutI s c) (by rw [List.getElem?_eq_getElem hl, hc])
  obtain ⟨o, ho⟩ := Int.eq_ofNat_of_zero_le (show 0 ≤ Lib.indexByte s.data.toList c by omega)
  obtain ⟨h2, h3⟩ := Lib.indexByte_some ho
  obtain ⟨hlt, h4⟩ := List.getElem?_eq_some_iff.1 h2
  rcases Nat.lt_trichotomy o (cutI s c) with h5 | h5 | h5
  · have := List.not_of_lt_findIdx (p := (· == c)) (xs := s.data.toList) h5
    simp [h4] at this
  · rw [ho, h5]
  · exact absurd (by rw [List.getElem?_eq_getElem hl, hc]) (h3 _ h5)
theorem extract_list' (s : ByteArray) (a b : Nat) : (s.extract a b).data.toList = (s.data.toList.drop a).take (b - a) := by simp
theorem ba_ext {a b : ByteArray} (h : a.data.toList = b.data.toList) : a = b := by
  rcases a with ⟨⟨a⟩⟩; rcases b with ⟨⟨b⟩⟩; simp at h; rw [h]
end Go.Proofs.YtlfnmmnbfoimeaaGreatDoor

/- strings.Cut at one byte, for every string. -/
namespace Go.Proofs.YtlfnmmnbfoimeaaGreatDoor
set_option linter.unusedVariables false
open Go.RowKit

end Go.Proofs.YtlfnmmnbfoimeaaGreatDoor

/- Numerals read by the program and by the reference. -/
namespace Go.Proofs.YtlfnmmnbfoimeaaGreatDoor
set_option linter.unusedVariables false
open Go.RowKit Go.Sort

/-- The table of powers of ten lies where it was laid. -/
def PowLaid (w : World) : Prop := Lib.TabIs Tryz.prog w "internal/strconv.uint64pow10" .u64 Lib.pow10Tab
theorem pow_below {w w' : World} {B : Nat} (h : PowLaid w) (hb : Below B w w') (hB : w.heap.size ≤ B) : PowLaid w' :=
  Joins.tab_stays (g := 7) (by kernel_rfl) h hb hB
theorem below_grow {w w' : World} {k : Nat} {os : Array Obj} (h : w' = grow (w.drewN k) os) : Below w.heap.size w w' := by
  subst h
  exact below_regrown w (w.drawn + k) os
theorem itoa_c (n : Int) (w : World) (hn : okI n) (hp : PowLaid w) : Calls Tryz.prog 72 #[.int .i64 n] w fun e w' => e = .returned (.string ⟨(Lib.itoa n).toArray⟩) ∧ Below w.heap.size w w' :=
  (Any.strconv_Itoa Tryz.laysM171 n hn.1 hn.2 w hp).mono fun _ _ ⟨he, k, os, hw⟩ => ⟨he, below_grow hw⟩

theorem mk_size (l : List UInt8) : (⟨l.toArray⟩ : ByteArray).size = l.length := rfl
end Go.Proofs.YtlfnmmnbfoimeaaGreatDoor

/- The generator's changed texts and frames. -/
namespace Go.Proofs.YtlfnmmnbfoimeaaGreatDoor
set_option linter.unusedVariables false
open Go.RowKit Go.Sort

end Go.Proofs.YtlfnmmnbfoimeaaGreatDoor

/- The generator's numbers of scenes and setups. -/
namespace Go.Proofs.YtlfnmmnbfoimeaaGreatDoor
set_option linter.unusedVariables false
open Go.RowKit Go.Sort

theorem oneOf {l : List ByteArray} {x : ByteArray} {n : Nat} (h : (l.all fun x => decide (x.size ≤ n)) = true) (hx : x ∈ l) : x.size ≤ n := by
  rw [List.all_eq_true] at h; simpa using h x hx
end Go.Proofs.YtlfnmmnbfoimeaaGreatDoor

/- Digests: the program's and the reference's. -/
namespace Go.Proofs.YtlfnmmnbfoimeaaGreatDoor
set_option linter.unusedVariables false
open Go.RowKit Go.Sort

end Go.Proofs.YtlfnmmnbfoimeaaGreatDoor

/- The program's names of files, and copies checked. -/
namespace Go.Proofs.YtlfnmmnbfoimeaaGreatDoor
set_option linter.unusedVariables false
open Go.RowKit

theorem idx_set (set : List UInt8) (c : UInt8) : (set.contains c = true → 0 ≤ Lib.indexByte set c) ∧ (set.contains c = false → Lib.indexByte set c < 0) := by
  have hg := Lib.indexByte_ge set c
  constructor
  · intro h
    by_cases h1 : Lib.indexByte set c = -1
    · have hm : c ∈ set := by simpa using h
      obtain ⟨k, hk, e⟩ := List.mem_iff_getElem.1 hm
      exact absurd (by rw [List.getElem?_eq_getElem hk, e]) (Lib.indexByte_none h1 k)
    · omega
  · intro h
    by_cases h1 : 0 ≤ Lib.indexByte set c
    · obtain ⟨o, ho⟩ := Int.eq_ofNat_of_zero_le h1
      obtain ⟨h2, _⟩ := Lib.indexByte_some ho
      have : c ∈ set := List.mem_of_getElem? h2
      simp at h; exact absurd this h
    · omega
/-- strings.IndexByte: below 0 just where the byte is none of the set. -/
theorem idxB_c (set : ByteArray) (c : UInt8) (w : World) : Calls Tryz.prog 124 #[.string set, .int .u8 (c.toNat : Int)] w fun e w' => e = .returned (.int .i64 (Lib.indexByte set.data.toList c)) ∧ w = w' := by
  refine (Tryz.strings_IndexByte set (c.toNat : Int) w).mono ?_
  rintro e w' ⟨he, hw⟩
  refine ⟨?_, hw.symm⟩
  rw [he]
  have : ((c.toNat : Int)).toNat.toUInt8 = c := by simp
  rw [this]

end Go.Proofs.YtlfnmmnbfoimeaaGreatDoor

/- Lists of copies checked, and manifests made. -/
namespace Go.Proofs.YtlfnmmnbfoimeaaGreatDoor
set_option linter.unusedVariables false
open Go.RowKit

end Go.Proofs.YtlfnmmnbfoimeaaGreatDoor

/- Slices compared and looked through; the reference's names of files. -/
namespace Go.Proofs.YtlfnmmnbfoimeaaGreatDoor
set_option linter.unusedVariables false
open Go.RowKit

theorem strAt {w : World} {F : Nat → Prop} {l : List ByteArray} {A : Option Addr} {n c : Nat} (h : Sli strR w F l (.slice A n c)) (k : Nat) (hk : k < l.length) : ∃ b off, A = some ⟨b, off, none⟩ ∧ F b ∧ w.cell? ⟨b, off + k, none⟩ = some (.string l[k]) := by
  obtain ⟨b, off, a, e, hb, hr, hc⟩ := h.at_ k hk
  have ha : a = [.string l[k]] := hr
  subst ha
  refine ⟨b, off, e, hb, ?_⟩
  have h := hc 0 _ rfl
  rw [show off + k * strR.n + 0 = off + k from by show off + k * 1 + 0 = _; omega] at h
  exact h
instance : DecidableEq Copied := fun a b => decidable_of_iff (a.eqB b = true) Copied.eqB_iff
set_option maxHeartbeats 800000 in
theorem idxStr_c (l : List ByteArray) (s : ByteArray) (v : Value) (F : Nat → Prop) (w : World) (h1 : Sli strR w F l v) :
    Calls Tryz.prog 107 #[v, .string s] w fun e w' => e = .returned (.int .i64 (idxV (l.findIdx? fun y => decide (y = s)))) ∧ w = w' := by
  obtain ⟨A1, c1, rfl, hlc1, hc1⟩ := h1.form
  have H1 := Lib.hid h1; clear h1
  go_enter Tryz.func107, Tryz.ntmps107
  go_wp2
  go_loop [8] (fun i => ∃ k : Nat, k ≤ l.length ∧ i = .int .i64 k ∧ Hid (∀ x ∈ l.take k, decide (x = s) = false)) (fun i => l.length - (intOf i).toNat)
  case atStart => exact ⟨0, Nat.zero_le _, rfl, by intro x hx; simp at hx⟩
  case round =>
    obtain ⟨k, hk, rfl, HT⟩ := hrel
    by_cases hlt : k < l.length
    · obtain ⟨b, off, rfl, hfb, c0⟩ := strAt H1.out k hlt
      by_cases he : l[k] = s
      · have H := Lib.hid (findIdx_at (p := fun y => decide (y = s)) HT.out hlt (by simpa using he))
        rw [he] at c0
        clear he
        go_wp2
        go_ret
        exact ⟨by rw [H.out]; rfl, rfl⟩
      · have HN := Lib.hid (take_next (q := fun y => decide (y = s) = false) hlt HT.out (by simpa using he))
        generalize l[k] = x at *
        have hq : (s.toList == x.toList) = false := by rw [beqS]; simpa using (fun e => he e.symm)
        go_wp2
        go_round
        case rel => exact ⟨k + 1, by omega, intNum, HN.out⟩
        case measure => simp [intOf]; omega
    · have H := Lib.hid (findIdx_no (take_all hlt HT.out))
      go_wp2
      go_ret
      exact ⟨by rw [H.out]; rfl, rfl⟩
theorem contains_c (l : List ByteArray) (s : ByteArray) (v : Value) (F : Nat → Prop) (w : World) (h1 : Sli strR w F l v) :
    Calls Tryz.prog 106 #[v, .string s] w fun e w' => e = .returned (.bool (l.any fun y => decide (y = s))) ∧ w = w' := by
  have HC := Lib.hid (idxStr_c l s v F w h1); clear h1
  cases h : l.findIdx? (fun y => decide (y = s)) with
  | none =>
    have HV := Lib.hid (show (l.any fun y => decide (y = s)) = false by rw [List.findIdx?_eq_none_iff] at h; rw [List.any_eq_false]; intro x hx; simp [h x hx])
    rw [h] at HC
    go_enter Tryz.func106, Tryz.ntmps106
    go_wp2_with fail
    refine HC.out.mono ?_
    rintro e w' ⟨rfl, rfl⟩
    rw [show idxV none = -1 from rfl]
    go_wp2
    go_ret
    exact ⟨ret_bool (by rw [HV.out]), rfl⟩
  | some i =>
    have HV := Lib.hid (show (l.any fun y => decide (y = s)) = true by
      obtain ⟨hi, hp, _⟩ := List.findIdx?_eq_some_iff_getElem.1 h
      rw [List.any_eq_true]; exact ⟨_, List.getElem_mem hi, hp⟩)
    rw [h] at HC
    go_enter Tryz.func106, Tryz.ntmps106
    go_wp2_with fail
    refine HC.out.mono ?_
    rintro e w' ⟨rfl, rfl⟩
    rw [show idxV (some i) = (i : Int) from rfl]
    have : (0 : Int) ≤ (i : Int) := by omega
    go_wp2
    go_ret
    exact ⟨ret_bool (by rw [HV.out]), rfl⟩

end Go.Proofs.YtlfnmmnbfoimeaaGreatDoor

/- Lists of whole numbers compared: the library's, walked. -/
namespace Go.Proofs.YtlfnmmnbfoimeaaGreatDoor
set_option linter.unusedVariables false
open Go.RowKit

theorem intAt {w : World} {F : Nat → Prop} {l : List Int} {A : Option Addr} {n c : Nat} (h : Sli intR w F l (.slice A n c)) (k : Nat) (hk : k < l.length) : ∃ b off, A = some ⟨b, off, none⟩ ∧ F b ∧ w.cell? ⟨b, off + k, none⟩ = some (.int .i64 l[k]) := by
  obtain ⟨b, off, a, e, hb, hr, hc⟩ := h.at_ k hk
  have ha : a = [.int .i64 l[k]] := hr
  subst ha
  refine ⟨b, off, e, hb, ?_⟩
  have h := hc 0 _ rfl
  rw [show off + k * intR.n + 0 = off + k from by show off + k * 1 + 0 = _; omega] at h
  exact h
end Go.Proofs.YtlfnmmnbfoimeaaGreatDoor

/- What the library has laid, kept beside a stream; Atoi and Itoa there. -/
namespace Go.Proofs.YtlfnmmnbfoimeaaGreatDoor
set_option linter.unusedVariables false
open Go.RowKit Go.Sort

theorem pow_block {w w' : World} (h : PowLaid w) (hk : w'.heap[7]? = w.heap[7]?) : PowLaid w' := by
  unfold PowLaid Lib.TabIs World.var? at *
  rw [show Tryz.prog.globalNamed "internal/strconv.uint64pow10" = some 7 by kernel_rfl] at *
  simp only [Option.bind_some] at *
  rw [hk]; exact h
theorem pow_lt {w : World} (h : PowLaid w) : 7 < w.heap.size := by
  unfold PowLaid Lib.TabIs World.var? at h
  rw [show Tryz.prog.globalNamed "internal/strconv.uint64pow10" = some 7 by kernel_rfl] at h
  simp only [Option.bind_some] at h
  rcases Nat.lt_or_ge 7 w.heap.size with h' | h'
  · exact h'
  · simp [Array.getElem?_eq_none h'] at h
/-- The library's errors and its table of powers lie as they were laid, below the stream's block. -/
def LaidS (sb : Nat) (w : World) : Prop := ErrsLaid w ∧ PowLaid w ∧ 3 < sb ∧ 4 < sb ∧ 7 < sb
section
variable {w w' : World} {sb : Nat}
theorem LaidS.start (he : ErrsLaid w) (hp : PowLaid w) : LaidS w.heap.size w := ⟨he, hp, he.2.2.1, he.2.2.2, pow_lt hp⟩
theorem LaidS.keep (h : LaidS sb w) (hs : w.heap.size ≤ w'.heap.size) (hk : ∀ b, b < sb → w'.heap[b]? = w.heap[b]?) : LaidS sb w' :=
  ⟨h.1.keep hs (World.cell?_of_block (hk _ h.2.2.1)) (World.cell?_of_block (hk _ h.2.2.2.1)), pow_block h.2.1 (hk _ h.2.2.2.2), h.2.2⟩
theorem LaidS.grown (h : LaidS sb w) (hlt : sb < w.heap.size) (hg : w.grownBy w' (some sb)) : LaidS sb w' := h.keep hg.size fun b hb => hg.block b (by omega) (by simp; omega)
theorem LaidS.below {B : Nat} (h : LaidS sb w) (hb : Below B w w') (hB : sb ≤ B) : LaidS sb w' := h.keep hb.size fun b hlt => hb.block b (by omega)
theorem LaidS.alloc (h : LaidS sb w) (hlt : sb ≤ w.heap.size) (o : Obj) : LaidS sb (w.alloc o) := h.keep (by simp) fun b hb => Below.heap_alloc w o b (by omega)
theorem LaidS.errs (h : LaidS sb w) : ErrsLaid w := h.1
theorem LaidS.pow (h : LaidS sb w) : PowLaid w := h.2.1
end
def AtoiO (s : ByteArray) (w : World) (e : Ending) (w' : World) : Prop := ∃ n ev, okI n ∧ AtoiP s n ev ∧ e = .returned (.tuple #[.int .i64 n, ev]) ∧ Below w.heap.size w w'
theorem atoi_o (s : ByteArray) (w : World) (hs : s.size ≤ 140737488355328) (hl : ErrsLaid w) : Calls Tryz.prog 74 #[.string s] w (AtoiO s w) := by
  obtain ⟨⟨t1, p1, h1⟩, ⟨t2, p2, h2⟩, _, _⟩ := hl
  cases h : Lib.atoiAll s.data.toList
  case ok v =>
    refine (Any.strconv_Atoi_ok Tryz.laysC172 s (by omega) v h w).mono ?_
    rintro e w' ⟨he, hw⟩
    refine ⟨v, _, atoi_bd h, .inl ⟨h, rfl⟩, he, ?_⟩
    rcases hw with rfl | ⟨t, rfl⟩
    · exact Below.refl _ _
    · exact Joins.below_bytesWorld _ _ _ _ (Nat.le_refl _)
  · refine (Any.strconv_Atoi_syntax Tryz.laysC172 s (by omega) h _ w h1 (.inr ⟨_, _, rfl⟩)).mono ?_
    rintro e w' ⟨N, he, _, _, hb⟩
    exact ⟨_, _, by unfold okI; omega, .inr ⟨(fun v hv => by rw [h] at hv; cases hv), _, _, rfl⟩, he, hb⟩
  · refine (Any.strconv_Atoi_range Tryz.laysC172 s (by omega) h _ w h2 (.inr ⟨_, _, rfl⟩)).mono ?_
    rintro e w' ⟨N, he, _, _, hb⟩
    exact ⟨_, _, by unfold okI Lib.atoiSat; split <;> omega, .inr ⟨(fun v hv => by rw [h] at hv; cases hv), _, _, rfl⟩, he, hb⟩
theorem itoa_sz (n : Int) (h : okI n) : (⟨(Lib.itoa n).toArray⟩ : ByteArray).size ≤ 21 := by
  have := Lib.itoa_length_le n h.1 h.2
  show (Lib.itoa n).toArray.size ≤ 21
  simpa using this
end Go.Proofs.YtlfnmmnbfoimeaaGreatDoor

/- The number of a scene, and a setup, in plain words. -/
namespace Go.Proofs.YtlfnmmnbfoimeaaGreatDoor
set_option linter.unusedVariables false
open Go.RowKit

def digB (c : UInt8) : Bool := decide (48 ≤ c.toNat) && decide (c.toNat ≤ 57)
def capB (c : UInt8) : Bool := decide (65 ≤ c.toNat) && decide (c.toNat ≤ 90)
def numK (s : ByteArray) : Nat := (s.data.toList.takeWhile digB).length
def numB (s : ByteArray) : Bool :=
  (s.data.toList.drop (numK s)).all capB && decide (s.size - numK s ≤ 5) && !Lib.hasSuffix (s.data.toList.drop (numK s)) [65]
    && (if s.data.toList.take (numK s) = [48] then decide (numK s < s.size) else decide (1 ≤ numK s) && decide (numK s ≤ 3) && decide (s.data.toList.head? ≠ some 48))

theorem takeWhile_len {p : UInt8 → Bool} {l : List UInt8} {k : Nat} (h : ∀ x ∈ l.take k, p x = true) (hk : k ≤ l.length) (he : ∀ hlt : k < l.length, p l[k] = false) : (l.takeWhile p).length = k := by
  induction l generalizing k with
  | nil => simp at hk; simp [hk]
  | cons y l ih =>
    cases k with
    | zero => have := he (by simp); simp at this; simp [this]
    | succ k =>
      have h0 : p y = true := h y (by simp)
      have := ih (k := k) (fun x hx => h x (by simp [hx])) (by simpa using hk) (fun hlt => he (Nat.succ_lt_succ hlt))
      simp [h0, this]
theorem numK_eq {s : ByteArray} {k : Nat} (h : ∀ x ∈ s.data.toList.take k, digB x = true) (hk : k ≤ s.size) (he : ∀ hlt : k < s.size, digB s[k] = false) : numK s = k :=
  takeWhile_len h (by simpa using hk) (fun hlt => he (by simpa using hlt))
theorem extract_list (s : ByteArray) (a b : Nat) : (s.extract a b).data.toList = (s.data.toList.drop a).take (b - a) := by
  simp
theorem extract_end (s : ByteArray) (k : Nat) : (s.extract k s.size).data.toList = s.data.toList.drop k := by
  rw [extract_list, List.take_of_length_le]
  simp

end Go.Proofs.YtlfnmmnbfoimeaaGreatDoor

/- Plain texts, in plain words: joined words against no blanks beside blanks. No program in sight. -/
namespace Go.Proofs.YtlfnmmnbfoimeaaGreatDoor
set_option linter.unusedVariables false
open Go.RowKit

/-- The words of a text: what stands between blanks. -/
def wordsA : List UInt8 → List UInt8 → List (List UInt8)
  | [], cur => if cur = [] then [] else [cur]
  | c :: l, cur => if c = 32 then (if cur = [] then wordsA l [] else cur :: wordsA l []) else wordsA l (cur ++ [c])
def joinW : List (List UInt8) → List UInt8
  | [] => []
  | [w] => w
  | w :: v :: r => w ++ 32 :: joinW (v :: r)
/-- No blank behind a blank, none at the end. -/
def okA : Bool → List UInt8 → Bool
  | prev, [] => !prev
  | prev, c :: l => if c = 32 then (if prev then false else okA true l) else okA false l
theorem joinW_cons (w : List UInt8) (r : List (List UInt8)) : joinW (w :: r) = if r = [] then w else w ++ 32 :: joinW r := by
  cases r with
  | nil => rfl
  | cons v r => rfl
theorem wordsA_ne (l : List UInt8) : ∀ cur, cur ≠ [] → wordsA l cur ≠ [] := by
  induction l with
  | nil => intro cur h; simp [wordsA, h]
  | cons c l ih =>
    intro cur h
    unfold wordsA
    by_cases hc : c = 32
    · rw [if_pos hc, if_neg h]; simp
    · rw [if_neg hc]; exact ih _ (by simp)
theorem join_len (l : List UInt8) : ∀ cur, (joinW (wordsA l cur)).length ≤ cur.length + l.length := by
  induction l with
  | nil => intro cur; by_cases h : cur = [] <;> simp [wordsA, h, joinW]
  | cons c l ih =>
    intro cur
    unfold wordsA
    by_cases hc : c = 32
    · rw [if_pos hc]
      have h1 := ih []
      by_cases h : cur = []
      · rw [if_pos h]; simp at h1 ⊢; omega
      · rw [if_neg h, joinW_cons]
        split
        · simp
        · simp at h1 ⊢; omega
    · rw [if_neg hc]
      have := ih (cur ++ [c])
      simp at this ⊢; omega
theorem join_ok (l : List UInt8) : (∀ cur, cur ≠ [] → (joinW (wordsA l cur) = cur ++ l ↔ okA false l = true)) ∧ ((wordsA l [] ≠ [] ∧ joinW (wordsA l []) = l) ↔ okA true l = true) := by
  induction l with
  | nil =>
    refine ⟨fun cur h => ?_, ?_⟩
    · simp [wordsA, h, joinW, okA]
    · simp [wordsA, okA]
  | cons c l ih =>
    obtain ⟨ihA, ihB⟩ := ih
    refine ⟨fun cur h => ?_, ?_⟩
    · unfold wordsA okA
      by_cases hc : c = 32
      · rw [if_pos hc, if_neg h, if_pos hc, joinW_cons]
        simp only [Bool.false_eq_true, if_false]
        rw [← ihB]
        by_cases hw : wordsA l [] = []
        · rw [if_pos hw]; simp [hw]
        · rw [if_neg hw, hc]
          simp [hw]
      · rw [if_neg hc, if_neg hc, ← ihA (cur ++ [c]) (by simp)]; simp
    · unfold wordsA okA
      by_cases hc : c = 32
      · rw [if_pos hc, if_pos rfl, if_pos hc]
        simp only [if_true, Bool.false_eq_true, iff_false, not_and]
        intro _ h
        have := join_len l []
        rw [h] at this
        simp at this
        omega
      · rw [if_neg hc, if_neg hc, List.nil_append, ← ihA [c] (by simp)]
        constructor
        · rintro ⟨_, h⟩; exact h
        · intro h; exact ⟨wordsA_ne l _ (by simp), h⟩
def plainL (l : List UInt8) : Bool := decide (l = []) || okA true l
/-- What the reference asks. -/
theorem plain_join (l : List UInt8) : joinW (wordsA l []) = l ↔ plainL l = true := by
  unfold plainL
  cases l with
  | nil => simp [wordsA, joinW]
  | cons c l =>
    have h := (join_ok (c :: l)).2
    simp only [Bool.or_eq_true, decide_eq_true_eq, reduceCtorEq, false_or]
    rw [← h]
    constructor
    · intro he
      refine ⟨fun hw => ?_, he⟩
      rw [hw] at he; cases he
    · exact fun h => h.2
def dblB : List UInt8 → Bool
  | [] => false
  | [_] => false
  | a :: b :: l => (a == 32 && b == 32) || dblB (b :: l)
def sufB : List UInt8 → Bool
  | [] => false
  | [a] => a == 32
  | _ :: b :: l => sufB (b :: l)
/-- What the program asks. -/
theorem okA_prog (l : List UInt8) : ∀ prev c, okA prev (c :: l) = (!dblB (c :: l) && !(prev && c == 32) && !sufB (c :: l)) := by
  induction l with
  | nil =>
    intro prev c
    by_cases hc : c = 32
    · cases prev <;> simp [okA, dblB, sufB, hc]
    · cases prev <;> simp [okA, dblB, sufB, hc]
  | cons d l ih =>
    intro prev c
    by_cases hc : c = 32
    · cases prev
      · rw [okA, if_pos hc]
        simp only [Bool.false_eq_true, if_false]
        rw [ih true d]
        have e : (c == 32) = true := by rw [hc]; rfl
        simp only [dblB, sufB, e, Bool.true_and, Bool.false_and, Bool.not_false, Bool.and_true]
        generalize dblB (d :: l) = x
        generalize sufB (d :: l) = y
        generalize (d == 32) = z
        cases x <;> cases y <;> cases z <;> rfl
      · have e : (c == 32) = true := by rw [hc]; rfl
        simp [okA, hc]
    · rw [okA, if_neg hc, ih false d]
      have e : (c == 32) = false := beq_eq_false_iff_ne.2 hc
      simp only [dblB, sufB, e, Bool.false_and, Bool.and_false, Bool.not_false, Bool.and_true, Bool.false_or]
theorem contains_cons (b : UInt8) (l sub : List UInt8) : Lib.contains (b :: l) sub = (sub.isPrefixOf (b :: l) || Lib.contains l sub) := by
  unfold Lib.contains
  have hg := Lib.index_ge l sub
  rw [Lib.index]
  cases h : sub.isPrefixOf (b :: l) with
  | true => simp
  | false =>
    simp only [Bool.false_eq_true, if_false, Bool.false_or]
    by_cases h1 : Lib.index l sub = -1
    · rw [h1]; rfl
    · rw [if_neg (by simpa using h1), decide_eq_decide]; omega
theorem beqC (a b : UInt8) : (a == b) = (b == a) := by
  rw [show (a == b) = decide (a = b) from rfl, show (b == a) = decide (b = a) from rfl, decide_eq_decide]
  exact ⟨fun h => h.symm, fun h => h.symm⟩
theorem dbl_contains (l : List UInt8) : Lib.contains l [32, 32] = dblB l := by
  induction l with
  | nil => rfl
  | cons a l ih =>
    rw [contains_cons, ih]
    cases l with
    | nil => simp [List.isPrefixOf, dblB]
    | cons b l =>
      simp only [List.isPrefixOf, dblB, Bool.and_true]
      have e1 : ((32 : UInt8) == a) = (a == 32) := beqC 32 a
      have e2 : ((32 : UInt8) == b) = (b == 32) := beqC 32 b
      rw [e1, e2]
theorem suf_has (l : List UInt8) : Lib.hasSuffix l [32] = sufB l := by
  unfold Lib.hasSuffix
  rw [Bool.eq_iff_iff, List.isSuffixOf_iff_suffix]
  induction l with
  | nil => simp [sufB]
  | cons a l ih =>
    rw [List.suffix_cons_iff, ih]
    cases l with
    | nil => simp [sufB]; exact eq_comm
    | cons b l => simp [sufB]
theorem pre_has (l : List UInt8) : Lib.hasPrefix l [32] = decide (l.head? = some 32) := by
  unfold Lib.hasPrefix
  cases l with
  | nil => rfl
  | cons a l =>
    show ((32 : UInt8) == a && List.isPrefixOf [] l) = _
    rw [show List.isPrefixOf ([] : List UInt8) l = true by cases l <;> rfl, Bool.and_true, List.head?_cons]
    rw [show ((32 : UInt8) == a) = decide ((32 : UInt8) = a) from rfl, decide_eq_decide]
    constructor
    · intro h; rw [h]
    · intro h; injection h with h; exact h.symm
/-- The two ways to ask for no blanks beside blanks. -/
theorem plain_prog (l : List UInt8) : plainL l = (!Lib.hasPrefix l [32] && !Lib.hasSuffix l [32] && !Lib.contains l [32, 32]) := by
  rw [dbl_contains, suf_has, pre_has]
  unfold plainL
  cases l with
  | nil => rfl
  | cons c l =>
    rw [okA_prog]
    simp only [reduceCtorEq, decide_false, Bool.false_or, List.head?_cons, Option.some.injEq, Bool.true_and]
    have e : (c == 32) = decide (c = 32) := rfl
    generalize dblB (c :: l) = x
    generalize sufB (c :: l) = y
    by_cases hc : c = 32
    · simp [hc]
    · have e : (c == 32) = false := beq_eq_false_iff_ne.2 hc
      simp only [e, hc, decide_false]; cases x <;> cases y <;> rfl
/-- All bytes from 32 to 126. -/
def prB (c : UInt8) : Bool := decide (32 ≤ c.toNat) && decide (c.toNat ≤ 126)
def plainB (s : ByteArray) : Bool := allB prB s && plainL s.data.toList
end Go.Proofs.YtlfnmmnbfoimeaaGreatDoor

/- Reading slates, in plain words. No program in sight. -/
namespace Go.Proofs.YtlfnmmnbfoimeaaGreatDoor
set_option linter.unusedVariables false
open Go.RowKit

theorem empty_iff (s : ByteArray) : s.toList.isEmpty = true ↔ s = ⟨#[]⟩ := by
  rw [ByteArray.toList_eq]
  constructor
  · intro h; exact ba_ext (by simpa using h)
  · rintro rfl; rfl
end Go.Proofs.YtlfnmmnbfoimeaaGreatDoor

/- cmp.Or at two errors. -/
namespace Go.Proofs.YtlfnmmnbfoimeaaGreatDoor
set_option linter.unusedVariables false
open Go.RowKit

def orE (a b : Int) : Int := if a = 0 then b else a
set_option maxHeartbeats 400000 in
theorem orE_c (a b : Int) (B c : Nat) (w : World) (h0 : w.cell? ⟨B, 0, none⟩ = some (.int .i64 a)) (h1 : w.cell? ⟨B, 1, none⟩ = some (.int .i64 b)) :
    Calls Tryz.prog 30 #[.slice (some ⟨B, 0, none⟩) 2 c] w fun e w' => e = .returned (.int .i64 (orE a b)) ∧ w = w' := by
  by_cases ha : a = 0
  · have HV := Lib.hid (show orE a b = b from if_pos ha)
    subst ha
    by_cases hb : b = 0
    · subst hb
      go_enter Tryz.func30, Tryz.ntmps30
      go_wp2
      go_loop [8] (fun i => ∃ k : Nat, k ≤ 2 ∧ i = .int .i64 k) (fun i => 2 - (intOf i).toNat)
      case atStart => exact ⟨0, Nat.zero_le _, rfl⟩
      case round =>
        obtain ⟨k, hk, rfl⟩ := hrel
        have : k = 0 ∨ k = 1 ∨ k = 2 := by omega
        rcases this with rfl | rfl | rfl
        · go_wp2
          go_round
          case rel => exact ⟨1, by omega, rfl⟩
          case measure => decide
        · go_wp2
          go_round
          case rel => exact ⟨2, by omega, rfl⟩
          case measure => decide
        · go_wp2
          go_ret
          exact ⟨ret_int HV.out.symm, rfl⟩
    · go_enter Tryz.func30, Tryz.ntmps30
      go_wp2
      go_loop [8] (fun i => ∃ k : Nat, k ≤ 1 ∧ i = .int .i64 k) (fun i => 2 - (intOf i).toNat)
      case atStart => exact ⟨0, Nat.zero_le _, rfl⟩
      case round =>
        obtain ⟨k, hk, rfl⟩ := hrel
        have : k = 0 ∨ k = 1 := by omega
        rcases this with rfl | rfl
        · go_wp2
          go_round
          case rel => exact ⟨1, by omega, rfl⟩
          case measure => decide
        · go_wp2
          go_ret
          exact ⟨ret_int HV.out.symm, rfl⟩
  · have HV := Lib.hid (show orE a b = a from if_neg ha)
    go_enter Tryz.func30, Tryz.ntmps30
    go_wp2
    go_loop [8] (fun i => i = .int .i64 0) (fun i => 2 - (intOf i).toNat)
    case atStart => rfl
    case round =>
      obtain rfl := hrel
      go_wp2
      go_ret
      exact ⟨ret_int HV.out.symm, rfl⟩
end Go.Proofs.YtlfnmmnbfoimeaaGreatDoor

/- Takes as they lie in memory. No program in sight. -/
namespace Go.Proofs.YtlfnmmnbfoimeaaGreatDoor
set_option linter.unusedVariables false
open Go.RowKit

end Go.Proofs.YtlfnmmnbfoimeaaGreatDoor

/- The next number and the next setup in plain words. No program in sight. -/
namespace Go.Proofs.YtlfnmmnbfoimeaaGreatDoor
set_option linter.unusedVariables false
open Go.RowKit

end Go.Proofs.YtlfnmmnbfoimeaaGreatDoor

/- The cells of a take in a list of takes; the greater and the lesser of two numbers. No program in sight. -/
namespace Go.Proofs.YtlfnmmnbfoimeaaGreatDoor
set_option linter.unusedVariables false
open Go.RowKit

def maxI (x y : Int) : Int := if y > x then y else x
theorem run_max {P : Program} (ats : Array TypeId) (ty : TypeId) (x y : Int) (w : World) : (Builtin.max_ ats ty #[.int .i64 x, .int .i64 y]).run P w = .ok (.int .i64 (maxI x y)) w := rfl
theorem maxI_eq (x y : Int) : maxI x y = max x y := by unfold maxI; split <;> omega
end Go.Proofs.YtlfnmmnbfoimeaaGreatDoor

/- How many scenes each set has, in plain words. No program in sight. -/
namespace Go.Proofs.YtlfnmmnbfoimeaaGreatDoor
set_option linter.unusedVariables false
open Go.RowKit

instance memBA (s : ByteArray) (a : List ByteArray) : Decidable (s ∈ a) := decidable_of_iff (∃ x ∈ a, x = s) (by simp)
end Go.Proofs.YtlfnmmnbfoimeaaGreatDoor

/- The error of a take that is written, in plain words. No program in sight. -/
namespace Go.Proofs.YtlfnmmnbfoimeaaGreatDoor
set_option linter.unusedVariables false
open Go.RowKit

end Go.Proofs.YtlfnmmnbfoimeaaGreatDoor

/- The words of a text, in plain words. No program in sight. -/
namespace Go.Proofs.YtlfnmmnbfoimeaaGreatDoor
set_option linter.unusedVariables false
open Go.RowKit

def lowB (c : UInt8) : Bool := decide (97 ≤ c.toNat) && decide (c.toNat ≤ 122)
/-- A letter or a figure. -/
def alnB (c : UInt8) : Bool := capB c || lowB c || digB c
def inWB (c : UInt8) : Bool := alnB c || c == 39
def loC (c : UInt8) : UInt8 := if capB c = true then c + 32 else c
def wdOk (cur : List UInt8) : Bool := cur.any fun c => c != 39
def flW (cur : List UInt8) : List ByteArray := if wdOk cur = true then [⟨cur.toArray⟩] else []
/-- The words of what is left of a text, where these bytes of a word are at hand. -/
def wdS : List UInt8 → List UInt8 → List ByteArray
  | cur, [] => flW cur
  | cur, c :: r => if inWB c = true then wdS (cur ++ [loC c]) r else flW cur ++ wdS [] r
def wordsT (s : ByteArray) : List ByteArray := wdS [] s.data.toList
theorem flW_len (cur : List UInt8) : (flW cur).length ≤ 1 := by unfold flW; split <;> simp
theorem wdS_len : ∀ (r cur : List UInt8), (wdS cur r).length ≤ r.length + 1
  | [], cur => by rw [wdS]; exact flW_len cur
  | c :: r, cur => by
    rw [wdS]
    split
    · have := wdS_len r (cur ++ [loC c]); simp; omega
    · have h1 := flW_len cur
      have h2 := wdS_len r []
      rw [List.length_append]; simp; omega
theorem flW_sz (cur : List UInt8) : ∀ x ∈ flW cur, x.size = cur.length := by
  unfold flW
  split
  · intro x hx
    rw [List.mem_singleton.1 hx]
    show cur.toArray.size = _
    simp
  · intro x hx; cases hx
theorem wdS_sz : ∀ (r cur : List UInt8), ∀ x ∈ wdS cur r, x.size ≤ cur.length + r.length
  | [], cur => fun x hx => by have := flW_sz cur x hx; simp; omega
  | c :: r, cur => fun x hx => by
    rw [wdS] at hx
    split at hx
    · have := wdS_sz r _ x hx; simp at this ⊢; omega
    · rcases List.mem_append.1 hx with hx | hx
      · have := flW_sz cur x hx; simp; omega
      · have := wdS_sz r [] x hx; simp at this ⊢; omega
theorem wordsT_len (s : ByteArray) : (wordsT s).length ≤ s.size + 1 := by have := wdS_len s.data.toList []; simpa [wordsT] using this
theorem wordsT_sz {s x : ByteArray} (h : x ∈ wordsT s) : x.size ≤ s.size := by have := wdS_sz s.data.toList [] x h; simpa using this
/-- Where a walk through a text stands: behind k bytes, with these words and these bytes at hand. -/
def WdI (s : ByteArray) (k : Nat) (out : List ByteArray) (cur : List UInt8) : Prop := out ++ wdS cur (s.data.toList.drop k) = wordsT s ∧ cur.length ≤ k ∧ out.length ≤ k
theorem WdI.start (s : ByteArray) : WdI s 0 [] [] := ⟨rfl, Nat.le_refl _, Nat.le_refl _⟩
theorem WdI.in_ {s : ByteArray} {k : Nat} {out : List ByteArray} {cur : List UInt8} (h : WdI s k out cur) (hk : k < s.size) (hc : inWB s[k] = true) : WdI s (k + 1) out (cur ++ [loC s[k]]) := by
  refine ⟨?_, by have := h.2.1; simp; omega, by have := h.2.2; omega⟩
  have h1 := h.1
  rw [List.drop_eq_getElem_cons (by simpa using hk), wdS, if_pos (by exact hc)] at h1
  exact h1
theorem WdI.out_ {s : ByteArray} {k : Nat} {out : List ByteArray} {cur : List UInt8} (h : WdI s k out cur) (hk : k < s.size) (hc : inWB s[k] = false) : WdI s (k + 1) (out ++ flW cur) [] := by
  refine ⟨?_, Nat.zero_le _, by have := h.2.2; have := flW_len cur; rw [List.length_append]; omega⟩
  have h1 := h.1
  rw [List.drop_eq_getElem_cons (by simpa using hk), wdS, if_neg (by show ¬ inWB s[k] = true; rw [hc]; decide)] at h1
  rw [List.append_assoc]
  exact h1
theorem WdI.end_ {s : ByteArray} {k : Nat} {out : List ByteArray} {cur : List UInt8} (h : WdI s k out cur) (hk : ¬ k < s.size) : out ++ flW cur = wordsT s := by
  have h1 := h.1
  rw [List.drop_eq_nil_of_le (by simpa using hk), wdS] at h1
  exact h1
theorem wdOk_snoc (cur : List UInt8) (c : UInt8) : wdOk (cur ++ [c]) = (wdOk cur || c != 39) := by simp [wdOk]
theorem flW_no {cur : List UInt8} (h : wdOk cur = false) : flW cur = [] := if_neg (by rw [h]; decide)
theorem flW_yes {cur : List UInt8} (h : wdOk cur = true) : flW cur = [⟨cur.toArray⟩] := if_pos h
theorem loC_aln {c : UInt8} (h : alnB c = true) : (loC c != 39) = true := by
  have hh : ∀ c, (!alnB c || (loC c != 39)) = true := u8_eq (q := fun _ => true) (by decide +kernel)
  have := hh c
  rw [h] at this
  simpa using this
end Go.Proofs.YtlfnmmnbfoimeaaGreatDoor

/- Words divided into lines, in plain words. No program in sight. -/
namespace Go.Proofs.YtlfnmmnbfoimeaaGreatDoor
set_option linter.unusedVariables false
open Go.RowKit

/-- Lines full, and the line at hand. -/
structure Wst where
  out : List (List UInt8)
  cur : List UInt8
def Wst.all (st : Wst) : List (List UInt8) := st.out ++ (if st.cur = [] then [] else [st.cur])
def Wst.ok (st : Wst) : Prop := st.cur = [] → st.out = []
def mkB (l : List UInt8) : ByteArray := ⟨l.toArray⟩
theorem all_nil {st : Wst} (h : st.ok) : st.all = [] ↔ st.cur = [] := by
  unfold Wst.all
  by_cases hc : st.cur = []
  · rw [h hc, if_pos hc]; simp [hc]
  · rw [if_neg hc]; simp [hc]
end Go.Proofs.YtlfnmmnbfoimeaaGreatDoor

