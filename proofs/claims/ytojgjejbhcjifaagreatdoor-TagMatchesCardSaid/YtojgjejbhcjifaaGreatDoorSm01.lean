/- Texts packed: Mem, Args, ByB, DecS, Gen, HexS, Map, MapG, QStore, QSegs, QSegs2, QSegs3, QTail, RegIn, Rep, FilesS, Own, Own2, Own3, RollS, CodeS, CodeV, EvS, GenA, GrowS, AppS, GrowI, OwnMod, GrowB, GrowJ, NestS, GrowM, PushK, OpPush, PushS, RollW, RollX, ScriptT, SegIn, SeqC, KeepM, SeqL, Shelf, AtoiW, BldW, BldK, LawA, RefA, Shelf2, Str, CodeW, CutS, CutW, DecW, GenC, GenE, HexW, FilesW, FilesX, FilesY, LaidW, NumS, PlainS, SlateS, TkS, NextS, TkT, TlS, WdS, WpS. -/
import Derived.Below
import Derived.Laws.OwnMore
import Derived.Deep.AppendLies
import Derived.Deep.Draws
import Derived.WalkKit
import Derived.WalkSpells
import Derived.WalkLawsBesides
import Derived.Lib.Hide
import Derived.ProofKit
import Derived.OpenShut
import Derived.SizedLaws
import Derived.SliceStrings
import Derived.Lib.ConvBytes
import Derived.Laws.BytesArg
import Derived.Lib.AtoiAll
import Derived.Lib.ItoaNum
import Derived.Test.YtojgjejbhcjifaaGreatDoorRows
import Derived.BigQuiet
import Derived.Deep.QuietTactic
import Derived.Maps.OwnOps
import Derived.Maps.OwnSet
import Derived.RegionTactic
import Derived.OrdersHeld
import Derived.Deep.Quiet
import Derived.StillTail
import Derived.Orders
import Derived.Lib.QuietBelow
import Derived.Deep.RegionLaw
import Derived.OrdersIn
import Derived.RangeFuncCalls
import Derived.OwnWalkIn
import Derived.Lib.FieldsP
import Derived.Lib.Split
import Derived.Lib.SplitLaws
import Derived.Lib.Join
import Derived.Lib.Repeat
import Derived.OneCell
import Derived.Room.AppendOnto
import Derived.Deep.RegionWith
import Derived.RangeFuncBox
import Derived.RangeFuncLeaves
import Derived.RangeFuncFrom
import Derived.Shelf.Strings.Builder1
import Derived.Shelf.Strings.Builder2
import Derived.Shelf.Strings.OnBuilder
import Derived.Shelf.Strings.Trim
import Derived.Shelf.Small.Utf8
import Derived.Shelf.Small.Strs
import Derived.Shelf.Small.Wraps
import Derived.Shelf.Strings.BuilderF
import Derived.Shelf.Strings.BuilderK
import Derived.Shelf.Utf8.RuneCount
import Derived.Shelf.Strings.Builder2Cap
import Derived.Shelf.Strconv.Atoi
import Derived.Shelf.Strconv.Itoa0
import Derived.Shelf.Strconv.Itoa1
import Derived.Shelf.LaysM
import Derived.Shelf.Strconv.Itoa2
import Derived.Shelf.Strconv.Itoa3
import Derived.Shelf.Strconv.AtoiErrFast
import Derived.Shelf.Strconv.ParseIntEmpty
import Derived.Shelf.Strconv.AtoiFail
import Derived.Shelf.Strconv.Clone
import Derived.Shelf.Strconv.SyntaxError
import Derived.Shelf.LaysC
import Derived.Shelf.Strconv.ToError
import Derived.Shelf.Strconv.Lower
import Derived.Shelf.Strconv.ParseUint10
import Derived.Shelf.Strconv.ParseUint10Empty
import Derived.Shelf.Strconv.ParseUint10Any
import Derived.Shelf.Strconv.ParseInt10
import Derived.Shelf.Strconv.AtoiLong
import Derived.Shelf.Strconv.AtoiInnerAll
import Derived.Shelf.Strconv.RangeError
import Derived.Shelf.Strconv.ToErrorRange
import Derived.Shelf.Strconv.AtoiAll
import Derived.Shelf.Strconv.ErrVarAll
import Derived.Shelf.Strings.Search1
import Derived.Shelf.Strings.Search2
import Derived.Shelf.Strings.Search3
import Derived.Shelf.Strings.Count
import Derived.Shelf.Strings.Shaped
import Derived.Shelf.Strings.Prefix
import Derived.Shelf.Strings.Split
import Derived.Shelf.Strings.Fields
import Derived.Shelf.Strings.SplitShaped
import Derived.Shelf.Unicode.Latin
import Derived.Shelf.Unicode.Decode
import Derived.Shelf.Strings.Runes
import Derived.Shelf.Strings.RuneCount
import Derived.Shelf.Strings.AsciiSet
import Derived.Shelf.Strings.Explode
import Derived.Shelf.Bits.Mul64
import Derived.Shelf.Strings.Repeat
import Derived.Shelf.Unicode.DecodeSlow
import Derived.Shelf.Unicode.DecodeAny
import Derived.Shelf.Unicode.Is16White
import Derived.Shelf.Unicode.IsSpaceAny
import Derived.Shelf.Unicode.DecodeLast
import Derived.Shelf.Strings.FieldsFuncAny
import Derived.Shelf.Unicode.Is16Any
import Derived.Shelf.Unicode.Is32Any
import Derived.Shelf.Unicode.ExclAny
import Derived.Shelf.Strings.FieldsFuncGrows
import Derived.Shelf.Strings.BuilderCap
import Derived.Shelf.Slices.Turned
import Derived.Test.YtojgjejbhcjifaaGreatDoorProg
import Derived.Lib.SmallJoins
import Derived.Shelf.Strings.SlTrimAscii
import Derived.Laws.IdiomStrings
import Derived.Lib.IndexLaws
import Derived.Laws.Bits64
import Derived.Laws.Bits64b
import Derived.Outline
import Derived.Deep.RegionHeld3
import Derived.Lib.ItoaLen
import Derived.Lib.Strings
import Derived.Lib.IndexMore
import Derived.Lib.Slices
/- Words for memory: a slice that reads as a list of elements of a fixed number of cells; small laws on worlds. No program in sight. -/
namespace Go.Proofs.YtojgjejbhcjifaaGreatDoor
set_option linter.unusedVariables false
open Go.RowKit

/-- The slice value '.slice A l.length c' holds the elements l, each of 'size' cells that read 'enc x', in one block from lo on and below hi. -/
def Rs {α : Type} (w : World) (lo hi size : Nat) (enc : α → List Value) (A : Option Addr) (l : List α) : Prop :=
  0 < l.length → ∃ b off, A = some ⟨b, off, none⟩ ∧ lo ≤ b ∧ b < hi ∧ ∀ (k : Nat) (x : α), l[k]? = some x → ∀ (j : Nat) (u : Value), (enc x)[j]? = some u → w.cell? ⟨b, off + k * size + j, none⟩ = some u

section
variable {α : Type} {w w' : World} {lo lo' hi hi' B size : Nat} {enc : α → List Value} {A : Option Addr} {l : List α}
theorem Rs.nil_ : Rs w lo hi size enc A ([] : List α) := fun h => absurd h (by simp)
theorem Rs.keep (h : Rs w lo hi size enc A l) (hk : ∀ p : Addr, lo ≤ p.block → p.block < hi → w'.cell? p = w.cell? p) : Rs w' lo hi size enc A l :=
  fun hn => by
    obtain ⟨b, off, e, hb0, hb, hc⟩ := h hn
    exact ⟨b, off, e, hb0, hb, fun k x hx j u hu => (hk _ hb0 hb).trans (hc k x hx j u hu)⟩
theorem Rs.more (h : Rs w lo hi size enc A l) (hl : lo' ≤ lo) (hB : hi ≤ hi') : Rs w lo' hi' size enc A l :=
  fun hn => by
    obtain ⟨b, off, e, hb0, hb, hc⟩ := h hn
    exact ⟨b, off, e, by omega, by omega, hc⟩
theorem Rs.below (h : Rs w lo hi size enc A l) (hb : Below B w w') (hB : hi ≤ B) : Rs w' lo hi size enc A l := h.keep fun _ _ hp => hb.cell (by omega)
theorem Rs.alloc (h : Rs w lo hi size enc A l) (hB : hi ≤ w.heap.size) (o : Obj) : Rs (w.alloc o) lo hi size enc A l := h.keep fun p _ hp => World.cell?_alloc_lt w o p (by omega)
theorem Rs.setCell (h : Rs w lo hi size enc A l) {p : Addr} (hB : hi ≤ p.block ∨ p.block < lo) (u : Value) : Rs (w.setCell p u) lo hi size enc A l :=
  h.keep fun q hq hq' => World.cell?_setCell_other w p q u (fun e => by subst e; omega)
theorem Rs.grown (h : Rs w lo hi size enc A l) {g : Nat} (hg : w.grownBy w' (some g)) (hB : hi ≤ w.heap.size) (hne : hi ≤ g ∨ g < lo) : Rs w' lo hi size enc A l :=
  h.keep fun p hq hq' => World.cell?_of_block (hg.block p.block (by omega) (by simp; omega))
/-- Element k: where it lies. -/
theorem Rs.at_ (h : Rs w lo hi size enc A l) {k : Nat} (hk : k < l.length) :
    ∃ b off, A = some ⟨b, off, none⟩ ∧ lo ≤ b ∧ b < hi ∧ ∀ (j : Nat) (u : Value), (enc l[k])[j]? = some u → w.cell? ⟨b, off + k * size + j, none⟩ = some u := by
  obtain ⟨b, off, e, hb0, hb, hc⟩ := h (by omega)
  exact ⟨b, off, e, hb0, hb, hc k _ (List.getElem?_eq_getElem hk)⟩
/-- Element k of a slice of elements of one cell. -/
theorem Rs.at1 {enc1 : α → Value} (h : Rs w lo hi 1 (fun x => [enc1 x]) A l) {k : Nat} (hk : k < l.length) :
    ∃ b off, A = some ⟨b, off, none⟩ ∧ lo ≤ b ∧ b < hi ∧ w.cell? ⟨b, off + k, none⟩ = some (enc1 l[k]) := by
  obtain ⟨b, off, e, hb0, hb, hc⟩ := h.at_ hk
  exact ⟨b, off, e, hb0, hb, by simpa using hc 0 _ rfl⟩
end

/-- A call's end: an int with a property, the world as it was. -/
def RetInt (p : Int → Prop) (w : World) (e : Ending) (w' : World) : Prop := ∃ v : Int, p v ∧ e = .returned (.int .i64 v) ∧ w = w'

def intc (x : Int) : List Value := [.int .i64 x]
def strc (x : ByteArray) : List Value := [.string x]
def okI (x : Int) : Prop := -9223372036854775808 ≤ x ∧ x ≤ 9223372036854775807


/-- A place in a list as Go's functions hand it back. -/
def idxV : Option Nat → Int
  | some k => k
  | none => -1

theorem findIdx_at {α : Type} {p : α → Bool} {l : List α} {k : Nat} (h : ∀ x ∈ l.take k, p x = false) (hk : k < l.length) (hp : p l[k] = true) : l.findIdx? p = some k := by
  induction l generalizing k with
  | nil => simp at hk
  | cons y l ih =>
    cases k with
    | zero => simp at hp; simp [List.findIdx?_cons, hp]
    | succ k =>
      have h0 : p y = false := h y (by simp)
      have := ih (k := k) (fun x hx => h x (by simp [hx])) (by simpa using hk) (by simpa using hp)
      simp [List.findIdx?_cons, h0, this]
theorem findIdx_no {α : Type} {p : α → Bool} {l : List α} (h : ∀ x ∈ l, p x = false) : l.findIdx? p = none := by
  rw [List.findIdx?_eq_none_iff]; simpa using h
theorem take_next {α : Type} {q : α → Prop} {l : List α} {k : Nat} (hk : k < l.length) (h : ∀ x ∈ l.take k, q x) (hq : q l[k]) : ∀ x ∈ l.take (k + 1), q x := by
  rw [List.take_succ_eq_append_getElem hk]
  intro x hx
  rcases List.mem_append.1 hx with hx | hx
  · exact h x hx
  · simp at hx; rw [hx]; exact hq
theorem take_all {α : Type} {q : α → Prop} {l : List α} {k : Nat} (hk : ¬ k < l.length) (h : ∀ x ∈ l.take k, q x) : ∀ x ∈ l, q x := by
  rw [List.take_of_length_le (by omega)] at h; exact h
theorem intNum {k : Nat} : Value.int .i64 ((k : Int) + 1) = .int .i64 ((k + 1 : Nat) : Int) := by simp

theorem beq_ba (a b : ByteArray) : (a == b) = decide (a = b) := by
  rcases a with ⟨a⟩; rcases b with ⟨b⟩
  show (a == b) = _
  rw [Bool.eq_iff_iff]; simp
theorem beqS (a b : ByteArray) : (a.toList == b.toList) = decide (a = b) := by rw [← beq_toListBytes, beq_ba]
theorem ret_bool {a b : Bool} (h : a = b) : Ending.returned (.bool a) = .returned (.bool b) := by rw [h]
/-- All bytes of a string have p. -/
def allB (p : UInt8 → Bool) (s : ByteArray) : Bool := s.data.toList.all p
theorem allB_no {p : UInt8 → Bool} {s : ByteArray} {k : Nat} (hk : k < s.size) (h : p s[k] = false) : allB p s = false := by
  unfold allB
  rw [List.all_eq_false]
  exact ⟨s[k], by rw [show s[k] = s.data.toList[k]'(by simpa using hk) from rfl]; exact List.getElem_mem _, by simp [h]⟩
theorem allB_yes {p : UInt8 → Bool} {s : ByteArray} {k : Nat} (hk : ¬ k < s.size) (h : ∀ x ∈ s.data.toList.take k, p x = true) : allB p s = true := by
  unfold allB
  rw [List.all_eq_true]
  exact take_all (by simpa using hk) h
theorem allB_next {p : UInt8 → Bool} {s : ByteArray} {k : Nat} (hk : k < s.size) (h : ∀ x ∈ s.data.toList.take k, p x = true) (hp : p s[k] = true) : ∀ x ∈ s.data.toList.take (k + 1), p x = true :=
  take_next (q := fun x => p x = true) (by simpa using hk) h hp

theorem below_drewN {B : Nat} {a w : World} (h : Below B a w) (n : Nat) : Below B a (w.drewN n) := ⟨h.os, h.tape, h.output, h.size, h.block⟩

/-- Two tests of a byte that agree at each of the 256. -/
theorem u8_eq {p q : UInt8 → Bool} (h : ((List.range 256).all fun n => p (UInt8.ofNat n) == q (UInt8.ofNat n)) = true) : ∀ c, p c = q c := by
  intro c
  rw [List.all_eq_true] at h
  have := h c.toNat (List.mem_range.2 c.toNat_lt)
  simpa using this
theorem allB_congr {p q : UInt8 → Bool} (h : ((List.range 256).all fun n => p (UInt8.ofNat n) == q (UInt8.ofNat n)) = true) (s : ByteArray) : allB p s = allB q s := by
  rw [show p = q from funext (u8_eq h)]

theorem Rs.take {α : Type} {w : World} {lo hi size : Nat} {enc : α → List Value} {A : Option Addr} {l : List α} (h : Rs w lo hi size enc A l) (k : Nat) : Rs w lo hi size enc A (l.take k) :=
  fun hn => by
    obtain ⟨b, off, e, hb0, hb, hc⟩ := h (by simp at hn; omega)
    refine ⟨b, off, e, hb0, hb, fun j x hx => hc j x ?_⟩
    rw [List.getElem?_take] at hx
    split at hx
    · exact hx
    · cases hx
end Go.Proofs.YtojgjejbhcjifaaGreatDoor

/- A law's arguments, opened: a slice of ints, a string, a slice of strings. No program in sight. -/
namespace Go.Proofs.YtojgjejbhcjifaaGreatDoor
set_option linter.unusedVariables false
open Go.ChangeShapes Go.WideShapes Go.ChangeAt Go.RowKit

section
variable {H : Type} {enc : TypeId × Value → H} {P : Program} {W : World}
theorem argInts {t e : TypeId} {a : Option Addr} {len cap : Nat} {d : DataW H} {p : List MemPlace} {ts : List TypeId} {ds : List (DataW H)} {j : Nat} (ht : P.underlying t = some (.slice e)) (he : P.underlying e = some (.int .i64)) (hc : P.cellsOf e = 1) (hb : P.bytesOf e = 8)
    (h : DataW.Trod enc P W 0 (fun _ => true) true t (.slice a len cap) d p) (hlt : ∀ x ∈ p, x.block < W.heap.size) (hw : (DataW.weightsEach P ts ds).all (· ≤ reachBytes) = true) (hj : ts[j]? = some t) (hd : ds[j]? = some d) :
    ∃ l : List Int, l.length = len ∧ Rs W 0 W.heap.size 1 intc a l ∧ l.length ≤ 17592186044416 ∧ ∀ x ∈ l, okI x := by
  obtain ⟨fuel, hf⟩ := h
  rcases open_ints ht he hc hf with ⟨hcs, _⟩ | ⟨x, l, c, zs, hcs, _, hl, hm, hz, hx, hcell, hwz⟩
  · simp [Value.cells] at hcs
    obtain ⟨rfl, rfl, rfl⟩ := hcs
    exact ⟨[], rfl, Rs.nil_, by simp, by simp⟩
  · simp [Value.cells] at hcs
    obtain ⟨rfl, rfl, rfl⟩ := hcs
    simp only [if_true] at hz
    simp only [Prod.mk.injEq] at hx
    obtain ⟨rfl, rfl⟩ := hx
    have hs := sized_slice hw hj hd ht
    rw [hb] at hs
    have hs2 : zs.length * 8 ≤ reachBytes := by
      have e1 : (lits (H := H) IntKind.i64 (zs.take len)).length + (lits (H := H) IntKind.i64 (zs.drop len)).length = zs.length := by simp [lits]; omega
      rw [e1] at hs; exact hs
    have hr := reachBytes_lt
    have hlen : (zs.take len).length = len := by simp; omega
    refine ⟨zs.take len, hlen, ?_, by omega, fun x hx => ?_⟩
    · intro hn
      obtain ⟨b, off, rfl, hcc⟩ := ints_at hcell (by simp at hn; omega)
      refine ⟨b, off, rfl, Nat.zero_le _, ?_, fun k y hy i u hu => ?_⟩
      · exact hlt (.cell b off) (by
          unfold MemPlace.row
          simp at hn ⊢
          omega)
      · cases i with
        | succ i => simp [intc] at hu
        | zero =>
          simp [intc] at hu
          subst hu
          have hk : k < zs.length ∧ zs[k]? = some y := by
            rw [List.getElem?_take] at hy
            split at hy
            · exact ⟨(List.getElem?_eq_some_iff.1 hy).1, hy⟩
            · cases hy
          have := hcc k hk.1
          rw [List.getD_eq_getElem?_getD, hk.2] at this
          simpa using this
    · have := hwz x (List.mem_of_mem_take hx)
      have hb := bounds_i64 this
      exact ⟨by omega, by omega⟩
end
end Go.Proofs.YtojgjejbhcjifaaGreatDoor

/- Bytes of one's own, in a block that []byte(s) has made. No program in sight. -/
namespace Go.Proofs.YtojgjejbhcjifaaGreatDoor
set_option linter.unusedVariables false
open Go.RowKit

section
variable {w wx wy : World} {B n : Nat}
end
end Go.Proofs.YtojgjejbhcjifaaGreatDoor

/- Decimal numerals, in plain words. No program in sight. -/
namespace Go.Proofs.YtojgjejbhcjifaaGreatDoor
set_option linter.unusedVariables false
open Go.RowKit

def figC (c : UInt8) : Bool := decide (48 ≤ c.toNat) && decide (c.toNat ≤ 57)
theorem figC_iff {c : UInt8} : figC c = true ↔ 48 ≤ c.toNat ∧ c.toNat ≤ 57 := by simp [figC]
def dval (acc : Nat) (l : List UInt8) : Nat := l.foldl (fun a c => a * 10 + (c.toNat - 48)) acc
theorem dval_cons (acc : Nat) (l : List UInt8) (c : UInt8) : dval acc (c :: l) = dval (acc * 10 + (c.toNat - 48)) l := by unfold dval; rw [List.foldl_cons]
theorem dval_ge (l : List UInt8) : ∀ acc, acc ≤ dval acc l := by
  induction l with
  | nil => intro acc; exact Nat.le_refl _
  | cons c l ih => intro acc; rw [dval_cons]; have := ih (acc * 10 + (c.toNat - 48)); omega
theorem parse_ok (l : List UInt8) : ∀ acc, (∀ c ∈ l, figC c = true) → dval acc l < 18446744073709551616 → Lib.parseUint10 acc l = .ok (dval acc l) := by
  induction l with
  | nil => intro acc _ _; rfl
  | cons c l ih =>
    intro acc hf h
    rw [dval_cons] at h ⊢
    have hc := figC_iff.1 (hf c (by simp))
    have hg := dval_ge l (acc * 10 + (c.toNat - 48))
    rw [Lib.parseUint10, if_pos hc, if_neg (by omega), if_neg (by omega)]
    exact ih _ (fun x hx => hf x (by simp [hx])) h
theorem mag_ok {l : List UInt8} (h : l ≠ []) (hf : ∀ c ∈ l, figC c = true) (hb : dval 0 l < 18446744073709551616) : Lib.parseMag l = .ok (dval 0 l) := by
  unfold Lib.parseMag
  rw [if_neg h]
  exact parse_ok l 0 hf hb
/-- Atoi of digits. -/
theorem atoi_digits {l : List UInt8} (h : l ≠ []) (hf : ∀ c ∈ l, figC c = true) (hb : dval 0 l < 9223372036854775808) : Lib.atoiAll l = .ok (dval 0 l : Int) := by
  have hm := mag_ok h hf (by omega)
  cases l with
  | nil => exact absurd rfl h
  | cons c l =>
    have hc := figC_iff.1 (hf c (by simp))
    unfold Lib.atoiAll
    have n1 : ¬ (c.toNat = 43 ∨ c.toNat = 45) := by omega
    have n2 : ¬ c.toNat = 45 := by omega
    simp only [if_neg n1, hm]
    rw [if_neg (by omega), if_neg (by omega), if_neg n2]
theorem atoi_bd {l : List UInt8} {n : Int} (h : Lib.atoiAll l = .ok n) : okI n := by
  unfold Lib.atoiAll at h
  split at h
  · cases h
  · simp only at h
    split at h
    · cases h
    · cases h
    · rename_i u hu
      have hb := Lib.parseMag_lt hu
      split at h
      · cases h
      · split at h
        · cases h
        · injection h with h
          subst h
          unfold okI
          split <;> constructor <;> omega
end Go.Proofs.YtojgjejbhcjifaaGreatDoor

/- The generator's own functions: what each returns lies in its range; only the stream's own block turns. -/
namespace Go.Proofs.YtojgjejbhcjifaaGreatDoor
set_option linter.unusedVariables false
open Go.RowKit

/-- Block sb is a stream that has handed out k numbers. -/
def Str (w : World) (sb : Nat) (k : Int) : Prop :=
  ∃ (A : Option Addr) (c : Nat) (l : List Int), w.heap[sb]? = some (.cells #[.slice A l.length c, .int .i64 k] 25 (0, 0)) ∧ 0 ≤ k ∧ Rs w 0 sb 1 intc A l ∧ l.length ≤ 17592186044416 ∧ ∀ x ∈ l, okI x

/-- A call that takes at most d numbers off the stream: the value has p, only the stream has turned. -/
def Took (sb : Nat) (k d : Int) (p : Value → World → Prop) (w : World) (e : Ending) (w' : World) : Prop :=
  ∃ (v : Value) (k' : Int), e = .returned v ∧ p v w' ∧ k' ≤ k + d ∧ Str w' sb k' ∧ w.grownBy w' (some sb)

theorem tmod_lt (x n : Int) (hn : 1 ≤ n) : -n < x.tmod n ∧ x.tmod n < n := by
  have h1 := Int.tmod_lt_of_pos x (show (0:Int) < n by omega)
  have h2 := Int.tmod_lt_of_pos (-x) (show (0:Int) < n by omega)
  rw [Int.neg_tmod] at h2
  omega

set_option maxHeartbeats 400000 in
theorem below_c (x n : Int) (w : World) (hn : 1 ≤ n) (hn2 : n ≤ 4611686018427387904) :
    Calls Tryz.prog 64 #[.int .i64 x, .int .i64 n] w (RetInt (fun v => 0 ≤ v ∧ v < n) w) := by
  have ht := tmod_lt x n hn
  have hh : (-9223372036854775808 ≤ x.tmod n + n ∧ x.tmod n + n ≤ 9223372036854775807) := by omega
  have hw := IntWalk.wrap64_in _ hh
  have H1 := Lib.hid hw; clear hw hh
  have H2 := Lib.hid ht; clear ht
  go_enter Tryz.func64, Tryz.ntmps64
  go_wp2
  · go_ret
    have h := H2.out
    refine ⟨_, ?_, rfl, rfl⟩
    rw [H1.out]; omega
  · go_ret
    have h := H2.out
    exact ⟨_, by omega, rfl, rfl⟩

theorem str_cells {w : World} {sb : Nat} {cs : Array Value} {t : TypeId} (h : w.heap[sb]? = some (.cells cs t (0, 0))) :
    (∀ i, w.cell? ⟨sb, i, none⟩ = cs[i]?) ∧ (∀ i, w.frozen? ⟨sb, i, none⟩ = false) := by
  refine ⟨fun i => by simp [World.cell?, h], fun i => by simp [World.frozen?, h]⟩

theorem str_set {w : World} {sb : Nat} {v u v' : Value} {t : TypeId} (h : w.heap[sb]? = some (.cells #[v, u] t (0, 0))) :
    (w.setCell ⟨sb, 1, none⟩ v').heap[sb]? = some (.cells #[v, v'] t (0, 0)) := by
  simp [World.setCell, Array.getElem?_modify, h]

theorem heap_lt {w : World} {b : Nat} {o : Obj} (h : w.heap[b]? = some o) : b < w.heap.size := (Array.getElem?_eq_some_iff.1 h).1

theorem grown_set (w : World) (sb i : Nat) (v : Value) : w.grownBy (w.setCell ⟨sb, i, none⟩ v) (some sb) :=
  ⟨rfl, rfl, rfl, by simp [World.setCell], fun k _ hne => Below.heap_setCell w _ v k (fun e => hne (by rw [e]))⟩

theorem grown_drewN {a w : World} {row : Option Nat} (h : a.grownBy w row) (n : Nat) : a.grownBy (w.drewN n) row := ⟨h.os, h.tape, h.output, h.size, h.block⟩

theorem Str.set {w : World} {sb : Nat} {k : Int} (h : Str w sb k) (v : Int) (hv : 0 ≤ v) : Str (w.setCell ⟨sb, 1, none⟩ (.int .i64 v)) sb v := by
  obtain ⟨A, c, l, hb, _, hr, hl, ho⟩ := h
  exact ⟨A, c, l, str_set hb, hv, hr.setCell (.inl (Nat.le_refl _)) _, hl, ho⟩

theorem Str.drewN {w : World} {sb : Nat} {k : Int} (h : Str w sb k) (n : Nat) : Str (w.drewN n) sb k := h

set_option maxHeartbeats 400000 in
theorem next_c (sb : Nat) (k n : Int) (w : World) (hs : Str w sb k) (hk : k ≤ 4611686018427387904) (hn : 1 ≤ n) (hn2 : n ≤ 4611686018427387904) :
    Calls Tryz.prog 38 #[.pointer (some ⟨sb, 0, none⟩), .int .i64 n] w (Took sb k 1 (fun v _ => ∃ x : Int, 0 ≤ x ∧ x < n ∧ v = .int .i64 x) w) := by
  have hS := hs.set (k + 1) (by have := hs.choose_spec.choose_spec.choose_spec.2.1; omega)
  have HS := Lib.hid hS; clear hS
  obtain ⟨A, c, l, hb, hk0, hr, hl, ho⟩ := hs
  have HO := Lib.hid ho; clear ho
  obtain ⟨hc, hf⟩ := str_cells hb
  have c0 := hc 0
  have c1 := hc 1
  have f1 := hf 1
  have HB := Lib.hid hb
  simp at c0 c1
  clear hc hf hb
  have HG := grown_set w sb 1 (.int .i64 (k + 1))
  by_cases h0 : l.length = 0
  · have h0' : (((l.length : Nat) : Int) == 0) = true := by simp [h0]
    have H0 := Lib.hid h0; clear h0
    go_enter Tryz.func38, Tryz.ntmps38
    go_wp2_with fail
    refine (below_c _ _ _ hn hn2).mono ?_
    rintro e w' ⟨v, ⟨hv0, hv1⟩, rfl, rfl⟩
    go_wp2
    go_ret
    exact ⟨_, k + 1, rfl, ⟨v, hv0, hv1, rfl⟩, by omega, HS.out, HG⟩
  · have hlp : 0 < l.length := by omega
    obtain ⟨m, rfl⟩ := Int.eq_ofNat_of_zero_le hk0
    have hm : m % l.length < l.length := Nat.mod_lt _ hlp
    obtain ⟨b, off, rfl, hb0, hb1, hcell⟩ := hr.at1 (enc1 := .int .i64) hm
    have h0' : (((l.length : Nat) : Int) == 0) = false := beq_eq_false_iff_ne.2 (by omega)
    have h0'' : ¬ ((l.length : Nat) : Int) = 0 := by omega
    have hcell' : (w.setCell ⟨sb, 1, none⟩ (.int .i64 (m + 1))).cell? ⟨b, off + m % l.length, none⟩ = some (.int .i64 l[m % l.length]) := by
      rw [World.cell?_setCell_other _ _ _ _ (fun e => by have := congrArg Addr.block e; simp at this; omega)]; exact hcell
    clear hcell h0
    go_enter Tryz.func38, Tryz.ntmps38
    go_wp2
    go_quiet (fail)
    go_wp2
    go_quiet (fail)
    go_wp2_with fail
    refine (below_c _ _ _ (by omega) (by omega)).mono ?_
    rintro e w' ⟨v, ⟨hv0, hv1⟩, rfl, rfl⟩
    go_wp2_with fail
    refine (below_c _ _ _ hn hn2).mono ?_
    rintro e w' ⟨v2, ⟨hv2, hv3⟩, rfl, rfl⟩
    go_wp2
    go_ret
    exact ⟨_, m + 1, rfl, ⟨v2, hv2, hv3, rfl⟩, by omega, HS.out.drewN _, grown_drewN HG _⟩

theorem Took.mono {sb : Nat} {k d d' : Int} {p q : Value → World → Prop} {w : World} {e : Ending} {w' : World} (h : Took sb k d p w e w') (hd : d ≤ d') (hq : ∀ v w', p v w' → q v w') : Took sb k d' q w e w' :=
  let ⟨v, k', he, hp, hk, hs, hg⟩ := h
  ⟨v, k', he, hq _ _ hp, by omega, hs, hg⟩

def isInt (p : Int → Prop) (v : Value) (_ : World) : Prop := ∃ x : Int, p x ∧ v = .int .i64 x
def isBool (v : Value) (_ : World) : Prop := ∃ x : Bool, v = .bool x
def isStr (p : ByteArray → Prop) (v : Value) (_ : World) : Prop := ∃ x : ByteArray, p x ∧ v = .string x

set_option maxHeartbeats 400000 in
theorem range_c (sb : Nat) (k lo hi : Int) (w : World) (hs : Str w sb k) (hk : k ≤ 4611686018427387904) (h : lo ≤ hi) (h1 : -1000000000000 ≤ lo) (h2 : hi ≤ 1000000000000) :
    Calls Tryz.prog 16 #[.pointer (some ⟨sb, 0, none⟩), .int .i64 lo, .int .i64 hi] w (Took sb k 1 (isInt (fun x => lo ≤ x ∧ x ≤ hi)) w) := by
  have HS := Lib.hid hs
  go_enter Tryz.func16, Tryz.ntmps16
  go_wp2_with fail
  refine (next_c sb k _ _ HS.out hk (by omega) (by omega)).mono ?_
  rintro e w' ⟨v, k', rfl, ⟨x, hx0, hx1, rfl⟩, hk', hs', hg⟩
  have HK := Lib.hid hs'; clear hs'
  go_wp2
  go_ret
  exact ⟨_, k', rfl, ⟨_, ⟨by omega, by omega⟩, rfl⟩, hk', HK.out, hg⟩

set_option maxHeartbeats 400000 in
theorem flip_c (sb : Nat) (k n : Int) (w : World) (hs : Str w sb k) (hk : k ≤ 4611686018427387904) (hn : 1 ≤ n) (hn2 : n ≤ 4611686018427387904) :
    Calls Tryz.prog 20 #[.pointer (some ⟨sb, 0, none⟩), .int .i64 n] w (Took sb k 1 isBool w) := by
  have HS := Lib.hid hs
  go_enter Tryz.func20, Tryz.ntmps20
  go_wp2_with fail
  refine (next_c sb k _ _ HS.out hk hn hn2).mono ?_
  rintro e w' ⟨v, k', rfl, ⟨x, hx0, hx1, rfl⟩, hk', hs', hg⟩
  have HK := Lib.hid hs'; clear hs'
  go_wp2
  go_ret
  exact ⟨_, k', rfl, ⟨_, rfl⟩, hk', HK.out, hg⟩

set_option maxHeartbeats 400000 in
theorem pick_c (sb : Nat) (k : Int) (A : Option Addr) (l : List Int) (c lo hi : Nat) (w : World) (hs : Str w sb k) (hk : k ≤ 4611686018427387904) (hl0 : 0 < l.length) (hl : l.length ≤ 140737488355328)
    (hr : Rs w lo hi 1 intc A l) (hlo : sb < lo) (hhi : hi ≤ w.heap.size) :
    Calls Tryz.prog 17 #[.pointer (some ⟨sb, 0, none⟩), .slice A l.length c] w (Took sb k 1 (isInt (· ∈ l)) w) := by
  have HS := Lib.hid hs
  have HR := Lib.hid hr; clear hr
  go_enter Tryz.func17, Tryz.ntmps17
  go_wp2_with fail
  refine (next_c sb k _ _ HS.out hk (by omega) (by omega)).mono ?_
  rintro e w' ⟨v, k', rfl, ⟨x, hx0, hx1, rfl⟩, hk', hs', hg⟩
  have HK := Lib.hid hs'; clear hs'
  obtain ⟨m, rfl⟩ := Int.eq_ofNat_of_zero_le hx0
  have hm : m < l.length := by omega
  obtain ⟨b, off, rfl, hb0, hb1, hcell⟩ := (HR.out.grown hg hhi (.inr hlo)).at1 (enc1 := .int .i64) hm
  go_wp2
  go_ret
  exact ⟨_, k', rfl, ⟨_, List.getElem_mem hm, rfl⟩, hk', HK.out, hg⟩

set_option maxHeartbeats 400000 in
theorem one_c (sb : Nat) (k : Int) (A : Option Addr) (l : List ByteArray) (c lo hi : Nat) (w : World) (hs : Str w sb k) (hk : k ≤ 4611686018427387904) (hl0 : 0 < l.length) (hl : l.length ≤ 140737488355328)
    (hr : Rs w lo hi 1 strc A l) (hlo : sb < lo) (hhi : hi ≤ w.heap.size) :
    Calls Tryz.prog 18 #[.pointer (some ⟨sb, 0, none⟩), .slice A l.length c] w (Took sb k 1 (isStr (· ∈ l)) w) := by
  have HS := Lib.hid hs
  have HR := Lib.hid hr; clear hr
  go_enter Tryz.func18, Tryz.ntmps18
  go_wp2_with fail
  refine (next_c sb k _ _ HS.out hk (by omega) (by omega)).mono ?_
  rintro e w' ⟨v, k', rfl, ⟨x, hx0, hx1, rfl⟩, hk', hs', hg⟩
  have HK := Lib.hid hs'; clear hs'
  obtain ⟨m, rfl⟩ := Int.eq_ofNat_of_zero_le hx0
  have hm : m < l.length := by omega
  obtain ⟨b, off, rfl, hb0, hb1, hcell⟩ := (HR.out.grown hg hhi (.inr hlo)).at1 (enc1 := .string) hm
  go_wp2
  go_ret
  exact ⟨_, k', rfl, ⟨_, List.getElem_mem hm, rfl⟩, hk', HK.out, hg⟩

end Go.Proofs.YtojgjejbhcjifaaGreatDoor

/- Digests and their sixteen figures, in plain words. No program in sight. -/
namespace Go.Proofs.YtojgjejbhcjifaaGreatDoor
set_option linter.unusedVariables false
open Go.RowKit

end Go.Proofs.YtojgjejbhcjifaaGreatDoor

/- Maps with keys of one plain type (strings, ints, bools), as lists of pairs: a look-up, a store, in the walk. No program in sight. -/
namespace Go.Proofs.YtojgjejbhcjifaaGreatDoor
set_option linter.unusedVariables false
open Go.RowKit

section
variable {κ : Type} [DecidableEq κ] {mk : κ → Value}

def ix : List (κ × Value) → κ → Option (Nat × Value)
  | [], _ => none
  | (k, v) :: m, x => if x = k then some (0, v) else (ix m x).map fun p => (p.1 + 1, p.2)
variable {w w' : World} {b B : Nat} {m : List (κ × Value)}
omit [DecidableEq κ] in
omit [DecidableEq κ] in
omit [DecidableEq κ] in
omit [DecidableEq κ] in
omit [DecidableEq κ] in
omit [DecidableEq κ] in
omit [DecidableEq κ] in
end
end Go.Proofs.YtojgjejbhcjifaaGreatDoor

/- A look-up behind a guard that holds. No program in sight. -/
namespace Go.Proofs.YtojgjejbhcjifaaGreatDoor
set_option linter.unusedVariables false
open Go.RowKit
end Go.Proofs.YtojgjejbhcjifaaGreatDoor

/- A region that draws its order: reads, then one store, then one assignment; the reads may come behind the store, which leaves what they read. No program in sight. -/
namespace Go.Proofs.YtojgjejbhcjifaaGreatDoor
set_option linter.unusedVariables false

section
variable {P : Program} {ops : Array Oper} {md : Region.Mode}

end
end Go.Proofs.YtojgjejbhcjifaaGreatDoor

/- A region that draws its order: reads, and operations that come one at a time once the reads are taken; the last ones may write what has been read. No program in sight. (The first law's proof follows the kit's for regions that are held.) -/
namespace Go.Proofs.YtojgjejbhcjifaaGreatDoor
set_option linter.unusedVariables false

section
variable {P : Program} {ops : Array Oper} {Q : Exit → Act → World → Prop} {md : Region.Mode} {S : World → Prop} {b p : Nat → Bool}

end
end Go.Proofs.YtojgjejbhcjifaaGreatDoor

/- A region that draws its order, its reads taken first: what is known of memory may grow behind each operation that comes up; reads may end it. No program in sight. -/
namespace Go.Proofs.YtojgjejbhcjifaaGreatDoor
set_option linter.unusedVariables false
open Go.RowKit

section
variable {P : Program} {ops : Array Oper} {Q : Exit → Act → World → Prop} {md : Region.Mode} {S S' : World → Prop} {b p : Nat → Bool}

end
end Go.Proofs.YtojgjejbhcjifaaGreatDoor

/- As QSegs2, the operations that come up one at a time may be guarded. No program in sight. -/
namespace Go.Proofs.YtojgjejbhcjifaaGreatDoor
set_option linter.unusedVariables false
open Go.RowKit

section
variable {P : Program} {ops : Array Oper} {Q : Exit → Act → World → Prop} {md : Region.Mode} {S S' : World → Prop} {b p : Nat → Bool}
end
end Go.Proofs.YtojgjejbhcjifaaGreatDoor

/- A region that draws its order: what stands ahead of its last operations is quiet in a class of worlds; the last ones come one behind the other. No program in sight. (The proofs follow the kit's for regions that are still and for regions that are quiet.) -/
namespace Go.Proofs.YtojgjejbhcjifaaGreatDoor
set_option linter.unusedVariables false
open Go.Sort

section
variable {P : Program} {ops : Array Oper} {md : Region.Mode} {C : World → Prop}

def wpAnyM (P : Program) (md : Region.Mode) (ops : Array Oper) (C : World → Prop) (n : Nat) (L : Array Bool → Act → Prop) : Nat → Array Bool → Act → Prop
  | 0, listed, a => L listed a
  | f + 1, listed, a => Region.ready md ops listed ≠ [] ∧ ∀ i ∈ Region.ready md ops listed, i < n ∧ qOp P ops C i (wpAnyM P md ops C n L f (listed.setIfInBounds i true)) a

theorem wpAny_of_headM {n g : Nat} {L : Array Bool → Act → Prop} {Q' : Exit → Act → World → Prop} (hL : ∀ listed a w, C w → L listed a → wpAny P md ops Q' g listed a w) :
    ∀ (f : Nat) (listed : Array Bool) (a : Act) (w : World), C w → wpAnyM P md ops C n L f listed a → wpAny P md ops Q' (f + g) listed a w
  | 0, listed, a, w, hw, h => by rw [Nat.zero_add]; exact hL _ _ _ hw h
  | f + 1, listed, a, w, hw, h => by
    rw [show f + 1 + g = (f + g) + 1 by omega]
    exact ⟨fun h0 => absurd h0 h.1, fun i hi => wpOp_of_qOp hw (fun a' w' hw' h' => wpAny_of_headM hL f _ a' w' hw' h') (h.2 i hi).2⟩

/-- Each operation from k on, ahead of number n, is waited for by one behind it, number n at the latest. -/
def sinkF (md : Region.Mode) (ops : Array Oper) (k n : Nat) : Bool :=
  (List.range n).all fun i => decide (i < k) || (List.range (n + 1)).any fun j => decide (i < j) && Region.waitsFor md ops j i
theorem tailF_waits {k n : Nat} {listed : Array Bool} (hs : sinkF md ops k n = true) (hc : Region.chainB md ops n = true) (hn : n < ops.size) (inv : HeadInv md ops n listed) :
    ∀ (d i : Nat), n - i = d → k ≤ i → i < n → listed.getD i true = false → ∀ t, n ≤ t → t ∉ Region.ready md ops listed := by
  intro d
  induction d using Nat.strongRecOn with
  | _ d ih =>
    intro i hd hki hi hun t ht hr
    obtain ⟨_, ot, hot, hall⟩ := mem_ready.1 hr
    have htlt : t < ops.size := (Array.getElem?_eq_some_iff.1 hot).1
    by_cases htn : t = n
    · subst htn
      have h1 := List.all_eq_true.1 hs i (List.mem_range.2 hi)
      rw [Bool.or_eq_true] at h1
      obtain ⟨j, hj, hj2⟩ := List.any_eq_true.1 (h1.resolve_left (by simp; omega))
      simp only [Bool.and_eq_true, decide_eq_true_eq] at hj2
      obtain ⟨oj, hoj, e, he, hb, hon⟩ := Region.waitsFor_spec hj2.2
      have hjle : j ≤ t := by have := List.mem_range.1 hj; omega
      by_cases hjt : j = t
      · subst hjt
        have : oj = ot := Option.some.inj (hoj.symm.trans hot)
        subst this
        have h2 := hall e he hb
        rw [hon, getD_both hun] at h2
        cases h2
      · cases hl : listed.getD j false with
        | true =>
          have h2 := inv.closed j oj hoj hl e he hb
          rw [hon, getD_both hun] at h2
          cases h2
        | false =>
          have hjs : j < listed.size := by rw [inv.size]; omega
          exact ih (t - j) (by omega) j rfl (by omega) (by omega) (getD_in hjs hl) t (Nat.le_refl _) hr
    · have h1 := List.all_eq_true.1 hc t (List.mem_range.2 htlt)
      simp only [Bool.or_eq_true, decide_eq_true_eq] at h1
      rcases h1 with h1 | h1
      · omega
      · obtain ⟨o', ho', e, he, hb, hon⟩ := Region.waitsFor_spec h1
        have : o' = ot := Option.some.inj (ho'.symm.trans hot)
        subst this
        have h2 := hall e he hb
        rw [hon, getD_both (inv.tail (t - 1) (by omega) (by omega))] at h2
        cases h2

theorem wpAnyM_first {k0 n i : Nat} {oi : Oper} {v : Value} {L : Array Bool → Act → Prop} (hi : ops[i]? = some oi) (hsel : ∀ (j : Nat) (o : Oper) cs b, ops[j]? = some o → o.op ≠ .select cs b)
    (hs : sinkF md ops k0 n = true) (hc : Region.chainB md ops n = true) (hn : n < ops.size) (hki : k0 ≤ i) (hin : i < n)
    (hdone : ∀ listed a, L listed a → ∀ j ∈ Region.ready md ops listed, n ≤ j) :
    ∀ (f : Nat) (listed : Array Bool) (a : Act), HeadInv md ops n listed →
      (∀ j oj, ops[j]? = some oj → j ≠ i → listed.getD j true = false → (∀ e ∈ oj.after, Region.binds md e = true → e.on ≠ i) → oi.apart ops oj = true) →
      i ∈ Region.ready md ops listed → YieldsIn P ops C oi v a →
      wpAnyM P md ops C n L f (listed.setIfInBounds i true) (a.put oi.dst v) → wpAnyM P md ops C n L (f + 1) listed a := by
  intro f
  induction f with
  | zero =>
    intro listed a inv _ hr hy H
    have hun := (mem_ready.1 hr).1
    refine ⟨fun h => (by rw [h] at hr; cases hr), fun j hj => ?_⟩
    have hjn : j < n := (Nat.lt_or_ge j n).resolve_right fun h => tailF_waits hs hc hn inv _ i rfl hki hin hun j h hj
    refine ⟨hjn, ?_⟩
    by_cases hji : j = i
    · subst hji; exact hy.qOp hi H
    · have := hdone _ _ H j (ready_mono hj hji)
      omega
  | succ f ih =>
    intro listed a inv hfree hr hy H
    have hun := (mem_ready.1 hr).1
    refine ⟨fun h => (by rw [h] at hr; cases hr), fun j hj => ?_⟩
    have hjn : j < n := (Nat.lt_or_ge j n).resolve_right fun h => tailF_waits hs hc hn inv _ i rfl hki hin hun j h hj
    refine ⟨hjn, ?_⟩
    by_cases hji : j = i
    · subst hji; exact hy.qOp hi H
    · have h1 := (H.2 j (ready_mono hj hji)).2
      obtain ⟨hjun, oj, hoj, hall⟩ := mem_ready.1 hj
      have hnot : ∀ e ∈ oj.after, Region.binds md e = true → e.on ≠ i := fun e he hb heq => by
        have h1 := hall e he hb
        rw [heq, getD_both hun] at h1
        cases h1
      have h2 := qOp_put hoj (hfree j oj hoj hji hjun hnot) (fun cs b => hsel i oi cs b hi) (fun cs b => hsel j oj cs b hoj) hy h1
      have hfree' : ∀ k ok, ops[k]? = some ok → k ≠ i → (listed.setIfInBounds j true).getD k true = false →
          (∀ e ∈ ok.after, Region.binds md e = true → e.on ≠ i) → oi.apart ops ok = true := fun k ok hk hki hun hno => by
        refine hfree k ok hk hki ?_ hno
        by_cases hjk : j = k
        · subst hjk; exact hjun
        · rw [getD_set_ne true hjk] at hun; exact hun
      refine qOp_mono (fun a' h3 => ih (listed.setIfInBounds j true) a' (inv.set hj hjn) hfree' (ready_mono hr (Ne.symm hji)) h3.1 ?_) h2
      rw [Array.setIfInBounds_comm _ _ hji]
      exact h3.2

theorem wpAnyM_lex {k0 n g : Nat} {Lq : Act → Prop} (hsel : Region.noSelect ops = true) (hs : sinkF md ops k0 n = true) (hc : Region.chainB md ops n = true) (hn : n < ops.size) :
    ∀ (l : List Oper) (k : Nat) (listed : Array Bool) (a : Act), k0 ≤ k → (∀ j, j < l.length → l[j]? = ops[k + j]?) → k + l.length = n → HeadInv md ops n listed →
    Region.lexHead md ops g l.length k listed = true → wpQuiet P ops C Lq l a →
    wpAnyM P md ops C n (fun listed' a' => Region.seqB md ops g n listed' = true ∧ Lq a') l.length listed a
  | [], k, listed, a, _, _, hk, _, hB, h => by
    have : k = n := by simpa using hk
    subst this
    exact ⟨by simpa [Region.lexHead] using hB, h⟩
  | o :: l, k, listed, a, hk0, hl, hk, inv, hB, h => by
    have h0 : ops[k]? = some o := by simpa using (hl 0 (by simp)).symm
    simp only [List.length_cons, Region.lexHead, Bool.and_eq_true] at hB
    obtain ⟨⟨hr, hf⟩, hB'⟩ := hB
    have hkn : k < n := by simp only [List.length_cons] at hk; omega
    have hr' : k ∈ Region.ready md ops listed := by simpa using hr
    have hst : qOp P ops C k (wpQuiet P ops C Lq l) a := by unfold qOp; simp only [h0]; exact h
    obtain ⟨v, hy, hK⟩ := yieldsIn_of_qOp h0 hst
    exact wpAnyM_first h0 (Region.noSelect_spec hsel) hs hc hn hk0 hkn (fun listed' a' hL => seqB_ready hL.1) l.length listed a inv (Region.free_spec h0 hf) hr' hy
      (wpAnyM_lex hsel hs hc hn l (k + 1) _ _ (by omega) (fun j hj => by have := hl (j + 1) (by simp; omega); simpa [Nat.add_assoc, Nat.add_comm 1 j] using this) (by simp only [List.length_cons] at hk; omega) (inv.set hr' hkn) hB' hK)

/-- The order of a region's text, from number k on, of operations that come first, then one behind the other. -/
def lexTailF (ops : Array Oper) (k n : Nat) (listed : Array Bool) : Bool :=
  Region.noSelect ops && decide (n < ops.size) && decide (k ≤ n) && sinkF .any ops k n && Region.chainB .any ops n && Region.lexHead .any ops (ops.size - n) (n - k) k listed
theorem wpAny_tail {k n : Nat} {Q : Exit → Act → World → Prop} {a : Act} {w : World} {l : List Oper} {listed : Array Bool} (hB : lexTailF l.toArray k n listed = true) (inv : HeadInv .any l.toArray n listed) (hC : C w)
    (h : wpQuiet P l.toArray C (fun a' => ∀ w', C w' → wpList P l.toArray Q (l.drop n) a' w') ((l.take n).drop k) a) : wpAny P .any l.toArray Q (l.length - k) listed a w := by
  simp only [lexTailF, Bool.and_eq_true, decide_eq_true_eq] at hB
  obtain ⟨⟨⟨⟨⟨hsel, hn⟩, hkn⟩, hs⟩, hc⟩, hlex⟩ := hB
  have hn' : n < l.length := by simpa using hn
  have htl : ((l.take n).drop k).length = n - k := by simp; omega
  have hdl : (l.drop n).length = l.toArray.size - n := by simp
  have H := wpAnyM_lex (md := .any) (g := l.toArray.size - n) hsel hs hc hn ((l.take n).drop k) k listed a (Nat.le_refl _) (fun j hj => by
    have hj' : j < n - k := by rw [htl] at hj; exact hj
    rw [List.getElem?_drop, List.getElem?_take, if_pos (by omega)]; simp) (by rw [htl]; omega) inv (by rw [htl]; exact hlex) h
  have := wpAny_of_headM (Q' := Q) (g := l.toArray.size - n) (fun listed a' w' hw hL => by
    have := wpAny_of_seq (md := .any) (Q' := Q) (l.drop n) n listed a' w' (fun j => by simp [List.getElem?_drop]) (by rw [hdl]; exact hL.1) (hL.2 w' hw)
    rwa [hdl] at this) _ _ _ _ hC H
  rw [htl, show n - k + (l.toArray.size - n) = l.length - k by simp; omega] at this
  exact this
theorem inv_start (l : List Oper) (n : Nat) : HeadInv .any l.toArray n (Array.replicate l.length false) :=
  ⟨by simp, fun j oj _ hl => (by rw [getD_replicate_false] at hl; cases hl), fun t _ ht => getD_in (by simpa using ht) (getD_replicate_false _ _)⟩
theorem wp_region_quiet_tail {id : Nat} {Q : Exit → Act → World → Prop} {a : Act} {w : World} {l : List Oper} (n : Nat) (hm : P.follows .mixedOrders = true) (hB : lexTailF l.toArray 0 n (Array.replicate l.length false) = true) (hC : C { w with drawn := w.drawn + 1 })
    (h : wpQuiet P l.toArray C (fun a' => ∀ w', C w' → wpList P l.toArray Q (l.drop n) a' w') (l.take n) a) : (Code.region id l.toArray true).wp P Q a w := by
  refine wp_region_any hm ?_
  have := wpAny_tail (k := 0) hB (inv_start l n) hC (by simpa using h)
  simpa using this
/-- The head leaves the world but for draws. -/
theorem wp_region_drewN_tail {id : Nat} {Q : Exit → Act → World → Prop} {a : Act} {w : World} {l : List Oper} (n : Nat) (hm : P.follows .mixedOrders = true) (hB : lexTailF l.toArray 0 n (Array.replicate l.length false) = true)
    (h : wpQuiet P l.toArray (fun w' => ∃ m, w' = w.drewN m) (fun a' => ∀ w', (∃ m, w' = w.drewN m) → wpList P l.toArray Q (l.drop n) a' w') (l.take n) a) : (Code.region id l.toArray true).wp P Q a w :=
  wp_region_quiet_tail (C := fun w' => ∃ m, w' = w.drewN m) n hm hB ⟨1, rfl⟩ h
end
end Go.Proofs.YtojgjejbhcjifaaGreatDoor

/- A region that draws its order, inside a round's fence: by the walk outside of any fence. No program in sight. -/
namespace Go.Proofs.YtojgjejbhcjifaaGreatDoor
set_option linter.unusedVariables false
open Go.RowKit

end Go.Proofs.YtojgjejbhcjifaaGreatDoor

/- Data that lies in memory: rows of elements, also elements that hold slices of their own. No program in sight. -/
namespace Go.Proofs.YtojgjejbhcjifaaGreatDoor
set_option linter.unusedVariables false
open Go.RowKit

/-- How a kind of data lies: so many cells; what they hold, and what lies behind them in blocks of F. -/
structure Rep (α : Type) where
  n : Nat
  rel : World → (Nat → Prop) → α → List Value → Prop
  len : ∀ {w F x cs}, rel w F x cs → cs.length = n
  keep : ∀ {w w' : World} {F : Nat → Prop} {x cs}, rel w F x cs → (∀ b, F b → w'.heap[b]? = w.heap[b]?) → rel w' F x cs
  more : ∀ {w F G x cs}, rel w F x cs → (∀ b, F b → G b) → rel w G x cs

/-- Data of cells alone. -/
def Rep.flat {α : Type} (n : Nat) (enc : α → List Value) (h : ∀ x, (enc x).length = n) : Rep α :=
  ⟨n, fun _ _ x cs => cs = enc x, fun e => by subst e; exact h _, fun e _ => e, fun e _ => e⟩
def strR : Rep ByteArray := Rep.flat 1 (fun s => [.string s]) (fun _ => rfl)
def intR : Rep Int := Rep.flat 1 (fun x => [.int .i64 x]) (fun _ => rfl)

/-- The cells of a row of elements. -/
def Lay {α : Type} (R : Rep α) (w : World) (F : Nat → Prop) (l : List α) (cs : List Value) : Prop :=
  cs.length = l.length * R.n ∧ ∀ (k : Nat) (x : α), l[k]? = some x → R.rel w F x ((cs.drop (k * R.n)).take R.n)

section
variable {α : Type} {R : Rep α} {w w' : World} {F G : Nat → Prop} {l : List α} {cs : List Value}
theorem Lay.nil_ : Lay R w F [] [] := ⟨by simp, fun k x h => by simp at h⟩
theorem Lay.keep (h : Lay R w F l cs) (hk : ∀ b, F b → w'.heap[b]? = w.heap[b]?) : Lay R w' F l cs := ⟨h.1, fun k x hx => R.keep (h.2 k x hx) hk⟩
theorem Lay.more (h : Lay R w F l cs) (hk : ∀ b, F b → G b) : Lay R w G l cs := ⟨h.1, fun k x hx => R.more (h.2 k x hx) hk⟩
theorem Lay.snoc {x : α} {a : List Value} (h : Lay R w F l cs) (ha : R.rel w F x a) : Lay R w F (l ++ [x]) (cs ++ a) := by
  have hl := R.len ha
  refine ⟨by simp [h.1, hl, Nat.add_mul], fun k y hy => ?_⟩
  by_cases hk : k < l.length
  · rw [List.getElem?_append_left hk] at hy
    have h2 := h.2 k y hy
    have h3 : (k + 1) * R.n ≤ cs.length := by rw [h.1]; exact Nat.mul_le_mul_right _ hk
    rw [Nat.add_mul, Nat.one_mul] at h3
    rw [List.drop_append_of_le_length (by omega), List.take_append_of_le_length (by simp; omega)]
    exact h2
  · have hk2 : k = l.length := by
      have := (List.getElem?_eq_some_iff.1 hy).1
      simp at this; omega
    subst hk2
    rw [List.getElem?_append_right (Nat.le_refl _)] at hy
    simp at hy
    subst hy
    rw [← h.1, List.drop_left' rfl, List.take_of_length_le (by omega)]
    exact ha
theorem Lay.one {x : α} {a : List Value} (ha : R.rel w F x a) : Lay R w F [x] a := by simpa using Lay.nil_.snoc ha
theorem Lay.drop (h : Lay R w F l cs) (k : Nat) : Lay R w F (l.drop k) (cs.drop (k * R.n)) := by
  refine ⟨by simp [h.1, Nat.sub_mul], fun j x hx => ?_⟩
  rw [List.getElem?_drop] at hx
  have := h.2 _ x hx
  rw [List.drop_drop, ← Nat.add_mul]
  exact this
theorem Lay.take (h : Lay R w F l cs) (k : Nat) : Lay R w F (l.take k) (cs.take (k * R.n)) := by
  refine ⟨?_, fun j x hx => ?_⟩
  · rw [List.length_take, List.length_take, h.1]
    rcases Nat.le_total k l.length with hk | hk
    · rw [Nat.min_eq_left hk, Nat.min_eq_left (Nat.mul_le_mul_right _ hk)]
    · rw [Nat.min_eq_right hk, Nat.min_eq_right (Nat.mul_le_mul_right _ hk)]
  · have hj : j < k := by
      have := (List.getElem?_eq_some_iff.1 hx).1
      simp at this; omega
    rw [List.getElem?_take_of_lt hj] at hx
    have h2 := h.2 j x hx
    have h3 : (j + 1) * R.n ≤ k * R.n := Nat.mul_le_mul_right _ hj
    rw [Nat.add_mul, Nat.one_mul] at h3
    rw [List.drop_take, List.take_take, Nat.min_eq_left (by omega)]
    exact h2
end

/-- A slice value that reads as a list. -/
def Sli {α : Type} (R : Rep α) (w : World) (F : Nat → Prop) (l : List α) (v : Value) : Prop :=
  ∃ A c, v = .slice A l.length c ∧ l.length ≤ c ∧ c ≤ 9223372036854775807 ∧ (0 < l.length → ∃ b off cs, A = some ⟨b, off, none⟩ ∧ F b ∧ Lay R w F l cs ∧ ∀ j u, cs[j]? = some u → w.cell? ⟨b, off + j, none⟩ = some u)

section
variable {α : Type} {R : Rep α} {w w' : World} {F G : Nat → Prop} {l : List α} {v : Value}
theorem cell_of_heap {b o : Nat} (h : w'.heap[b]? = w.heap[b]?) : w'.cell? ⟨b, o, none⟩ = w.cell? ⟨b, o, none⟩ := World.cell?_of_block (a := ⟨b, o, none⟩) h
theorem Sli.keep (h : Sli R w F l v) (hk : ∀ b, F b → w'.heap[b]? = w.heap[b]?) : Sli R w' F l v := by
  obtain ⟨A, c, e, h1, h2, h3⟩ := h
  refine ⟨A, c, e, h1, h2, fun h0 => ?_⟩
  obtain ⟨b, off, cs, ea, hb, hl, hc⟩ := h3 h0
  exact ⟨b, off, cs, ea, hb, hl.keep hk, fun j u hj => (cell_of_heap (hk b hb)).trans (hc j u hj)⟩
theorem Sli.more (h : Sli R w F l v) (hk : ∀ b, F b → G b) : Sli R w G l v := by
  obtain ⟨A, c, e, h1, h2, h3⟩ := h
  refine ⟨A, c, e, h1, h2, fun h0 => ?_⟩
  obtain ⟨b, off, cs, ea, hb, hl, hc⟩ := h3 h0
  exact ⟨b, off, cs, ea, hk b hb, hl.more hk, hc⟩
theorem Sli.nil_ : Sli R w F [] (.slice none 0 0) := ⟨none, 0, rfl, Nat.le_refl _, by omega, fun h => absurd h (by simp)⟩
theorem Sli.below {B : Nat} (h : Sli R w F l v) (hb : Below B w w') (hF : ∀ b, F b → b < B) : Sli R w' F l v := h.keep fun b hf => hb.block b (hF b hf)
theorem Sli.alloc (h : Sli R w F l v) (o : Obj) (hF : ∀ b, F b → b < w.heap.size) : Sli R (w.alloc o) F l v := h.keep fun b hf => Below.heap_alloc w o b (hF b hf)
theorem Sli.drew (h : Sli R w F l v) : Sli R w.drew F l v := h.keep fun _ _ => rfl
theorem Sli.drewN (h : Sli R w F l v) (n : Nat) : Sli R (w.drewN n) F l v := h.keep fun _ _ => rfl
theorem Sli.setCell (h : Sli R w F l v) {p : Addr} (u : Value) (hF : ¬ F p.block) : Sli R (w.setCell p u) F l v :=
  h.keep fun b hf => Below.heap_setCell w p u b (fun e => hF (by rw [← e]; exact hf))
theorem Sli.grown {g : Nat} (h : Sli R w F l v) (hg : w.grownBy w' (some g)) (hF : ∀ b, F b → b < w.heap.size ∧ b ≠ g) : Sli R w' F l v :=
  h.keep fun b hf => hg.block b (hF b hf).1 (by simpa using (hF b hf).2)
/-- Its form, and element k. -/
theorem Sli.form (h : Sli R w F l v) : ∃ A c, v = .slice A l.length c ∧ l.length ≤ c ∧ c ≤ 9223372036854775807 := by
  obtain ⟨A, c, e, h1, h2, _⟩ := h; exact ⟨A, c, e, h1, h2⟩
theorem Sli.at_ {A : Option Addr} {n c : Nat} (h : Sli R w F l (.slice A n c)) (k : Nat) (hk : k < l.length) :
    ∃ b off a, A = some ⟨b, off, none⟩ ∧ F b ∧ R.rel w F l[k] a ∧ ∀ j u, a[j]? = some u → w.cell? ⟨b, off + k * R.n + j, none⟩ = some u := by
  obtain ⟨A', c', e, h1, h2, h3⟩ := h
  injection e with e1 e2 e3
  subst e1
  obtain ⟨b, off, cs, ea, hb, hl, hc⟩ := h3 (by omega)
  refine ⟨b, off, _, ea, hb, hl.2 k _ (List.getElem?_eq_getElem hk), fun j u hj => ?_⟩
  rw [List.getElem?_take] at hj
  split at hj
  · rw [List.getElem?_drop] at hj
    rw [Nat.add_assoc]; exact hc _ u hj
  · cases hj
/-- A slice that a call of one's own has filled. -/
theorem Sli.own {base e n : Nat} {xs : List Value} (h : w.ownsRow base e R.n v n xs) (hl : Lay R w F l xs) (hn : n = l.length) (hc : ∀ b c, v = .slice (some ⟨b, 0, none⟩) n c → F b) : Sli R w F l v := by
  subst hn
  rcases h.2 with ⟨rfl, h0⟩ | ⟨g, cap, cur, rfl, hb, hg, h1, h2, h3, h4⟩
  · obtain rfl : l = [] := List.length_eq_zero_iff.1 h0
    exact Sli.nil_
  · have hf := hc g cap rfl
    refine ⟨_, cap, rfl, h1, by unfold maxLen at h2; omega, fun _ => ⟨g, 0, xs, rfl, hf, hl, fun j u hj => ?_⟩⟩
    rw [Nat.zero_add]
    simp only [World.cell?, hg]
    rw [← h4] at hj
    rw [List.getElem?_take] at hj
    split at hj
    · simpa using hj
    · cases hj
/-- A row that has just been laid. -/
theorem Sli.new {cs : List Value} (T : TypeId) (c : Nat) (hl : Lay R (w.alloc (.cells cs.toArray T)) F l cs) (hF : F w.heap.size) (h1 : l.length ≤ c) (h2 : c ≤ 9223372036854775807) : Sli R (w.alloc (.cells cs.toArray T)) F l (.slice (some ⟨w.heap.size, 0, none⟩) l.length c) := by
  refine ⟨_, c, rfl, h1, h2, fun _ => ⟨_, 0, cs, rfl, hF, hl, fun j u hj => ?_⟩⟩
  rw [Nat.zero_add]
  have hg : (w.alloc (.cells cs.toArray T)).heap[w.heap.size]? = some (.cells cs.toArray T (0, 0)) := heap_alloc_new w _
  simp only [World.cell?, hg]
  simpa using hj
end

/-- Slices as elements. -/
def Rep.sli {α : Type} (R : Rep α) : Rep (List α) :=
  ⟨1, fun w F l cs => ∃ v, cs = [v] ∧ Sli R w F l v, fun h => by obtain ⟨v, rfl, _⟩ := h; rfl, fun h hk => by obtain ⟨v, e, h⟩ := h; exact ⟨v, e, h.keep hk⟩, fun h hk => by obtain ⟨v, e, h⟩ := h; exact ⟨v, e, h.more hk⟩⟩
end Go.Proofs.YtojgjejbhcjifaaGreatDoor

/- Files, manifests and copies, in plain words. No program in sight. -/
namespace Go.Proofs.YtojgjejbhcjifaaGreatDoor
set_option linter.unusedVariables false
open Go.RowKit

structure Copied where
  name : ByteArray
  size : Int
  sum : ByteArray
theorem Copied.ext_iff' {a b : Copied} : a = b ↔ a.name = b.name ∧ a.size = b.size ∧ a.sum = b.sum := by
  constructor
  · rintro rfl; exact ⟨rfl, rfl, rfl⟩
  · rintro ⟨h1, h2, h3⟩; cases a; cases b; simp at h1 h2 h3; subst h1; subst h2; subst h3; rfl
def Copied.cells (x : Copied) : List Value := [.string x.name, .int .i64 x.size, .string x.sum]
def Copied.eqB (a b : Copied) : Bool := decide (a.name = b.name) && decide (a.size = b.size) && decide (a.sum = b.sum)
theorem Copied.eqB_iff {a b : Copied} : a.eqB b = true ↔ a = b := by rw [Copied.ext_iff']; simp [Copied.eqB, and_assoc]

end Go.Proofs.YtojgjejbhcjifaaGreatDoor

/- Slices that a call of one's own fills by append, with elements that may hold slices of their own. -/
namespace Go.Proofs.YtojgjejbhcjifaaGreatDoor
set_option linter.unusedVariables false
open Go.RowKit

/-- What lies from block lo on, but for one block. -/
def From (w : World) (lo : Nat) (own : Option Nat) (b : Nat) : Prop := lo ≤ b ∧ b < w.heap.size ∧ some b ≠ own
/-- The value v owns the elements l, in a row from block base on; what they hold lies from block lo on, apart from that row. -/
def Own {α : Type} (R : Rep α) (w : World) (base lo : Nat) (e : TypeId) (l : List α) (v : Value) : Prop :=
  ∃ xs, w.ownsRow base e R.n v l.length xs ∧ Lay R w (From w lo v.ownBlock) l xs

section
variable {α : Type} {R : Rep α} {w w' w1 : World} {base lo : Nat} {e : TypeId} {l : List α} {v : Value}
theorem Own.nil_ : Own R w base lo e [] (.slice none 0 0) := ⟨[], World.ownsRow_nil w base e R.n, Lay.nil_⟩
theorem Own.form (h : Own R w base lo e l v) : (v = .slice none 0 0 ∧ l = []) ∨ ∃ g cap, v = .slice (some ⟨g, 0, none⟩) l.length cap ∧ base ≤ g ∧ g < w.heap.size ∧ l.length ≤ cap ∧ cap ≤ 9223372036854775807 := by
  obtain ⟨xs, ho, _⟩ := h
  rcases ho.2 with ⟨hv, h0⟩ | ⟨g, cap, cur, hv, hb, hg, hc, hm, _⟩
  · exact .inl ⟨hv, List.length_eq_zero_iff.1 h0⟩
  · exact .inr ⟨g, cap, hv, hb, heap_lt' hg, hc, by unfold maxLen at hm; omega⟩
where heap_lt' {w : World} {b : Nat} {o : Obj} (h : w.heap[b]? = some o) : b < w.heap.size := (Array.getElem?_eq_some_iff.1 h).1
theorem Own.block (h : Own R w base lo e l v) (g : Nat) (hg : v.ownBlock = some g) : base ≤ g ∧ g < w.heap.size := by
  obtain ⟨xs, ho, _⟩ := h
  exact ho.lt g hg
/-- It stays what it is where its row and what its elements hold stay. -/
theorem Own.keep (h : Own R w base lo e l v) (hs : w.heap.size ≤ w'.heap.size) (hk : ∀ b, (lo ≤ b ∨ v.ownBlock = some b) → b < w.heap.size → w'.heap[b]? = w.heap[b]?) : Own R w' base lo e l v := by
  obtain ⟨xs, ho, hl⟩ := h
  refine ⟨xs, ⟨ho.1, ?_⟩, (hl.keep fun b hb => hk b (.inl hb.1) hb.2.1).more fun b hb => ⟨hb.1, Nat.lt_of_lt_of_le hb.2.1 hs, hb.2.2⟩⟩
  rcases ho.2 with hn | ⟨g, cap, cur, rfl, hb, hg, rest⟩
  · exact .inl hn
  · exact .inr ⟨g, cap, cur, rfl, hb, by rw [hk g (.inr rfl) (Array.getElem?_eq_some_iff.1 hg).1]; exact hg, rest⟩
theorem Own.alloc (h : Own R w base lo e l v) (o : Obj) : Own R (w.alloc o) base lo e l v := h.keep (by simp) fun b _ hb => Below.heap_alloc w o b hb
theorem Own.drew (h : Own R w base lo e l v) : Own R w.drew base lo e l v := h.keep (Nat.le_refl _) fun _ _ _ => rfl
theorem Own.drewN (h : Own R w base lo e l v) (n : Nat) : Own R (w.drewN n) base lo e l v := h.keep (Nat.le_refl _) fun _ _ _ => rfl
theorem Own.below (h : Own R w base lo e l v) (hb : Below w.heap.size w w') : Own R w' base lo e l v := h.keep hb.size fun b _ hlt => hb.block b hlt
theorem Own.setCell (h : Own R w base lo e l v) {p : Addr} (u : Value) (h1 : p.block < lo) (h2 : v.ownBlock ≠ some p.block) : Own R (w.setCell p u) base lo e l v :=
  h.keep (by simp [World.setCell]) fun b hb _ => Below.heap_setCell w p u b (fun e => by
    subst e
    rcases hb with hb | hb
    · omega
    · exact h2 hb)
/-- Another row grows, or a stream turns. -/
theorem Own.grown {row : Option Nat} (h : Own R w base lo e l v) (hg : w.grownBy w' row) (h1 : ∀ k, row = some k → k < lo) (h2 : v.ownBlock = none ∨ v.ownBlock ≠ row) : Own R w' base lo e l v :=
  h.keep hg.size fun b hb hlt => hg.block b hlt (fun er => by
    rcases hb with hb | hb
    · have := h1 b er.symm; omega
    · rcases h2 with h2 | h2
      · rw [h2] at hb; cases hb
      · exact h2 (by rw [hb, er]))
/-- What it reads as. -/
theorem Own.sli {F : Nat → Prop} (h : Own R w base lo e l v) (hF : ∀ b, lo ≤ b → b < w.heap.size → F b) (hB : ∀ g, v.ownBlock = some g → F g) : Sli R w F l v := by
  obtain ⟨xs, ho, hl⟩ := h
  exact Sli.own ho (hl.more fun b hb => hF b hb.1 hb.2.1) rfl (fun b c hv => hB b (by rw [hv]; rfl))
/-- One element more has been appended. -/
theorem Own.push {row : List Value} {xs cs : List Value} {v' : Value} {g H : Nat} (hl : Lay R w (From w lo v.ownBlock) l xs) {y : α} (hy : R.rel w (From w lo v.ownBlock) y cs)
    (ho : w1.ownsRow base e R.n v' (l.length + 1) (xs ++ cs)) (hg : w.grownBy w1 v.ownBlock) (hv' : v'.ownBlock = some g) (hat : v.ownBlock = some g ∨ (g = H ∧ w.heap.size ≤ H)) : Own R w1 base lo e (l ++ [y]) v' := by
  have hF : ∀ b, From w lo v.ownBlock b → From w1 lo v'.ownBlock b := fun b hb => ⟨hb.1, Nat.lt_of_lt_of_le hb.2.1 hg.size, by
    rw [hv']
    rcases hat with h | ⟨h, h2⟩
    · rw [← h]; exact hb.2.2
    · intro e; injection e with e; have := hb.2.1; omega⟩
  have hk : ∀ b, From w lo v.ownBlock b → w1.heap[b]? = w.heap[b]? := fun b hb => hg.block b hb.2.1 hb.2.2
  exact ⟨_, by simpa using ho, ((hl.snoc hy).keep hk).more hF⟩
end
theorem oneC {cs : List Value} (h : cs.all (fun u => match u with | .agg _ | .tuple _ => false | _ => true) = true) : ∀ u ∈ cs, u.oneCell' = true := by
  intro u hu
  have := List.all_eq_true.1 h u hu
  cases u <;> first | rfl | cases this

end Go.Proofs.YtojgjejbhcjifaaGreatDoor

/- Append of one element that lies in a block of its own. No program in sight. -/
namespace Go.Proofs.YtojgjejbhcjifaaGreatDoor
set_option linter.unusedVariables false
open Go.RowKit

/-- 'append(out, y)' at the operation: y lies in a block of its own. -/
theorem wpList_pushB {P : Program} {α : Type} {R : Rep α} {ops : Array Oper} {rest : List Oper} {o : Oper} {a : Act} {Q : Exit → Act → World → Prop} (hgd : o.guard = none) (s x : Operand) (t : TypeId)
    (ho : o.op = .call { callee := .builtin .append, args := #[s, x], argTypes := #[t, t] })
    (base lo : Nat) (e : TypeId) (i : TypeInfo) (z : Value) (bytes : Nat) (ht : P.underlying t = some (.slice e)) (hi : P.info? e = some i) (hz : i.zero = some z)
    (hsize : i.size = R.n) (hby : i.bytes = bytes) (hzs : z.cells.size = R.n) (hsz : 0 < R.n)
    (W : World) (v : Value) (l : List α) (hs : a.eval s = v) (hown : Own R W base lo e l v) (y : α) (cs : List Value) (hy : R.rel W (From W lo v.ownBlock) y cs) (h1 : ∀ u ∈ cs, u.oneCell' = true)
    (B : Nat) (T : TypeId) (c : Nat) (hB : W.heap[B]? = some (.cells cs.toArray T (0, 0))) (hx : a.eval x = .slice (some ⟨B, 0, none⟩) 1 c) (h63 : l.length + 1 ≤ maxLen) (hbytes : (l.length + 1) * bytes ≤ 140737488355328) (hbase : base ≤ W.heap.size)
    (h : ∀ g cap w', Own R w' base lo e (l ++ [y]) (.slice (some ⟨g, 0, none⟩) (l.length + 1) cap) → W.grownBy w' v.ownBlock → (v.ownBlock = some g ∨ g = W.heap.size) → g < w'.heap.size → wpList P ops Q rest (a.put o.dst (.slice (some ⟨g, 0, none⟩) (l.length + 1) cap)) w') :
    wpList P ops Q (o :: rest) a W := by
  obtain ⟨xs, hor, hl⟩ := hown
  have hn := R.len hy
  refine wpList_append_lies W hgd s x t ho base e i z R.n bytes ht hi hz hsize hby hzs hsz v l.length xs hs hor ⟨B, 0, none⟩ 1 c cs hx (by rw [hn, Nat.one_mul]) ?_ h1 (by omega) h63 hbytes hbase W.heap.size rfl ?_
  · intro j u hj
    exact World.news_of_block hB j u (by simpa using hj)
  · intro g cap w' h2 h3 h4 h5
    exact h g cap w' (Own.push (row := xs) (g := g) (H := W.heap.size) hl hy h2 h3 rfl (h4.imp id fun h => ⟨h, Nat.le_refl _⟩)) h3 h4 h5

end Go.Proofs.YtojgjejbhcjifaaGreatDoor

/- Three slices of strings that one call fills side by side. -/
namespace Go.Proofs.YtojgjejbhcjifaaGreatDoor
set_option linter.unusedVariables false
open Go.RowKit

def Dis (v v' : Value) : Prop := ∀ g, v.ownBlock = some g → v'.ownBlock = some g → False
theorem Dis.symm {v v' : Value} (h : Dis v v') : Dis v' v := fun g a b => h g b a
theorem Dis.nil_ {v : Value} : Dis v (.slice none 0 0) := fun g _ b => by cases b
section
variable {w w' : World} {base : Nat} {l1 l2 l3 : List ByteArray} {v1 v2 v3 : Value}
end
end Go.Proofs.YtojgjejbhcjifaaGreatDoor

/- Rolls, rates and frames in plain words: what the program and the reference both compute. No program in sight. -/
namespace Go.Proofs.YtojgjejbhcjifaaGreatDoor
set_option linter.unusedVariables false
open Go.RowKit

end Go.Proofs.YtojgjejbhcjifaaGreatDoor

/- Reading codes, in plain words. No program in sight. -/
namespace Go.Proofs.YtojgjejbhcjifaaGreatDoor
set_option linter.unusedVariables false
open Go.RowKit

theorem fields {r n c : Int} (hc : c = 24 ∨ c = 25 ∨ c = 30) (h0 : 0 ≤ n) (h1 : n < 86400 * c) :
    ∃ H M S F : Int, H = n / c / 3600 ∧ M = n / c / 60 % 60 ∧ S = n / c % 60 ∧ F = n % c ∧ 0 ≤ H ∧ H < 24 ∧ 0 ≤ M ∧ M < 60 ∧ 0 ≤ S ∧ S < 60 ∧ 0 ≤ F ∧ F < 30 ∧ n = (60 * (60 * H + M) + S) * c + F ∧ 60 * H + M = n / (60 * c) := by
  refine ⟨_, _, _, _, rfl, rfl, rfl, rfl, ?_⟩
  rcases hc with rfl | rfl | rfl <;> omega
end Go.Proofs.YtojgjejbhcjifaaGreatDoor

/- Codes by their fields, in plain words. No program in sight. -/
namespace Go.Proofs.YtojgjejbhcjifaaGreatDoor
set_option linter.unusedVariables false
open Go.RowKit

end Go.Proofs.YtojgjejbhcjifaaGreatDoor

/- Events in plain words: what the program and the reference both compute. No program in sight. -/
namespace Go.Proofs.YtojgjejbhcjifaaGreatDoor
set_option linter.unusedVariables false
open Go.RowKit

structure Ev where
  roll : ByteArray
  tin : Int
  tout : Int
theorem Ev.ext_iff' {a b : Ev} : a = b ↔ a.roll = b.roll ∧ a.tin = b.tin ∧ a.tout = b.tout := by
  constructor
  · rintro rfl; exact ⟨rfl, rfl, rfl⟩
  · rintro ⟨h1, h2, h3⟩; cases a; cases b; simp at h1 h2 h3; subst h1; subst h2; subst h3; rfl
def Ev.cells (x : Ev) : List Value := [.string x.roll, .int .i64 x.tin, .int .i64 x.tout]
def Ev.eqB (a b : Ev) : Bool := decide (a.roll = b.roll) && decide (a.tin = b.tin) && decide (a.tout = b.tout)
theorem Ev.eqB_iff {a b : Ev} : a.eqB b = true ↔ a = b := by rw [Ev.ext_iff']; simp [Ev.eqB, and_assoc]
/-- Words of a line. -/
def words (s : ByteArray) (c : UInt8) : List ByteArray := Lib.splitB ⟨#[c]⟩ 0 (Lib.countB s ⟨#[c]⟩) s
theorem splitB_size (sep : ByteArray) : ∀ (k : Nat) (s x : ByteArray), x ∈ Lib.splitB sep 0 k s → x.size ≤ s.size := by
  intro k
  induction k with
  | zero => intro s x hx; rw [Lib.splitB_zero] at hx; simp at hx; rw [hx]; exact Nat.le_refl _
  | succ k ih =>
    intro s x hx
    rw [Lib.splitB] at hx
    split at hx
    · simp at hx; rw [hx]; exact Nat.le_refl _
    · rcases List.mem_cons.1 hx with rfl | hx
      · rw [ByteArray.size_extract]; omega
      · have := ih _ _ hx
        rw [ByteArray.size_extract] at this; omega
theorem words_size {s x : ByteArray} {c : UInt8} (h : x ∈ words s c) : x.size ≤ s.size := splitB_size _ _ _ _ h
theorem words_len (s : ByteArray) (c : UInt8) : (words s c).length = Lib.countB s ⟨#[c]⟩ + 1 := Lib.splitB_all ⟨#[c]⟩ (Nat.le_refl 1) 0 _ s rfl
theorem words_le (s : ByteArray) (c : UInt8) : (words s c).length ≤ s.size + 1 := by
  rw [words_len]; have := Lib.countB_le ⟨#[c]⟩ (Nat.le_refl 1) s.size s (Nat.le_refl _); omega

end Go.Proofs.YtojgjejbhcjifaaGreatDoor

/- The generator's words for literal lists; rolls. -/
namespace Go.Proofs.YtojgjejbhcjifaaGreatDoor
set_option linter.unusedVariables false
open Go.RowKit

section
variable {a w w' w1 : World} {sb : Nat} {k : Int}
theorem gRefl (w : World) (sb : Nat) : w.grownBy w (some sb) := ⟨rfl, rfl, rfl, Nat.le_refl _, fun _ _ _ => rfl⟩
theorem gTrans (h : a.grownBy w (some sb)) (g : w.grownBy w1 (some sb)) : a.grownBy w1 (some sb) :=
  ⟨g.os.trans h.os, g.tape.trans h.tape, g.output.trans h.output, Nat.le_trans h.size g.size, fun i hi hne => (g.block i (Nat.lt_of_lt_of_le hi h.size) hne).trans (h.block i hi hne)⟩
theorem gAlloc (h : a.grownBy w (some sb)) (o : Obj) : a.grownBy (w.alloc o) (some sb) :=
  gTrans h ⟨rfl, rfl, rfl, by simp, fun i hi _ => Below.heap_alloc w o i hi⟩
theorem gBelow (h : a.grownBy w (some sb)) (hb : Below w.heap.size w w1) : a.grownBy w1 (some sb) :=
  gTrans h ⟨hb.os, hb.tape, hb.output, hb.size, fun i hi _ => hb.block i hi⟩
theorem gSet (h : a.grownBy w (some sb)) {p : Addr} (hp : a.heap.size ≤ p.block) (v : Value) : a.grownBy (w.setCell p v) (some sb) :=
  ⟨h.os, h.tape, h.output, by simpa [World.setCell] using h.size, fun i hi hne => (Below.heap_setCell w p v i (by omega)).trans (h.block i hi hne)⟩
theorem Str.lt (h : Str w sb k) : sb < w.heap.size := by
  obtain ⟨A, c, l, hb, _⟩ := h
  exact heap_lt hb
theorem Str.keep (h : Str w sb k) (hk : ∀ b, b ≤ sb → w1.heap[b]? = w.heap[b]?) : Str w1 sb k := by
  obtain ⟨A, c, l, hb, h0, hr, hl, ho⟩ := h
  exact ⟨A, c, l, (hk sb (Nat.le_refl _)).trans hb, h0, hr.keep (fun p _ hp => World.cell?_of_block (hk p.block (by omega))), hl, ho⟩
theorem Str.alloc (h : Str w sb k) (o : Obj) : Str (w.alloc o) sb k := h.keep fun b hb => Below.heap_alloc w o b (by have := h.lt; omega)
theorem Str.below (h : Str w sb k) (hb : Below w.heap.size w w1) : Str w1 sb k := h.keep fun b hb' => hb.block b (by have := h.lt; omega)
theorem Str.setCell (h : Str w sb k) {p : Addr} (hp : sb < p.block) (v : Value) : Str (w.setCell p v) sb k := h.keep fun b hb => Below.heap_setCell w p v b (by omega)
theorem Str.drew (h : Str w sb k) : Str w.drew sb k := h
theorem gDrew (h : a.grownBy w (some sb)) : a.grownBy w.drew (some sb) := ⟨h.os, h.tape, h.output, h.size, h.block⟩
theorem Rs.new1 {α : Type} (w : World) (l : List α) (enc1 : α → Value) (T : TypeId) (lo : Nat) (hlo : lo ≤ w.heap.size) : Rs (w.alloc (.cells (l.map enc1).toArray T)) lo (w.heap.size + 1) 1 (fun x => [enc1 x]) (some ⟨w.heap.size, 0, none⟩) l := by
  intro _
  refine ⟨_, _, rfl, hlo, by omega, fun j x hx i u hu => ?_⟩
  have hb : (w.alloc (.cells (l.map enc1).toArray T)).heap[w.heap.size]? = some (.cells (l.map enc1).toArray T (0, 0)) := heap_alloc_new w _
  rw [(str_cells hb).1]
  cases i with
  | zero => simp at hu; simp [hx, hu]
  | succ i => simp at hu

theorem pickL (w : World) (l : List Int) (cs : Array Value) (T n c : Nat) (hcs : cs = (l.map (Value.int .i64)).toArray) (hn : n = l.length) (h0 : 0 < n) (h1 : n ≤ 1000) (hs : Str w sb k) (hk : k ≤ 4611686018427387904) :
    Calls Tryz.prog 17 #[.pointer (some ⟨sb, 0, none⟩), .slice (some ⟨w.heap.size, 0, none⟩) n c] (w.alloc (.cells cs T)) (Took sb k 1 (isInt (· ∈ l)) (w.alloc (.cells cs T))) := by
  subst hcs; subst hn
  exact pick_c sb k _ l c w.heap.size (w.heap.size + 1) _ (hs.alloc _) hk h0 (by omega) (Rs.new1 w l (.int .i64) T _ (Nat.le_refl _)) hs.lt (by simp)
theorem oneL (w : World) (l : List ByteArray) (cs : Array Value) (T n c : Nat) (hcs : cs = (l.map Value.string).toArray) (hn : n = l.length) (h0 : 0 < n) (h1 : n ≤ 1000) (hs : Str w sb k) (hk : k ≤ 4611686018427387904) :
    Calls Tryz.prog 18 #[.pointer (some ⟨sb, 0, none⟩), .slice (some ⟨w.heap.size, 0, none⟩) n c] (w.alloc (.cells cs T)) (Took sb k 1 (isStr (· ∈ l)) (w.alloc (.cells cs T))) := by
  subst hcs; subst hn
  exact one_c sb k _ l c w.heap.size (w.heap.size + 1) _ (hs.alloc _) hk h0 (by omega) (Rs.new1 w l .string T _ (Nat.le_refl _)) hs.lt (by simp)
end

end Go.Proofs.YtojgjejbhcjifaaGreatDoor

/- Where a generator's loop stands: stream, what has been made, the list so far, and blocks of its own. -/
namespace Go.Proofs.YtojgjejbhcjifaaGreatDoor
set_option linter.unusedVariables false
open Go.RowKit

/-- The stream sb has handed out n numbers; since w only it has turned; v is the list l made so far; each block of P lies as it was laid. -/
structure GS {α : Type} (R : Rep α) (e : TypeId) (w : World) (sb : Nat) (l : List α) (v : Value) (P : List (Nat × Array Value × TypeId)) (n : Int) (wx : World) : Prop where
  str : Str wx sb n
  gr : w.grownBy wx (some sb)
  own : Own R wx w.heap.size w.heap.size e l v
  lt : sb < w.heap.size
  prv : ∀ p ∈ P, wx.heap[p.1]? = some (.cells p.2.1 p.2.2 (0, 0)) ∧ w.heap.size ≤ p.1 ∧ v.ownBlock ≠ some p.1
section
variable {α : Type} {R : Rep α} {e : TypeId} {w wx wy : World} {sb : Nat} {l : List α} {v : Value} {P : List (Nat × Array Value × TypeId)} {n n' : Int}
theorem GS.start (h : Str w sb n) : GS R e w sb [] (.slice none 0 0) [] n w := ⟨h, gRefl w sb, Own.nil_, h.lt, fun p hp => by cases hp⟩
theorem GS.size (h : GS R e w sb l v P n wx) : w.heap.size ≤ wx.heap.size := h.gr.size
theorem GS.plt (h : GS R e w sb l v P n wx) {p : Nat × Array Value × TypeId} (hp : p ∈ P) : p.1 < wx.heap.size := heap_lt (h.prv p hp).1
theorem GS.turn (h : GS R e w sb l v P n wx) (hg : wx.grownBy wy (some sb)) (hs : Str wy sb n') : GS R e w sb l v P n' wy :=
  ⟨hs, gTrans h.gr hg, h.own.grown hg (fun k e => by injection e with e; have := h.lt; omega) (Or.inr fun e => by have := h.own.block _ e; have := h.lt; omega), h.lt, fun p hp => by
    obtain ⟨h1, h2, h3⟩ := h.prv p hp
    exact ⟨(hg.block _ (heap_lt h1) (by have := h.lt; simp; omega)).trans h1, h2, h3⟩⟩
theorem GS.alloc (h : GS R e w sb l v P n wx) (o : Obj) : GS R e w sb l v P n (wx.alloc o) := h.turn (gAlloc (gRefl wx sb) o) (h.str.alloc o)
theorem GS.below (h : GS R e w sb l v P n wx) (hb : Below wx.heap.size wx wy) : GS R e w sb l v P n wy := h.turn (gBelow (gRefl wx sb) hb) (h.str.below hb)
theorem GS.drew (h : GS R e w sb l v P n wx) : GS R e w sb l v P n wx.drew := ⟨h.str, gDrew h.gr, h.own.drew, h.lt, h.prv⟩
theorem GS.drewN (h : GS R e w sb l v P n wx) (k : Nat) : GS R e w sb l v P n (wx.drewN k) := ⟨h.str.drewN k, grown_drewN h.gr k, h.own.drewN k, h.lt, h.prv⟩
theorem GS.new (h : GS R e w sb l v P n wx) (cs : Array Value) (T : TypeId) : GS R e w sb l v ((wx.heap.size, cs, T) :: P) n (wx.alloc (.cells cs T)) := by
  have h2 := h.alloc (.cells cs T)
  refine ⟨h2.str, h2.gr, h2.own, h2.lt, fun p hp => ?_⟩
  rcases List.mem_cons.1 hp with rfl | hp
  · exact ⟨heap_alloc_new wx _, h.size, fun e => by have := h.own.block _ e; omega⟩
  · exact h2.prv p hp
theorem GS.set {b i : Nat} {cs : Array Value} {T : TypeId} (h : GS R e w sb l v ((b, cs, T) :: P) n wx) (hf : ∀ {w w' : World} {F : Nat → Prop} {x : α} {cs : List Value}, R.rel w F x cs → R.rel w' F x cs) (u : Value) (hd : ∀ p ∈ P, p.1 ≠ b) : GS R e w sb l v ((b, cs.setIfInBounds i u, T) :: P) n (wx.setCell ⟨b, i, none⟩ u) := by
  obtain ⟨h1, h2, h3⟩ := h.prv (b, cs, T) (by simp)
  dsimp only at h1 h2 h3
  refine ⟨h.str.setCell (by have := h.lt; show sb < b; omega) _, gSet h.gr h2 _, ?_, h.lt, fun p hp => ?_⟩
  · obtain ⟨xs, ho, hl⟩ := h.own
    refine ⟨xs, ⟨ho.1, ?_⟩, ⟨hl.1, fun k x hx => ?_⟩⟩
    · rcases ho.2 with hn | ⟨g, cap, cur, rfl, hb, hg, rest⟩
      · exact .inl hn
      · exact .inr ⟨g, cap, cur, rfl, hb, (Below.heap_setCell wx ⟨b, i, none⟩ u g (by intro e; exact h3 (by rw [e]; rfl))).trans hg, rest⟩
    · exact hf (R.more (hl.2 k x hx) (fun q hq => ⟨hq.1, by simpa [World.setCell] using hq.2.1, hq.2.2⟩))
  · rcases List.mem_cons.1 hp with rfl | hp
    · exact ⟨by simp [World.setCell, Array.getElem?_modify, h1], h2, h3⟩
    · obtain ⟨k1, k2, k3⟩ := h.prv p (by simp [hp])
      exact ⟨(Below.heap_setCell wx ⟨b, i, none⟩ u _ (by have := hd p hp; show p.1 ≠ b; exact this)).trans k1, k2, k3⟩
/-- One element more has been appended. -/
theorem GS.push {l' : List α} {v' : Value} {o : Obj} (h : GS R e w sb l v P n wx) (hown : Own R wy w.heap.size w.heap.size e l' v') (hg : (wx.alloc o).grownBy wy v.ownBlock) : GS R e w sb l' v' [] n wy := by
  have ha := h.alloc o
  have hz := ha.size
  have hk : ∀ b, b < w.heap.size → wy.heap[b]? = (wx.alloc o).heap[b]? := fun b hb => hg.block b (by omega) (fun e => by have := ha.own.block b e.symm; omega)
  exact ⟨ha.str.keep fun b hb => hk b (by have := h.lt; omega), ⟨hg.os.trans ha.gr.os, hg.tape.trans ha.gr.tape, hg.output.trans ha.gr.output, Nat.le_trans ha.gr.size hg.size, fun i hi hne => (hk i hi).trans (ha.gr.block i hi hne)⟩, hown, h.lt, fun p hp => by cases hp⟩
theorem GS.less {Q : List (Nat × Array Value × TypeId)} (h : GS R e w sb l v P n wx) (hq : ∀ p ∈ Q, p ∈ P) : GS R e w sb l v Q n wx := ⟨h.str, h.gr, h.own, h.lt, fun p hp => h.prv p (hq p hp)⟩
theorem GS.cell (h : GS R e w sb l v P n wx) {p : Nat × Array Value × TypeId} (hp : p ∈ P) : (∀ i, wx.cell? ⟨p.1, i, none⟩ = p.2.1[i]?) ∧ (∀ i, wx.frozen? ⟨p.1, i, none⟩ = false) := str_cells (h.prv p hp).1
end
end Go.Proofs.YtojgjejbhcjifaaGreatDoor

/- Append of a whole list; a list that lies in a box of a generator. No program in sight. -/
namespace Go.Proofs.YtojgjejbhcjifaaGreatDoor
set_option linter.unusedVariables false
open Go.RowKit

theorem Lay.oneC {α : Type} {R : Rep α} {w : World} {F : Nat → Prop} {l : List α} {cs : List Value} (h : Lay R w F l cs) (h1 : ∀ x a, R.rel w F x a → ∀ u ∈ a, u.oneCell' = true) : ∀ u ∈ cs, u.oneCell' = true := by
  intro u hu
  obtain ⟨j, hj, rfl⟩ := List.mem_iff_getElem.1 hu
  by_cases hn : R.n = 0
  · rw [h.1, hn] at hj; omega
  · have hq : j / R.n < l.length := (Nat.div_lt_iff_lt_mul (by omega)).2 (by rw [← h.1]; exact hj)
    refine h1 _ _ (h.2 _ _ (List.getElem?_eq_getElem hq)) _ ?_
    rw [List.mem_iff_getElem?]
    refine ⟨j % R.n, ?_⟩
    rw [List.getElem?_take, List.getElem?_drop, if_pos (Nat.mod_lt _ (by omega)), Nat.mul_comm, Nat.div_add_mod]
    exact List.getElem?_eq_getElem hj

section
variable {α : Type} {R : Rep α} {w w' w1 : World} {base lo : Nat} {e : TypeId} {l l' : List α} {v : Value}
end

section
variable {α : Type} {R : Rep α} {e : TypeId} {w wx wy : World} {sb : Nat} {l : List α} {v : Value} {P : List (Nat × Array Value × TypeId)} {n n' : Int}
/-- The list has grown, in its row or in a new one. -/
theorem GS.more {l' : List α} {v' : Value} {g : Nat} (h : GS R e w sb l v P n wx) (hown : Own R wy w.heap.size w.heap.size e l' v') (hg : wx.grownBy wy v.ownBlock) (hv : v'.ownBlock = some g) (hat : v.ownBlock = some g ∨ g = wx.heap.size) : GS R e w sb l' v' P n wy := by
  have hz := h.size
  have hk : ∀ b, b < w.heap.size → wy.heap[b]? = wx.heap[b]? := fun b hb => hg.block b (by omega) (fun e => by have := h.own.block b e.symm; omega)
  refine ⟨h.str.keep fun b hb => hk b (by have := h.lt; omega), ⟨hg.os.trans h.gr.os, hg.tape.trans h.gr.tape, hg.output.trans h.gr.output, Nat.le_trans h.gr.size hg.size, fun i hi hne => (hk i hi).trans (h.gr.block i hi hne)⟩, hown, h.lt, fun p hp => ?_⟩
  obtain ⟨k1, k2, k3⟩ := h.prv p hp
  have hlt := heap_lt k1
  refine ⟨(hg.block p.1 hlt (fun e => k3 e.symm)).trans k1, k2, ?_⟩
  rw [hv]
  intro e
  injection e with e
  rcases hat with hat | hat
  · exact k3 (by rw [hat, e])
  · omega
end
end Go.Proofs.YtojgjejbhcjifaaGreatDoor

/- Where a generator's loop stands whose elements hold lists of their own. No program in sight. -/
namespace Go.Proofs.YtojgjejbhcjifaaGreatDoor
set_option linter.unusedVariables false
open Go.RowKit

section
variable {α β : Type} {R : Rep α} {RI : Rep β} {inn : α → List β} {pv : α → Value} {e : TypeId} {w wx wy : World} {sb : Nat} {l : List α} {v : Value} {P Q : List (Nat × Array Value × TypeId)} {n n' : Int}
end
end Go.Proofs.YtojgjejbhcjifaaGreatDoor

/- A store into an element of a list of one's own. No program in sight. -/
namespace Go.Proofs.YtojgjejbhcjifaaGreatDoor
set_option linter.unusedVariables false
open Go.RowKit

theorem take_drop_set {xs : List Value} {i a n : Nat} {u : Value} (h : i < a ∨ a + n ≤ i) : ((xs.set i u).drop a).take n = (xs.drop a).take n := by
  apply List.ext_getElem?
  intro j
  simp only [List.getElem?_take, List.getElem?_drop, List.getElem?_set]
  by_cases hj : j < n
  · rw [if_pos hj, if_pos hj, if_neg (by omega)]
  · rw [if_neg hj, if_neg hj]
theorem take_drop_set_in {xs : List Value} {a j n : Nat} {u : Value} (hj : j < n) (hl : a + j < xs.length) : ((xs.set (a + j) u).drop a).take n = ((xs.drop a).take n).set j u := by
  apply List.ext_getElem?
  intro i
  simp only [List.getElem?_take, List.getElem?_drop, List.getElem?_set, List.length_take, List.length_drop]
  by_cases hi : i < n
  · rw [if_pos hi, if_pos hi]
    by_cases e : j = i
    · subst e
      rw [if_pos rfl, if_pos rfl, if_pos hl, if_pos (by omega)]
    · rw [if_neg (by omega), if_neg e]
  · rw [if_neg hi, if_neg hi, if_neg (by omega)]
section
variable {α : Type} {n : Nat} {enc : α → List Value} {hn : ∀ x, (enc x).length = n} {w : World} {base lo : Nat} {e : TypeId} {l : List α} {v : Value}
theorem Lay.modify {F G : Nat → Prop} {w' : World} {xs : List Value} (h : Lay (Rep.flat n enc hn) w F l xs) (f : α → α) (k j : Nat) (u : Value) (hf : ∀ x, enc (f x) = (enc x).set j u) (hj : j < n) (hk : k < l.length) : Lay (Rep.flat n enc hn) w' G (l.modify k f) (xs.set (k * n + j) u) := by
  have h1 : xs.length = l.length * n := h.1
  refine ⟨by rw [List.length_set, List.length_modify]; exact h.1, fun i x hx => ?_⟩
  show ((xs.set (k * n + j) u).drop (i * n)).take n = enc x
  rw [List.getElem?_modify] at hx
  have hkn : (k + 1) * n ≤ l.length * n := Nat.mul_le_mul_right _ hk
  rw [Nat.add_mul, Nat.one_mul] at hkn
  by_cases e : k = i
  · subst e
    rw [List.getElem?_eq_getElem hk] at hx
    simp at hx
    have hz : (xs.drop (k * n)).take n = enc l[k] := h.2 k _ (List.getElem?_eq_getElem hk)
    rw [take_drop_set_in hj (by omega), hz, ← hx, hf]
  · have hx' : l[i]? = some x := by
      rw [← hx]
      cases l[i]? <;> simp [e]
    have hz : (xs.drop (i * n)).take n = enc x := h.2 i x hx'
    rw [take_drop_set ?_, hz]
    rcases Nat.lt_or_gt_of_ne e with h2 | h2
    · left
      have : (k + 1) * n ≤ i * n := Nat.mul_le_mul_right _ h2
      rw [Nat.add_mul, Nat.one_mul] at this
      omega
    · right
      have : (i + 1) * n ≤ k * n := Nat.mul_le_mul_right _ h2
      rw [Nat.add_mul, Nat.one_mul] at this
      omega
/-- The store at cell j of element k. -/
theorem Own.modify {g m cap : Nat} (h : Own (Rep.flat n enc hn) w base lo e l (.slice (some ⟨g, 0, none⟩) m cap)) (f : α → α) (k j : Nat) (u : Value) (hf : ∀ x, enc (f x) = (enc x).set j u) (hj : j < n) (hk : k < l.length) :
    Own (Rep.flat n enc hn) (w.setCell ⟨g, k * n + j, none⟩ u) base lo e (l.modify k f) (.slice (some ⟨g, 0, none⟩) m cap) := by
  obtain ⟨xs, ho, hl⟩ := h
  refine ⟨xs.set (k * n + j) u, ⟨by rw [List.length_set, List.length_modify]; exact ho.1, ?_⟩, hl.modify f k j u hf hj hk⟩
  rcases ho.2 with ⟨hv, _⟩ | ⟨g', cap', cur, hv, hb, hg, h1, h2, h3, h4⟩
  · cases hv
  · injection hv with hv1 hv2 hv3
    injection hv1 with hv1
    injection hv1 with hv1
    subst hv1; subst hv3
    refine .inr ⟨g, cap, cur.setIfInBounds (k * n + j) u, by rw [List.length_modify]; rw [hv2], hb, by simp [World.setCell, Array.getElem?_modify, hg], by rw [List.length_modify]; exact h1, h2, by simpa using h3, ?_⟩
    rw [List.length_modify, ← h4]
    have hkn : (k + 1) * n ≤ l.length * n := Nat.mul_le_mul_right _ hk
    rw [Nat.add_mul, Nat.one_mul] at hkn
    show (cur.setIfInBounds (k * n + j) u).toList.take (l.length * n) = (cur.toList.take (l.length * n)).set (k * n + j) u
    rw [Array.toList_setIfInBounds, List.take_set]
/-- A row that begins behind a block begins behind an earlier one. -/
theorem Own.less {base' lo' : Nat} (h : Own (Rep.flat n enc hn) w base lo e l v) (hb : base' ≤ base) : Own (Rep.flat n enc hn) w base' lo' e l v := by
  obtain ⟨xs, ho, hl⟩ := h
  refine ⟨xs, ⟨ho.1, ?_⟩, hl⟩
  rcases ho.2 with hv | ⟨g, cap, cur, hv, hg, rest⟩
  · exact .inl hv
  · exact .inr ⟨g, cap, cur, hv, by omega, rest⟩
/-- Cell j of element k, and that it may be written. -/
theorem Own.cellAt {g m cap : Nat} (h : Own (Rep.flat n enc hn) w base lo e l (.slice (some ⟨g, 0, none⟩) m cap)) (k : Nat) (hk : k < l.length) (j : Nat) (hj : j < n) : w.cell? ⟨g, k * n + j, none⟩ = (enc l[k])[j]? ∧ w.frozen? ⟨g, k * n + j, none⟩ = false := by
  obtain ⟨xs, ho, hl⟩ := h
  rcases ho.2 with ⟨hv, _⟩ | ⟨g', cap', cur, hv, hb, hg, h1, h2, h3, h4⟩
  · cases hv
  · injection hv with hv1 hv2 hv3
    injection hv1 with hv1
    injection hv1 with hv1
    subst hv1; subst hv3
    obtain ⟨h5, h6⟩ := str_cells hg
    refine ⟨?_, h6 _⟩
    rw [h5]
    have hz : (xs.drop (k * n)).take n = enc l[k] := hl.2 k _ (List.getElem?_eq_getElem hk)
    have hkn : (k + 1) * n ≤ l.length * n := Nat.mul_le_mul_right _ hk
    rw [Nat.add_mul, Nat.one_mul] at hkn
    rw [← hz, List.getElem?_take, if_pos hj, List.getElem?_drop, ← h4, List.getElem?_take, if_pos (by show k * n + j < l.length * n; omega)]
    simp
end
section
variable {α β : Type} {RI : Rep β} {inn : α → List β} {pv : α → Value} {n : Nat} {enc : α → List Value} {hn : ∀ x, (enc x).length = n} {e : TypeId} {w wx wy : World} {sb : Nat} {l : List α} {P : List (Nat × Array Value × TypeId)} {k0 : Int}
theorem GS.modify {g m cap : Nat} (h : GS (Rep.flat n enc hn) e w sb l (.slice (some ⟨g, 0, none⟩) m cap) P k0 wx) (f : α → α) (k j : Nat) (u : Value) (hf : ∀ x, enc (f x) = (enc x).set j u) (hj : j < n) (hk : k < l.length) :
    GS (Rep.flat n enc hn) e w sb (l.modify k f) (.slice (some ⟨g, 0, none⟩) m cap) P k0 (wx.setCell ⟨g, k * n + j, none⟩ u) := by
  have hg := h.own.block g rfl
  refine ⟨h.str.setCell (by have := h.lt; show sb < g; omega) _, gSet h.gr hg.1 _, h.own.modify f k j u hf hj hk, h.lt, fun p hp => ?_⟩
  obtain ⟨h1, h2, h3⟩ := h.prv p hp
  exact ⟨(Below.heap_setCell wx ⟨g, k * n + j, none⟩ u _ (by intro e; exact h3 (by rw [e]; rfl))).trans h1, h2, h3⟩
end
end Go.Proofs.YtojgjejbhcjifaaGreatDoor

/- Where a loop stands that fills a list of its own: what it has left as it was, the list so far, and blocks of its own. No program in sight. -/
namespace Go.Proofs.YtojgjejbhcjifaaGreatDoor
set_option linter.unusedVariables false
open Go.RowKit

structure BO {α : Type} (R : Rep α) (e : TypeId) (w : World) (l : List α) (v : Value) (P : List (Nat × Array Value × TypeId)) (wx : World) : Prop where
  bel : Below w.heap.size w wx
  own : Own R wx w.heap.size w.heap.size e l v
  prv : ∀ p ∈ P, wx.heap[p.1]? = some (.cells p.2.1 p.2.2 (0, 0)) ∧ w.heap.size ≤ p.1 ∧ v.ownBlock ≠ some p.1
section
variable {α : Type} {R : Rep α} {e : TypeId} {w wx wy : World} {l : List α} {v : Value} {P Q : List (Nat × Array Value × TypeId)}
theorem BO.start (w : World) : BO R e w [] (.slice none 0 0) [] w := ⟨Below.refl _ _, Own.nil_, fun p hp => by cases hp⟩
theorem BO.size (h : BO R e w l v P wx) : w.heap.size ≤ wx.heap.size := h.bel.size
theorem BO.plt (h : BO R e w l v P wx) {p : Nat × Array Value × TypeId} (hp : p ∈ P) : p.1 < wx.heap.size := heap_lt (h.prv p hp).1
theorem BO.below (h : BO R e w l v P wx) (hb : Below wx.heap.size wx wy) : BO R e w l v P wy :=
  ⟨h.bel.trans (hb.mono h.size), h.own.below hb, fun p hp => ⟨(hb.block _ (h.plt hp)).trans (h.prv p hp).1, (h.prv p hp).2⟩⟩
theorem BO.alloc (h : BO R e w l v P wx) (o : Obj) : BO R e w l v P (wx.alloc o) := h.below ((Below.refl _ wx).alloc (Nat.le_refl _) o)
theorem BO.drew (h : BO R e w l v P wx) : BO R e w l v P wx.drew := ⟨⟨h.bel.os, h.bel.tape, h.bel.output, h.bel.size, h.bel.block⟩, h.own.drew, h.prv⟩
theorem BO.new (h : BO R e w l v P wx) (cs : Array Value) (T : TypeId) : BO R e w l v ((wx.heap.size, cs, T) :: P) (wx.alloc (.cells cs T)) := by
  have h2 := h.alloc (.cells cs T)
  refine ⟨h2.bel, h2.own, fun p hp => ?_⟩
  rcases List.mem_cons.1 hp with rfl | hp
  · exact ⟨heap_alloc_new wx _, h.size, fun e => by have := h.own.block _ e; omega⟩
  · exact h2.prv p hp
theorem belSet (h : Below w.heap.size w wx) {p : Addr} (hp : w.heap.size ≤ p.block) (u : Value) : Below w.heap.size w (wx.setCell p u) :=
  ⟨h.os, h.tape, h.output, by simpa [World.setCell] using h.size, fun i hi => (Below.heap_setCell wx p u i (by omega)).trans (h.block i hi)⟩
theorem BO.set {b i : Nat} {cs : Array Value} {T : TypeId} (h : BO R e w l v ((b, cs, T) :: P) wx) (hf : ∀ {w w' : World} {F : Nat → Prop} {x : α} {cs : List Value}, R.rel w F x cs → R.rel w' F x cs) (u : Value) (hd : ∀ p ∈ P, p.1 ≠ b) : BO R e w l v ((b, cs.setIfInBounds i u, T) :: P) (wx.setCell ⟨b, i, none⟩ u) := by
  obtain ⟨h1, h2, h3⟩ := h.prv (b, cs, T) (by simp)
  dsimp only at h1 h2 h3
  refine ⟨belSet h.bel h2 u, ?_, fun p hp => ?_⟩
  · obtain ⟨xs, ho, hl⟩ := h.own
    refine ⟨xs, ⟨ho.1, ?_⟩, ⟨hl.1, fun k x hx => ?_⟩⟩
    · rcases ho.2 with hn | ⟨g, cap, cur, rfl, hb, hg, rest⟩
      · exact .inl hn
      · exact .inr ⟨g, cap, cur, rfl, hb, (Below.heap_setCell wx ⟨b, i, none⟩ u g (by intro e; exact h3 (by rw [e]; rfl))).trans hg, rest⟩
    · exact hf (R.more (hl.2 k x hx) (fun q hq => ⟨hq.1, by simpa [World.setCell] using hq.2.1, hq.2.2⟩))
  · rcases List.mem_cons.1 hp with rfl | hp
    · exact ⟨by simp [World.setCell, Array.getElem?_modify, h1], h2, h3⟩
    · obtain ⟨k1, k2, k3⟩ := h.prv p (by simp [hp])
      exact ⟨(Below.heap_setCell wx ⟨b, i, none⟩ u _ (by have := hd p hp; show p.1 ≠ b; exact this)).trans k1, k2, k3⟩
theorem BO.less (h : BO R e w l v P wx) (hq : ∀ p ∈ Q, p ∈ P) : BO R e w l v Q wx := ⟨h.bel, h.own, fun p hp => h.prv p (hq p hp)⟩
theorem BO.cell (h : BO R e w l v P wx) {p : Nat × Array Value × TypeId} (hp : p ∈ P) : (∀ i, wx.cell? ⟨p.1, i, none⟩ = p.2.1[i]?) ∧ (∀ i, wx.frozen? ⟨p.1, i, none⟩ = false) := str_cells (h.prv p hp).1
/-- The list has grown, in its row or in a new one. -/
theorem BO.more {l' : List α} {v' : Value} {g : Nat} (h : BO R e w l v P wx) (hown : Own R wy w.heap.size w.heap.size e l' v') (hg : wx.grownBy wy v.ownBlock) (hv : v'.ownBlock = some g) (hat : v.ownBlock = some g ∨ g = wx.heap.size) : BO R e w l' v' P wy := by
  have hz := h.size
  refine ⟨h.bel.grown hg hz (fun k hk => (h.own.block k hk).1), hown, fun p hp => ?_⟩
  obtain ⟨k1, k2, k3⟩ := h.prv p hp
  have hlt := heap_lt k1
  refine ⟨(hg.block p.1 hlt (fun e => k3 e.symm)).trans k1, k2, ?_⟩
  rw [hv]
  intro e
  injection e with e
  rcases hat with hat | hat
  · exact k3 (by rw [hat, e])
  · omega
/-- A list that a call has made takes the place of an empty one. -/
theorem BO.take {l' : List α} {v' : Value} (h : BO R e w l v P wx) (hb : Below wx.heap.size wx wy) (hown : Own R wy wx.heap.size wx.heap.size e l' v') (hl : Own R wy w.heap.size w.heap.size e l' v') : BO R e w l' v' P wy :=
  ⟨h.bel.trans (hb.mono h.size), hl, fun p hp => ⟨(hb.block _ (h.plt hp)).trans (h.prv p hp).1, (h.prv p hp).2.1, fun e => by have := hown.block _ e; have := h.plt hp; omega⟩⟩
end
section
variable {α : Type} {n : Nat} {enc : α → List Value} {hn : ∀ x, (enc x).length = n} {e : TypeId} {w wx wy : World} {l : List α} {P : List (Nat × Array Value × TypeId)}
theorem BO.modify {g m cap : Nat} (h : BO (Rep.flat n enc hn) e w l (.slice (some ⟨g, 0, none⟩) m cap) P wx) (f : α → α) (k j : Nat) (u : Value) (hf : ∀ x, enc (f x) = (enc x).set j u) (hj : j < n) (hk : k < l.length) :
    BO (Rep.flat n enc hn) e w (l.modify k f) (.slice (some ⟨g, 0, none⟩) m cap) P (wx.setCell ⟨g, k * n + j, none⟩ u) := by
  have hg := h.own.block g rfl
  refine ⟨belSet h.bel hg.1 u, h.own.modify f k j u hf hj hk, fun p hp => ?_⟩
  obtain ⟨h1, h2, h3⟩ := h.prv p hp
  exact ⟨(Below.heap_setCell wx ⟨g, k * n + j, none⟩ u _ (by intro e; exact h3 (by rw [e]; rfl))).trans h1, h2, h3⟩
end
end Go.Proofs.YtojgjejbhcjifaaGreatDoor

/- Where a loop stands beside a stream, that fills a list whose elements hold lists of their own, the last of these under way; with blocks of its own of any kind. No program in sight. -/
namespace Go.Proofs.YtojgjejbhcjifaaGreatDoor
set_option linter.unusedVariables false
open Go.RowKit

abbrev Pb := Nat × (Option Obj → Prop)
section
variable {α β : Type} {n1 n2 : Nat} {enc : α → List Value} {h1 : ∀ x, (enc x).length = n1} {enc2 : β → List Value} {h2 : ∀ x, (enc2 x).length = n2} {inn : α → List β} {pv : α → Value} {e e2 : TypeId}
  {w wx wy : World} {sb : Nat} {l : List α} {v : Value} {lc : List β} {vc : Value} {P Q : List Pb} {n n' : Int}
end
end Go.Proofs.YtojgjejbhcjifaaGreatDoor

/- A list of one's own whose elements hold lists of their own that may still grow. No program in sight. -/
namespace Go.Proofs.YtojgjejbhcjifaaGreatDoor
set_option linter.unusedVariables false
open Go.RowKit

section
variable {α : Type} {n : Nat} {enc : α → List Value} {hn : ∀ x, (enc x).length = n} {w w' : World} {base lo : Nat} {e : TypeId} {l : List α} {v : Value}
/-- A row of plain cells stays where its own block stays. -/
theorem Own.keepF (h : Own (Rep.flat n enc hn) w base lo e l v) (hk : ∀ g, v.ownBlock = some g → w'.heap[g]? = w.heap[g]?) (hs : w.heap.size ≤ w'.heap.size) : Own (Rep.flat n enc hn) w' base lo e l v := by
  obtain ⟨xs, ho, hl⟩ := h
  refine ⟨xs, ⟨ho.1, ?_⟩, hl⟩
  rcases ho.2 with hn | ⟨g, cap, cur, rfl, hb, hg, rest⟩
  · exact .inl hn
  · exact .inr ⟨g, cap, cur, rfl, hb, by rw [hk g rfl]; exact hg, rest⟩
end
section
variable {α β : Type} {n m : Nat} {enc : α → List Value} {hn : ∀ x, (enc x).length = n} {encI : β → List Value} {hm : ∀ x, (encI x).length = m} {inn : α → List β} {pv : α → Value} {e eI : TypeId} {w wx wy : World} {l : List α} {v : Value} {P Q : List (Nat × Array Value × TypeId)}
end
end Go.Proofs.YtojgjejbhcjifaaGreatDoor

/- Where a loop stands that fills a list of its own beside blocks of its own of any kind (maps, too). No program in sight. -/
namespace Go.Proofs.YtojgjejbhcjifaaGreatDoor
set_option linter.unusedVariables false
open Go.RowKit

section
variable {α : Type} {n : Nat} {enc : α → List Value} {hn : ∀ x, (enc x).length = n} {e : TypeId} {w wx wy : World} {l l' : List α} {v v' : Value} {P Q : List Pb}
end
end Go.Proofs.YtojgjejbhcjifaaGreatDoor

/- Append of one element onto a row of one's own: what the old row holds stays, wherever the new one lies. No program in sight. -/
namespace Go.Proofs.YtojgjejbhcjifaaGreatDoor
set_option linter.unusedVariables false
open Go.RowKit

end Go.Proofs.YtojgjejbhcjifaaGreatDoor

/- Append of one element, at the operation itself: for regions that draw their order. No program in sight. -/
namespace Go.Proofs.YtojgjejbhcjifaaGreatDoor
set_option linter.unusedVariables false
open Go.RowKit

end Go.Proofs.YtojgjejbhcjifaaGreatDoor

/- Append of several texts at once onto a list of one's own. No program in sight. -/
namespace Go.Proofs.YtojgjejbhcjifaaGreatDoor
set_option linter.unusedVariables false
open Go.RowKit

theorem lay_strs {w : World} {F : Nat → Prop} : ∀ (zs l : List ByteArray) (xs : List Value), Lay strR w F l xs → Lay strR w F (l ++ zs) (xs ++ zs.map (Value.string)) := by
  intro zs
  induction zs with
  | nil => intro l xs h; simpa using h
  | cons z r ih =>
    intro l xs h
    have h2 := ih (l ++ [z]) (xs ++ [.string z]) (h.snoc (show strR.rel w F z [.string z] from rfl))
    simpa using h2
/-- 'append(out, a, b, ..)' at the operation: the texts lie in a block of their own. -/
theorem wpList_pushS {P : Program} {ops : Array Oper} {rest : List Oper} {o : Oper} {a : Act} {Q : Exit → Act → World → Prop} (hgd : o.guard = none) (s x : Operand) (t : TypeId)
    (ho : o.op = .call { callee := .builtin .append, args := #[s, x], argTypes := #[t, t] })
    (base lo : Nat) (e : TypeId) (i : TypeInfo) (z : Value) (bytes : Nat) (ht : P.underlying t = some (.slice e)) (hi : P.info? e = some i) (hz : i.zero = some z)
    (hsize : i.size = 1) (hby : i.bytes = bytes) (hzs : z.cells.size = 1)
    (W : World) (v : Value) (l : List ByteArray) (hs : a.eval s = v) (hown : Own strR W base lo e l v) (zs : List ByteArray) (h0 : 0 < zs.length)
    (B : Nat) (T : TypeId) (c : Nat) (hB : W.heap[B]? = some (.cells (zs.map (Value.string)).toArray T (0, 0))) (hx : a.eval x = .slice (some ⟨B, 0, none⟩) zs.length c) (h63 : l.length + zs.length ≤ maxLen) (hbytes : (l.length + zs.length) * bytes ≤ 140737488355328) (hbase : base ≤ W.heap.size)
    (h : ∀ g cap w', Own strR w' base lo e (l ++ zs) (.slice (some ⟨g, 0, none⟩) (l.length + zs.length) cap) → W.grownBy w' v.ownBlock → (v.ownBlock = some g ∨ g = W.heap.size) → g < w'.heap.size → wpList P ops Q rest (a.put o.dst (.slice (some ⟨g, 0, none⟩) (l.length + zs.length) cap)) w') :
    wpList P ops Q (o :: rest) a W := by
  obtain ⟨xs, hor, hl⟩ := hown
  have hor1 : W.ownsRow base e 1 v l.length xs := hor
  refine wpList_append_lies W hgd s x t ho base e i z 1 bytes ht hi hz hsize hby hzs (by omega) v l.length xs hs hor1 ⟨B, 0, none⟩ zs.length c (zs.map (Value.string)) hx (by simp) ?_ (fun u hu => ?_) h0 h63 hbytes hbase W.heap.size rfl ?_
  · intro j u hj
    exact World.news_of_block hB j u (by simpa using hj)
  · obtain ⟨y, _, rfl⟩ := List.mem_map.1 hu
    rfl
  · intro g cap w' h2 h3 h4 h5
    refine h g cap w' ⟨xs ++ zs.map (Value.string), by rw [List.length_append]; exact h2, ?_⟩ h3 h4 h5
    have hF : ∀ b, From W lo v.ownBlock b → From w' lo (some g) b := fun b hb => ⟨hb.1, Nat.lt_of_lt_of_le hb.2.1 h3.size, by
      rcases h4 with h | h
      · rw [← h]; exact hb.2.2
      · intro e; injection e with e; have := hb.2.1; omega⟩
    have hk : ∀ b, From W lo v.ownBlock b → w'.heap[b]? = W.heap[b]? := fun b hb => h3.block b hb.2.1 hb.2.2
    exact ((lay_strs zs l xs hl).keep hk).more hF
/-- One text, two texts. -/
theorem wpList_pushS1 {P : Program} {ops : Array Oper} {rest : List Oper} {o : Oper} {a : Act} {Q : Exit → Act → World → Prop} (hgd : o.guard = none) (s x : Operand) (t : TypeId)
    (ho : o.op = .call { callee := .builtin .append, args := #[s, x], argTypes := #[t, t] })
    (base lo : Nat) (e : TypeId) (i : TypeInfo) (z : Value) (ht : P.underlying t = some (.slice e)) (hi : P.info? e = some i) (hz : i.zero = some z)
    (hsize : i.size = 1) (hby : i.bytes = 16) (hzs : z.cells.size = 1)
    (W : World) (v : Value) (l : List ByteArray) (m : Nat) (hm : l.length = m) (hs : a.eval s = v) (hown : Own strR W base lo e l v) (y : ByteArray)
    (B : Nat) (T : TypeId) (c : Nat) (hB : W.heap[B]? = some (.cells #[.string y] T (0, 0))) (hx : a.eval x = .slice (some ⟨B, 0, none⟩) 1 c) (hlen : m ≤ 1000000000) (hbase : base ≤ W.heap.size)
    (h : ∀ g cap w', Own strR w' base lo e (l ++ [y]) (.slice (some ⟨g, 0, none⟩) (m + 1) cap) → W.grownBy w' v.ownBlock → (v.ownBlock = some g ∨ g = W.heap.size) → g < w'.heap.size → wpList P ops Q rest (a.put o.dst (.slice (some ⟨g, 0, none⟩) (m + 1) cap)) w') :
    wpList P ops Q (o :: rest) a W := by
  subst hm
  exact wpList_pushS hgd s x t ho base lo e i z 16 ht hi hz hsize hby hzs W v l hs hown [y] (Nat.succ_pos _) B T c hB hx (by simp [maxLen]; omega) (by simp; omega) hbase h
end Go.Proofs.YtojgjejbhcjifaaGreatDoor

/- The program's functions on rolls and rates. -/
namespace Go.Proofs.YtojgjejbhcjifaaGreatDoor
set_option linter.unusedVariables false
open Go.RowKit

end Go.Proofs.YtojgjejbhcjifaaGreatDoor

/- The program's functions on rolls, looked up and checked. -/
namespace Go.Proofs.YtojgjejbhcjifaaGreatDoor
set_option linter.unusedVariables false
open Go.RowKit

end Go.Proofs.YtojgjejbhcjifaaGreatDoor

/- Scripts as they lie in memory. No program in sight. -/
namespace Go.Proofs.YtojgjejbhcjifaaGreatDoor
set_option linter.unusedVariables false
open Go.RowKit

end Go.Proofs.YtojgjejbhcjifaaGreatDoor

/- A region that draws its order, inside a round's fence, one operation at a time. No program in sight. -/
namespace Go.Proofs.YtojgjejbhcjifaaGreatDoor
set_option linter.unusedVariables false
open Go.RowKit

end Go.Proofs.YtojgjejbhcjifaaGreatDoor

/- A loop over an iterator that keeps its state in a captured box (strings.SplitSeq): the iterator may turn that box between two rounds. No program in sight. -/
namespace Go.Proofs.YtojgjejbhcjifaaGreatDoor
set_option linter.unusedVariables false
open Go.RowKit

/-- Three boxes of the iterator's own, from c on, lie as they lay. -/
def KeepC (c : Nat) (W W' : World) : Prop := ∀ k, c ≤ k → k < c + 3 → W'.heap[k]? = W.heap[k]?
theorem KeepC.refl (c : Nat) (W : World) : KeepC c W W := fun _ _ _ => rfl
theorem KeepC.trans {c : Nat} {A B C : World} (h : KeepC c A B) (k : KeepC c B C) : KeepC c A C := fun i h1 h2 => (k i h1 h2).trans (h i h1 h2)
theorem KeepC.grown {c : Nat} {A B : World} {row : Option Nat} (hg : A.grownBy B row) (hc : c + 3 ≤ A.heap.size) (hr : ∀ r, row = some r → r < c ∨ c + 3 ≤ r) : KeepC c A B := fun k h1 h2 =>
  hg.block k (by omega) (fun e => by rcases hr k e.symm with h | h <;> omega)

/-- An iterator whose whole list is 'all': it returns when all have come, the loop's body never leaving. -/
def SeqC {α : Type} (F : Fence) (n : Nat) (P : Program) (g : Nat) (lb : Array Value) (enc : α → Value) (c : Nat) (all : List α) (w : World) : Prop :=
  ∀ (l : Nat) (J : List α → World → Prop) (W : World), Below w.heap.size w W →
    (∀ s A B, J s A → A.grownBy B (some c) → J s B) →
    (∀ pre x W1, J pre W1 → (pre ++ [x]) <+: all → YieldAt F (n - 1) P l #[enc x] W1 fun e W' => e = .returned (.bool true) ∧ J (pre ++ [x]) W' ∧ KeepC c W1 W') →
    J [] W →
    CallsIn F n P g (#[.func (.yield l) #[] #[]] ++ lb) W fun e W' => (∃ v, e = .returned v) ∧ J all W'

variable {F : Fence} {n : Nat} {P : Program}

end Go.Proofs.YtojgjejbhcjifaaGreatDoor

/- What a piece of a walk keeps: blocks below m, but for some boxes that it writes. No program in sight. -/
namespace Go.Proofs.YtojgjejbhcjifaaGreatDoor
set_option linter.unusedVariables false
open Go.RowKit

structure KeepM (m : Nat) (X : Nat → Prop) (W W' : World) : Prop where
  os : W'.os = W.os
  tape : W'.tape = W.tape
  output : W'.output = W.output
  size : W.heap.size ≤ W'.heap.size
  block : ∀ k, k < m → ¬ X k → W'.heap[k]? = W.heap[k]?
  others : KeepsOthers W W'
variable {m : Nat} {X : Nat → Prop} {A W W' : World}
theorem KeepM.refl (m : Nat) (X : Nat → Prop) (W : World) : KeepM m X W W := ⟨rfl, rfl, rfl, Nat.le_refl _, fun _ _ _ => rfl, KeepsOthers.refl _⟩
theorem KeepM.trans (h : KeepM m X A W) (k : KeepM m X W W') : KeepM m X A W' :=
  ⟨k.os.trans h.os, k.tape.trans h.tape, k.output.trans h.output, Nat.le_trans h.size k.size, fun i hi hx => (k.block i hi hx).trans (h.block i hi hx), h.others.trans k.others⟩
theorem KeepM.alloc (h : KeepM m X A W) (hm : m ≤ W.heap.size) (o : Obj) : KeepM m X A (W.alloc o) :=
  h.trans ⟨rfl, rfl, rfl, by simp, fun k hk _ => Below.heap_alloc W o k (by omega), KeepsOthers.alloc W o⟩
theorem KeepM.drew (h : KeepM m X A W) : KeepM m X A W.drew := h.trans ⟨rfl, rfl, rfl, Nat.le_refl _, fun _ _ _ => rfl, ⟨Nat.le_refl _, fun _ _ h _ => h⟩⟩
theorem KeepM.put (h : KeepM m X A W) {B : Nat} (hB : X B) (v : Value) : KeepM m X A (W.setCell ⟨B, 0, none⟩ v) :=
  h.trans ⟨rfl, rfl, rfl, (grownBy_setCell' W B v).size, fun k _ hx => Below.heap_setCell W _ v k (fun e => hx (by cases e; exact hB)), KeepsOthers.setCell _ _ _⟩
theorem KeepM.grown (h : KeepM m X A W) (hm : m ≤ W.heap.size) {v : Value} {e : TypeId} {size k : Nat} {xs : List Value} (hrow : W.ownsRow m e size v k xs) (hg : W.grownBy W' v.ownBlock) : KeepM m X A W' := by
  refine h.trans ⟨hg.os, hg.tape, hg.output, hg.size, fun i hi _ => hg.block i (by omega) (fun ei => ?_), KeepsOthers.of_grownBy hg fun j o ej hj => ?_⟩
  · rcases hrow.2 with ⟨rfl, _⟩ | ⟨g, cap, cur, rfl, hgb, _, _⟩
    · simp [Value.ownBlock] at ei
    · obtain rfl : i = g := by simpa [Value.ownBlock] using ei
      omega
  · rcases hrow.2 with ⟨rfl, _⟩ | ⟨g, cap, cur, rfl, _, hgb, _⟩
    · simp [Value.ownBlock] at ej
    · obtain rfl : g = j := by simpa [Value.ownBlock] using ej
      rw [hgb] at hj; cases hj; rfl
theorem KeepM.box {B : Nat} {t : TypeId} {v : Value} (h : KeepM m X W W') (hv : Boxed W B t v) (h1 : B < m) (h2 : ¬ X B) : Boxed W' B t v := (h.block B h1 h2).trans hv
theorem KeepM.below {n₀ : Nat} (h : KeepM m X W W') (h1 : n₀ ≤ m) (h2 : ∀ k, k < n₀ → ¬ X k) : Below n₀ W W' := ⟨h.os, h.tape, h.output, h.size, fun k hk => h.block k (by omega) (h2 k hk)⟩
theorem KeepM.keepC {c : Nat} (h : KeepM m X W W') (h1 : c + 3 ≤ m) (h2 : ∀ k, c ≤ k → k < c + 3 → ¬ X k) : KeepC c W W' := fun k a b => h.block k (by omega) (h2 k a b)
theorem KeepM.wide {X' : Nat → Prop} (h : KeepM m X W W') (hx : ∀ k, X k → X' k) : KeepM m X' W W' := ⟨h.os, h.tape, h.output, h.size, fun k hk hn => h.block k hk (fun e => hn (hx k e)), h.others⟩
end Go.Proofs.YtojgjejbhcjifaaGreatDoor

/- A loop over strings.SplitSeq whose body may also leave by a return. No program in sight. -/
namespace Go.Proofs.YtojgjejbhcjifaaGreatDoor
set_option linter.unusedVariables false
open Go.RowKit

/-- As SeqC, where the loop's body may leave: the iterator then returns at once. -/
def SeqL {α : Type} (F : Fence) (n : Nat) (P : Program) (g : Nat) (lb : Array Value) (enc : α → Value) (c : Nat) (all : List α) (w : World) : Prop :=
  ∀ (l : Nat) (J : List α → World → Prop) (L : World → Prop) (W : World), Below w.heap.size w W →
    (∀ s A B, J s A → A.grownBy B (some c) → J s B) →
    (∀ pre x W1, J pre W1 → (pre ++ [x]) <+: all → YieldAt F (n - 1) P l #[enc x] W1 fun e W' => (e = .returned (.bool true) ∧ J (pre ++ [x]) W' ∧ KeepC c W1 W') ∨ (e = .returned (.bool false) ∧ L W')) →
    J [] W →
    CallsIn F n P g (#[.func (.yield l) #[] #[]] ++ lb) W fun e W' => (∃ v, e = .returned v) ∧ (J all W' ∨ L W')

def postL {α : Type} (c : Nat) (I : List α → World → Prop) (L : World → Prop) (xs : List α) (W : World) : Exit → Act → World → Prop
  | .normal, _, W' => KeepsOthers W W' ∧ KeepC c W W' ∧ I xs W'
  | .ret, _, W' => KeepsOthers W W' ∧ L W'
  | _, _, _ => False

variable {F : Fence} {n : Nat} {P : Program}

theorem wpIn_seqL {α : Type} {g : Operand} {ps : Array Tmp} {assign body : Code} {Q : Exit → Act → World → Prop} {a : Act} {w : World}
    (hro : F.round = none) (h1 : 1 ≤ n) {gf : Nat} {lb : Array Value} (hg : a.eval g = .func (.func gf) #[] lb) (hFg : F.fn gf) (eg : ∀ args w, (callFunc gf args).run P w = .ok (.enter gf args) w)
    {enc : α → Value} {c : Nat} {all : List α} {w0 : World} (hseq : SeqL F (n - 1) P gf lb enc c all w0) (hc : c + 3 ≤ w.heap.size) (hb0 : Below w0.heap.size w0 w) (hps : 1 = ps.size)
    (I : List α → World → Prop) (L : World → Prop) (hI : OwnFrom w.heap.size I) (hL : OwnFrom w.heap.size (fun _ : Unit => L)) (hIc : ∀ s A B, I s A → A.grownBy B (some c) → I s B) (h0 : I [] w) (a₁ : α → Act)
    (hassign : ∀ (l : Nat) (x : α) (W : World) (K : Act → World → Prop), K (a₁ x) W →
      assign.wpIn (F.inRound l) (n - 1 - 1) P (Exit.then K (fun _ _ _ => False)) { tmps := (ps.zip #[enc x]).foldl (fun t (p, v) => t.setIfInBounds p v) a.tmps, defers := [] } W)
    (hbody : ∀ (l : Nat) (pre : List α) (x : α) (W : World), I pre W → (pre ++ [x]) <+: all → body.wpIn (F.inRound l) (n - 1 - 1) P (postL c I L (pre ++ [x]) W) (a₁ x) W)
    (hstop : ∀ (D : Nat) (W : World), w.heap.size ≤ D → L W → W.heap[D]? = some (.deferred (some [])) → Code.ret.wpIn F n P Q { a with defers := { target := .collected D, args := #[] } :: a.defers } W)
    (hdone : ∀ (D : Nat) (W : World), w.heap.size ≤ D → I all W → W.heap[D]? = some (.deferred (some [])) → Q .normal { a with defers := { target := .collected D, args := #[] } :: a.defers } W) :
    (Code.rangeFunc g ps assign body).wpIn F n P Q a w := by
  refine wpIn_rangeFunc fun fn hfn => ?_
  rw [hro]
  -- the loop's record at D + 1, the block for deferred calls at D
  obtain ⟨D, hD⟩ : ∃ D, D = w.heap.size := ⟨_, rfl⟩
  obtain ⟨rec, hrec⟩ : ∃ rec : LoopState → Option Code → Loop, rec = fun st pe => { state := st, pending := pe, fn, tmps := a.tmps, params := ps, assign, body, defers := w.heap.size } := ⟨_, rfl⟩
  have hI1 : I [] ((w.alloc (.deferred (some []))).alloc (.loop (rec .ready none))) := hI.alloc _ (hI.alloc _ h0)
  have hL1 : ((w.alloc (.deferred (some []))).alloc (.loop (rec .ready none))).heap[D + 1]? = some (.loop (rec .ready none)) := by
    have := World.alloc_heap_new (w.alloc (.deferred (some []))) (.loop (rec .ready none))
    rw [World.size_alloc] at this
    rw [hD]; exact this
  have hK1 : ((w.alloc (.deferred (some []))).alloc (.loop (rec .ready none))).heap[D]? = some (.deferred (some [])) := by
    rw [hD]
    exact (Below.heap_alloc _ _ _ (by simp)).trans (World.alloc_heap_new w _)
  have hb1 : Below w0.heap.size w0 ((w.alloc (.deferred (some []))).alloc (.loop (rec .ready none))) :=
    hb0.trans ((((Below.refl _ w).alloc (Nat.le_refl _) _).alloc (by simp) _).mono hb0.size)
  have hrun : (Instr.enterLoop fn a.tmps ps assign body none).run P w = .ok (D + 1, [{ target := .collected D, args := #[] }]) ((w.alloc (.deferred (some []))).alloc (.loop (rec .ready none))) := by
    rw [hD, hrec]; exact run_enterLoop_outer _ _ _ _ _
  generalize (w.alloc (.deferred (some []))).alloc (.loop (rec .ready none)) = W1 at hI1 hL1 hK1 hb1 hrun
  refine ⟨D + 1, [{ target := .collected D, args := #[] }], W1, { target := .fn (.func gf) lb, args := #[.func (.yield (D + 1)) #[] #[]] }, W1, gf,
    #[.func (.yield (D + 1)) #[] #[]] ++ lb, W1, hrun, ?_, ?_, ?_, fun _ => h1, ?_⟩
  · simp only [resolve, hg]
    simp [go_sem]
  · intro f' hf'; simp [Target.leads] at hf'; subst hf'; exact hFg
  · simp [invoke, go_sem, eg]
  · refine (hseq (D + 1)
      (fun pre W => I pre W ∧ W.heap[D + 1]? = some (.loop (rec .ready none)) ∧ W.heap[D]? = some (.deferred (some [])))
      (fun W => L W ∧ W.heap[D + 1]? = some (.loop (rec .done (some .ret))) ∧ W.heap[D]? = some (.deferred (some [])))
      W1 hb1 ?_ ?_ ⟨hI1, hL1, hK1⟩).mono ?_
    · rintro s A B ⟨hi, hl, hk⟩ hg'
      have l1 := (Array.getElem?_eq_some_iff.1 hl).1
      exact ⟨hIc s A B hi hg', (hg'.block _ l1 (fun e => by cases e; omega)).trans hl, (hg'.block _ (by omega) (fun e => by cases e; omega)).trans hk⟩
    · -- one round
      rintro pre x W ⟨hi, hl, hk⟩ hpre
      have hlt : D + 1 < W.heap.size := (Array.getElem?_eq_some_iff.1 hl).1
      have hy := run_yield (P := P) (args := #[enc x]) hl (by rw [hrec]; exact hps)
      have hst : (rec .ready none).state = .ready := by rw [hrec]
      have hy' : (Instr.yield (D + 1) #[enc x]).run P W = .ok (.round (D + 1) fn ((ps.zip #[enc x]).foldl (fun t (p, v) => t.setIfInBounds p v) a.tmps) assign body) W := by
        rw [hrec] at hy; exact hy
      have hbusy : ({ rec .ready none with state := .busy } : Loop) = rec .busy none := by rw [hrec]
      refine ⟨fn, _, assign, body, hy', roundIn_of_wpIn hfn (hassign _ x W _ ⟨_, run_beginRound hl hst, ?_⟩)⟩
      rw [hbusy]
      have hg2 : W.grownBy (W.putObj (D + 1) (.loop (rec .busy none))) (some (D + 1)) := grownBy_putObj' W (D + 1) _
      have hl2 : (W.putObj (D + 1) (.loop (rec .busy none))).heap[D + 1]? = some (.loop (rec .busy none)) := World.putObj_heap_same hlt
      have hk2 : (W.putObj (D + 1) (.loop (rec .busy none))).heap[D]? = some (.deferred (some [])) := (World.putObj_heap_other (by omega)).trans hk
      have hc2 : KeepC c W (W.putObj (D + 1) (.loop (rec .busy none))) := KeepC.grown hg2 (by omega) (fun r e => by cases e; omega)
      have hi2 : I pre (W.putObj (D + 1) (.loop (rec .busy none))) := hI.putObj _ hi (by omega) hl rfl
      generalize W.putObj (D + 1) (.loop (rec .busy none)) = W2 at hg2 hl2 hk2 hc2 hi2
      refine wpIn_mono (hbody _ pre x _ hi2 hpre) ?_
      rintro e a3 W3 hp
      cases e with
      | normal =>
        obtain ⟨hk3, hkc3, hi3⟩ := hp
        have hl3 := hk3.same _ _ hl2 rfl
        have hd3 := hk3.same _ _ hk2 rfl
        have hlt3 := (Array.getElem?_eq_some_iff.1 hl3).1
        have hr := run_endRound (P := P) none hl3
        have hready : ({ rec .busy none with state := .ready, pending := none } : Loop) = rec .ready none := by rw [hrec]
        simp only [Option.isNone_none, if_true] at hr
        rw [hready] at hr
        exact ⟨_, _, hr, .inl ⟨rfl, ⟨hI.putObj _ hi3 (by omega) hl3 rfl, World.putObj_heap_same hlt3, (World.putObj_heap_other (by omega)).trans hd3⟩,
          (hc2.trans hkc3).trans (KeepC.grown (grownBy_putObj' W3 (D + 1) _) (by omega) (fun r e => by cases e; omega))⟩⟩
      | ret =>
        obtain ⟨hk3, hi3⟩ := hp
        have hl3 := hk3.same _ _ hl2 rfl
        have hd3 := hk3.same _ _ hk2 rfl
        have hlt3 := (Array.getElem?_eq_some_iff.1 hl3).1
        have hr := run_endRound (P := P) (some .ret) hl3
        have hdn : ({ rec .busy none with state := .done, pending := some .ret } : Loop) = rec .done (some .ret) := by rw [hrec]
        simp only [Option.isNone_some, Bool.false_eq_true, if_false] at hr
        rw [hdn] at hr
        exact ⟨_, _, hr, .inr ⟨rfl, hL.putObj (s := ()) _ hi3 (by omega) hl3 rfl, World.putObj_heap_same hlt3, (World.putObj_heap_other (by omega)).trans hd3⟩⟩
      | _ => exact hp.elim
    · rintro e W2 ⟨⟨v, rfl⟩, (⟨hi, hl, hk⟩ | ⟨hi, hl, hk⟩)⟩
      · have hne : (rec .ready none).state ≠ .busy := by rw [hrec]; simp
        refine ⟨none, _, ?_, hdone D _ (by omega) (hI.putObj (.loop { rec .ready none with state := .exhausted }) hi (by omega) hl rfl) ((World.putObj_heap_other (by omega)).trans hk)⟩
        have := run_endLoop (P := P) hl hne
        rw [hrec] at this ⊢
        exact this
      · have hne : (rec .done (some .ret)).state ≠ .busy := by rw [hrec]; simp
        refine ⟨some .ret, _, ?_, hstop D _ (by omega) (hL.putObj (s := ()) (.loop { rec .done (some .ret) with state := .exhausted }) hi (by omega) hl rfl) ((World.putObj_heap_other (by omega)).trans hk)⟩
        have := run_endLoop (P := P) hl hne
        rw [hrec] at this ⊢
        exact this
end Go.Proofs.YtojgjejbhcjifaaGreatDoor

/- The shelf contracts that these proofs use, laid at this translation. -/
namespace Go.Proofs
open Go.Shelf
def Tryz.lays156_ren : Go.Shelf.Ren := ⟨fun | 156 => 19 | 165 => 39 | 166 => 40 | 169 => 41 | 240 => 65 | 241 => 66 | 276 => 92 | 277 => 93 | n => n, fun | 31 => 42 | 9 => 9 | 3 => 3 | 4 => 4 | 0 => 0 | 20 => 20 | 72 => 67 | 76 => 71 | 70 => 64 | 37 => 65 | 75 => 70 | 127 => 92 | 164 => 115 | 5 => 5 | 80 => 26 | n => n, fun | n => n⟩
theorem Tryz.lays156 : Go.Proofs.Lays.n156 Tryz.prog Tryz.lays156_ren := {
  mixed := by kernel_rfl
  f156 := Tryz.func19.trans (congrArg some (by kernel_rfl))
  f165 := Tryz.func39.trans (congrArg some (by kernel_rfl))
  f166 := Tryz.func40.trans (congrArg some (by kernel_rfl))
  f169 := Tryz.func41.trans (congrArg some (by kernel_rfl))
  f240 := Tryz.func65.trans (congrArg some (by kernel_rfl))
  f241 := Tryz.func66.trans (congrArg some (by kernel_rfl))
  f276 := Tryz.func92.trans (congrArg some (by kernel_rfl))
  f277 := Tryz.func93.trans (congrArg some (by kernel_rfl))
  t0 := Tryz.underlying0
  a0 := Tryz.isAgg0
  z0 := Tryz.sizeOf0
  v0 := Tryz.zeroValue0
  t3 := Tryz.underlying3
  a3 := Tryz.isAgg3
  z3 := Tryz.sizeOf3
  v3 := Tryz.zeroValue3
  t4 := Tryz.underlying4
  a4 := Tryz.isAgg4
  z4 := Tryz.sizeOf4
  v4 := Tryz.zeroValue4
  t9 := Tryz.underlying9
  a9 := Tryz.isAgg9
  z9 := Tryz.sizeOf9
  v9 := Tryz.zeroValue9
  t20 := Tryz.underlying20
  a20 := Tryz.isAgg20
  z20 := Tryz.sizeOf20
  v20 := Tryz.zeroValue20
  t31 := Tryz.underlying42
  a31 := Tryz.isAgg42
  z31 := Tryz.sizeOf42
  v31 := Tryz.zeroValue42
  t37 := Tryz.underlying65
  a37 := Tryz.isAgg65
  z37 := Tryz.sizeOf65
  v37 := Tryz.zeroValue65
  t70 := Tryz.underlying64
  a70 := Tryz.isAgg64
  z70 := Tryz.sizeOf64
  v70 := Tryz.zeroValue64
  t72 := Tryz.underlying67
  a72 := Tryz.isAgg67
  z72 := Tryz.sizeOf67
  v72 := Tryz.zeroValue67
  t75 := Tryz.underlying70
  a75 := Tryz.isAgg70
  z75 := Tryz.sizeOf70
  v75 := Tryz.zeroValue70
  t76 := Tryz.underlying71
  a76 := Tryz.isAgg71
  z76 := Tryz.sizeOf71
  v76 := Tryz.zeroValue71
  t127 := Tryz.underlying92
  a127 := Tryz.isAgg92
  z127 := Tryz.sizeOf92
  v127 := Tryz.zeroValue92
  t164 := Tryz.underlying115
  a164 := Tryz.isAgg115
  z164 := Tryz.sizeOf115
  v164 := Tryz.zeroValue115 }
theorem Tryz.Builder_Extra_156 : Builder.Extra Tryz.prog Tryz.lays156_ren := {
  sizeBuilder := by kernel_rfl
  liesBuilder := by kernel_rfl
  t5 := Tryz.underlying5
  a5 := Tryz.isAgg5
  z5 := Tryz.sizeOf5
  v5 := Tryz.zeroValue5
  infoByte := by kernel_rfl
  cellsByte := by kernel_rfl
  sizeByte := by kernel_rfl
  neB5 := by decide }
def Tryz.lays160_ren : Go.Shelf.Ren := ⟨fun | 160 => 55 | 232 => 80 | 231 => 79 | 227 => 81 | 234 => 83 | 233 => 82 | 236 => 85 | 235 => 84 | 228 => 100 | 271 => 102 | 151 => 101 | 197 => 95 | 120 => 115 | 152 => 114 | 260 => 110 | 137 => 62 | 119 => 123 | 224 => 112 | 225 => 111 | 217 => 91 | 266 => 109 | n => n, fun | 9 => 9 | 4 => 4 | 3 => 3 | 5 => 5 | 117 => 107 | 116 => 106 | 0 => 0 | 124 => 110 | 21 => 21 | 105 => 118 | 46 => 73 | 119 => 111 | 139 => 154 | 138 => 153 | n => n, fun | 3 => 5 | 4 => 6 | n => n⟩
theorem Tryz.lays160 : Go.Proofs.Lays.n160 Tryz.prog Tryz.lays160_ren := {
  mixed := by kernel_rfl
  f119 := Tryz.func123.trans (congrArg some (by kernel_rfl))
  f120 := Tryz.func115.trans (congrArg some (by kernel_rfl))
  f137 := Tryz.func62.trans (congrArg some (by kernel_rfl))
  f151 := Tryz.func101.trans (congrArg some (by kernel_rfl))
  f152 := Tryz.func114.trans (congrArg some (by kernel_rfl))
  f160 := Tryz.func55.trans (congrArg some (by kernel_rfl))
  f197 := Tryz.func95.trans (congrArg some (by kernel_rfl))
  f217 := Tryz.func91.trans (congrArg some (by kernel_rfl))
  f224 := Tryz.func112.trans (congrArg some (by kernel_rfl))
  f225 := Tryz.func111.trans (congrArg some (by kernel_rfl))
  f227 := Tryz.func81.trans (congrArg some (by kernel_rfl))
  f228 := Tryz.func100.trans (congrArg some (by kernel_rfl))
  f231 := Tryz.func79.trans (congrArg some (by kernel_rfl))
  f232 := Tryz.func80.trans (congrArg some (by kernel_rfl))
  f233 := Tryz.func82.trans (congrArg some (by kernel_rfl))
  f234 := Tryz.func83.trans (congrArg some (by kernel_rfl))
  f235 := Tryz.func84.trans (congrArg some (by kernel_rfl))
  f236 := Tryz.func85.trans (congrArg some (by kernel_rfl))
  f260 := Tryz.func110.trans (congrArg some (by kernel_rfl))
  f266 := Tryz.func109.trans (congrArg some (by kernel_rfl))
  f271 := Tryz.func102.trans (congrArg some (by kernel_rfl))
  t0 := Tryz.underlying0
  a0 := Tryz.isAgg0
  z0 := Tryz.sizeOf0
  v0 := Tryz.zeroValue0
  t3 := Tryz.underlying3
  a3 := Tryz.isAgg3
  z3 := Tryz.sizeOf3
  v3 := Tryz.zeroValue3
  t4 := Tryz.underlying4
  a4 := Tryz.isAgg4
  z4 := Tryz.sizeOf4
  v4 := Tryz.zeroValue4
  t5 := Tryz.underlying5
  a5 := Tryz.isAgg5
  z5 := Tryz.sizeOf5
  v5 := Tryz.zeroValue5
  t9 := Tryz.underlying9
  a9 := Tryz.isAgg9
  z9 := Tryz.sizeOf9
  v9 := Tryz.zeroValue9
  t21 := Tryz.underlying21
  a21 := Tryz.isAgg21
  z21 := Tryz.sizeOf21
  v21 := Tryz.zeroValue21
  t46 := Tryz.underlying73
  a46 := Tryz.isAgg73
  z46 := Tryz.sizeOf73
  v46 := Tryz.zeroValue73
  t105 := Tryz.underlying118
  a105 := Tryz.isAgg118
  z105 := Tryz.sizeOf118
  v105 := Tryz.zeroValue118
  t116 := Tryz.underlying106
  a116 := Tryz.isAgg106
  z116 := Tryz.sizeOf106
  t117 := Tryz.underlying107
  a117 := Tryz.isAgg107
  z117 := Tryz.sizeOf107
  v117 := Tryz.zeroValue107
  t119 := Tryz.underlying111
  a119 := Tryz.isAgg111
  z119 := Tryz.sizeOf111
  t124 := Tryz.underlying110
  a124 := Tryz.isAgg110
  z124 := Tryz.sizeOf110
  v124 := Tryz.zeroValue110
  t138 := Tryz.underlying153
  a138 := Tryz.isAgg153
  z138 := Tryz.sizeOf153
  v138 := Tryz.zeroValue153
  t139 := Tryz.underlying154
  a139 := Tryz.isAgg154
  z139 := Tryz.sizeOf154
  v139 := Tryz.zeroValue154
  g3 := by kernel_rfl
  g4 := by kernel_rfl }
def Tryz.lays104_ren : Go.Shelf.Ren := ⟨fun | 104 => 71 | 211 => 96 | 207 => 78 | n => n, fun | 9 => 9 | 4 => 4 | 24 => 100 | 3 => 3 | n => n, fun | n => n⟩
theorem Tryz.lays104 : Go.Proofs.Lays.n104 Tryz.prog Tryz.lays104_ren := {
  mixed := by kernel_rfl
  f104 := Tryz.func71.trans (congrArg some (by kernel_rfl))
  f207 := Tryz.func78.trans (congrArg some (by kernel_rfl))
  f211 := Tryz.func96.trans (congrArg some (by kernel_rfl))
  t3 := Tryz.underlying3
  a3 := Tryz.isAgg3
  z3 := Tryz.sizeOf3
  v3 := Tryz.zeroValue3
  t4 := Tryz.underlying4
  a4 := Tryz.isAgg4
  z4 := Tryz.sizeOf4
  v4 := Tryz.zeroValue4
  t9 := Tryz.underlying9
  a9 := Tryz.isAgg9
  z9 := Tryz.sizeOf9
  v9 := Tryz.zeroValue9
  t24 := Tryz.underlying100
  a24 := Tryz.isAgg100
  z24 := Tryz.sizeOf100
  v24 := Tryz.zeroValue100 }
open Go.RowKit in
theorem Tryz.strings_CutSuffix (s p : ByteArray) (w : World) (hs : s.size ≤ 9223372036854775807) :
    Calls Tryz.prog 71 #[.string s, .string p] w fun e w' => e = .returned (.tuple #[.string ⟨(Lib.trimSuffix s.data.toList p.data.toList).toArray⟩, .bool (Lib.hasSuffix s.data.toList p.data.toList)]) ∧ w' = w := Any.strings_CutSuffix Tryz.lays104 s p w hs
def Tryz.laysC172_ren : Go.Shelf.Ren := ⟨fun | 172 => 59 | 244 => 88 | 245 => 89 | 247 => 104 | 279 => 105 | 280 => 106 | 281 => 107 | 282 => 108 | 287 => 118 | 316 => 119 | 171 => 121 | 205 => 120 | 321 => 124 | 322 => 125 | 243 => 126 | 246 => 127 | 283 => 128 | 284 => 129 | 285 => 130 | 286 => 131 | 129 => 133 | 317 => 132 | 318 => 134 | 319 => 135 | 320 => 136 | 337 => 137 | 338 => 138 | n => n, fun | 9 => 9 | 3 => 3 | 75 => 70 | 76 => 71 | 4 => 4 | 5 => 5 | 167 => 127 | 37 => 65 | 0 => 0 | 85 => 128 | 2 => 2 | 168 => 130 | 53 => 96 | 175 => 145 | 46 => 73 | 210 => 149 | 127 => 92 | 145 => 161 | 143 => 159 | 21 => 21 | 171 => 163 | 173 => 166 | 212 => 169 | 51 => 93 | 20 => 20 | 213 => 170 | 232 => 173 | 233 => 174 | 80 => 26 | n => n, fun | 15 => 3 | 16 => 4 | 17 => 7 | 18 => 8 | 19 => 9 | n => n⟩
theorem Tryz.laysC172 : Go.Proofs.LaysC.n172 Tryz.prog Tryz.laysC172_ren := {
  mixed := by kernel_rfl
  f129 := Tryz.func133.trans (congrArg some (by kernel_rfl))
  f171 := Tryz.func121.trans (congrArg some (by kernel_rfl))
  f172 := Tryz.func59.trans (congrArg some (by kernel_rfl))
  f205 := Tryz.func120.trans (congrArg some (by kernel_rfl))
  f243 := Tryz.func126.trans (congrArg some (by kernel_rfl))
  f244 := Tryz.func88.trans (congrArg some (by kernel_rfl))
  f245 := Tryz.func89.trans (congrArg some (by kernel_rfl))
  f246 := Tryz.func127.trans (congrArg some (by kernel_rfl))
  f247 := Tryz.func104.trans (congrArg some (by kernel_rfl))
  f279 := Tryz.func105.trans (congrArg some (by kernel_rfl))
  f280 := Tryz.func106.trans (congrArg some (by kernel_rfl))
  f281 := Tryz.func107.trans (congrArg some (by kernel_rfl))
  f282 := Tryz.func108.trans (congrArg some (by kernel_rfl))
  f283 := Tryz.func128.trans (congrArg some (by kernel_rfl))
  f284 := Tryz.func129.trans (congrArg some (by kernel_rfl))
  f285 := Tryz.func130.trans (congrArg some (by kernel_rfl))
  f286 := Tryz.func131.trans (congrArg some (by kernel_rfl))
  f287 := Tryz.func118.trans (congrArg some (by kernel_rfl))
  f316 := Tryz.func119.trans (congrArg some (by kernel_rfl))
  f317 := Tryz.func132.trans (congrArg some (by kernel_rfl))
  f318 := Tryz.func134.trans (congrArg some (by kernel_rfl))
  f319 := Tryz.func135.trans (congrArg some (by kernel_rfl))
  f320 := Tryz.func136.trans (congrArg some (by kernel_rfl))
  f321 := Tryz.func124.trans (congrArg some (by kernel_rfl))
  f322 := Tryz.func125.trans (congrArg some (by kernel_rfl))
  f337 := Tryz.func137.trans (congrArg some (by kernel_rfl))
  f338 := Tryz.func138.trans (congrArg some (by kernel_rfl))
  t0 := Tryz.underlying0
  a0 := Tryz.isAgg0
  z0 := Tryz.sizeOf0
  v0 := Tryz.zeroValue0
  t2 := Tryz.underlying2
  a2 := Tryz.isAgg2
  z2 := Tryz.sizeOf2
  v2 := Tryz.zeroValue2
  t3 := Tryz.underlying3
  a3 := Tryz.isAgg3
  z3 := Tryz.sizeOf3
  v3 := Tryz.zeroValue3
  t4 := Tryz.underlying4
  a4 := Tryz.isAgg4
  z4 := Tryz.sizeOf4
  v4 := Tryz.zeroValue4
  t5 := Tryz.underlying5
  a5 := Tryz.isAgg5
  z5 := Tryz.sizeOf5
  v5 := Tryz.zeroValue5
  t9 := Tryz.underlying9
  a9 := Tryz.isAgg9
  z9 := Tryz.sizeOf9
  v9 := Tryz.zeroValue9
  t20 := Tryz.underlying20
  a20 := Tryz.isAgg20
  z20 := Tryz.sizeOf20
  v20 := Tryz.zeroValue20
  t21 := Tryz.underlying21
  a21 := Tryz.isAgg21
  z21 := Tryz.sizeOf21
  v21 := Tryz.zeroValue21
  t37 := Tryz.underlying65
  a37 := Tryz.isAgg65
  z37 := Tryz.sizeOf65
  v37 := Tryz.zeroValue65
  t46 := Tryz.underlying73
  a46 := Tryz.isAgg73
  z46 := Tryz.sizeOf73
  v46 := Tryz.zeroValue73
  t51 := Tryz.underlying93
  a51 := Tryz.isAgg93
  z51 := Tryz.sizeOf93
  v51 := Tryz.zeroValue93
  t53 := Tryz.underlying96
  a53 := Tryz.isAgg96
  z53 := Tryz.sizeOf96
  v53 := Tryz.zeroValue96
  t75 := Tryz.underlying70
  a75 := Tryz.isAgg70
  z75 := Tryz.sizeOf70
  v75 := Tryz.zeroValue70
  t76 := Tryz.underlying71
  a76 := Tryz.isAgg71
  z76 := Tryz.sizeOf71
  v76 := Tryz.zeroValue71
  t85 := Tryz.underlying128
  a85 := Tryz.isAgg128
  z85 := Tryz.sizeOf128
  v85 := Tryz.zeroValue128
  t127 := Tryz.underlying92
  a127 := Tryz.isAgg92
  z127 := Tryz.sizeOf92
  v127 := Tryz.zeroValue92
  t143 := Tryz.underlying159
  a143 := Tryz.isAgg159
  z143 := Tryz.sizeOf159
  v143 := Tryz.zeroValue159
  t145 := Tryz.underlying161
  a145 := Tryz.isAgg161
  z145 := Tryz.sizeOf161
  v145 := Tryz.zeroValue161
  t167 := Tryz.underlying127
  a167 := Tryz.isAgg127
  z167 := Tryz.sizeOf127
  v167 := Tryz.zeroValue127
  t168 := Tryz.underlying130
  a168 := Tryz.isAgg130
  z168 := Tryz.sizeOf130
  v168 := Tryz.zeroValue130
  t171 := Tryz.underlying163
  a171 := Tryz.isAgg163
  z171 := Tryz.sizeOf163
  v171 := Tryz.zeroValue163
  t173 := Tryz.underlying166
  a173 := Tryz.isAgg166
  z173 := Tryz.sizeOf166
  v173 := Tryz.zeroValue166
  t175 := Tryz.underlying145
  a175 := Tryz.isAgg145
  z175 := Tryz.sizeOf145
  v175 := Tryz.zeroValue145
  t210 := Tryz.underlying149
  a210 := Tryz.isAgg149
  z210 := Tryz.sizeOf149
  v210 := Tryz.zeroValue149
  t212 := Tryz.underlying169
  a212 := Tryz.isAgg169
  z212 := Tryz.sizeOf169
  v212 := Tryz.zeroValue169
  t213 := Tryz.underlying170
  a213 := Tryz.isAgg170
  z213 := Tryz.sizeOf170
  t232 := Tryz.underlying173
  a232 := Tryz.isAgg173
  z232 := Tryz.sizeOf173
  v232 := Tryz.zeroValue173
  t233 := Tryz.underlying174
  a233 := Tryz.isAgg174
  z233 := Tryz.sizeOf174
  v233 := Tryz.zeroValue174
  g15 := by kernel_rfl
  g16 := by kernel_rfl
  g17 := by kernel_rfl
  g18 := by kernel_rfl
  g19 := by kernel_rfl
  t80 := Tryz.underlying26
  a80 := Tryz.isAgg26
  z80 := Tryz.sizeOf26
  v80 := Tryz.zeroValue26
  i0 := by kernel_rfl
  i2 := by kernel_rfl
  i3 := by kernel_rfl
  i4 := by kernel_rfl
  i5 := by kernel_rfl
  i9 := by kernel_rfl
  i20 := by kernel_rfl
  i21 := by kernel_rfl
  i37 := by kernel_rfl
  i46 := by kernel_rfl
  i51 := by kernel_rfl
  i53 := by kernel_rfl
  i75 := by kernel_rfl
  i76 := by kernel_rfl
  i80 := by kernel_rfl
  i85 := by kernel_rfl
  i127 := by kernel_rfl
  i143 := by kernel_rfl
  i145 := by kernel_rfl
  i167 := by kernel_rfl
  i168 := by kernel_rfl
  i171 := by kernel_rfl
  i173 := by kernel_rfl
  i175 := by kernel_rfl
  i210 := by kernel_rfl
  i212 := by kernel_rfl
  i232 := by kernel_rfl
  i233 := by kernel_rfl
  m15 := by kernel_rfl
  m16 := by kernel_rfl
  m17 := by kernel_rfl
  m18 := by kernel_rfl
  m19 := by kernel_rfl
  c0 := by kernel_rfl
  c2 := by kernel_rfl
  c3 := by kernel_rfl
  c4 := by kernel_rfl
  c5 := by kernel_rfl
  c9 := by kernel_rfl
  c20 := by kernel_rfl
  c21 := by kernel_rfl
  c37 := by kernel_rfl
  c46 := by kernel_rfl
  c51 := by kernel_rfl
  c53 := by kernel_rfl
  c75 := by kernel_rfl
  c76 := by kernel_rfl
  c80 := by kernel_rfl
  c85 := by kernel_rfl
  c127 := by kernel_rfl
  c143 := by kernel_rfl
  c145 := by kernel_rfl
  c167 := by kernel_rfl
  c168 := by kernel_rfl
  c171 := by kernel_rfl
  c173 := by kernel_rfl
  c175 := by kernel_rfl
  c210 := by kernel_rfl
  c212 := by kernel_rfl
  c213 := by kernel_rfl
  c232 := by kernel_rfl
  c233 := by kernel_rfl }
def Tryz.lays143_ren : Go.Shelf.Ren := ⟨fun | 143 => 77 | 219 => 99 | 217 => 91 | 225 => 111 | 224 => 112 | 267 => 113 | 266 => 109 | 314 => 122 | n => n, fun | 9 => 9 | 3 => 3 | 4 => 4 | 5 => 5 | 46 => 73 | 146 => 94 | 51 => 93 | n => n, fun | 1 => 2 | n => n⟩
theorem Tryz.lays143 : Go.Proofs.Lays.n143 Tryz.prog Tryz.lays143_ren := {
  mixed := by kernel_rfl
  f143 := Tryz.func77.trans (congrArg some (by kernel_rfl))
  f217 := Tryz.func91.trans (congrArg some (by kernel_rfl))
  f219 := Tryz.func99.trans (congrArg some (by kernel_rfl))
  f224 := Tryz.func112.trans (congrArg some (by kernel_rfl))
  f225 := Tryz.func111.trans (congrArg some (by kernel_rfl))
  f266 := Tryz.func109.trans (congrArg some (by kernel_rfl))
  f267 := Tryz.func113.trans (congrArg some (by kernel_rfl))
  f314 := Tryz.func122.trans (congrArg some (by kernel_rfl))
  t3 := Tryz.underlying3
  a3 := Tryz.isAgg3
  z3 := Tryz.sizeOf3
  v3 := Tryz.zeroValue3
  t4 := Tryz.underlying4
  a4 := Tryz.isAgg4
  z4 := Tryz.sizeOf4
  v4 := Tryz.zeroValue4
  t5 := Tryz.underlying5
  a5 := Tryz.isAgg5
  z5 := Tryz.sizeOf5
  v5 := Tryz.zeroValue5
  t9 := Tryz.underlying9
  a9 := Tryz.isAgg9
  z9 := Tryz.sizeOf9
  v9 := Tryz.zeroValue9
  t46 := Tryz.underlying73
  a46 := Tryz.isAgg73
  z46 := Tryz.sizeOf73
  v46 := Tryz.zeroValue73
  t51 := Tryz.underlying93
  a51 := Tryz.isAgg93
  z51 := Tryz.sizeOf93
  v51 := Tryz.zeroValue93
  t146 := Tryz.underlying94
  a146 := Tryz.isAgg94
  z146 := Tryz.sizeOf94
  v146 := Tryz.zeroValue94
  g1 := by kernel_rfl }
open Go.RowKit Go.Lib in
theorem Tryz.strings_Index_one (s : ByteArray) (c : UInt8) (w : World) :
    Calls Tryz.prog 77 #[.string s, .string ⟨#[c]⟩] w fun e w' => e = .returned (.int .i64 (Lib.indexByte s.data.toList c)) ∧ w' = w := Any.strings_Index_one Tryz.lays143 s c w
def Tryz.lays99_ren : Go.Shelf.Ren := ⟨fun | 99 => 43 | 206 => 69 | n => n, fun | 9 => 9 | 4 => 4 | 3 => 3 | n => n, fun | n => n⟩
theorem Tryz.lays99 : Go.Proofs.Lays.n99 Tryz.prog Tryz.lays99_ren := {
  mixed := by kernel_rfl
  f99 := Tryz.func43.trans (congrArg some (by kernel_rfl))
  f206 := Tryz.func69.trans (congrArg some (by kernel_rfl))
  t3 := Tryz.underlying3
  a3 := Tryz.isAgg3
  z3 := Tryz.sizeOf3
  v3 := Tryz.zeroValue3
  t4 := Tryz.underlying4
  a4 := Tryz.isAgg4
  z4 := Tryz.sizeOf4
  v4 := Tryz.zeroValue4
  t9 := Tryz.underlying9
  a9 := Tryz.isAgg9
  z9 := Tryz.sizeOf9
  v9 := Tryz.zeroValue9 }
open Go.RowKit Go.Lib in
theorem Tryz.strings_HasPrefix (s p : ByteArray) (w : World) :
    Calls Tryz.prog 43 #[.string s, .string p] w fun e w' => e = .returned (.bool (Lib.hasPrefix s.data.toList p.data.toList)) ∧ w' = w := Any.strings_HasPrefix Tryz.lays99 s p w
def Tryz.lays100_ren : Go.Shelf.Ren := ⟨fun | 100 => 52 | 207 => 78 | n => n, fun | 9 => 9 | 4 => 4 | 3 => 3 | n => n, fun | n => n⟩
theorem Tryz.lays100 : Go.Proofs.Lays.n100 Tryz.prog Tryz.lays100_ren := {
  mixed := by kernel_rfl
  f100 := Tryz.func52.trans (congrArg some (by kernel_rfl))
  f207 := Tryz.func78.trans (congrArg some (by kernel_rfl))
  t3 := Tryz.underlying3
  a3 := Tryz.isAgg3
  z3 := Tryz.sizeOf3
  v3 := Tryz.zeroValue3
  t4 := Tryz.underlying4
  a4 := Tryz.isAgg4
  z4 := Tryz.sizeOf4
  v4 := Tryz.zeroValue4
  t9 := Tryz.underlying9
  a9 := Tryz.isAgg9
  z9 := Tryz.sizeOf9
  v9 := Tryz.zeroValue9 }
open Go.RowKit Go.Lib in
theorem Tryz.strings_HasSuffix (s p : ByteArray) (w : World) (hs : s.size ≤ 9223372036854775807) :
    Calls Tryz.prog 52 #[.string s, .string p] w fun e w' => e = .returned (.bool (Lib.hasSuffix s.data.toList p.data.toList)) ∧ w' = w := Any.strings_HasSuffix Tryz.lays100 s p w hs
def Tryz.lays146_ren : Go.Shelf.Ren := ⟨fun | 146 => 26 | 221 => 51 | 268 => 75 | 138 => 76 | 143 => 77 | 195 => 97 | 197 => 95 | 218 => 98 | 219 => 99 | 260 => 110 | 217 => 91 | 225 => 111 | 224 => 112 | 267 => 113 | 266 => 109 | 314 => 122 | n => n, fun | 9 => 9 | 31 => 42 | 3 => 3 | 4 => 4 | 0 => 0 | 105 => 118 | 21 => 21 | 5 => 5 | 46 => 73 | 119 => 111 | 139 => 154 | 138 => 153 | 146 => 94 | 51 => 93 | n => n, fun | 1 => 2 | 3 => 5 | 4 => 6 | n => n⟩
theorem Tryz.lays146 : Go.Proofs.Lays.n146 Tryz.prog Tryz.lays146_ren := {
  mixed := by kernel_rfl
  f138 := Tryz.func76.trans (congrArg some (by kernel_rfl))
  f143 := Tryz.func77.trans (congrArg some (by kernel_rfl))
  f146 := Tryz.func26.trans (congrArg some (by kernel_rfl))
  f195 := Tryz.func97.trans (congrArg some (by kernel_rfl))
  f197 := Tryz.func95.trans (congrArg some (by kernel_rfl))
  f217 := Tryz.func91.trans (congrArg some (by kernel_rfl))
  f218 := Tryz.func98.trans (congrArg some (by kernel_rfl))
  f219 := Tryz.func99.trans (congrArg some (by kernel_rfl))
  f221 := Tryz.func51.trans (congrArg some (by kernel_rfl))
  f224 := Tryz.func112.trans (congrArg some (by kernel_rfl))
  f225 := Tryz.func111.trans (congrArg some (by kernel_rfl))
  f260 := Tryz.func110.trans (congrArg some (by kernel_rfl))
  f266 := Tryz.func109.trans (congrArg some (by kernel_rfl))
  f267 := Tryz.func113.trans (congrArg some (by kernel_rfl))
  f268 := Tryz.func75.trans (congrArg some (by kernel_rfl))
  f314 := Tryz.func122.trans (congrArg some (by kernel_rfl))
  t0 := Tryz.underlying0
  a0 := Tryz.isAgg0
  z0 := Tryz.sizeOf0
  v0 := Tryz.zeroValue0
  t3 := Tryz.underlying3
  a3 := Tryz.isAgg3
  z3 := Tryz.sizeOf3
  v3 := Tryz.zeroValue3
  t4 := Tryz.underlying4
  a4 := Tryz.isAgg4
  z4 := Tryz.sizeOf4
  v4 := Tryz.zeroValue4
  t5 := Tryz.underlying5
  a5 := Tryz.isAgg5
  z5 := Tryz.sizeOf5
  v5 := Tryz.zeroValue5
  t9 := Tryz.underlying9
  a9 := Tryz.isAgg9
  z9 := Tryz.sizeOf9
  v9 := Tryz.zeroValue9
  t21 := Tryz.underlying21
  a21 := Tryz.isAgg21
  z21 := Tryz.sizeOf21
  v21 := Tryz.zeroValue21
  t31 := Tryz.underlying42
  a31 := Tryz.isAgg42
  z31 := Tryz.sizeOf42
  v31 := Tryz.zeroValue42
  t46 := Tryz.underlying73
  a46 := Tryz.isAgg73
  z46 := Tryz.sizeOf73
  v46 := Tryz.zeroValue73
  t51 := Tryz.underlying93
  a51 := Tryz.isAgg93
  z51 := Tryz.sizeOf93
  v51 := Tryz.zeroValue93
  t105 := Tryz.underlying118
  a105 := Tryz.isAgg118
  z105 := Tryz.sizeOf118
  v105 := Tryz.zeroValue118
  t119 := Tryz.underlying111
  a119 := Tryz.isAgg111
  z119 := Tryz.sizeOf111
  t138 := Tryz.underlying153
  a138 := Tryz.isAgg153
  z138 := Tryz.sizeOf153
  v138 := Tryz.zeroValue153
  t139 := Tryz.underlying154
  a139 := Tryz.isAgg154
  z139 := Tryz.sizeOf154
  v139 := Tryz.zeroValue154
  t146 := Tryz.underlying94
  a146 := Tryz.isAgg94
  z146 := Tryz.sizeOf94
  v146 := Tryz.zeroValue94
  g1 := by kernel_rfl
  g3 := by kernel_rfl
  g4 := by kernel_rfl }
open Go.RowKit Go.Lib in
theorem Tryz.strings_Split (s sep : ByteArray) (m : Int) (w : World) (hs : s.size < 4294967281) (hm : w.cell? ⟨2, 0, none⟩ = some (.int .i64 m)) (h1 : 1 ≤ sep.size) :
    Calls Tryz.prog 26 #[.string s, .string sep] w fun e w' =>
      e = .returned (.slice (some ⟨w.heap.size, 0, none⟩) (Lib.countB s sep + 1) (Lib.countB s sep + 1)) ∧ w' = w.alloc (.cells ((Lib.splitB sep 0 (Lib.countB s sep) s).map Value.string).toArray 9) := Any.strings_Split Tryz.lays146 (by kernel_rfl) s sep m w hs hm h1
def Tryz.laysM157_ren : Go.Shelf.Ren := ⟨fun | 157 => 58 | 229 => 86 | 199 => 87 | 261 => 103 | 311 => 116 | 312 => 117 | n => n, fun | 9 => 9 | 31 => 42 | 3 => 3 | 5 => 5 | 4 => 4 | 119 => 111 | 0 => 0 | 40 => 113 | 152 => 122 | 21 => 21 | 154 => 124 | 51 => 93 | 141 => 126 | 196 => 137 | 193 => 134 | 198 => 140 | 49 => 138 | 194 => 135 | 201 => 143 | 226 => 156 | 46 => 73 | 227 => 157 | n => n, fun | 0 => 0 | 6 => 1 | n => n⟩
theorem Tryz.laysM157 : Go.Proofs.LaysM.n157 Tryz.prog Tryz.laysM157_ren := {
  mixed := by kernel_rfl
  f157 := Tryz.func58.trans (congrArg some (by kernel_rfl))
  f199 := Tryz.func87.trans (congrArg some (by kernel_rfl))
  f229 := Tryz.func86.trans (congrArg some (by kernel_rfl))
  f261 := Tryz.func103.trans (congrArg some (by kernel_rfl))
  f311 := Tryz.func116.trans (congrArg some (by kernel_rfl))
  f312 := Tryz.func117.trans (congrArg some (by kernel_rfl))
  t0 := Tryz.underlying0
  a0 := Tryz.isAgg0
  z0 := Tryz.sizeOf0
  v0 := Tryz.zeroValue0
  t3 := Tryz.underlying3
  a3 := Tryz.isAgg3
  z3 := Tryz.sizeOf3
  v3 := Tryz.zeroValue3
  t4 := Tryz.underlying4
  a4 := Tryz.isAgg4
  z4 := Tryz.sizeOf4
  v4 := Tryz.zeroValue4
  t5 := Tryz.underlying5
  a5 := Tryz.isAgg5
  z5 := Tryz.sizeOf5
  v5 := Tryz.zeroValue5
  t9 := Tryz.underlying9
  a9 := Tryz.isAgg9
  z9 := Tryz.sizeOf9
  v9 := Tryz.zeroValue9
  t21 := Tryz.underlying21
  a21 := Tryz.isAgg21
  z21 := Tryz.sizeOf21
  v21 := Tryz.zeroValue21
  t31 := Tryz.underlying42
  a31 := Tryz.isAgg42
  z31 := Tryz.sizeOf42
  v31 := Tryz.zeroValue42
  t40 := Tryz.underlying113
  a40 := Tryz.isAgg113
  z40 := Tryz.sizeOf113
  v40 := Tryz.zeroValue113
  t46 := Tryz.underlying73
  a46 := Tryz.isAgg73
  z46 := Tryz.sizeOf73
  v46 := Tryz.zeroValue73
  t49 := Tryz.underlying138
  a49 := Tryz.isAgg138
  z49 := Tryz.sizeOf138
  v49 := Tryz.zeroValue138
  t51 := Tryz.underlying93
  a51 := Tryz.isAgg93
  z51 := Tryz.sizeOf93
  v51 := Tryz.zeroValue93
  t119 := Tryz.underlying111
  a119 := Tryz.isAgg111
  z119 := Tryz.sizeOf111
  t141 := Tryz.underlying126
  a141 := Tryz.isAgg126
  z141 := Tryz.sizeOf126
  v141 := Tryz.zeroValue126
  t152 := Tryz.underlying122
  a152 := Tryz.isAgg122
  z152 := Tryz.sizeOf122
  v152 := Tryz.zeroValue122
  t154 := Tryz.underlying124
  a154 := Tryz.isAgg124
  z154 := Tryz.sizeOf124
  v154 := Tryz.zeroValue124
  t193 := Tryz.underlying134
  a193 := Tryz.isAgg134
  z193 := Tryz.sizeOf134
  v193 := Tryz.zeroValue134
  t194 := Tryz.underlying135
  a194 := Tryz.isAgg135
  z194 := Tryz.sizeOf135
  v194 := Tryz.zeroValue135
  t196 := Tryz.underlying137
  a196 := Tryz.isAgg137
  z196 := Tryz.sizeOf137
  v196 := Tryz.zeroValue137
  t198 := Tryz.underlying140
  a198 := Tryz.isAgg140
  z198 := Tryz.sizeOf140
  v198 := Tryz.zeroValue140
  t201 := Tryz.underlying143
  a201 := Tryz.isAgg143
  z201 := Tryz.sizeOf143
  v201 := Tryz.zeroValue143
  t226 := Tryz.underlying156
  a226 := Tryz.isAgg156
  z226 := Tryz.sizeOf156
  v226 := Tryz.zeroValue156
  t227 := Tryz.underlying157
  a227 := Tryz.isAgg157
  z227 := Tryz.sizeOf157
  v227 := Tryz.zeroValue157
  g0 := by kernel_rfl
  g6 := by kernel_rfl
  i0 := by kernel_rfl
  i3 := by kernel_rfl
  i4 := by kernel_rfl
  i5 := by kernel_rfl
  i9 := by kernel_rfl
  i21 := by kernel_rfl
  i31 := by kernel_rfl
  i40 := by kernel_rfl
  i46 := by kernel_rfl
  i49 := by kernel_rfl
  i51 := by kernel_rfl
  i141 := by kernel_rfl
  i152 := by kernel_rfl
  i154 := by kernel_rfl
  i193 := by kernel_rfl
  i194 := by kernel_rfl
  i196 := by kernel_rfl
  i198 := by kernel_rfl
  i201 := by kernel_rfl
  i226 := by kernel_rfl
  i227 := by kernel_rfl
  m0 := by kernel_rfl
  m6 := by kernel_rfl }
open Go.RowKit Go.Lib in
theorem Tryz.strings_Fields_laid (s : ByteArray) (w : World) (hs : s.size < 4294967281) (hascii : ∀ (j : Nat) b, s.data.toList[j]? = some b → b.toNat < 128) (htab : Lib.TabIs Tryz.prog w "strings.asciiSpace" .u8 Lib.asciiSpaceTab) :
    Calls Tryz.prog 58 #[.string s] w fun e w' =>
      e = .returned (.slice (some ⟨w.heap.size, 0, none⟩) (Lib.fields s.data.toList).length (Lib.fields s.data.toList).length) ∧ w' = w.alloc (.cells ((Lib.fields s.data.toList).map fun l => Value.string ⟨l.toArray⟩).toArray 9) := Any.strings_Fields_laid Tryz.laysM157 s w hs hascii htab
def Tryz.lays105_ren : Go.Shelf.Ren := ⟨fun | 105 => 21 | 212 => 42 | 99 => 43 | 165 => 39 | 166 => 40 | 170 => 44 | 169 => 41 | 263 => 67 | 264 => 68 | 206 => 69 | 240 => 65 | 241 => 66 | 276 => 92 | 277 => 93 | n => n, fun | 9 => 9 | 3 => 3 | 4 => 4 | 20 => 20 | 0 => 0 | 46 => 73 | 109 => 74 | 5 => 5 | 72 => 67 | 76 => 71 | 51 => 93 | 146 => 94 | 53 => 96 | 148 => 97 | 70 => 64 | 37 => 65 | 75 => 70 | 127 => 92 | 164 => 115 | 80 => 26 | n => n, fun | n => n⟩
theorem Tryz.lays105 : Go.Proofs.Lays.n105 Tryz.prog Tryz.lays105_ren := {
  mixed := by kernel_rfl
  f99 := Tryz.func43.trans (congrArg some (by kernel_rfl))
  f105 := Tryz.func21.trans (congrArg some (by kernel_rfl))
  f165 := Tryz.func39.trans (congrArg some (by kernel_rfl))
  f166 := Tryz.func40.trans (congrArg some (by kernel_rfl))
  f169 := Tryz.func41.trans (congrArg some (by kernel_rfl))
  f170 := Tryz.func44.trans (congrArg some (by kernel_rfl))
  f206 := Tryz.func69.trans (congrArg some (by kernel_rfl))
  f212 := Tryz.func42.trans (congrArg some (by kernel_rfl))
  f240 := Tryz.func65.trans (congrArg some (by kernel_rfl))
  f241 := Tryz.func66.trans (congrArg some (by kernel_rfl))
  f263 := Tryz.func67.trans (congrArg some (by kernel_rfl))
  f264 := Tryz.func68.trans (congrArg some (by kernel_rfl))
  f276 := Tryz.func92.trans (congrArg some (by kernel_rfl))
  f277 := Tryz.func93.trans (congrArg some (by kernel_rfl))
  t0 := Tryz.underlying0
  a0 := Tryz.isAgg0
  z0 := Tryz.sizeOf0
  v0 := Tryz.zeroValue0
  t3 := Tryz.underlying3
  a3 := Tryz.isAgg3
  z3 := Tryz.sizeOf3
  v3 := Tryz.zeroValue3
  t4 := Tryz.underlying4
  a4 := Tryz.isAgg4
  z4 := Tryz.sizeOf4
  v4 := Tryz.zeroValue4
  t5 := Tryz.underlying5
  a5 := Tryz.isAgg5
  z5 := Tryz.sizeOf5
  v5 := Tryz.zeroValue5
  t9 := Tryz.underlying9
  a9 := Tryz.isAgg9
  z9 := Tryz.sizeOf9
  v9 := Tryz.zeroValue9
  t20 := Tryz.underlying20
  a20 := Tryz.isAgg20
  z20 := Tryz.sizeOf20
  v20 := Tryz.zeroValue20
  t37 := Tryz.underlying65
  a37 := Tryz.isAgg65
  z37 := Tryz.sizeOf65
  v37 := Tryz.zeroValue65
  t46 := Tryz.underlying73
  a46 := Tryz.isAgg73
  z46 := Tryz.sizeOf73
  v46 := Tryz.zeroValue73
  t51 := Tryz.underlying93
  a51 := Tryz.isAgg93
  z51 := Tryz.sizeOf93
  v51 := Tryz.zeroValue93
  t53 := Tryz.underlying96
  a53 := Tryz.isAgg96
  z53 := Tryz.sizeOf96
  v53 := Tryz.zeroValue96
  t70 := Tryz.underlying64
  a70 := Tryz.isAgg64
  z70 := Tryz.sizeOf64
  v70 := Tryz.zeroValue64
  t72 := Tryz.underlying67
  a72 := Tryz.isAgg67
  z72 := Tryz.sizeOf67
  v72 := Tryz.zeroValue67
  t75 := Tryz.underlying70
  a75 := Tryz.isAgg70
  z75 := Tryz.sizeOf70
  v75 := Tryz.zeroValue70
  t76 := Tryz.underlying71
  a76 := Tryz.isAgg71
  z76 := Tryz.sizeOf71
  v76 := Tryz.zeroValue71
  t109 := Tryz.underlying74
  a109 := Tryz.isAgg74
  z109 := Tryz.sizeOf74
  v109 := Tryz.zeroValue74
  t127 := Tryz.underlying92
  a127 := Tryz.isAgg92
  z127 := Tryz.sizeOf92
  v127 := Tryz.zeroValue92
  t146 := Tryz.underlying94
  a146 := Tryz.isAgg94
  z146 := Tryz.sizeOf94
  v146 := Tryz.zeroValue94
  t148 := Tryz.underlying97
  a148 := Tryz.isAgg97
  z148 := Tryz.sizeOf97
  v148 := Tryz.zeroValue97
  t164 := Tryz.underlying115
  a164 := Tryz.isAgg115
  z164 := Tryz.sizeOf115
  v164 := Tryz.zeroValue115 }
theorem Tryz.Builder_Extra_105 : Builder.Extra Tryz.prog Tryz.lays105_ren := {
  sizeBuilder := by kernel_rfl
  liesBuilder := by kernel_rfl
  t5 := Tryz.underlying5
  a5 := Tryz.isAgg5
  z5 := Tryz.sizeOf5
  v5 := Tryz.zeroValue5
  infoByte := by kernel_rfl
  cellsByte := by kernel_rfl
  sizeByte := by kernel_rfl
  neB5 := by decide }
open Go.RowKit Go.Lib in
theorem Tryz.strings_Repeat (s : ByteArray) (c : Nat) (w : World) (hc : c ≤ 9223372036854775807) (hlen : s.size * c ≤ 140737488355328) :
    Calls Tryz.prog 21 #[.string s, .int .i64 c] w fun e w' => e = .returned (.string ⟨(Lib.repeatL s.data.toList c).toArray⟩) ∧ Below w.heap.size w w' := Any.strings_Repeat Tryz.lays105 Tryz.Builder_Extra_105 s c w hc hlen
end Go.Proofs

/- strconv.Atoi at every string: one contract with its three ends. -/
namespace Go.Proofs.YtojgjejbhcjifaaGreatDoor
set_option linter.unusedVariables false
open Go.RowKit

/-- The library's two errors lie where they were laid. -/
def ErrsLaid (w : World) : Prop := (∃ t p, w.cell? ⟨3, 0, none⟩ = some (.iface t p)) ∧ (∃ t p, w.cell? ⟨4, 0, none⟩ = some (.iface t p)) ∧ 3 < w.heap.size ∧ 4 < w.heap.size
theorem ErrsLaid.keep {w w' : World} (h : ErrsLaid w) (hs : w.heap.size ≤ w'.heap.size) (h1 : w'.cell? ⟨3, 0, none⟩ = w.cell? ⟨3, 0, none⟩) (h2 : w'.cell? ⟨4, 0, none⟩ = w.cell? ⟨4, 0, none⟩) : ErrsLaid w' :=
  ⟨by rw [h1]; exact h.1, by rw [h2]; exact h.2.1, by have := h.2.2.1; omega, by have := h.2.2.2; omega⟩
theorem ErrsLaid.below {w w' : World} {B : Nat} (h : ErrsLaid w) (hb : Below B w w') (hB : w.heap.size ≤ B) : ErrsLaid w' :=
  h.keep hb.size (hb.cell (Nat.lt_of_lt_of_le h.2.2.1 hB)) (hb.cell (Nat.lt_of_lt_of_le h.2.2.2 hB))

/-- How Atoi ends: the number and the error. -/
def AtoiP (s : ByteArray) (n : Int) (ev : Value) : Prop :=
  (Lib.atoiAll s.data.toList = .ok n ∧ ev = .nilIface) ∨ ((∀ v, Lib.atoiAll s.data.toList ≠ .ok v) ∧ ∃ t N, ev = .iface t (.pointer (some ⟨N, 0, none⟩)))
end Go.Proofs.YtojgjejbhcjifaaGreatDoor

/- strings.Builder written, and strings.Join: the library's contracts at this program. -/
namespace Go.Proofs.YtojgjejbhcjifaaGreatDoor
set_option linter.unusedVariables false
open Go.RowKit

/-- strings.Join of words in memory. -/
theorem join_c (l : List ByteArray) (sep : ByteArray) (v : Value) (F : Nat → Prop) (w : World) (hv : Sli strR w F l v) (hF : ∀ b, F b → b < w.heap.size) (hlen : (Lib.join (l.map (·.data.toList)) sep.data.toList).length ≤ 140737488355328) (hN : l.length ≤ 140737488355328) :
    Calls Tryz.prog 19 #[v, .string sep] w fun e w' => e = .returned (.string ⟨(Lib.join (l.map (·.data.toList)) sep.data.toList).toArray⟩) ∧ Below w.heap.size w w' := by
  obtain ⟨A, c, rfl, h1, h2, h3⟩ := hv
  by_cases h0 : 0 < l.length
  · obtain ⟨b, off, cs, rfl, hb, hl, hc⟩ := h3 h0
    refine Any.strings_Join Tryz.lays156 Tryz.Builder_Extra_156 b off c l sep w (fun j x hx => ?_) (hF b hb) hN h1 hlen
    have h4 : (cs.drop (j * 1)).take 1 = [.string x] := hl.2 j x hx
    refine hc j _ ?_
    have h5 : ((cs.drop (j * 1)).take 1)[0]? = some (.string x) := by rw [h4]; rfl
    rw [List.getElem?_take, if_pos (by decide), List.getElem?_drop] at h5
    simpa using h5
  · have : l = [] := List.length_eq_zero_iff.1 (by omega)
    subst this
    exact (Any.strings_Join_none Tryz.lays156 Tryz.Builder_Extra_156 A c sep w).mono fun e w' ⟨he, hw⟩ => ⟨he, hw ▸ Below.refl _ _⟩
/-- .. its result behind a name. -/
theorem joinX (l : List ByteArray) (sep X : ByteArray) (v : Value) (F : Nat → Prop) (w : World) (hX : (⟨(Lib.join (l.map (·.data.toList)) sep.data.toList).toArray⟩ : ByteArray) = X) (hs : X.size ≤ 140737488355328) (hv : Sli strR w F l v) (hF : ∀ b, F b → b < w.heap.size) (hN : l.length ≤ 140737488355328) :
    Calls Tryz.prog 19 #[v, .string sep] w fun e w' => e = .returned (.string X) ∧ Below w.heap.size w w' := by
  subst hX
  exact join_c l sep v F w hv hF (by simpa [ByteArray.size] using hs) hN
theorem strLit (w : World) (l : List ByteArray) (cs : Array Value) (T n : Nat) (hcs : cs = (l.map Value.string).toArray) (hn : n = l.length) (hm : n ≤ 1000) : Sli strR (w.alloc (.cells cs T)) (fun b => b = w.heap.size) l (.slice (some ⟨w.heap.size, 0, none⟩) n n) := by
  subst hcs; subst hn
  refine Sli.new T l.length ⟨by rw [List.length_map]; show _ = _ * 1; omega, fun k x hx => ?_⟩ rfl (Nat.le_refl _) (by omega)
  show ((l.map Value.string).drop (k * 1)).take 1 = [.string x]
  obtain ⟨hk, rfl⟩ := List.getElem?_eq_some_iff.1 hx
  rw [Nat.mul_one, List.drop_eq_getElem_cons (by rw [List.length_map]; exact hk), List.take_succ_cons, List.take_zero, List.getElem_map]
end Go.Proofs.YtojgjejbhcjifaaGreatDoor

/- strings.Builder written, with what stands beside it kept: the library's contracts at this program. -/
namespace Go.Proofs.YtojgjejbhcjifaaGreatDoor
set_option linter.unusedVariables false
open Go.RowKit

end Go.Proofs.YtojgjejbhcjifaaGreatDoor

/- What a law's walk ends with. No law in sight. -/
namespace Go.Proofs.YtojgjejbhcjifaaGreatDoor
set_option linter.unusedVariables false
open Go.RowKit

theorem strNew (w : World) (A : Option Addr) (l : List Int) (c : Nat) (hr : Rs w 0 w.heap.size 1 intc A l) (hl : l.length ≤ 17592186044416) (ho : ∀ x ∈ l, okI x) :
    Str (w.alloc (.cells #[.slice A l.length c, .int .i64 0] 25)) w.heap.size 0 :=
  ⟨A, c, l, heap_alloc_new w _, Int.le_refl _, hr.alloc (Nat.le_refl _) _, hl, ho⟩
theorem gEnd {w w1 : World} {o : Obj} (h : (w.alloc o).grownBy w1 (some w.heap.size)) : Below w.heap.size w w1 :=
  ⟨h.os, h.tape, h.output, by have := h.size; simp at this; omega, fun i hi => (h.block i (by simp; omega) (by simp; omega)).trans (Below.heap_alloc w _ i hi)⟩
end Go.Proofs.YtojgjejbhcjifaaGreatDoor

/- The reference's small words on strings. -/
namespace Go.Proofs.YtojgjejbhcjifaaGreatDoor
set_option linter.unusedVariables false
open Go.RowKit

theorem trim_c (s cs : ByteArray) (w : World) (hs : s.size ≤ 140737488355328) (hcs : cs.size ≤ 1000) (ha : (cs.data.toList.all fun b => decide (b.toNat < 128)) = true) :
    Calls Tryz.prog 55 #[.string s, .string cs] w fun e w' => e = .returned (.string ⟨(Lib.trimS s.data.toList cs.data.toList).toArray⟩) ∧ Below w.heap.size w w' :=
  Any.strings_Trim_laid Tryz.lays160 (by kernel_rfl) s cs w (by omega) (by omega) (ascii_of_all ha)

theorem dropWhile_nil {p : UInt8 → Bool} {l : List UInt8} : l.dropWhile p = [] ↔ ∀ x ∈ l, p x = true := by
  induction l with
  | nil => simp
  | cons y l ih =>
    cases h : p y with
    | true => simp [h, ih]
    | false => simp [h]

theorem trimS_nil (l cs : List UInt8) : Lib.trimS l cs = [] ↔ l.all (cs.contains ·) = true := by
  unfold Lib.trimS Lib.trimLeftS Lib.trimRightS
  constructor
  · intro h
    have h1 : ∀ x ∈ (l.reverse.dropWhile (cs.contains ·)), cs.contains x = true := by
      have := dropWhile_nil.1 h
      simpa using this
    cases hd : l.reverse.dropWhile (cs.contains ·) with
    | nil =>
      have := dropWhile_nil.1 hd
      rw [List.all_eq_true]
      intro x hx
      exact this x (by simpa using hx)
    | cons y t =>
      have h2 := h1 y (by rw [hd]; simp)
      have h3 := List.head_dropWhile_not (p := (cs.contains ·)) (l := l.reverse) (by rw [hd]; simp)
      simp only [hd, List.head_cons] at h3
      rw [h3] at h2; cases h2
  · intro h
    rw [List.all_eq_true] at h
    have : l.reverse.dropWhile (cs.contains ·) = [] := dropWhile_nil.2 (fun x hx => h x (by simpa using hx))
    rw [this]; rfl

theorem toList_mk (l : List UInt8) : (⟨l.toArray⟩ : ByteArray).toList = l := by rw [ByteArray.toList_eq]

set_option maxHeartbeats 400000 in
theorem made_c (s cs : ByteArray) (w : World) (hs : s.size ≤ 140737488355328) (hcs : cs.size ≤ 1000) (ha : (cs.data.toList.all fun b => decide (b.toNat < 128)) = true) :
    Calls Tryz.prog 37 #[.string s, .string cs] w fun e w' => e = .returned (.bool (allB (cs.data.toList.contains ·) s)) ∧ Below w.heap.size w w' := by
  cases h : allB (cs.data.toList.contains ·) s with
  | true =>
    have h2 : (⟨(Lib.trimS s.data.toList cs.data.toList).toArray⟩ : ByteArray) = ⟨#[]⟩ := by rw [(trimS_nil _ _).2 h]
    have H := Lib.hid h2
    clear h2 h
    go_enter Tryz.func37, Tryz.ntmps37
    go_wp2_with fail
    refine (trim_c s cs _ hs hcs ha).mono ?_
    rintro e w' ⟨rfl, hb⟩
    rw [H.out]
    go_wp2
    go_ret
    exact ⟨rfl, hb⟩
  | false =>
    have h2 : (⟨(Lib.trimS s.data.toList cs.data.toList).toArray⟩ : ByteArray).toList.isEmpty = false := by
      rw [toList_mk]
      cases he : Lib.trimS s.data.toList cs.data.toList with
      | nil => rw [(trimS_nil _ _).1 he |> (show _ → allB (cs.data.toList.contains ·) s = true from id)] at h; cases h
      | cons y t => rfl
    have H := Lib.hid h2
    clear h2 h
    go_enter Tryz.func37, Tryz.ntmps37
    go_wp2_with fail
    refine (trim_c s cs _ hs hcs ha).mono ?_
    rintro e w' ⟨rfl, hb⟩
    generalize (⟨(Lib.trimS s.data.toList cs.data.toList).toArray⟩ : ByteArray) = t at H ⊢
    have h2 := H.out
    go_wp2
    go_ret
    exact ⟨rfl, hb⟩

set_option maxHeartbeats 400000 in
theorem long_c (s : ByteArray) (lo hi : Int) (w : World) (hs : s.size ≤ 140737488355328) :
    Calls Tryz.prog 35 #[.string s, .int .i64 lo, .int .i64 hi] w fun e w' => e = .returned (.bool (decide (lo ≤ s.size) && decide ((s.size : Int) ≤ hi))) ∧ w = w' := by
  by_cases h1 : lo ≤ (s.size : Int)
  all_goals
    go_enter Tryz.func35, Tryz.ntmps35
    go_wp2
    go_ret
    exact ⟨ret_bool (by first | (simp [h1]; done) | (simp; omega)), rfl⟩
end Go.Proofs.YtojgjejbhcjifaaGreatDoor

/- The shelf contracts that these proofs use, laid at this translation. -/
namespace Go.Proofs
open Go.Shelf

end Go.Proofs

/- Small laws on strings and bytes. No program in sight. -/
namespace Go.Proofs.YtojgjejbhcjifaaGreatDoor
set_option linter.unusedVariables false
open Go.RowKit

end Go.Proofs.YtojgjejbhcjifaaGreatDoor

/- The program's codes. -/
namespace Go.Proofs.YtojgjejbhcjifaaGreatDoor
set_option linter.unusedVariables false
open Go.RowKit Go.Sort

end Go.Proofs.YtojgjejbhcjifaaGreatDoor

/- A text cut at a byte, in plain words. No program in sight. -/
namespace Go.Proofs.YtojgjejbhcjifaaGreatDoor
set_option linter.unusedVariables false
open Go.RowKit

/-- Where a byte stands first; the length where it does not stand. -/
def cutI (s : ByteArray) (c : UInt8) : Nat := s.data.toList.findIdx (· == c)
def cutF (s : ByteArray) (c : UInt8) : Bool := decide (cutI s c < s.size)
def cutA (s : ByteArray) (c : UInt8) : ByteArray := s.extract 0 (cutI s c)
def cutB (s : ByteArray) (c : UInt8) : ByteArray := s.extract (cutI s c + 1) s.size
theorem cutB_size (s : ByteArray) (c : UInt8) : (cutB s c).size ≤ s.size := by unfold cutB; rw [ByteArray.size_extract]; omega
theorem idxB_no {s : ByteArray} {c : UInt8} (h : ¬ cutI s c < s.size) : Lib.indexByte s.data.toList c = -1 := by
  by_cases h1 : Lib.indexByte s.data.toList c = -1
  · exact h1
  · exfalso
    have hg := Lib.indexByte_ge s.data.toList c
    obtain ⟨o, ho⟩ := Int.eq_ofNat_of_zero_le (show 0 ≤ Lib.indexByte s.data.toList c by omega)
    obtain ⟨h2, _⟩ := Lib.indexByte_some ho
    obtain ⟨hlt, h3⟩ := List.getElem?_eq_some_iff.1 h2
    exact h (by
      have h4 : cutI s c < s.data.toList.length := List.findIdx_lt_length_of_exists ⟨c, by rw [← h3]; exact List.getElem_mem hlt, by simp⟩
      simpa using h4)
theorem idxB_yes {s : ByteArray} {c : UInt8} (h : cutI s c < s.size) : Lib.indexByte s.data.toList c = (cutI s c : Int) := by
  have hl : cutI s c < s.data.toList.length := by simpa using h
  have hg := Lib.indexByte_ge s.data.toList c
  have hc : s.data.toList[cutI s c] = c := by have := List.findIdx_getElem (p := (· == c)) (w := hl); exact eq_of_beq this
  have hne : Lib.indexByte s.data.toList c ≠ -1 := fun e => Lib.indexByte_none e (cutI s c) (by rw [List.getElem?_eq_getElem hl, hc])
  obtain ⟨o, ho⟩ := Int.eq_ofNat_of_zero_le (show 0 ≤ Lib.indexByte s.data.toList c by omega)
  obtain ⟨h2, h3⟩ := Lib.indexByte_some ho
  obtain ⟨hlt, h4⟩ := List.getElem?_eq_some_iff.1 h2
  rcases Nat.lt_trichotomy o (cutI s c) with h5 | h5 | h5
  · have := List.not_of_lt_findIdx (p := (· == c)) (xs := s.data.toList) h5
    simp [h4] at this
  · rw [ho, h5]
  · exact absurd (by rw [List.getElem?_eq_getElem hl, hc]) (h3 _ h5)
theorem extract_list' (s : ByteArray) (a b : Nat) : (s.extract a b).data.toList = (s.data.toList.drop a).take (b - a) := by simp
theorem ba_ext {a b : ByteArray} (h : a.data.toList = b.data.toList) : a = b := by
  rcases a with ⟨⟨a⟩⟩; rcases b with ⟨⟨b⟩⟩; simp at h; rw [h]
end Go.Proofs.YtojgjejbhcjifaaGreatDoor

/- strings.Cut at one byte, for every string. -/
namespace Go.Proofs.YtojgjejbhcjifaaGreatDoor
set_option linter.unusedVariables false
open Go.RowKit

end Go.Proofs.YtojgjejbhcjifaaGreatDoor

/- Numerals read by the program and by the reference. -/
namespace Go.Proofs.YtojgjejbhcjifaaGreatDoor
set_option linter.unusedVariables false
open Go.RowKit Go.Sort

theorem mk_size (l : List UInt8) : (⟨l.toArray⟩ : ByteArray).size = l.length := rfl
end Go.Proofs.YtojgjejbhcjifaaGreatDoor

/- The generator's changed texts and frames. -/
namespace Go.Proofs.YtojgjejbhcjifaaGreatDoor
set_option linter.unusedVariables false
open Go.RowKit Go.Sort

end Go.Proofs.YtojgjejbhcjifaaGreatDoor

/- The generator's numbers of scenes and setups. -/
namespace Go.Proofs.YtojgjejbhcjifaaGreatDoor
set_option linter.unusedVariables false
open Go.RowKit Go.Sort

theorem oneOf {l : List ByteArray} {x : ByteArray} {n : Nat} (h : (l.all fun x => decide (x.size ≤ n)) = true) (hx : x ∈ l) : x.size ≤ n := by
  rw [List.all_eq_true] at h; simpa using h x hx
end Go.Proofs.YtojgjejbhcjifaaGreatDoor

/- Digests: the program's and the reference's. -/
namespace Go.Proofs.YtojgjejbhcjifaaGreatDoor
set_option linter.unusedVariables false
open Go.RowKit Go.Sort

end Go.Proofs.YtojgjejbhcjifaaGreatDoor

/- The program's names of files, and copies checked. -/
namespace Go.Proofs.YtojgjejbhcjifaaGreatDoor
set_option linter.unusedVariables false
open Go.RowKit

end Go.Proofs.YtojgjejbhcjifaaGreatDoor

/- Lists of copies checked, and manifests made. -/
namespace Go.Proofs.YtojgjejbhcjifaaGreatDoor
set_option linter.unusedVariables false
open Go.RowKit

end Go.Proofs.YtojgjejbhcjifaaGreatDoor

/- Slices compared and looked through; the reference's names of files. -/
namespace Go.Proofs.YtojgjejbhcjifaaGreatDoor
set_option linter.unusedVariables false
open Go.RowKit

theorem strAt {w : World} {F : Nat → Prop} {l : List ByteArray} {A : Option Addr} {n c : Nat} (h : Sli strR w F l (.slice A n c)) (k : Nat) (hk : k < l.length) : ∃ b off, A = some ⟨b, off, none⟩ ∧ F b ∧ w.cell? ⟨b, off + k, none⟩ = some (.string l[k]) := by
  obtain ⟨b, off, a, e, hb, hr, hc⟩ := h.at_ k hk
  have ha : a = [.string l[k]] := hr
  subst ha
  refine ⟨b, off, e, hb, ?_⟩
  have h := hc 0 _ rfl
  rw [show off + k * strR.n + 0 = off + k from by show off + k * 1 + 0 = _; omega] at h
  exact h
instance : DecidableEq Copied := fun a b => decidable_of_iff (a.eqB b = true) Copied.eqB_iff
set_option maxHeartbeats 800000 in
theorem idxStr_c (l : List ByteArray) (s : ByteArray) (v : Value) (F : Nat → Prop) (w : World) (h1 : Sli strR w F l v) :
    Calls Tryz.prog 57 #[v, .string s] w fun e w' => e = .returned (.int .i64 (idxV (l.findIdx? fun y => decide (y = s)))) ∧ w = w' := by
  obtain ⟨A1, c1, rfl, hlc1, hc1⟩ := h1.form
  have H1 := Lib.hid h1; clear h1
  go_enter Tryz.func57, Tryz.ntmps57
  go_wp2
  go_loop [8] (fun i => ∃ k : Nat, k ≤ l.length ∧ i = .int .i64 k ∧ Hid (∀ x ∈ l.take k, decide (x = s) = false)) (fun i => l.length - (intOf i).toNat)
  case atStart => exact ⟨0, Nat.zero_le _, rfl, by intro x hx; simp at hx⟩
  case round =>
    obtain ⟨k, hk, rfl, HT⟩ := hrel
    by_cases hlt : k < l.length
    · obtain ⟨b, off, rfl, hfb, c0⟩ := strAt H1.out k hlt
      by_cases he : l[k] = s
      · have H := Lib.hid (findIdx_at (p := fun y => decide (y = s)) HT.out hlt (by simpa using he))
        rw [he] at c0
        clear he
        go_wp2
        go_ret
        exact ⟨by rw [H.out]; rfl, rfl⟩
      · have HN := Lib.hid (take_next (q := fun y => decide (y = s) = false) hlt HT.out (by simpa using he))
        generalize l[k] = x at *
        have hq : (s.toList == x.toList) = false := by rw [beqS]; simpa using (fun e => he e.symm)
        go_wp2
        go_round
        case rel => exact ⟨k + 1, by omega, intNum, HN.out⟩
        case measure => simp [intOf]; omega
    · have H := Lib.hid (findIdx_no (take_all hlt HT.out))
      go_wp2
      go_ret
      exact ⟨by rw [H.out]; rfl, rfl⟩
theorem contains_c (l : List ByteArray) (s : ByteArray) (v : Value) (F : Nat → Prop) (w : World) (h1 : Sli strR w F l v) :
    Calls Tryz.prog 56 #[v, .string s] w fun e w' => e = .returned (.bool (l.any fun y => decide (y = s))) ∧ w = w' := by
  have HC := Lib.hid (idxStr_c l s v F w h1); clear h1
  cases h : l.findIdx? (fun y => decide (y = s)) with
  | none =>
    have HV := Lib.hid (show (l.any fun y => decide (y = s)) = false by rw [List.findIdx?_eq_none_iff] at h; rw [List.any_eq_false]; intro x hx; simp [h x hx])
    rw [h] at HC
    go_enter Tryz.func56, Tryz.ntmps56
    go_wp2_with fail
    refine HC.out.mono ?_
    rintro e w' ⟨rfl, rfl⟩
    rw [show idxV none = -1 from rfl]
    go_wp2
    go_ret
    exact ⟨ret_bool (by rw [HV.out]), rfl⟩
  | some i =>
    have HV := Lib.hid (show (l.any fun y => decide (y = s)) = true by
      obtain ⟨hi, hp, _⟩ := List.findIdx?_eq_some_iff_getElem.1 h
      rw [List.any_eq_true]; exact ⟨_, List.getElem_mem hi, hp⟩)
    rw [h] at HC
    go_enter Tryz.func56, Tryz.ntmps56
    go_wp2_with fail
    refine HC.out.mono ?_
    rintro e w' ⟨rfl, rfl⟩
    rw [show idxV (some i) = (i : Int) from rfl]
    have : (0 : Int) ≤ (i : Int) := by omega
    go_wp2
    go_ret
    exact ⟨ret_bool (by rw [HV.out]), rfl⟩

end Go.Proofs.YtojgjejbhcjifaaGreatDoor

/- What the library has laid, kept beside a stream; Atoi and Itoa there. -/
namespace Go.Proofs.YtojgjejbhcjifaaGreatDoor
set_option linter.unusedVariables false
open Go.RowKit Go.Sort

section
variable {w w' : World} {sb : Nat}
end
def AtoiO (s : ByteArray) (w : World) (e : Ending) (w' : World) : Prop := ∃ n ev, okI n ∧ AtoiP s n ev ∧ e = .returned (.tuple #[.int .i64 n, ev]) ∧ Below w.heap.size w w'
theorem atoi_o (s : ByteArray) (w : World) (hs : s.size ≤ 140737488355328) (hl : ErrsLaid w) : Calls Tryz.prog 59 #[.string s] w (AtoiO s w) := by
  obtain ⟨⟨t1, p1, h1⟩, ⟨t2, p2, h2⟩, _, _⟩ := hl
  cases h : Lib.atoiAll s.data.toList
  case ok v =>
    refine (Any.strconv_Atoi_ok Tryz.laysC172 s (by omega) v h w).mono ?_
    rintro e w' ⟨he, hw⟩
    refine ⟨v, _, atoi_bd h, .inl ⟨h, rfl⟩, he, ?_⟩
    rcases hw with rfl | ⟨t, rfl⟩
    · exact Below.refl _ _
    · exact Joins.below_bytesWorld _ _ _ _ (Nat.le_refl _)
  · refine (Any.strconv_Atoi_syntax Tryz.laysC172 s (by omega) h _ w h1 (.inr ⟨_, _, rfl⟩)).mono ?_
    rintro e w' ⟨N, he, _, _, hb⟩
    exact ⟨_, _, by unfold okI; omega, .inr ⟨(fun v hv => by rw [h] at hv; cases hv), _, _, rfl⟩, he, hb⟩
  · refine (Any.strconv_Atoi_range Tryz.laysC172 s (by omega) h _ w h2 (.inr ⟨_, _, rfl⟩)).mono ?_
    rintro e w' ⟨N, he, _, _, hb⟩
    exact ⟨_, _, by unfold okI Lib.atoiSat; split <;> omega, .inr ⟨(fun v hv => by rw [h] at hv; cases hv), _, _, rfl⟩, he, hb⟩
end Go.Proofs.YtojgjejbhcjifaaGreatDoor

/- The number of a scene, and a setup, in plain words. -/
namespace Go.Proofs.YtojgjejbhcjifaaGreatDoor
set_option linter.unusedVariables false
open Go.RowKit

def digB (c : UInt8) : Bool := decide (48 ≤ c.toNat) && decide (c.toNat ≤ 57)
def capB (c : UInt8) : Bool := decide (65 ≤ c.toNat) && decide (c.toNat ≤ 90)
def numK (s : ByteArray) : Nat := (s.data.toList.takeWhile digB).length
def numB (s : ByteArray) : Bool :=
  (s.data.toList.drop (numK s)).all capB && decide (s.size - numK s ≤ 5) && !Lib.hasSuffix (s.data.toList.drop (numK s)) [65]
    && (if s.data.toList.take (numK s) = [48] then decide (numK s < s.size) else decide (1 ≤ numK s) && decide (numK s ≤ 3) && decide (s.data.toList.head? ≠ some 48))

end Go.Proofs.YtojgjejbhcjifaaGreatDoor

/- Plain texts, in plain words: joined words against no blanks beside blanks. No program in sight. -/
namespace Go.Proofs.YtojgjejbhcjifaaGreatDoor
set_option linter.unusedVariables false
open Go.RowKit

/-- The words of a text: what stands between blanks. -/
def wordsA : List UInt8 → List UInt8 → List (List UInt8)
  | [], cur => if cur = [] then [] else [cur]
  | c :: l, cur => if c = 32 then (if cur = [] then wordsA l [] else cur :: wordsA l []) else wordsA l (cur ++ [c])
/-- All bytes from 32 to 126. -/
def prB (c : UInt8) : Bool := decide (32 ≤ c.toNat) && decide (c.toNat ≤ 126)
end Go.Proofs.YtojgjejbhcjifaaGreatDoor

/- Reading slates, in plain words. No program in sight. -/
namespace Go.Proofs.YtojgjejbhcjifaaGreatDoor
set_option linter.unusedVariables false
open Go.RowKit

end Go.Proofs.YtojgjejbhcjifaaGreatDoor

/- Takes as they lie in memory. No program in sight. -/
namespace Go.Proofs.YtojgjejbhcjifaaGreatDoor
set_option linter.unusedVariables false
open Go.RowKit

end Go.Proofs.YtojgjejbhcjifaaGreatDoor

/- The next number and the next setup in plain words. No program in sight. -/
namespace Go.Proofs.YtojgjejbhcjifaaGreatDoor
set_option linter.unusedVariables false
open Go.RowKit

end Go.Proofs.YtojgjejbhcjifaaGreatDoor

/- The cells of a take in a list of takes; the greater and the lesser of two numbers. No program in sight. -/
namespace Go.Proofs.YtojgjejbhcjifaaGreatDoor
set_option linter.unusedVariables false
open Go.RowKit

def maxI (x y : Int) : Int := if y > x then y else x
theorem run_max {P : Program} (ats : Array TypeId) (ty : TypeId) (x y : Int) (w : World) : (Builtin.max_ ats ty #[.int .i64 x, .int .i64 y]).run P w = .ok (.int .i64 (maxI x y)) w := rfl
theorem maxI_eq (x y : Int) : maxI x y = max x y := by unfold maxI; split <;> omega
end Go.Proofs.YtojgjejbhcjifaaGreatDoor

/- How many scenes each set has, in plain words. No program in sight. -/
namespace Go.Proofs.YtojgjejbhcjifaaGreatDoor
set_option linter.unusedVariables false
open Go.RowKit

instance memBA (s : ByteArray) (a : List ByteArray) : Decidable (s ∈ a) := decidable_of_iff (∃ x ∈ a, x = s) (by simp)
end Go.Proofs.YtojgjejbhcjifaaGreatDoor

/- The words of a text, in plain words. No program in sight. -/
namespace Go.Proofs.YtojgjejbhcjifaaGreatDoor
set_option linter.unusedVariables false
open Go.RowKit

def lowB (c : UInt8) : Bool := decide (97 ≤ c.toNat) && decide (c.toNat ≤ 122)
/-- A letter or a figure. -/
def alnB (c : UInt8) : Bool := capB c || lowB c || digB c
def inWB (c : UInt8) : Bool := alnB c || c == 39
def loC (c : UInt8) : UInt8 := if capB c = true then c + 32 else c
def wdOk (cur : List UInt8) : Bool := cur.any fun c => c != 39
def flW (cur : List UInt8) : List ByteArray := if wdOk cur = true then [⟨cur.toArray⟩] else []
/-- The words of what is left of a text, where these bytes of a word are at hand. -/
def wdS : List UInt8 → List UInt8 → List ByteArray
  | cur, [] => flW cur
  | cur, c :: r => if inWB c = true then wdS (cur ++ [loC c]) r else flW cur ++ wdS [] r
def wordsT (s : ByteArray) : List ByteArray := wdS [] s.data.toList
theorem flW_len (cur : List UInt8) : (flW cur).length ≤ 1 := by unfold flW; split <;> simp
theorem wdS_len : ∀ (r cur : List UInt8), (wdS cur r).length ≤ r.length + 1
  | [], cur => by rw [wdS]; exact flW_len cur
  | c :: r, cur => by
    rw [wdS]
    split
    · have := wdS_len r (cur ++ [loC c]); simp; omega
    · have h1 := flW_len cur
      have h2 := wdS_len r []
      rw [List.length_append]; simp; omega
theorem flW_sz (cur : List UInt8) : ∀ x ∈ flW cur, x.size = cur.length := by
  unfold flW
  split
  · intro x hx
    rw [List.mem_singleton.1 hx]
    show cur.toArray.size = _
    simp
  · intro x hx; cases hx
theorem wdS_sz : ∀ (r cur : List UInt8), ∀ x ∈ wdS cur r, x.size ≤ cur.length + r.length
  | [], cur => fun x hx => by have := flW_sz cur x hx; simp; omega
  | c :: r, cur => fun x hx => by
    rw [wdS] at hx
    split at hx
    · have := wdS_sz r _ x hx; simp at this ⊢; omega
    · rcases List.mem_append.1 hx with hx | hx
      · have := flW_sz cur x hx; simp; omega
      · have := wdS_sz r [] x hx; simp at this ⊢; omega
theorem wordsT_len (s : ByteArray) : (wordsT s).length ≤ s.size + 1 := by have := wdS_len s.data.toList []; simpa [wordsT] using this
theorem wordsT_sz {s x : ByteArray} (h : x ∈ wordsT s) : x.size ≤ s.size := by have := wdS_sz s.data.toList [] x h; simpa using this
/-- Where a walk through a text stands: behind k bytes, with these words and these bytes at hand. -/
def WdI (s : ByteArray) (k : Nat) (out : List ByteArray) (cur : List UInt8) : Prop := out ++ wdS cur (s.data.toList.drop k) = wordsT s ∧ cur.length ≤ k ∧ out.length ≤ k
theorem WdI.start (s : ByteArray) : WdI s 0 [] [] := ⟨rfl, Nat.le_refl _, Nat.le_refl _⟩
theorem WdI.in_ {s : ByteArray} {k : Nat} {out : List ByteArray} {cur : List UInt8} (h : WdI s k out cur) (hk : k < s.size) (hc : inWB s[k] = true) : WdI s (k + 1) out (cur ++ [loC s[k]]) := by
  refine ⟨?_, by have := h.2.1; simp; omega, by have := h.2.2; omega⟩
  have h1 := h.1
  rw [List.drop_eq_getElem_cons (by simpa using hk), wdS, if_pos (by exact hc)] at h1
  exact h1
theorem WdI.out_ {s : ByteArray} {k : Nat} {out : List ByteArray} {cur : List UInt8} (h : WdI s k out cur) (hk : k < s.size) (hc : inWB s[k] = false) : WdI s (k + 1) (out ++ flW cur) [] := by
  refine ⟨?_, Nat.zero_le _, by have := h.2.2; have := flW_len cur; rw [List.length_append]; omega⟩
  have h1 := h.1
  rw [List.drop_eq_getElem_cons (by simpa using hk), wdS, if_neg (by show ¬ inWB s[k] = true; rw [hc]; decide)] at h1
  rw [List.append_assoc]
  exact h1
theorem WdI.end_ {s : ByteArray} {k : Nat} {out : List ByteArray} {cur : List UInt8} (h : WdI s k out cur) (hk : ¬ k < s.size) : out ++ flW cur = wordsT s := by
  have h1 := h.1
  rw [List.drop_eq_nil_of_le (by simpa using hk), wdS] at h1
  exact h1
theorem wdOk_snoc (cur : List UInt8) (c : UInt8) : wdOk (cur ++ [c]) = (wdOk cur || c != 39) := by simp [wdOk]
theorem flW_no {cur : List UInt8} (h : wdOk cur = false) : flW cur = [] := if_neg (by rw [h]; decide)
theorem flW_yes {cur : List UInt8} (h : wdOk cur = true) : flW cur = [⟨cur.toArray⟩] := if_pos h
theorem loC_aln {c : UInt8} (h : alnB c = true) : (loC c != 39) = true := by
  have hh : ∀ c, (!alnB c || (loC c != 39)) = true := u8_eq (q := fun _ => true) (by decide +kernel)
  have := hh c
  rw [h] at this
  simpa using this
end Go.Proofs.YtojgjejbhcjifaaGreatDoor

/- Words divided into lines, in plain words. No program in sight. -/
namespace Go.Proofs.YtojgjejbhcjifaaGreatDoor
set_option linter.unusedVariables false
open Go.RowKit

def mkB (l : List UInt8) : ByteArray := ⟨l.toArray⟩
end Go.Proofs.YtojgjejbhcjifaaGreatDoor

