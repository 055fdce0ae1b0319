/- Texts packed: Mem, Args, ByB, DecS, Gen, HexS, Map, MapG, QStore, QSegs, QSegs2, QSegs3, QTail, RegIn, Rep, FilesS, Own, Own2, Own3, PushI, RollS, CodeS, CodeV, EvS, GenA, GrowS, AppS, GrowI, OwnMod, GrowB, GrowJ, NestS, GrowM, PushK, OpPush, PushS, RollW, RollX, ScriptT, DelW, SegIn, SeqC, KeepM, SeqL, Shelf. -/
import Derived.Below
import Derived.Laws.OwnMore
import Derived.Deep.AppendLies
import Derived.Deep.Draws
import Derived.WalkKit
import Derived.WalkSpells
import Derived.WalkLawsBesides
import Derived.Lib.Hide
import Derived.ProofKit
import Derived.OpenShut
import Derived.SizedLaws
import Derived.SliceStrings
import Derived.Lib.ConvBytes
import Derived.Laws.BytesArg
import Derived.Lib.AtoiAll
import Derived.Lib.ItoaNum
import Derived.Test.YtlfnmmnbfoimeaaGreatDoorRows
import Derived.BigQuiet
import Derived.Deep.QuietTactic
import Derived.Maps.OwnOps
import Derived.Maps.OwnSet
import Derived.RegionTactic
import Derived.OrdersHeld
import Derived.Deep.Quiet
import Derived.StillTail
import Derived.Orders
import Derived.Lib.QuietBelow
import Derived.Deep.RegionLaw
import Derived.OrdersIn
import Derived.RangeFuncCalls
import Derived.OwnWalkIn
import Derived.Lib.FieldsP
import Derived.Lib.Split
import Derived.Lib.SplitLaws
import Derived.Lib.Join
import Derived.Lib.Repeat
import Derived.OneCell
import Derived.Room.AppendOnto
import Derived.Deep.RegionWith
import Derived.Laws.IdiomCopy
import Derived.Lib.SliceRun
import Derived.Deep.DeepCutAuto
import Derived.RangeFuncBox
import Derived.RangeFuncLeaves
import Derived.RangeFuncFrom
import Derived.Shelf.Strings.Builder1
import Derived.Shelf.Strings.Builder2
import Derived.Shelf.Strings.OnBuilder
import Derived.Shelf.Strings.Trim
import Derived.Shelf.Small.Utf8
import Derived.Shelf.Small.Strs
import Derived.Shelf.Small.Wraps
import Derived.Shelf.Strings.BuilderF
import Derived.Shelf.Strings.BuilderK
import Derived.Shelf.Strings.Builder2Cap
import Derived.Shelf.Strconv.Atoi
import Derived.Shelf.Strconv.Itoa0
import Derived.Shelf.Strconv.Itoa1
import Derived.Shelf.LaysM
import Derived.Shelf.Strconv.Itoa2
import Derived.Shelf.Strconv.Itoa3
import Derived.Shelf.Strconv.AtoiErrFast
import Derived.Shelf.Strconv.ParseIntEmpty
import Derived.Shelf.Strconv.AtoiFail
import Derived.Shelf.Strconv.Clone
import Derived.Shelf.Strconv.SyntaxError
import Derived.Shelf.LaysC
import Derived.Shelf.Strconv.ToError
import Derived.Shelf.Strconv.Lower
import Derived.Shelf.Strconv.ParseUint10
import Derived.Shelf.Strconv.ParseUint10Empty
import Derived.Shelf.Strconv.ParseUint10Any
import Derived.Shelf.Strconv.ParseInt10
import Derived.Shelf.Strconv.AtoiLong
import Derived.Shelf.Strconv.AtoiInnerAll
import Derived.Shelf.Strconv.RangeError
import Derived.Shelf.Strconv.ToErrorRange
import Derived.Shelf.Strconv.AtoiAll
import Derived.Shelf.Strconv.ErrVarAll
import Derived.Shelf.Strings.Search1
import Derived.Shelf.Strings.Search2
import Derived.Shelf.Strings.Search3
import Derived.Shelf.Strings.Count
import Derived.Shelf.Strings.Shaped
import Derived.Shelf.Strings.Prefix
import Derived.Shelf.Strings.Split
import Derived.Shelf.Strings.Fields
import Derived.Shelf.Strings.SplitShaped
import Derived.Shelf.Unicode.Latin
import Derived.Shelf.Unicode.Decode
import Derived.Shelf.Strings.Runes
import Derived.Shelf.Strings.RuneCount
import Derived.Shelf.Strings.IndexAny
import Derived.Shelf.Strings.AsciiSet
import Derived.Shelf.Strings.IndexAnyAll
import Derived.Shelf.Strings.Explode
import Derived.Shelf.Bits.Mul64
import Derived.Shelf.Strings.Repeat
import Derived.Shelf.Unicode.DecodeSlow
import Derived.Shelf.Unicode.DecodeAny
import Derived.Shelf.Unicode.Is16White
import Derived.Shelf.Unicode.IsSpaceAny
import Derived.Shelf.Unicode.DecodeLast
import Derived.Shelf.Strings.FieldsFuncAny
import Derived.Shelf.Unicode.Is16Any
import Derived.Shelf.Unicode.Is32Any
import Derived.Shelf.Unicode.ExclAny
import Derived.Shelf.Strings.FieldsFuncGrows
import Derived.Shelf.Strings.BuilderCap
import Derived.Shelf.Slices.Turned
import Derived.Test.YtlfnmmnbfoimeaaGreatDoorProg
/- Words for memory: a slice that reads as a list of elements of a fixed number of cells; small laws on worlds. No program in sight. -/
namespace Go.Proofs.YtlfnmmnbfoimeaaGreatDoor
set_option linter.unusedVariables false
open Go.RowKit

/-- The slice value '.slice A l.length c' holds the elements l, each of 'size' cells that read 'enc x', in one block from lo on and below hi. -/
def Rs {α : Type} (w : World) (lo hi size : Nat) (enc : α → List Value) (A : Option Addr) (l : List α) : Prop :=
  0 < l.length → ∃ b off, A = some ⟨b, off, none⟩ ∧ lo ≤ b ∧ b < hi ∧ ∀ (k : Nat) (x : α), l[k]? = some x → ∀ (j : Nat) (u : Value), (enc x)[j]? = some u → w.cell? ⟨b, off + k * size + j, none⟩ = some u

section
variable {α : Type} {w w' : World} {lo lo' hi hi' B size : Nat} {enc : α → List Value} {A : Option Addr} {l : List α}
theorem Rs.nil_ : Rs w lo hi size enc A ([] : List α) := fun h => absurd h (by simp)
theorem Rs.keep (h : Rs w lo hi size enc A l) (hk : ∀ p : Addr, lo ≤ p.block → p.block < hi → w'.cell? p = w.cell? p) : Rs w' lo hi size enc A l :=
  fun hn => by
    obtain ⟨b, off, e, hb0, hb, hc⟩ := h hn
    exact ⟨b, off, e, hb0, hb, fun k x hx j u hu => (hk _ hb0 hb).trans (hc k x hx j u hu)⟩
theorem Rs.more (h : Rs w lo hi size enc A l) (hl : lo' ≤ lo) (hB : hi ≤ hi') : Rs w lo' hi' size enc A l :=
  fun hn => by
    obtain ⟨b, off, e, hb0, hb, hc⟩ := h hn
    exact ⟨b, off, e, by omega, by omega, hc⟩
theorem Rs.below (h : Rs w lo hi size enc A l) (hb : Below B w w') (hB : hi ≤ B) : Rs w' lo hi size enc A l := h.keep fun _ _ hp => hb.cell (by omega)
theorem Rs.alloc (h : Rs w lo hi size enc A l) (hB : hi ≤ w.heap.size) (o : Obj) : Rs (w.alloc o) lo hi size enc A l := h.keep fun p _ hp => World.cell?_alloc_lt w o p (by omega)
theorem Rs.setCell (h : Rs w lo hi size enc A l) {p : Addr} (hB : hi ≤ p.block ∨ p.block < lo) (u : Value) : Rs (w.setCell p u) lo hi size enc A l :=
  h.keep fun q hq hq' => World.cell?_setCell_other w p q u (fun e => by subst e; omega)
theorem Rs.grown (h : Rs w lo hi size enc A l) {g : Nat} (hg : w.grownBy w' (some g)) (hB : hi ≤ w.heap.size) (hne : hi ≤ g ∨ g < lo) : Rs w' lo hi size enc A l :=
  h.keep fun p hq hq' => World.cell?_of_block (hg.block p.block (by omega) (by simp; omega))
/-- Element k: where it lies. -/
theorem Rs.at_ (h : Rs w lo hi size enc A l) {k : Nat} (hk : k < l.length) :
    ∃ b off, A = some ⟨b, off, none⟩ ∧ lo ≤ b ∧ b < hi ∧ ∀ (j : Nat) (u : Value), (enc l[k])[j]? = some u → w.cell? ⟨b, off + k * size + j, none⟩ = some u := by
  obtain ⟨b, off, e, hb0, hb, hc⟩ := h (by omega)
  exact ⟨b, off, e, hb0, hb, hc k _ (List.getElem?_eq_getElem hk)⟩
/-- Element k of a slice of elements of one cell. -/
theorem Rs.at1 {enc1 : α → Value} (h : Rs w lo hi 1 (fun x => [enc1 x]) A l) {k : Nat} (hk : k < l.length) :
    ∃ b off, A = some ⟨b, off, none⟩ ∧ lo ≤ b ∧ b < hi ∧ w.cell? ⟨b, off + k, none⟩ = some (enc1 l[k]) := by
  obtain ⟨b, off, e, hb0, hb, hc⟩ := h.at_ hk
  exact ⟨b, off, e, hb0, hb, by simpa using hc 0 _ rfl⟩
end

/-- A call's end: an int with a property, the world as it was. -/
def RetInt (p : Int → Prop) (w : World) (e : Ending) (w' : World) : Prop := ∃ v : Int, p v ∧ e = .returned (.int .i64 v) ∧ w = w'

def intc (x : Int) : List Value := [.int .i64 x]
def strc (x : ByteArray) : List Value := [.string x]
def okI (x : Int) : Prop := -9223372036854775808 ≤ x ∧ x ≤ 9223372036854775807


/-- A place in a list as Go's functions hand it back. -/
def idxV : Option Nat → Int
  | some k => k
  | none => -1

theorem findIdx_at {α : Type} {p : α → Bool} {l : List α} {k : Nat} (h : ∀ x ∈ l.take k, p x = false) (hk : k < l.length) (hp : p l[k] = true) : l.findIdx? p = some k := by
  induction l generalizing k with
  | nil => simp at hk
  | cons y l ih =>
    cases k with
    | zero => simp at hp; simp [List.findIdx?_cons, hp]
    | succ k =>
      have h0 : p y = false := h y (by simp)
      have := ih (k := k) (fun x hx => h x (by simp [hx])) (by simpa using hk) (by simpa using hp)
      simp [List.findIdx?_cons, h0, this]
theorem findIdx_no {α : Type} {p : α → Bool} {l : List α} (h : ∀ x ∈ l, p x = false) : l.findIdx? p = none := by
  rw [List.findIdx?_eq_none_iff]; simpa using h
theorem take_next {α : Type} {q : α → Prop} {l : List α} {k : Nat} (hk : k < l.length) (h : ∀ x ∈ l.take k, q x) (hq : q l[k]) : ∀ x ∈ l.take (k + 1), q x := by
  rw [List.take_succ_eq_append_getElem hk]
  intro x hx
  rcases List.mem_append.1 hx with hx | hx
  · exact h x hx
  · simp at hx; rw [hx]; exact hq
theorem take_all {α : Type} {q : α → Prop} {l : List α} {k : Nat} (hk : ¬ k < l.length) (h : ∀ x ∈ l.take k, q x) : ∀ x ∈ l, q x := by
  rw [List.take_of_length_le (by omega)] at h; exact h
theorem intNum {k : Nat} : Value.int .i64 ((k : Int) + 1) = .int .i64 ((k + 1 : Nat) : Int) := by simp

theorem beq_ba (a b : ByteArray) : (a == b) = decide (a = b) := by
  rcases a with ⟨a⟩; rcases b with ⟨b⟩
  show (a == b) = _
  rw [Bool.eq_iff_iff]; simp
theorem beqS (a b : ByteArray) : (a.toList == b.toList) = decide (a = b) := by rw [← beq_toListBytes, beq_ba]
theorem ret_bool {a b : Bool} (h : a = b) : Ending.returned (.bool a) = .returned (.bool b) := by rw [h]
theorem ret_int {k : IntKind} {a b : Int} (h : a = b) : Ending.returned (.int k a) = .returned (.int k b) := by rw [h]
/-- What a call leaves as it was, as rules for the walk. -/
theorem bcell {B : Nat} {W w1 : World} (hb : Below B W w1) : (∀ b o, b < B → w1.cell? ⟨b, o, none⟩ = W.cell? ⟨b, o, none⟩) ∧ (∀ b o, b < B → w1.frozen? ⟨b, o, none⟩ = W.frozen? ⟨b, o, none⟩) :=
  ⟨fun b o h => hb.cell (p := ⟨b, o, none⟩) h, fun b o h => hb.frozen (p := ⟨b, o, none⟩) h⟩

/-- All bytes of a string have p. -/
def allB (p : UInt8 → Bool) (s : ByteArray) : Bool := s.data.toList.all p
theorem allB_no {p : UInt8 → Bool} {s : ByteArray} {k : Nat} (hk : k < s.size) (h : p s[k] = false) : allB p s = false := by
  unfold allB
  rw [List.all_eq_false]
  exact ⟨s[k], by rw [show s[k] = s.data.toList[k]'(by simpa using hk) from rfl]; exact List.getElem_mem _, by simp [h]⟩
theorem allB_yes {p : UInt8 → Bool} {s : ByteArray} {k : Nat} (hk : ¬ k < s.size) (h : ∀ x ∈ s.data.toList.take k, p x = true) : allB p s = true := by
  unfold allB
  rw [List.all_eq_true]
  exact take_all (by simpa using hk) h
theorem allB_next {p : UInt8 → Bool} {s : ByteArray} {k : Nat} (hk : k < s.size) (h : ∀ x ∈ s.data.toList.take k, p x = true) (hp : p s[k] = true) : ∀ x ∈ s.data.toList.take (k + 1), p x = true :=
  take_next (q := fun x => p x = true) (by simpa using hk) h hp

theorem below_drewN {B : Nat} {a w : World} (h : Below B a w) (n : Nat) : Below B a (w.drewN n) := ⟨h.os, h.tape, h.output, h.size, h.block⟩

/-- Two tests of a byte that agree at each of the 256. -/
theorem u8_eq {p q : UInt8 → Bool} (h : ((List.range 256).all fun n => p (UInt8.ofNat n) == q (UInt8.ofNat n)) = true) : ∀ c, p c = q c := by
  intro c
  rw [List.all_eq_true] at h
  have := h c.toNat (List.mem_range.2 c.toNat_lt)
  simpa using this
theorem allB_congr {p q : UInt8 → Bool} (h : ((List.range 256).all fun n => p (UInt8.ofNat n) == q (UInt8.ofNat n)) = true) (s : ByteArray) : allB p s = allB q s := by
  rw [show p = q from funext (u8_eq h)]

theorem Rs.take {α : Type} {w : World} {lo hi size : Nat} {enc : α → List Value} {A : Option Addr} {l : List α} (h : Rs w lo hi size enc A l) (k : Nat) : Rs w lo hi size enc A (l.take k) :=
  fun hn => by
    obtain ⟨b, off, e, hb0, hb, hc⟩ := h (by simp at hn; omega)
    refine ⟨b, off, e, hb0, hb, fun j x hx => hc j x ?_⟩
    rw [List.getElem?_take] at hx
    split at hx
    · exact hx
    · cases hx
theorem idxV_any {α : Type} (p : α → Bool) (l : List α) : decide (0 ≤ idxV (l.findIdx? p)) = l.any p := by
  cases h : l.findIdx? p with
  | none =>
    rw [List.findIdx?_eq_none_iff] at h
    have : l.any p = false := by rw [List.any_eq_false]; intro x hx; simp [h x hx]
    rw [this]; rfl
  | some k =>
    rw [List.findIdx?_eq_some_iff_getElem] at h
    obtain ⟨hk, hp, _⟩ := h
    have : l.any p = true := by rw [List.any_eq_true]; exact ⟨_, List.getElem_mem hk, hp⟩
    rw [this]
    simp [idxV]
end Go.Proofs.YtlfnmmnbfoimeaaGreatDoor

/- A law's arguments, opened: a slice of ints, a string, a slice of strings. No program in sight. -/
namespace Go.Proofs.YtlfnmmnbfoimeaaGreatDoor
set_option linter.unusedVariables false
open Go.ChangeShapes Go.WideShapes Go.ChangeAt Go.RowKit

section
variable {H : Type} {enc : TypeId × Value → H} {P : Program} {W : World}
theorem argInts {t e : TypeId} {a : Option Addr} {len cap : Nat} {d : DataW H} {p : List MemPlace} {ts : List TypeId} {ds : List (DataW H)} {j : Nat} (ht : P.underlying t = some (.slice e)) (he : P.underlying e = some (.int .i64)) (hc : P.cellsOf e = 1) (hb : P.bytesOf e = 8)
    (h : DataW.Trod enc P W 0 (fun _ => true) true t (.slice a len cap) d p) (hlt : ∀ x ∈ p, x.block < W.heap.size) (hw : (DataW.weightsEach P ts ds).all (· ≤ reachBytes) = true) (hj : ts[j]? = some t) (hd : ds[j]? = some d) :
    ∃ l : List Int, l.length = len ∧ Rs W 0 W.heap.size 1 intc a l ∧ l.length ≤ 17592186044416 ∧ ∀ x ∈ l, okI x := by
  obtain ⟨fuel, hf⟩ := h
  rcases open_ints ht he hc hf with ⟨hcs, _⟩ | ⟨x, l, c, zs, hcs, _, hl, hm, hz, hx, hcell, hwz⟩
  · simp [Value.cells] at hcs
    obtain ⟨rfl, rfl, rfl⟩ := hcs
    exact ⟨[], rfl, Rs.nil_, by simp, by simp⟩
  · simp [Value.cells] at hcs
    obtain ⟨rfl, rfl, rfl⟩ := hcs
    simp only [if_true] at hz
    simp only [Prod.mk.injEq] at hx
    obtain ⟨rfl, rfl⟩ := hx
    have hs := sized_slice hw hj hd ht
    rw [hb] at hs
    have hs2 : zs.length * 8 ≤ reachBytes := by
      have e1 : (lits (H := H) IntKind.i64 (zs.take len)).length + (lits (H := H) IntKind.i64 (zs.drop len)).length = zs.length := by simp [lits]; omega
      rw [e1] at hs; exact hs
    have hr := reachBytes_lt
    have hlen : (zs.take len).length = len := by simp; omega
    refine ⟨zs.take len, hlen, ?_, by omega, fun x hx => ?_⟩
    · intro hn
      obtain ⟨b, off, rfl, hcc⟩ := ints_at hcell (by simp at hn; omega)
      refine ⟨b, off, rfl, Nat.zero_le _, ?_, fun k y hy i u hu => ?_⟩
      · exact hlt (.cell b off) (by
          unfold MemPlace.row
          simp at hn ⊢
          omega)
      · cases i with
        | succ i => simp [intc] at hu
        | zero =>
          simp [intc] at hu
          subst hu
          have hk : k < zs.length ∧ zs[k]? = some y := by
            rw [List.getElem?_take] at hy
            split at hy
            · exact ⟨(List.getElem?_eq_some_iff.1 hy).1, hy⟩
            · cases hy
          have := hcc k hk.1
          rw [List.getD_eq_getElem?_getD, hk.2] at this
          simpa using this
    · have := hwz x (List.mem_of_mem_take hx)
      have hb := bounds_i64 this
      exact ⟨by omega, by omega⟩
end
end Go.Proofs.YtlfnmmnbfoimeaaGreatDoor

/- Bytes of one's own, in a block that []byte(s) has made. No program in sight. -/
namespace Go.Proofs.YtlfnmmnbfoimeaaGreatDoor
set_option linter.unusedVariables false
open Go.RowKit

/-- Since w only what is new has changed, and block B holds n bytes. -/
def ByB (w wx : World) (B n : Nat) : Prop :=
  w.heap.size ≤ B ∧ Below w.heap.size w wx ∧ ∃ l : List Int, l.length = n ∧ (∀ x ∈ l, 0 ≤ x ∧ x < 256) ∧ ∀ j u, l[j]? = some u → wx.cell? ⟨B, j, none⟩ = some (.int .u8 u) ∧ wx.frozen? ⟨B, j, none⟩ = false
theorem frozen_of {w : World} {b n : Nat} {cs : Array Value} {T : TypeId} (h : w.heap[b]? = some (.cells cs T (n, n + 1))) (i : Nat) (hi : i < n) : w.frozen? ⟨b, i, none⟩ = false := by
  simp [World.frozen?, h]; omega
theorem ByB.start (w wx : World) (e : TypeId) (s : ByteArray) (hb : Below w.heap.size w wx) : ByB w (Lib.bytesWorld wx e s) wx.heap.size s.size := by
  refine ⟨hb.size, ⟨hb.os, hb.tape, hb.output, by rw [Lib.bytesWorld_size]; have := hb.size; omega, fun i hi => (Lib.bytesWorld_at_old wx e s i (by have := hb.size; omega)).trans (hb.block i hi)⟩, (s.data.toList.map fun c => (c.toNat : Int)), by simp, ?_, fun j u hj => ?_⟩
  · intro x hx
    obtain ⟨c, _, rfl⟩ := List.mem_map.1 hx
    have := c.toNat_lt
    omega
  · have hjs : j < s.size := by
      have := (List.getElem?_eq_some_iff.1 hj).1
      simpa using this
    refine ⟨?_, frozen_of (Lib.bytesWorld_at_new wx e s) j ?_⟩
    · rw [Lib.bytesWorld_cell wx e s j hjs]
      rw [List.getElem?_map] at hj
      have h2 : s.data.toList[j]? = some (s.data.toList[j]'(by simpa using hjs)) := List.getElem?_eq_getElem _
      rw [h2] at hj
      simp at hj
      simp [List.getD, hjs, hj]
    · unfold Lib.bytesCells
      simp
      have : s.data.size = s.size := rfl
      omega
section
variable {w wx wy : World} {B n : Nat}
theorem ByB.at_ (h : ByB w wx B n) (k : Nat) (hk : k < n) : ∃ x : Int, 0 ≤ x ∧ x < 256 ∧ wx.cell? ⟨B, k, none⟩ = some (.int .u8 x) ∧ wx.frozen? ⟨B, k, none⟩ = false := by
  obtain ⟨_, _, l, hl, hx, hc⟩ := h
  have hk' : k < l.length := by omega
  have := hc k _ (List.getElem?_eq_getElem hk')
  exact ⟨_, (hx _ (List.getElem_mem hk')).1, (hx _ (List.getElem_mem hk')).2, this.1, this.2⟩
theorem frozen_setCell (w : World) (p q : Addr) (v : Value) : (w.setCell p v).frozen? q = w.frozen? q := by
  unfold World.frozen? World.setCell
  by_cases h : p.block = q.block
  · rw [← h]
    simp only [Array.getElem?_modify, if_pos]
    cases w.heap[p.block]? with
    | none => rfl
    | some o => cases o <;> rfl
  · simp only [Array.getElem?_modify, if_neg h]
theorem ByB.set (h : ByB w wx B n) (k : Nat) (hk : k < n) (u : Int) (h0 : 0 ≤ u) (h1 : u < 256) : ByB w (wx.setCell ⟨B, k, none⟩ (.int .u8 u)) B n := by
  obtain ⟨hB, hb, l, hl, hx, hc⟩ := h
  refine ⟨hB, ⟨hb.os, hb.tape, hb.output, by simpa [World.setCell] using hb.size, fun i hi => (Below.heap_setCell wx _ _ i (by show i ≠ B; omega)).trans (hb.block i hi)⟩, l.set k u, by rw [List.length_set]; exact hl, fun x hx' => ?_, fun j y hj => ?_⟩
  · rcases List.mem_or_eq_of_mem_set hx' with h | h
    · exact hx x h
    · subst h; exact ⟨h0, h1⟩
  · rw [List.getElem?_set] at hj
    by_cases e : k = j
    · subst e
      rw [if_pos rfl, if_pos (by omega)] at hj
      injection hj with hj
      subst hj
      have := hc k _ (List.getElem?_eq_getElem (by omega : k < l.length))
      exact ⟨World.cell?_setCell_same wx _ _ this.1, (frozen_setCell wx _ _ _).trans this.2⟩
    · rw [if_neg e] at hj
      have := hc j y hj
      exact ⟨(World.cell?_setCell_other wx _ _ _ (fun h => e (by injection h))).trans this.1, (frozen_setCell wx _ _ _).trans this.2⟩
theorem ByB.str (h : ByB w wx B n) (P : Program) (src dst e : TypeId) (c : Nat) (hs : P.underlying src = some (.slice e)) (he : P.underlying e = some (.int .u8)) (hd : P.underlying dst = some .string) :
    ∃ z : ByteArray, z.size = n ∧ (convert src dst (.slice (some ⟨B, 0, none⟩) n c)).run P wx = .ok (.string z) wx := by
  obtain ⟨hB, hb, l, hl, hx, hc⟩ := h
  refine ⟨_, ?_, run_convert_bytes_arg wx src e hs he B 0 n c l hl (fun i hi => ?_) dst hd⟩
  · rw [strOfNums_size, hl]
  · have := (hc i _ (List.getElem?_eq_getElem (by omega : i < l.length))).1
    rw [Nat.zero_add, this]
    simp [List.getD, List.getElem?_eq_getElem (by omega : i < l.length)]
end
end Go.Proofs.YtlfnmmnbfoimeaaGreatDoor

/- Decimal numerals, in plain words. No program in sight. -/
namespace Go.Proofs.YtlfnmmnbfoimeaaGreatDoor
set_option linter.unusedVariables false
open Go.RowKit

def figC (c : UInt8) : Bool := decide (48 ≤ c.toNat) && decide (c.toNat ≤ 57)
theorem figC_iff {c : UInt8} : figC c = true ↔ 48 ≤ c.toNat ∧ c.toNat ≤ 57 := by simp [figC]
def dval (acc : Nat) (l : List UInt8) : Nat := l.foldl (fun a c => a * 10 + (c.toNat - 48)) acc
theorem dval_cons (acc : Nat) (l : List UInt8) (c : UInt8) : dval acc (c :: l) = dval (acc * 10 + (c.toNat - 48)) l := by unfold dval; rw [List.foldl_cons]
theorem dval_ge (l : List UInt8) : ∀ acc, acc ≤ dval acc l := by
  induction l with
  | nil => intro acc; exact Nat.le_refl _
  | cons c l ih => intro acc; rw [dval_cons]; have := ih (acc * 10 + (c.toNat - 48)); omega
theorem parse_ok (l : List UInt8) : ∀ acc, (∀ c ∈ l, figC c = true) → dval acc l < 18446744073709551616 → Lib.parseUint10 acc l = .ok (dval acc l) := by
  induction l with
  | nil => intro acc _ _; rfl
  | cons c l ih =>
    intro acc hf h
    rw [dval_cons] at h ⊢
    have hc := figC_iff.1 (hf c (by simp))
    have hg := dval_ge l (acc * 10 + (c.toNat - 48))
    rw [Lib.parseUint10, if_pos hc, if_neg (by omega), if_neg (by omega)]
    exact ih _ (fun x hx => hf x (by simp [hx])) h
theorem mag_ok {l : List UInt8} (h : l ≠ []) (hf : ∀ c ∈ l, figC c = true) (hb : dval 0 l < 18446744073709551616) : Lib.parseMag l = .ok (dval 0 l) := by
  unfold Lib.parseMag
  rw [if_neg h]
  exact parse_ok l 0 hf hb
/-- Atoi of digits. -/
theorem atoi_digits {l : List UInt8} (h : l ≠ []) (hf : ∀ c ∈ l, figC c = true) (hb : dval 0 l < 9223372036854775808) : Lib.atoiAll l = .ok (dval 0 l : Int) := by
  have hm := mag_ok h hf (by omega)
  cases l with
  | nil => exact absurd rfl h
  | cons c l =>
    have hc := figC_iff.1 (hf c (by simp))
    unfold Lib.atoiAll
    have n1 : ¬ (c.toNat = 43 ∨ c.toNat = 45) := by omega
    have n2 : ¬ c.toNat = 45 := by omega
    simp only [if_neg n1, hm]
    rw [if_neg (by omega), if_neg (by omega), if_neg n2]
theorem atoi_bd {l : List UInt8} {n : Int} (h : Lib.atoiAll l = .ok n) : okI n := by
  unfold Lib.atoiAll at h
  split at h
  · cases h
  · simp only at h
    split at h
    · cases h
    · cases h
    · rename_i u hu
      have hb := Lib.parseMag_lt hu
      split at h
      · cases h
      · split at h
        · cases h
        · injection h with h
          subst h
          unfold okI
          split <;> constructor <;> omega
end Go.Proofs.YtlfnmmnbfoimeaaGreatDoor

/- The generator's own functions: what each returns lies in its range; only the stream's own block turns. -/
namespace Go.Proofs.YtlfnmmnbfoimeaaGreatDoor
set_option linter.unusedVariables false
open Go.RowKit

/-- Block sb is a stream that has handed out k numbers. -/
def Str (w : World) (sb : Nat) (k : Int) : Prop :=
  ∃ (A : Option Addr) (c : Nat) (l : List Int), w.heap[sb]? = some (.cells #[.slice A l.length c, .int .i64 k] 25 (0, 0)) ∧ 0 ≤ k ∧ Rs w 0 sb 1 intc A l ∧ l.length ≤ 17592186044416 ∧ ∀ x ∈ l, okI x

/-- A call that takes at most d numbers off the stream: the value has p, only the stream has turned. -/
def Took (sb : Nat) (k d : Int) (p : Value → World → Prop) (w : World) (e : Ending) (w' : World) : Prop :=
  ∃ (v : Value) (k' : Int), e = .returned v ∧ p v w' ∧ k' ≤ k + d ∧ Str w' sb k' ∧ w.grownBy w' (some sb)

theorem tmod_lt (x n : Int) (hn : 1 ≤ n) : -n < x.tmod n ∧ x.tmod n < n := by
  have h1 := Int.tmod_lt_of_pos x (show (0:Int) < n by omega)
  have h2 := Int.tmod_lt_of_pos (-x) (show (0:Int) < n by omega)
  rw [Int.neg_tmod] at h2
  omega

set_option maxHeartbeats 400000 in
theorem below_c (x n : Int) (w : World) (hn : 1 ≤ n) (hn2 : n ≤ 4611686018427387904) :
    Calls Tryz.prog 36 #[.int .i64 x, .int .i64 n] w (RetInt (fun v => 0 ≤ v ∧ v < n) w) := by
  have ht := tmod_lt x n hn
  have hh : (-9223372036854775808 ≤ x.tmod n + n ∧ x.tmod n + n ≤ 9223372036854775807) := by omega
  have hw := IntWalk.wrap64_in _ hh
  have H1 := Lib.hid hw; clear hw hh
  have H2 := Lib.hid ht; clear ht
  go_enter Tryz.func36, Tryz.ntmps36
  go_wp2
  · go_ret
    have h := H2.out
    refine ⟨_, ?_, rfl, rfl⟩
    rw [H1.out]; omega
  · go_ret
    have h := H2.out
    exact ⟨_, by omega, rfl, rfl⟩

theorem str_cells {w : World} {sb : Nat} {cs : Array Value} {t : TypeId} (h : w.heap[sb]? = some (.cells cs t (0, 0))) :
    (∀ i, w.cell? ⟨sb, i, none⟩ = cs[i]?) ∧ (∀ i, w.frozen? ⟨sb, i, none⟩ = false) := by
  refine ⟨fun i => by simp [World.cell?, h], fun i => by simp [World.frozen?, h]⟩

theorem str_set {w : World} {sb : Nat} {v u v' : Value} {t : TypeId} (h : w.heap[sb]? = some (.cells #[v, u] t (0, 0))) :
    (w.setCell ⟨sb, 1, none⟩ v').heap[sb]? = some (.cells #[v, v'] t (0, 0)) := by
  simp [World.setCell, Array.getElem?_modify, h]

theorem heap_lt {w : World} {b : Nat} {o : Obj} (h : w.heap[b]? = some o) : b < w.heap.size := (Array.getElem?_eq_some_iff.1 h).1

theorem grown_set (w : World) (sb i : Nat) (v : Value) : w.grownBy (w.setCell ⟨sb, i, none⟩ v) (some sb) :=
  ⟨rfl, rfl, rfl, by simp [World.setCell], fun k _ hne => Below.heap_setCell w _ v k (fun e => hne (by rw [e]))⟩

theorem grown_drewN {a w : World} {row : Option Nat} (h : a.grownBy w row) (n : Nat) : a.grownBy (w.drewN n) row := ⟨h.os, h.tape, h.output, h.size, h.block⟩

theorem Str.set {w : World} {sb : Nat} {k : Int} (h : Str w sb k) (v : Int) (hv : 0 ≤ v) : Str (w.setCell ⟨sb, 1, none⟩ (.int .i64 v)) sb v := by
  obtain ⟨A, c, l, hb, _, hr, hl, ho⟩ := h
  exact ⟨A, c, l, str_set hb, hv, hr.setCell (.inl (Nat.le_refl _)) _, hl, ho⟩

theorem Str.drewN {w : World} {sb : Nat} {k : Int} (h : Str w sb k) (n : Nat) : Str (w.drewN n) sb k := h

set_option maxHeartbeats 400000 in
theorem next_c (sb : Nat) (k n : Int) (w : World) (hs : Str w sb k) (hk : k ≤ 4611686018427387904) (hn : 1 ≤ n) (hn2 : n ≤ 4611686018427387904) :
    Calls Tryz.prog 13 #[.pointer (some ⟨sb, 0, none⟩), .int .i64 n] w (Took sb k 1 (fun v _ => ∃ x : Int, 0 ≤ x ∧ x < n ∧ v = .int .i64 x) w) := by
  have hS := hs.set (k + 1) (by have := hs.choose_spec.choose_spec.choose_spec.2.1; omega)
  have HS := Lib.hid hS; clear hS
  obtain ⟨A, c, l, hb, hk0, hr, hl, ho⟩ := hs
  have HO := Lib.hid ho; clear ho
  obtain ⟨hc, hf⟩ := str_cells hb
  have c0 := hc 0
  have c1 := hc 1
  have f1 := hf 1
  have HB := Lib.hid hb
  simp at c0 c1
  clear hc hf hb
  have HG := grown_set w sb 1 (.int .i64 (k + 1))
  by_cases h0 : l.length = 0
  · have h0' : (((l.length : Nat) : Int) == 0) = true := by simp [h0]
    have H0 := Lib.hid h0; clear h0
    go_enter Tryz.func13, Tryz.ntmps13
    go_wp2_with fail
    refine (below_c _ _ _ hn hn2).mono ?_
    rintro e w' ⟨v, ⟨hv0, hv1⟩, rfl, rfl⟩
    go_wp2
    go_ret
    exact ⟨_, k + 1, rfl, ⟨v, hv0, hv1, rfl⟩, by omega, HS.out, HG⟩
  · have hlp : 0 < l.length := by omega
    obtain ⟨m, rfl⟩ := Int.eq_ofNat_of_zero_le hk0
    have hm : m % l.length < l.length := Nat.mod_lt _ hlp
    obtain ⟨b, off, rfl, hb0, hb1, hcell⟩ := hr.at1 (enc1 := .int .i64) hm
    have h0' : (((l.length : Nat) : Int) == 0) = false := beq_eq_false_iff_ne.2 (by omega)
    have h0'' : ¬ ((l.length : Nat) : Int) = 0 := by omega
    have hcell' : (w.setCell ⟨sb, 1, none⟩ (.int .i64 (m + 1))).cell? ⟨b, off + m % l.length, none⟩ = some (.int .i64 l[m % l.length]) := by
      rw [World.cell?_setCell_other _ _ _ _ (fun e => by have := congrArg Addr.block e; simp at this; omega)]; exact hcell
    clear hcell h0
    go_enter Tryz.func13, Tryz.ntmps13
    go_wp2
    go_quiet (fail)
    go_wp2
    go_quiet (fail)
    go_wp2_with fail
    refine (below_c _ _ _ (by omega) (by omega)).mono ?_
    rintro e w' ⟨v, ⟨hv0, hv1⟩, rfl, rfl⟩
    go_wp2_with fail
    refine (below_c _ _ _ hn hn2).mono ?_
    rintro e w' ⟨v2, ⟨hv2, hv3⟩, rfl, rfl⟩
    go_wp2
    go_ret
    exact ⟨_, m + 1, rfl, ⟨v2, hv2, hv3, rfl⟩, by omega, HS.out.drewN _, grown_drewN HG _⟩

theorem Took.mono {sb : Nat} {k d d' : Int} {p q : Value → World → Prop} {w : World} {e : Ending} {w' : World} (h : Took sb k d p w e w') (hd : d ≤ d') (hq : ∀ v w', p v w' → q v w') : Took sb k d' q w e w' :=
  let ⟨v, k', he, hp, hk, hs, hg⟩ := h
  ⟨v, k', he, hq _ _ hp, by omega, hs, hg⟩

def isInt (p : Int → Prop) (v : Value) (_ : World) : Prop := ∃ x : Int, p x ∧ v = .int .i64 x
def isBool (v : Value) (_ : World) : Prop := ∃ x : Bool, v = .bool x
def isStr (p : ByteArray → Prop) (v : Value) (_ : World) : Prop := ∃ x : ByteArray, p x ∧ v = .string x

set_option maxHeartbeats 400000 in
theorem range_c (sb : Nat) (k lo hi : Int) (w : World) (hs : Str w sb k) (hk : k ≤ 4611686018427387904) (h : lo ≤ hi) (h1 : -1000000000000 ≤ lo) (h2 : hi ≤ 1000000000000) :
    Calls Tryz.prog 40 #[.pointer (some ⟨sb, 0, none⟩), .int .i64 lo, .int .i64 hi] w (Took sb k 1 (isInt (fun x => lo ≤ x ∧ x ≤ hi)) w) := by
  have HS := Lib.hid hs
  go_enter Tryz.func40, Tryz.ntmps40
  go_wp2_with fail
  refine (next_c sb k _ _ HS.out hk (by omega) (by omega)).mono ?_
  rintro e w' ⟨v, k', rfl, ⟨x, hx0, hx1, rfl⟩, hk', hs', hg⟩
  have HK := Lib.hid hs'; clear hs'
  go_wp2
  go_ret
  exact ⟨_, k', rfl, ⟨_, ⟨by omega, by omega⟩, rfl⟩, hk', HK.out, hg⟩

set_option maxHeartbeats 400000 in
theorem flip_c (sb : Nat) (k n : Int) (w : World) (hs : Str w sb k) (hk : k ≤ 4611686018427387904) (hn : 1 ≤ n) (hn2 : n ≤ 4611686018427387904) :
    Calls Tryz.prog 18 #[.pointer (some ⟨sb, 0, none⟩), .int .i64 n] w (Took sb k 1 isBool w) := by
  have HS := Lib.hid hs
  go_enter Tryz.func18, Tryz.ntmps18
  go_wp2_with fail
  refine (next_c sb k _ _ HS.out hk hn hn2).mono ?_
  rintro e w' ⟨v, k', rfl, ⟨x, hx0, hx1, rfl⟩, hk', hs', hg⟩
  have HK := Lib.hid hs'; clear hs'
  go_wp2
  go_ret
  exact ⟨_, k', rfl, ⟨_, rfl⟩, hk', HK.out, hg⟩

set_option maxHeartbeats 400000 in
theorem pick_c (sb : Nat) (k : Int) (A : Option Addr) (l : List Int) (c lo hi : Nat) (w : World) (hs : Str w sb k) (hk : k ≤ 4611686018427387904) (hl0 : 0 < l.length) (hl : l.length ≤ 140737488355328)
    (hr : Rs w lo hi 1 intc A l) (hlo : sb < lo) (hhi : hi ≤ w.heap.size) :
    Calls Tryz.prog 45 #[.pointer (some ⟨sb, 0, none⟩), .slice A l.length c] w (Took sb k 1 (isInt (· ∈ l)) w) := by
  have HS := Lib.hid hs
  have HR := Lib.hid hr; clear hr
  go_enter Tryz.func45, Tryz.ntmps45
  go_wp2_with fail
  refine (next_c sb k _ _ HS.out hk (by omega) (by omega)).mono ?_
  rintro e w' ⟨v, k', rfl, ⟨x, hx0, hx1, rfl⟩, hk', hs', hg⟩
  have HK := Lib.hid hs'; clear hs'
  obtain ⟨m, rfl⟩ := Int.eq_ofNat_of_zero_le hx0
  have hm : m < l.length := by omega
  obtain ⟨b, off, rfl, hb0, hb1, hcell⟩ := (HR.out.grown hg hhi (.inr hlo)).at1 (enc1 := .int .i64) hm
  go_wp2
  go_ret
  exact ⟨_, k', rfl, ⟨_, List.getElem_mem hm, rfl⟩, hk', HK.out, hg⟩

set_option maxHeartbeats 400000 in
theorem one_c (sb : Nat) (k : Int) (A : Option Addr) (l : List ByteArray) (c lo hi : Nat) (w : World) (hs : Str w sb k) (hk : k ≤ 4611686018427387904) (hl0 : 0 < l.length) (hl : l.length ≤ 140737488355328)
    (hr : Rs w lo hi 1 strc A l) (hlo : sb < lo) (hhi : hi ≤ w.heap.size) :
    Calls Tryz.prog 20 #[.pointer (some ⟨sb, 0, none⟩), .slice A l.length c] w (Took sb k 1 (isStr (· ∈ l)) w) := by
  have HS := Lib.hid hs
  have HR := Lib.hid hr; clear hr
  go_enter Tryz.func20, Tryz.ntmps20
  go_wp2_with fail
  refine (next_c sb k _ _ HS.out hk (by omega) (by omega)).mono ?_
  rintro e w' ⟨v, k', rfl, ⟨x, hx0, hx1, rfl⟩, hk', hs', hg⟩
  have HK := Lib.hid hs'; clear hs'
  obtain ⟨m, rfl⟩ := Int.eq_ofNat_of_zero_le hx0
  have hm : m < l.length := by omega
  obtain ⟨b, off, rfl, hb0, hb1, hcell⟩ := (HR.out.grown hg hhi (.inr hlo)).at1 (enc1 := .string) hm
  go_wp2
  go_ret
  exact ⟨_, k', rfl, ⟨_, List.getElem_mem hm, rfl⟩, hk', HK.out, hg⟩

end Go.Proofs.YtlfnmmnbfoimeaaGreatDoor

/- Digests and their sixteen figures, in plain words. No program in sight. -/
namespace Go.Proofs.YtlfnmmnbfoimeaaGreatDoor
set_option linter.unusedVariables false
open Go.RowKit

end Go.Proofs.YtlfnmmnbfoimeaaGreatDoor

/- Maps with keys of one plain type (strings, ints, bools), as lists of pairs: a look-up, a store, in the walk. No program in sight. -/
namespace Go.Proofs.YtlfnmmnbfoimeaaGreatDoor
set_option linter.unusedVariables false
open Go.RowKit

/-- What a plain key type asks: keys are told apart by the model's quick look. -/
structure PlainKey (P : Program) (k : TypeId) {κ : Type} [DecidableEq κ] (mk : κ → Value) : Prop where
  desc : ∃ d, P.underlying k = some d ∧ (∀ a b, Instr.sameNow d (mk a) (mk b) = some (decide (a = b))) ∧
    (∀ ms, d ≠ .interface ms) ∧ (∀ n e, d ≠ .array n e) ∧ (∀ fs, d ≠ .struct fs)
  bits : ∀ a, Instr.sameBits 10000 (mk a) (mk a) = true

theorem plainKey_string {P : Program} {k : TypeId} (h : P.underlying k = some .string) : PlainKey P k Value.string :=
  ⟨⟨_, h, fun a b => by simp only [Instr.sameNow, beq_ba], by simp, by simp, by simp⟩, fun a => by simp [Instr.sameBits, beq_ba]⟩
section
variable {κ : Type} [DecidableEq κ] {mk : κ → Value}

/-- What a map holds, oldest first, as keys and values. -/
def lk : List (κ × Value) → κ → Option Value
  | [], _ => none
  | (k, v) :: m, x => if x = k then some v else lk m x
def ix : List (κ × Value) → κ → Option (Nat × Value)
  | [], _ => none
  | (k, v) :: m, x => if x = k then some (0, v) else (ix m x).map fun p => (p.1 + 1, p.2)
def up : List (κ × Value) → κ → Value → List (κ × Value)
  | [], k, v => [(k, v)]
  | (k', v') :: m, k, v => if k = k' then (k, v) :: m else (k', v') :: up m k v

theorem lk_up (m : List (κ × Value)) (k : κ) (v : Value) (x : κ) : lk (up m k v) x = if x = k then some v else lk m x := by
  induction m with
  | nil => simp [up, lk]
  | cons p m ih =>
    obtain ⟨k', v'⟩ := p
    by_cases hk : k = k'
    · subst hk; by_cases hx : x = k <;> simp [up, lk, hx]
    · by_cases hx : x = k
      · subst hx; simp [up, lk, hk, ih]
      · simp [up, lk, hk, ih, hx]
theorem lk_ix (m : List (κ × Value)) (x : κ) : lk m x = (ix m x).map (·.2) := by
  induction m with
  | nil => rfl
  | cons p m ih =>
    obtain ⟨k', v'⟩ := p
    by_cases hx : x = k' <;> simp [lk, ix, hx, ih, Function.comp_def]

def pairs (mk : κ → Value) (m : List (κ × Value)) : List (Value × Value) := m.map fun p => (mk p.1, p.2)
def epairs (es : List MapEntry) : List (Value × Value) := es.map fun e => (e.key, e.val)

theorem find_ix {d : TypeDesc} (hd : ∀ a b, Instr.sameNow d (mk a) (mk b) = some (decide (a = b))) (x : κ) (m : List (κ × Value)) :
    ∀ (es : List MapEntry) (i : Nat), epairs es = pairs mk m → Instr.findNow d (mk x) es i = some ((ix m x).map fun p => (i + p.1, p.2)) := by
  induction m with
  | nil => intro es i h; simp [epairs, pairs] at h; subst h; rfl
  | cons p m ih =>
    obtain ⟨k', v'⟩ := p
    intro es i h
    obtain _ | ⟨e, es⟩ := es
    · simp [epairs, pairs] at h
    · simp only [epairs, pairs, List.map_cons, List.cons.injEq, Prod.mk.injEq] at h
      obtain ⟨⟨h1, h2⟩, h3⟩ := h
      simp only [Instr.findNow, h1, hd, ix]
      by_cases hx : x = k'
      · simp [hx, h2]
      · simp only [hx, decide_false, if_false]
        rw [ih es (i + 1) h3]
        cases ix m x <;> simp <;> omega

theorem up_none (m : List (κ × Value)) (k : κ) (v : Value) (h : ix m k = none) : up m k v = m ++ [(k, v)] := by
  induction m with
  | nil => rfl
  | cons p m ih =>
    obtain ⟨k', v'⟩ := p
    by_cases hk : k = k'
    · simp [ix, hk] at h
    · simp [ix, hk] at h; simp [up, hk, ih h]

theorem up_some (m : List (κ × Value)) (k : κ) (v : Value) (j : Nat) (u : Value) (h : ix m k = some (j, u)) :
    ∀ es : List MapEntry, epairs es = pairs mk m → (∃ e, es[j]? = some e ∧ e.key = mk k) ∧ epairs (es.modify j fun e => { e with key := mk k, val := v }) = pairs mk (up m k v) := by
  induction m generalizing j with
  | nil => simp [ix] at h
  | cons p m ih =>
    obtain ⟨k', v'⟩ := p
    intro es he
    obtain _ | ⟨e, es⟩ := es
    · simp [epairs, pairs] at he
    · simp only [epairs, pairs, List.map_cons, List.cons.injEq, Prod.mk.injEq] at he
      obtain ⟨⟨h1, h2⟩, h3⟩ := he
      by_cases hk : k = k'
      · subst hk
        simp [ix] at h
        obtain ⟨rfl, rfl⟩ := h
        simp [epairs, pairs, up, h1]
        exact h3
      · simp only [ix, hk, if_false] at h
        cases hx : ix m k with
        | none => rw [hx] at h; simp at h
        | some q =>
          rw [hx] at h
          simp at h
          obtain ⟨rfl, rfl⟩ := h
          obtain ⟨⟨e', g1, g2⟩, g3⟩ := ih _ hx es h3
          refine ⟨⟨e', by simpa using g1, g2⟩, ?_⟩
          simp only [up, hk, if_false]
          simp only [List.modify_succ_cons, epairs, pairs, List.map_cons, h1, h2] at g3 ⊢
          rw [g3]

/-- Block b is a map that holds m. -/
def MapL (w : World) (b : Nat) (mk : κ → Value) (m : List (κ × Value)) : Prop :=
  ∃ es clock, w.heap[b]? = some (.map es clock) ∧ epairs es.toList = pairs mk m

variable {w w' : World} {b B : Nat} {m : List (κ × Value)}
omit [DecidableEq κ] in
theorem MapL.lt (h : MapL w b mk m) : b < w.heap.size := by
  obtain ⟨es, clock, hb, _⟩ := h
  exact (Array.getElem?_eq_some_iff.1 hb).1
omit [DecidableEq κ] in
theorem MapL.keep (h : MapL w b mk m) (hk : w'.heap[b]? = w.heap[b]?) : MapL w' b mk m := by
  obtain ⟨es, clock, hb, h⟩ := h
  exact ⟨es, clock, hk.trans hb, h⟩
omit [DecidableEq κ] in
theorem MapL.below (h : MapL w b mk m) (hb : Below B w w') (hlt : b < B) : MapL w' b mk m := h.keep (hb.block b hlt)
omit [DecidableEq κ] in
theorem MapL.alloc (h : MapL w b mk m) (o : Obj) : MapL (w.alloc o) b mk m := h.keep (Below.heap_alloc w o b h.lt)
omit [DecidableEq κ] in
theorem MapL.setCell (h : MapL w b mk m) {p : Addr} (hne : b ≠ p.block) (u : Value) : MapL (w.setCell p u) b mk m := h.keep (Below.heap_setCell w p u b hne)
omit [DecidableEq κ] in
theorem MapL.drewN (h : MapL w b mk m) (n : Nat) : MapL (w.drewN n) b mk m := h
omit [DecidableEq κ] in
theorem MapL.made (w : World) : MapL (w.alloc (.map #[] 0)) w.heap.size mk ([] : List (κ × Value)) := ⟨#[], 0, heap_alloc_new w _, rfl⟩

theorem checkKey_plain {P : Program} {k : TypeId} (K : PlainKey P k mk) (x : κ) (c : Bool) (w : World) : (Instr.checkKey c 10000 k (mk x)).run P w = .ok () w := by
  obtain ⟨d, hd, _, h1, h2, h3⟩ := K.desc
  unfold Instr.checkKey
  simp only [Sem.run_bind, run_underlying hd, Result.andThen_ok]
  split <;> first | rfl | (exfalso; first | exact h1 _ rfl | exact h2 _ _ rfl | exact h3 _ rfl)

theorem run_lookup_plain {P : Program} {t k e : TypeId} (K : PlainKey P k mk) (ht : P.underlying t = some (.map k e)) {z : Value} (hz : (zeroValue e).run P w = .ok z w) (h : MapL w b mk m) (x : κ) (ok : Bool) :
    (Instr.lookup t (.map (some b)) (mk x) ok).run P w = .ok (if ok then .tuple #[(lk m x).getD z, .bool (lk m x).isSome] else (lk m x).getD z) w := by
  obtain ⟨es, clock, hb, he⟩ := h
  obtain ⟨d, hd, hs, _⟩ := K.desc
  have hck := fun c => checkKey_plain K x c w
  have hf := find_ix hs x m es.toList 0 he
  simp only [Nat.zero_add] at hf
  rw [lk_ix]
  cases hx : ix m x with
  | none =>
    rw [hx] at hf
    simp [Instr.lookup, run_underlying ht, getObj, Sem.run, hb, hck, Instr.findKey, run_underlying hd, hf, hz]
  | some p =>
    rw [hx] at hf
    simp [Instr.lookup, run_underlying ht, getObj, Sem.run, hb, hck, Instr.findKey, run_underlying hd, hf]

theorem run_update_plain {P : Program} {t k e : TypeId} (K : PlainKey P k mk) (ht : P.underlying t = some (.map k e)) (h : MapL w b mk m) (x : κ) (v : Value) :
    ∃ w', (Instr.mapUpdate t (.map (some b)) (mk x) v).run P w = .ok () w' ∧ MapL w' b mk (up m x v) ∧ w.grownBy w' (some b) := by
  obtain ⟨es, clock, hb, he⟩ := h
  obtain ⟨d, hd, hs, _⟩ := K.desc
  have hck := fun c => checkKey_plain K x c w
  have hf := find_ix hs x m es.toList 0 he
  simp only [Nat.zero_add] at hf
  have hgb : ∀ o, w.grownBy { w with heap := w.heap.setIfInBounds b o } (some b) := fun o =>
    ⟨rfl, rfl, rfl, by simp, fun i _ hi => by
      show (w.heap.setIfInBounds b o)[i]? = _
      rw [Array.getElem?_setIfInBounds_ne (fun e => hi (by rw [e]))]⟩
  have hlt : b < w.heap.size := (Array.getElem?_eq_some_iff.1 hb).1
  have hnew : ∀ o, (w.heap.setIfInBounds b o)[b]? = some o := fun o => by rw [Array.getElem?_setIfInBounds]; simp [hlt]
  cases hx : ix m x with
  | none =>
    rw [hx] at hf
    refine ⟨{ w with heap := w.heap.setIfInBounds b (.map (es.push { key := mk x, val := v, born := clock }) (clock + 1)) }, ?_, ⟨_, _, hnew _, ?_⟩, hgb _⟩
    · simp [Instr.mapUpdate, run_underlying ht, getObj, setObj, Sem.run, hb, hck, Instr.findKey, run_underlying hd, hf]
    · rw [up_none m x v hx]; simp [epairs, pairs] at he ⊢; exact he
  | some p =>
    obtain ⟨j, u⟩ := p
    rw [hx] at hf
    obtain ⟨⟨e0, h1, h2⟩, h3⟩ := up_some m x v j u hx es.toList he
    have h1' : es[j]? = some e0 := by simpa using h1
    refine ⟨{ w with heap := w.heap.setIfInBounds b (.map (es.modify j fun e => { e with key := mk x, val := v }) clock) }, ?_, ⟨_, _, hnew _, ?_⟩, hgb _⟩
    · simp [Instr.mapUpdate, run_underlying ht, getObj, setObj, Sem.run, hb, hck, Instr.findKey, run_underlying hd, hf, h1', h2, Instr.keyThatStays, K.bits]
    · rw [Array.toList_modify]; exact h3

/-- 'm[k] = v' at the operation. -/
theorem wpList_update_plain {P : Program} (w : World) {ops : Array Oper} {rest : List Oper} {o : Oper} {a : Act} {Q : Exit → Act → World → Prop}
    (hg : o.guard = none) (mo xo vo : Operand) (t : TypeId) (hop : o.op = Op.mapUpdate t mo xo vo) (k e : TypeId) (K : PlainKey P k mk) (ht : P.underlying t = some (.map k e))
    (b : Nat) (m : List (κ × Value)) (hm : a.eval mo = .map (some b)) (h : MapL w b mk m) (x : κ) (hx : a.eval xo = mk x) (v : Value) (hv : a.eval vo = v)
    (hK : ∀ w', MapL w' b mk (up m x v) → w.grownBy w' (some b) → wpList P ops Q rest (a.put o.dst undef) w') :
    wpList P ops Q (o :: rest) a w := by
  refine wpList_plain hg fun K' hK' => ?_
  obtain ⟨w', hrun, r1, r2⟩ := run_update_plain K ht h x v
  unfold Oper.wp
  simp [execOp, hop, hm, hx, hv, hrun, Result.andThen]
  exact hK' _ _ (hK w' r1 r2)
end
end Go.Proofs.YtlfnmmnbfoimeaaGreatDoor

/- A look-up behind a guard that holds. No program in sight. -/
namespace Go.Proofs.YtlfnmmnbfoimeaaGreatDoor
set_option linter.unusedVariables false
open Go.RowKit
theorem wpList_lookup_g {κ : Type} [DecidableEq κ] {mk : κ → Value} {P : Program} (w : World) {ops : Array Oper} {rest : List Oper} {o : Oper} {a : Act} {Q : Exit → Act → World → Prop}
    (hg : Region.wanted o (yielded ops a.tmps) = true) (mo xo : Operand) (t : TypeId) (ok : Bool) (hop : o.op = Op.lookup t mo xo ok) (k e : TypeId) (K : PlainKey P k mk) (ht : P.underlying t = some (.map k e)) (z : Value) (hz : (zeroValue e).run P w = .ok z w)
    (b : Nat) (m : List (κ × Value)) (hm : a.eval mo = .map (some b)) (h : MapL w b mk m) (x : κ) (hx : a.eval xo = mk x)
    (hK : wpList P ops Q rest (a.put o.dst (if ok then .tuple #[(lk m x).getD z, .bool (lk m x).isSome] else (lk m x).getD z)) w) :
    wpList P ops Q (o :: rest) a w := by
  refine wpList_step fun K' hK' => ?_
  rw [if_pos hg]
  have hrun := run_lookup_plain K ht hz h x ok
  unfold Oper.wp
  simp only [execOp, hop, hm, hx, hrun, Sem.run_bind, Result.andThen]
  exact hK' _ _ hK
end Go.Proofs.YtlfnmmnbfoimeaaGreatDoor

/- A region that draws its order: reads, then one store, then one assignment; the reads may come behind the store, which leaves what they read. No program in sight. -/
namespace Go.Proofs.YtlfnmmnbfoimeaaGreatDoor
set_option linter.unusedVariables false

section
variable {P : Program} {ops : Array Oper} {md : Region.Mode}

/-- Operations that hand back a value and leave the world. -/
def readOp (o : Oper) : Bool :=
  match o.op with
  | .move _ | .assign _ | .pick _ _ _ | .binOp _ _ _ _ _ | .unOp _ _ _ | .load _ _ | .fieldAddr _ _ _ | .indexAddr _ _ _ | .build _ _ | .extract _ _ | .nilCheck _ => true
  | _ => false
theorem run_v {α : Type} {f : α → Value} {s : Sem α} {w w' : World} {n : Next} (h : (s >>= fun x => pure (Next.value (f x)) : Sem Next).run P w = .ok n w') : ∃ u, n = .value u := by
  rw [Sem.run_bind] at h
  cases hs : s.run P w with
  | ok u w1 =>
    rw [hs] at h
    simp only [Result.andThen, Sem.run_pure] at h
    injection h with h1 h2
    exact ⟨_, h1.symm⟩
  | halt x w1 => rw [hs] at h; simp only [Result.andThen] at h; cases h
theorem run_nilCheck {ρ : Operand → Value} {x : Operand} {o : Oper} {w w' : World} {n : Next} (e : o.op = .nilCheck x) (h : (execOp ρ o).run P w = .ok n w') : ∃ u, n = .value u := by
  unfold execOp at h
  rw [e] at h
  dsimp only at h
  split at h
  · cases h
  · cases h
  · cases h
  · split at h
    · cases h
    · rw [Sem.run_bind] at h
      rename_i t v _ _ _
      cases hp : Sem.run P program w with
      | halt x w1 => rw [hp] at h; simp only [Result.andThen] at h; cases h
      | ok p w1 =>
        rw [hp] at h
        simp only [Result.andThen] at h
        rw [Sem.run_bind] at h
        generalize hs : Sem.run P _ w1 = r at h
        cases r with
        | halt x w2 => simp only [Result.andThen] at h; cases h
        | ok b w2 =>
          simp only [Result.andThen] at h
          split at h
          · rw [Sem.run_bind] at h
            generalize hs2 : Sem.run P _ w2 = r at h
            cases r with
            | halt x w3 => simp only [Result.andThen] at h; cases h
            | ok u w3 =>
              simp only [Result.andThen, Sem.run_pure] at h
              injection h with h1 h2
              exact ⟨_, h1.symm⟩
          · simp only [Sem.run_pure] at h
            injection h with h1 h2
            exact ⟨_, h1.symm⟩
    · rw [Sem.run_pure] at h; injection h with h1 h2; exact ⟨_, h1.symm⟩
  · rw [Sem.run_pure] at h; injection h with h1 h2; exact ⟨_, h1.symm⟩
theorem readOp_value {o : Oper} {ρ : Operand → Value} {w w' : World} {n : Next} (ho : readOp o = true) (h : (execOp ρ o).run P w = .ok n w') : ∃ u, n = .value u := by
  unfold readOp at ho
  split at ho
  all_goals first
    | (rename_i e; exact run_nilCheck e h)
    | (rename_i e; unfold execOp at h; rw [e] at h; dsimp only at h; first | exact run_v h | exact run_v (f := id) h | (rw [Sem.run_pure] at h; injection h with h1 h2; exact ⟨_, h1.symm⟩))
    | cases ho
theorem read_yields {o : Oper} {a : Act} {D : World → Prop} {v : Value} {w : World} (ho : readOp o = true) (h : o.quietAt P a D w v) : (execOp a.eval o).run P w = .ok (.value v) w := by
  unfold Oper.quietAt at h
  cases hr : (execOp a.eval o).run P w with
  | ok n w' =>
    obtain ⟨u, rfl⟩ := readOp_value ho hr
    rw [hr] at h
    obtain ⟨h1, h2⟩ := h
    rw [h1, h2]
  | halt x w' => rw [hr] at h; exact h.elim
theorem wpQuiet_mono {P : Program} {ops : Array Oper} {C : World → Prop} {K K' : Act → Prop} (hk : ∀ a, K a → K' a) : ∀ {l : List Oper} {a : Act}, wpQuiet P ops C K l a → wpQuiet P ops C K' l a
  | [], _, h => hk _ h
  | o :: l, a, h => by
    unfold wpQuiet at h ⊢
    split
    · rename_i hw; rw [if_pos hw] at h; exact Oper.quiet_mono (fun _ h => wpQuiet_mono hk h) h
    · rename_i hw; rw [if_neg hw] at h; exact wpQuiet_mono hk h
end
end Go.Proofs.YtlfnmmnbfoimeaaGreatDoor

/- A region that draws its order: reads, and operations that come one at a time once the reads are taken; the last ones may write what has been read. No program in sight. (The first law's proof follows the kit's for regions that are held.) -/
namespace Go.Proofs.YtlfnmmnbfoimeaaGreatDoor
set_option linter.unusedVariables false

section
variable {P : Program} {ops : Array Oper} {Q : Exit → Act → World → Prop} {md : Region.Mode} {S : World → Prop} {b p : Nat → Bool}

/-- Whatever order is picked from here on, and S holds behind each operation that b names. -/
def wpAnyT (P : Program) (md : Region.Mode) (ops : Array Oper) (Q : Exit → Act → World → Prop) (S : World → Prop) (b p : Nat → Bool) : Nat → Array Bool → Act → World → Prop
  | 0, listed, a, w => Region.ready md ops listed = [] ∧ Q .normal a w
  | fuel + 1, listed, a, w =>
    (Region.ready md ops listed = [] → Q .normal a w) ∧
    ∀ i ∈ Region.ready md ops listed, wpOp P ops Q i (fun a' w' => ((b i = true → S w') ∧ (p i = true → w' = w)) ∧ wpAnyT P md ops Q S b p fuel (listed.setIfInBounds i true) a' w') a w
theorem wpAny_of_T : ∀ (fuel : Nat) (listed : Array Bool) (a : Act) (w : World), wpAnyT P md ops Q S b p fuel listed a w → wpAny P md ops Q fuel listed a w
  | 0, _, _, _, h => h
  | fuel + 1, _, _, _, h => ⟨h.1, fun i hi => wpOp_mono (fun a' w' h' => wpAny_of_T fuel _ a' w' h'.2) (h.2 i hi)⟩
theorem wpAnyT_first {i : Nat} {oi : Oper} {v : Value} (hi : ops[i]? = some oi) (hsel : ∀ (j : Nat) (o : Oper) cs b, ops[j]? = some o → o.op ≠ .select cs b)
    (hQ : ∀ c a w, Q (.panic c) (a.put oi.dst v) w → Q (.panic c) a w) :
    ∀ (fuel : Nat) (listed : Array Bool) (a : Act) (w : World),
      (∀ j oj, ops[j]? = some oj → j ≠ i → listed.getD j true = false → (∀ e ∈ oj.after, Region.binds md e = true → e.on ≠ i) → oi.apart ops oj = true) →
      (∀ j oj, ops[j]? = some oj → j ≠ i → listed.getD j true = false → (b j = true ∨ p j = true) ∨ ∃ e ∈ oj.after, Region.binds md e = true ∧ e.on = i) →
      i ∈ Region.ready md ops listed → YieldsIf P ops S oi v a → S w →
      wpAnyT P md ops Q S b p fuel (listed.setIfInBounds i true) (a.put oi.dst v) w → wpAnyT P md ops Q S b p (fuel + 1) listed a w := by
  intro fuel
  induction fuel with
  | zero =>
    intro listed a w _ _ hr hy hS H
    refine ⟨fun h => (by rw [h] at hr; cases hr), fun j hj => ?_⟩
    by_cases hji : j = i
    · subst hji; exact hy.wpOp hi hS ⟨⟨fun _ => hS, fun _ => rfl⟩, H⟩
    · have := ready_mono hj hji
      rw [H.1] at this
      cases this
  | succ fuel ih =>
    intro listed a w hfree hwt hr hy hS H
    refine ⟨fun h => (by rw [h] at hr; cases hr), fun j hj => ?_⟩
    by_cases hji : j = i
    · subst hji; exact hy.wpOp hi hS ⟨⟨fun _ => hS, fun _ => rfl⟩, H⟩
    · have h1 := H.2 j (ready_mono hj hji)
      obtain ⟨hjun, oj, hoj, hall⟩ := mem_ready.1 hj
      have hnot : ∀ e ∈ oj.after, Region.binds md e = true → e.on ≠ i := fun e he hb heq => by
        have h1 := hall e he hb
        have h0 := (mem_ready.1 hr).1
        rw [heq] at h1
        rcases Nat.lt_or_ge i listed.size with h' | h'
        · simp [h'] at h0 h1; rw [h0] at h1; cases h1
        · simp [Array.getElem?_eq_none h'] at h1
      have hjn : b j = true ∨ p j = true := (hwt j oj hoj hji hjun).resolve_right fun ⟨e, he, hb, hon⟩ => hnot e he hb hon
      have h2 := wpOp_putIf hoj (hfree j oj hoj hji hjun hnot) (fun cs b => hsel i oi cs b hi) (fun cs b => hsel j oj cs b hoj) hQ hy h1
      have hfree' : ∀ k ok, ops[k]? = some ok → k ≠ i → (listed.setIfInBounds j true).getD k true = false →
          (∀ e ∈ ok.after, Region.binds md e = true → e.on ≠ i) → oi.apart ops ok = true := fun k ok hk hki hun hno => by
        refine hfree k ok hk hki ?_ hno
        by_cases hjk : j = k
        · subst hjk; exact hjun
        · rw [getD_set_ne true hjk] at hun; exact hun
      have hwt' : ∀ k ok, ops[k]? = some ok → k ≠ i → (listed.setIfInBounds j true).getD k true = false → (b k = true ∨ p k = true) ∨ ∃ e ∈ ok.after, Region.binds md e = true ∧ e.on = i := fun k ok hk hki hun => by
        refine hwt k ok hk hki ?_
        by_cases hjk : j = k
        · subst hjk; exact hjun
        · rw [getD_set_ne true hjk] at hun; exact hun
      refine wpOp_mono (fun a' w' h3 => ⟨h3.2.1, ih (listed.setIfInBounds j true) a' w' hfree' hwt' (ready_mono hr (Ne.symm hji)) h3.1 (hjn.elim h3.2.1.1 fun h => by rw [h3.2.1.2 h]; exact hS) ?_⟩) h2
      rw [Array.setIfInBounds_comm _ _ hji]
      exact h3.2.2
theorem wpAnyT_firstW {i : Nat} {oi : Oper} {v : Value} (hi : ops[i]? = some oi) (hbi : b i = false) (hsel : ∀ (j : Nat) (o : Oper) cs b, ops[j]? = some o → o.op ≠ .select cs b)
    (hQ : ∀ c a w, Q (.panic c) (a.put oi.dst v) w → Q (.panic c) a w) :
    ∀ (fuel : Nat) (listed : Array Bool) (a : Act) (w : World),
      (∀ j oj, ops[j]? = some oj → j ≠ i → listed.getD j true = false → (∀ e ∈ oj.after, Region.binds md e = true → e.on ≠ i) → oi.apart ops oj = true) →
      i ∈ Region.ready md ops listed → YieldsIf P ops (fun _ => True) oi v a →
      wpAnyT P md ops Q S b p fuel (listed.setIfInBounds i true) (a.put oi.dst v) w → wpAnyT P md ops Q S b p (fuel + 1) listed a w := by
  intro fuel
  induction fuel with
  | zero =>
    intro listed a w _ hr hy H
    refine ⟨fun h => (by rw [h] at hr; cases hr), fun j hj => ?_⟩
    by_cases hji : j = i
    · subst hji; exact hy.wpOp hi trivial ⟨⟨fun h => (by rw [hbi] at h; cases h), fun _ => rfl⟩, H⟩
    · have := ready_mono hj hji
      rw [H.1] at this
      cases this
  | succ fuel ih =>
    intro listed a w hfree hr hy H
    refine ⟨fun h => (by rw [h] at hr; cases hr), fun j hj => ?_⟩
    by_cases hji : j = i
    · subst hji; exact hy.wpOp hi trivial ⟨⟨fun h => (by rw [hbi] at h; cases h), fun _ => rfl⟩, H⟩
    · have h1 := H.2 j (ready_mono hj hji)
      obtain ⟨hjun, oj, hoj, hall⟩ := mem_ready.1 hj
      have hnot : ∀ e ∈ oj.after, Region.binds md e = true → e.on ≠ i := fun e he hb heq => by
        have h1 := hall e he hb
        have h0 := (mem_ready.1 hr).1
        rw [heq] at h1
        rcases Nat.lt_or_ge i listed.size with h' | h'
        · simp [h'] at h0 h1; rw [h0] at h1; cases h1
        · simp [Array.getElem?_eq_none h'] at h1
      have h2 := wpOp_putIf hoj (hfree j oj hoj hji hjun hnot) (fun cs b => hsel i oi cs b hi) (fun cs b => hsel j oj cs b hoj) hQ hy h1
      have hfree' : ∀ k ok, ops[k]? = some ok → k ≠ i → (listed.setIfInBounds j true).getD k true = false →
          (∀ e ∈ ok.after, Region.binds md e = true → e.on ≠ i) → oi.apart ops ok = true := fun k ok hk hki hun hno => by
        refine hfree k ok hk hki ?_ hno
        by_cases hjk : j = k
        · subst hjk; exact hjun
        · rw [getD_set_ne true hjk] at hun; exact hun
      refine wpOp_mono (fun a' w' h3 => ⟨h3.2.1, ih (listed.setIfInBounds j true) a' w' hfree' (ready_mono hr (Ne.symm hji)) h3.1 ?_⟩) h2
      rw [Array.setIfInBounds_comm _ _ hji]
      exact h3.2.2
/-- Each that has not come up is named by b or waits for number r. -/
def restB (md : Region.Mode) (ops : Array Oper) (b p : Nat → Bool) (listed : Array Bool) (r : Nat) : Bool := (List.range ops.size).all fun j => decide (j = r) || listed.getD j true || (b j || p j) || Region.waitsFor md ops j r
theorem restB_spec {listed : Array Bool} {r : Nat} (h : restB md ops b p listed r = true) : ∀ j oj, ops[j]? = some oj → j ≠ r → listed.getD j true = false → (b j = true ∨ p j = true) ∨ ∃ e ∈ oj.after, Region.binds md e = true ∧ e.on = r := by
  intro j oj hj hne hl
  have htl : j < ops.size := (Array.getElem?_eq_some_iff.1 hj).1
  have h1 := List.all_eq_true.1 h j (List.mem_range.2 htl)
  simp only [Bool.or_eq_true, decide_eq_true_eq] at h1
  rcases h1 with ((h1 | h1) | h1) | h1
  · exact absurd h1 hne
  · rw [hl] at h1; cases h1
  · exact .inl h1
  · obtain ⟨o', ho', e, he, hb, hon⟩ := Region.waitsFor_spec h1
    have : o' = oj := Option.some.inj (ho'.symm.trans hj)
    subst this
    exact .inr ⟨e, he, hb, hon⟩

def setL : List Nat → Array Bool → Array Bool
  | [], L => L
  | i :: is, L => setL is (L.setIfInBounds i true)
def takesB (md : Region.Mode) (ops : Array Oper) (b p : Nat → Bool) : List Nat → Array Bool → Bool
  | [], _ => true
  | r :: rs, L => (Region.ready md ops L).contains r && Region.free md ops L r && restB md ops b p L r && takesB md ops b p rs (L.setIfInBounds r true)
def firstsB (md : Region.Mode) (ops : Array Oper) (b : Nat → Bool) : List Nat → Array Bool → Bool
  | [], _ => true
  | r :: rs, L => (Region.ready md ops L).contains r && Region.free md ops L r && !b r && firstsB md ops b rs (L.setIfInBounds r true)
def pick (l : List Oper) : List Nat → List Oper
  | [] => []
  | i :: is => match l[i]? with
    | some o => o :: pick l is
    | none => pick l is
/-- The walk: what yields in whatever world, what yields where S holds, then the one operation that may come up, and so on. -/
def wpSegs (P : Program) (l : List Oper) (Q : Exit → Act → World → Prop) (S : World → Prop) (b : Nat → Bool) : List (List Nat × List Nat × Nat) → Act → World → Prop
  | [], a, w => Q .normal a w
  | (ws, rs, i) :: ss, a, w => wpQuiet P l.toArray (fun _ => True) (wpQuiet P l.toArray S (fun a' => match l[i]? with
    | some o => o.wp P a' w (fun a1 w1 => (b i = true → S w1) ∧ wpSegs P l Q S b ss a1 w1) Q
    | none => False) (pick l rs)) (pick l ws) a
theorem wpT_reads {l : List Oper} {w : World} {g : Nat} (hs : Region.noSelect l.toArray = true) (hQ : ∀ c a w d v, Q (.panic c) (Act.put a d v) w → Q (.panic c) a w) (hS : S w) :
    ∀ (rs : List Nat) (listed : Array Bool) (a : Act), (∀ r ∈ rs, ∃ o, l[r]? = some o ∧ readOp o = true) → takesB md l.toArray b p rs listed = true →
      wpQuiet P l.toArray S (fun a' => wpAnyT P md l.toArray Q S b p g (setL rs listed) a' w) (pick l rs) a → wpAnyT P md l.toArray Q S b p (rs.length + g) listed a w
  | [], listed, a, _, _, h => by rw [List.length_nil, Nat.zero_add]; exact h
  | r :: rs, listed, a, hr, hB, h => by
    obtain ⟨o, ho, hro⟩ := hr r (by simp)
    have h0 : l.toArray[r]? = some o := by simpa using ho
    simp only [takesB, Bool.and_eq_true] at hB
    obtain ⟨⟨⟨hrd, hf⟩, hrn⟩, hB'⟩ := hB
    simp only [pick, ho] at h
    have hst : qOp P l.toArray S r (wpQuiet P l.toArray S (fun a' => wpAnyT P md l.toArray Q S b p g (setL (r :: rs) listed) a' w) (pick l rs)) a := by unfold qOp; simp only [h0]; exact h
    obtain ⟨v, hy, hK⟩ := yieldsIn_of_qOp h0 hst
    have hyi : YieldsIf P l.toArray S o v a := hy.imp (fun ⟨hw, hq⟩ => ⟨hw, fun w hw' => read_yields hro (hq w hw')⟩) id
    rw [List.length_cons, show rs.length + 1 + g = (rs.length + g) + 1 by omega]
    exact wpAnyT_first h0 (Region.noSelect_spec hs) (fun c a w h => hQ c a w _ _ h) _ _ _ _ (Region.free_spec h0 hf) (restB_spec hrn) (by simpa using hrd) hyi hS (wpT_reads hs hQ hS rs _ _ (fun q hq => hr q (by simp [hq])) hB' hK)
theorem wpT_firsts {l : List Oper} {w : World} {g : Nat} (hs : Region.noSelect l.toArray = true) (hQ : ∀ c a w d v, Q (.panic c) (Act.put a d v) w → Q (.panic c) a w) :
    ∀ (rs : List Nat) (listed : Array Bool) (a : Act), (∀ r ∈ rs, ∃ o, l[r]? = some o ∧ readOp o = true) → firstsB md l.toArray b rs listed = true →
      wpQuiet P l.toArray (fun _ => True) (fun a' => wpAnyT P md l.toArray Q S b p g (setL rs listed) a' w) (pick l rs) a → wpAnyT P md l.toArray Q S b p (rs.length + g) listed a w
  | [], listed, a, _, _, h => by rw [List.length_nil, Nat.zero_add]; exact h
  | r :: rs, listed, a, hr, hB, h => by
    obtain ⟨o, ho, hro⟩ := hr r (by simp)
    have h0 : l.toArray[r]? = some o := by simpa using ho
    simp only [firstsB, Bool.and_eq_true, Bool.not_eq_true'] at hB
    obtain ⟨⟨⟨hrd, hf⟩, hrn⟩, hB'⟩ := hB
    simp only [pick, ho] at h
    have hst : qOp P l.toArray (fun _ => True) r (wpQuiet P l.toArray (fun _ => True) (fun a' => wpAnyT P md l.toArray Q S b p g (setL (r :: rs) listed) a' w) (pick l rs)) a := by unfold qOp; simp only [h0]; exact h
    obtain ⟨v, hy, hK⟩ := yieldsIn_of_qOp h0 hst
    have hyi : YieldsIf P l.toArray (fun _ => True) o v a := hy.imp (fun ⟨hw, hq⟩ => ⟨hw, fun w hw' => read_yields hro (hq w hw')⟩) id
    rw [List.length_cons, show rs.length + 1 + g = (rs.length + g) + 1 by omega]
    exact wpAnyT_firstW h0 hrn (Region.noSelect_spec hs) (fun c a w h => hQ c a w _ _ h) _ _ _ _ (Region.free_spec h0 hf) (by simpa using hrd) hyi (wpT_firsts hs hQ rs _ _ (fun q hq => hr q (by simp [hq])) hB' hK)
/-- The pure reads of a region. -/
def pureB (l : List Oper) (i : Nat) : Bool := match l[i]? with | some o => readOp o | none => false
theorem reads_of {l : List Oper} {rs : List Nat} (h : rs.all (pureB l) = true) : ∀ r ∈ rs, ∃ o, l[r]? = some o ∧ readOp o = true := fun r hr => by
  have h7 := List.all_eq_true.1 h r hr
  unfold pureB at h7
  cases hl : l[r]? with
  | none => rw [hl] at h7; cases h7
  | some o => rw [hl] at h7; exact ⟨o, rfl, h7⟩
/-- A condition on worlds as a family of worlds: the form that the quiet walk reads. -/
theorem family (f : World → Prop) (W0 : World) (h0 : f W0) : ∃ (ι : Type) (ff : ι → World), Nonempty ι ∧ (∀ p, f (ff p)) ∧ ∀ W, f W → ∃ p, W = ff p := ⟨{W // f W}, Subtype.val, ⟨⟨W0, h0⟩⟩, fun p => p.2, fun W h => ⟨⟨W, h⟩, rfl⟩⟩
end
end Go.Proofs.YtlfnmmnbfoimeaaGreatDoor

/- A region that draws its order, its reads taken first: what is known of memory may grow behind each operation that comes up; reads may end it. No program in sight. -/
namespace Go.Proofs.YtlfnmmnbfoimeaaGreatDoor
set_option linter.unusedVariables false
open Go.RowKit

section
variable {P : Program} {ops : Array Oper} {Q : Exit → Act → World → Prop} {md : Region.Mode} {S S' : World → Prop} {b p : Nat → Bool}

theorem wpAnyT_monoS (hSS : ∀ W, S' W → S W) : ∀ (fuel : Nat) (listed : Array Bool) (a : Act) (w : World), wpAnyT P md ops Q S' b p fuel listed a w → wpAnyT P md ops Q S b p fuel listed a w
  | 0, _, _, _, h => h
  | fuel + 1, _, _, _, h => ⟨h.1, fun i hi => wpOp_mono (fun a' w' h' => ⟨⟨fun hb => hSS _ (h'.1.1 hb), h'.1.2⟩, wpAnyT_monoS hSS fuel _ a' w' h'.2⟩) (h.2 i hi)⟩
def segsB2 (md : Region.Mode) (ops : Array Oper) (b p : Nat → Bool) (fw fr : List Nat) : List (List Nat × List Nat × Nat) → Array Bool → Bool
  | [], L => firstsB md ops b fw L && takesB md ops b p fr (setL fw L) && (Region.ready md ops (setL fr (setL fw L))).isEmpty
  | (ws, rs, i) :: ss, L => firstsB md ops b ws L && takesB md ops b p rs (setL ws L) && decide (Region.ready md ops (setL rs (setL ws L)) = [i]) && !p i && segsB2 md ops b p fw fr ss ((setL rs (setL ws L)).setIfInBounds i true)
/-- As wpSegs; behind each operation that comes up a stronger fact may be taken. -/
def wpSegs2 (P : Program) (l : List Oper) (Q : Exit → Act → World → Prop) (b : Nat → Bool) (fw fr : List Nat) : List (List Nat × List Nat × Nat) → (World → Prop) → Act → World → Prop
  | [], S, a, w => wpQuiet P l.toArray (fun _ => True) (wpQuiet P l.toArray S (fun a' => Q .normal a' w) (pick l fr)) (pick l fw) a
  | (ws, rs, i) :: ss, S, a, w => wpQuiet P l.toArray (fun _ => True) (wpQuiet P l.toArray S (fun a' => match l[i]? with
    | some o => o.wp P a' w (fun a1 w1 => ∃ S' : World → Prop, (∀ W, S' W → S W) ∧ (b i = true → S' w1) ∧ wpSegs2 P l Q b fw fr ss S' a1 w1) Q
    | none => False) (pick l rs)) (pick l ws) a
def lenS2 (fw fr : List Nat) : List (List Nat × List Nat × Nat) → Nat
  | [] => fw.length + (fr.length + 0)
  | (ws, rs, _) :: ss => ws.length + (rs.length + (lenS2 fw fr ss + 1))
theorem wpT_segs2 {l : List Oper} {fw fr : List Nat} (hs : Region.noSelect l.toArray = true) (hQ : ∀ c a w d v, Q (.panic c) (Act.put a d v) w → Q (.panic c) a w)
    (hfw : ∀ r ∈ fw, ∃ o, l[r]? = some o ∧ readOp o = true) (hfr : ∀ r ∈ fr, ∃ o, l[r]? = some o ∧ readOp o = true) :
    ∀ (ss : List (List Nat × List Nat × Nat)) (S : World → Prop) (listed : Array Bool) (a : Act) (w : World), (∀ s ∈ ss, (∀ r ∈ s.1, ∃ o, l[r]? = some o ∧ readOp o = true) ∧ (∀ r ∈ s.2.1, ∃ o, l[r]? = some o ∧ readOp o = true) ∧ ∀ o, l[s.2.2]? = some o → o.guard = none) → segsB2 md l.toArray b p fw fr ss listed = true →
      (S w ∨ (fr = [] ∧ ∀ s ∈ ss, s.2.1 = [])) → (∀ (k : Nat) s, ss[k]? = some s → b s.2.2 = false → fr = [] ∧ ∀ s' ∈ ss.drop (k + 1), s'.2.1 = []) → wpSegs2 P l Q b fw fr ss S a w → wpAnyT P md l.toArray Q S b p (lenS2 fw fr ss) listed a w
  | [], S, listed, a, w, _, hB, hSw, _, h => by
    simp only [segsB2, Bool.and_eq_true] at hB
    obtain ⟨⟨hB0, hB1⟩, hB2⟩ := hB
    rw [lenS2]
    refine wpT_firsts hs hQ fw listed a hfw hB0 (wpQuiet_mono (fun a0 h0 => ?_) h)
    have key : ∀ a', Q .normal a' w → wpAnyT P md l.toArray Q S b p 0 (setL fr (setL fw listed)) a' w := fun a' ha => ⟨by simpa using hB2, ha⟩
    rcases hSw with hSw | ⟨hSw, _⟩
    · exact wpT_reads hs hQ hSw fr _ a0 hfr hB1 (wpQuiet_mono key h0)
    · subst hSw
      exact key a0 h0
  | (ws, rs, i) :: ss, S, listed, a, w, hg, hB, hSw, ho, h => by
    simp only [segsB2, Bool.and_eq_true, decide_eq_true_eq, Bool.not_eq_true'] at hB
    obtain ⟨⟨⟨⟨hB0, hB1⟩, hB2⟩, hpi⟩, hB3⟩ := hB
    have key : ∀ a', (match l[i]? with
        | some o => o.wp P a' w (fun a1 w1 => ∃ S' : World → Prop, (∀ W, S' W → S W) ∧ (b i = true → S' w1) ∧ wpSegs2 P l Q b fw fr ss S' a1 w1) Q
        | none => False) → wpAnyT P md l.toArray Q S b p (lenS2 fw fr ss + 1) (setL rs (setL ws listed)) a' w := by
      intro a' ha
      refine ⟨fun h0 => (by rw [hB2] at h0; cases h0), fun j hj => ?_⟩
      rw [hB2] at hj
      obtain rfl : j = i := by simpa using hj
      cases hl : l[j]? with
      | none => rw [hl] at ha; exact ha.elim
      | some o =>
        rw [hl] at ha
        have h0 : l.toArray[j]? = some o := by simpa using hl
        have hgn := (hg (ws, rs, j) (by simp)).2.2 o hl
        unfold wpOp
        simp only [h0]
        have hw1 : Region.wanted o (yielded l.toArray a'.tmps) = true := by simp [Region.wanted, hgn]
        rw [if_pos hw1]
        refine .inl (Oper.wp_mono (fun a1 w1 hh => ?_) ha)
        obtain ⟨S', hSS, hS1, hh⟩ := hh
        refine ⟨⟨fun hb => hSS _ (hS1 hb), fun h => by rw [hpi] at h; cases h⟩, wpAnyT_monoS hSS _ _ _ _ ?_⟩
        refine wpT_segs2 hs hQ hfw hfr ss S' _ a1 w1 (fun s hs => hg s (by simp [hs])) hB3 ?_ (fun k s hk hn => ho (k + 1) s (by simpa using hk) hn) hh
        cases hbj : b j with
        | true => exact .inl (hS1 hbj)
        | false => exact .inr ⟨(ho 0 (ws, rs, j) (by simp) hbj).1, fun s hs => (ho 0 (ws, rs, j) (by simp) hbj).2 s (by simpa using hs)⟩
    rw [lenS2]
    refine wpT_firsts hs hQ ws listed a (hg (ws, rs, i) (by simp)).1 hB0 (wpQuiet_mono (fun a0 h0 => ?_) h)
    rcases hSw with hSw | hSw
    · exact wpT_reads hs hQ hSw rs _ a0 (hg (ws, rs, i) (by simp)).2.1 hB1 (wpQuiet_mono key h0)
    · have hrs : rs = [] := hSw.2 (ws, rs, i) (by simp)
      subst hrs
      have h2 := key a0 h0
      rw [List.length_nil, Nat.zero_add]
      exact h2
/-- One segment at a time, what follows behind a variable. -/
theorem wpSegs2_step {l : List Oper} {fw fr ws rs : List Nat} {i : Nat} {ss : List (List Nat × List Nat × Nat)} {a : Act} {w : World} {o : Oper} {wl rl : List Oper} (hw : pick l ws = wl) (hp : pick l rs = rl) (ho : l[i]? = some o)
    (h : ∀ K : Act → World → Prop, (∀ (S' : World → Prop) a1 w1, (∀ W, S' W → S W) → S' w1 → wpSegs2 P l Q b fw fr ss S' a1 w1 → K a1 w1) → ∀ K2 : Act → Prop, (∀ a0, wpQuiet P l.toArray S (fun a' => o.wp P a' w (fun a1 w1 => K a1 w1) Q) rl a0 → K2 a0) → wpQuiet P l.toArray (fun _ => True) K2 wl a) : wpSegs2 P l Q b fw fr ((ws, rs, i) :: ss) S a w := by
  subst hp; subst hw
  simp only [wpSegs2, ho]
  exact h (fun a1 w1 => ∃ S' : World → Prop, (∀ W, S' W → S W) ∧ (b i = true → S' w1) ∧ wpSegs2 P l Q b fw fr ss S' a1 w1) (fun S' _ _ h1 h2 h3 => ⟨S', h1, fun _ => h2, h3⟩) _ (fun _ h => h)
/-- The last operation that comes up: what holds of memory is not asked. -/
theorem wpSegs2_last {l : List Oper} {fw fr ws rs : List Nat} {i : Nat} {ss : List (List Nat × List Nat × Nat)} {a : Act} {w : World} {o : Oper} {wl rl : List Oper} (hw : pick l ws = wl) (hp : pick l rs = rl) (ho : l[i]? = some o) (hb : b i = false)
    (h : ∀ K : Act → World → Prop, (∀ a1 w1, wpSegs2 P l Q b fw fr ss S a1 w1 → K a1 w1) → ∀ K2 : Act → Prop, (∀ a0, wpQuiet P l.toArray S (fun a' => o.wp P a' w (fun a1 w1 => K a1 w1) Q) rl a0 → K2 a0) → wpQuiet P l.toArray (fun _ => True) K2 wl a) : wpSegs2 P l Q b fw fr ((ws, rs, i) :: ss) S a w := by
  subst hp; subst hw
  simp only [wpSegs2, ho]
  exact h (fun a1 w1 => ∃ S' : World → Prop, (∀ W, S' W → S W) ∧ (b i = true → S' w1) ∧ wpSegs2 P l Q b fw fr ss S' a1 w1) (fun _ _ h3 => ⟨S, fun _ h => h, fun h => (by rw [hb] at h; cases h), h3⟩) _ (fun _ h => h)
/-- The reads that end the region. -/
theorem wpSegs2_fin {l : List Oper} {fw fr : List Nat} {a : Act} {w : World} {wl rl : List Oper} (hw : pick l fw = wl) (hp : pick l fr = rl)
    (h : ∀ K2 : Act → Prop, (∀ a0, wpQuiet P l.toArray S (fun a' => Q .normal a' w) rl a0 → K2 a0) → wpQuiet P l.toArray (fun _ => True) K2 wl a) : wpSegs2 P l Q b fw fr [] S a w := by
  subst hp; subst hw
  exact h _ (fun _ h => h)
theorem wpSegs2_end {l : List Oper} {a : Act} {w : World} (h : Q .normal a w) : wpSegs2 P l Q b [] [] [] S a w := h
/-- What the kernel looks at. -/
def segsOk2 (l : List Oper) (bs fw fr : List Nat) (ss : List (List Nat × List Nat × Nat)) : Bool :=
  Region.noSelect l.toArray && segsB2 .any l.toArray bs.contains (pureB l) fw fr ss (Array.replicate l.toArray.size false) && decide (lenS2 fw fr ss = l.toArray.size)
    && (ss.all fun s => s.1.all (pureB l) && s.2.1.all (pureB l) && (match l[s.2.2]? with | some o => o.guard.isNone | none => true))
    && ((List.range ss.length).all fun k => match ss[k]? with | some s => bs.contains s.2.2 || (fr.isEmpty && (ss.drop (k + 1)).all fun s' => s'.2.1.isEmpty) | none => true)
    && fw.all (pureB l) && fr.all (pureB l)
theorem wp_region_segs2 {id : Nat} {a : Act} {w : World} {l : List Oper} (bs fw fr : List Nat) (ss : List (List Nat × List Nat × Nat)) (hm : P.follows .mixedOrders = true) (hB : segsOk2 l bs fw fr ss = true) (hQ : ∀ c a w d v, Q (.panic c) (Act.put a d v) w → Q (.panic c) a w) (S : World → Prop) (hS : S w.drew)
    (h : wpSegs2 P l Q bs.contains fw fr ss S a w.drew) : (Code.region id l.toArray true).wp P Q a w := by
  simp only [segsOk2, Bool.and_eq_true, decide_eq_true_eq] at hB
  obtain ⟨⟨⟨⟨⟨⟨h1, h3⟩, h4⟩, h6⟩, h7⟩, h8⟩, h9⟩ := hB
  refine wp_region_any hm (wpAny_of_T (S := S) (b := bs.contains) (p := pureB l) _ _ _ _ ?_)
  refine Eq.mp (congrArg (fun k => wpAnyT P .any l.toArray Q S bs.contains (pureB l) k (Array.replicate l.toArray.size false) a w.drew) h4) ?_
  refine wpT_segs2 h1 hQ (reads_of h8) (reads_of h9) ss S _ a w.drew (fun s hs => ?_) h3 (.inl hS) (fun k s hk hn => ?_) h
  · have := List.all_eq_true.1 h6 s hs
    simp only [Bool.and_eq_true] at this
    refine ⟨reads_of this.1.1, reads_of this.1.2, fun o ho => ?_⟩
    have h8 := this.2
    rw [ho] at h8
    simpa using h8
  · have hkl : k < ss.length := (List.getElem?_eq_some_iff.1 hk).1
    have h8 := List.all_eq_true.1 h7 k (List.mem_range.2 hkl)
    rw [hk] at h8
    simp only [Bool.or_eq_true, Bool.and_eq_true] at h8
    rcases h8 with h8 | ⟨h8, h9⟩
    · rw [hn] at h8; cases h8
    · refine ⟨by simpa using h8, fun s' hs' => ?_⟩
      have := List.all_eq_true.1 h9 s' hs'
      simpa using this
/-- The worlds that have grown from one on, as a family: the form that the quiet walk reads. -/
theorem growFam (w : World) : ∃ (ι : Type) (ff : ι → World), Nonempty ι ∧ (∃ p, w = ff p) ∧ (∀ p, Below w.heap.size w (ff p)) ∧ ∀ W, Below w.heap.size w W → ∃ p, W = ff p :=
  ⟨{W // Below w.heap.size w W}, Subtype.val, ⟨⟨w, Below.refl _ w⟩⟩, ⟨⟨w, Below.refl _ w⟩, rfl⟩, fun p => p.2, fun W h => ⟨⟨W, h⟩, rfl⟩⟩
end
end Go.Proofs.YtlfnmmnbfoimeaaGreatDoor

/- As QSegs2, the operations that come up one at a time may be guarded. No program in sight. -/
namespace Go.Proofs.YtlfnmmnbfoimeaaGreatDoor
set_option linter.unusedVariables false
open Go.RowKit

section
variable {P : Program} {ops : Array Oper} {Q : Exit → Act → World → Prop} {md : Region.Mode} {S S' : World → Prop} {b p : Nat → Bool}
end
end Go.Proofs.YtlfnmmnbfoimeaaGreatDoor

/- A region that draws its order: what stands ahead of its last operations is quiet in a class of worlds; the last ones come one behind the other. No program in sight. (The proofs follow the kit's for regions that are still and for regions that are quiet.) -/
namespace Go.Proofs.YtlfnmmnbfoimeaaGreatDoor
set_option linter.unusedVariables false
open Go.Sort

section
variable {P : Program} {ops : Array Oper} {md : Region.Mode} {C : World → Prop}

def wpAnyM (P : Program) (md : Region.Mode) (ops : Array Oper) (C : World → Prop) (n : Nat) (L : Array Bool → Act → Prop) : Nat → Array Bool → Act → Prop
  | 0, listed, a => L listed a
  | f + 1, listed, a => Region.ready md ops listed ≠ [] ∧ ∀ i ∈ Region.ready md ops listed, i < n ∧ qOp P ops C i (wpAnyM P md ops C n L f (listed.setIfInBounds i true)) a

theorem wpAny_of_headM {n g : Nat} {L : Array Bool → Act → Prop} {Q' : Exit → Act → World → Prop} (hL : ∀ listed a w, C w → L listed a → wpAny P md ops Q' g listed a w) :
    ∀ (f : Nat) (listed : Array Bool) (a : Act) (w : World), C w → wpAnyM P md ops C n L f listed a → wpAny P md ops Q' (f + g) listed a w
  | 0, listed, a, w, hw, h => by rw [Nat.zero_add]; exact hL _ _ _ hw h
  | f + 1, listed, a, w, hw, h => by
    rw [show f + 1 + g = (f + g) + 1 by omega]
    exact ⟨fun h0 => absurd h0 h.1, fun i hi => wpOp_of_qOp hw (fun a' w' hw' h' => wpAny_of_headM hL f _ a' w' hw' h') (h.2 i hi).2⟩

/-- Each operation from k on, ahead of number n, is waited for by one behind it, number n at the latest. -/
def sinkF (md : Region.Mode) (ops : Array Oper) (k n : Nat) : Bool :=
  (List.range n).all fun i => decide (i < k) || (List.range (n + 1)).any fun j => decide (i < j) && Region.waitsFor md ops j i
theorem tailF_waits {k n : Nat} {listed : Array Bool} (hs : sinkF md ops k n = true) (hc : Region.chainB md ops n = true) (hn : n < ops.size) (inv : HeadInv md ops n listed) :
    ∀ (d i : Nat), n - i = d → k ≤ i → i < n → listed.getD i true = false → ∀ t, n ≤ t → t ∉ Region.ready md ops listed := by
  intro d
  induction d using Nat.strongRecOn with
  | _ d ih =>
    intro i hd hki hi hun t ht hr
    obtain ⟨_, ot, hot, hall⟩ := mem_ready.1 hr
    have htlt : t < ops.size := (Array.getElem?_eq_some_iff.1 hot).1
    by_cases htn : t = n
    · subst htn
      have h1 := List.all_eq_true.1 hs i (List.mem_range.2 hi)
      rw [Bool.or_eq_true] at h1
      obtain ⟨j, hj, hj2⟩ := List.any_eq_true.1 (h1.resolve_left (by simp; omega))
      simp only [Bool.and_eq_true, decide_eq_true_eq] at hj2
      obtain ⟨oj, hoj, e, he, hb, hon⟩ := Region.waitsFor_spec hj2.2
      have hjle : j ≤ t := by have := List.mem_range.1 hj; omega
      by_cases hjt : j = t
      · subst hjt
        have : oj = ot := Option.some.inj (hoj.symm.trans hot)
        subst this
        have h2 := hall e he hb
        rw [hon, getD_both hun] at h2
        cases h2
      · cases hl : listed.getD j false with
        | true =>
          have h2 := inv.closed j oj hoj hl e he hb
          rw [hon, getD_both hun] at h2
          cases h2
        | false =>
          have hjs : j < listed.size := by rw [inv.size]; omega
          exact ih (t - j) (by omega) j rfl (by omega) (by omega) (getD_in hjs hl) t (Nat.le_refl _) hr
    · have h1 := List.all_eq_true.1 hc t (List.mem_range.2 htlt)
      simp only [Bool.or_eq_true, decide_eq_true_eq] at h1
      rcases h1 with h1 | h1
      · omega
      · obtain ⟨o', ho', e, he, hb, hon⟩ := Region.waitsFor_spec h1
        have : o' = ot := Option.some.inj (ho'.symm.trans hot)
        subst this
        have h2 := hall e he hb
        rw [hon, getD_both (inv.tail (t - 1) (by omega) (by omega))] at h2
        cases h2

theorem wpAnyM_first {k0 n i : Nat} {oi : Oper} {v : Value} {L : Array Bool → Act → Prop} (hi : ops[i]? = some oi) (hsel : ∀ (j : Nat) (o : Oper) cs b, ops[j]? = some o → o.op ≠ .select cs b)
    (hs : sinkF md ops k0 n = true) (hc : Region.chainB md ops n = true) (hn : n < ops.size) (hki : k0 ≤ i) (hin : i < n)
    (hdone : ∀ listed a, L listed a → ∀ j ∈ Region.ready md ops listed, n ≤ j) :
    ∀ (f : Nat) (listed : Array Bool) (a : Act), HeadInv md ops n listed →
      (∀ j oj, ops[j]? = some oj → j ≠ i → listed.getD j true = false → (∀ e ∈ oj.after, Region.binds md e = true → e.on ≠ i) → oi.apart ops oj = true) →
      i ∈ Region.ready md ops listed → YieldsIn P ops C oi v a →
      wpAnyM P md ops C n L f (listed.setIfInBounds i true) (a.put oi.dst v) → wpAnyM P md ops C n L (f + 1) listed a := by
  intro f
  induction f with
  | zero =>
    intro listed a inv _ hr hy H
    have hun := (mem_ready.1 hr).1
    refine ⟨fun h => (by rw [h] at hr; cases hr), fun j hj => ?_⟩
    have hjn : j < n := (Nat.lt_or_ge j n).resolve_right fun h => tailF_waits hs hc hn inv _ i rfl hki hin hun j h hj
    refine ⟨hjn, ?_⟩
    by_cases hji : j = i
    · subst hji; exact hy.qOp hi H
    · have := hdone _ _ H j (ready_mono hj hji)
      omega
  | succ f ih =>
    intro listed a inv hfree hr hy H
    have hun := (mem_ready.1 hr).1
    refine ⟨fun h => (by rw [h] at hr; cases hr), fun j hj => ?_⟩
    have hjn : j < n := (Nat.lt_or_ge j n).resolve_right fun h => tailF_waits hs hc hn inv _ i rfl hki hin hun j h hj
    refine ⟨hjn, ?_⟩
    by_cases hji : j = i
    · subst hji; exact hy.qOp hi H
    · have h1 := (H.2 j (ready_mono hj hji)).2
      obtain ⟨hjun, oj, hoj, hall⟩ := mem_ready.1 hj
      have hnot : ∀ e ∈ oj.after, Region.binds md e = true → e.on ≠ i := fun e he hb heq => by
        have h1 := hall e he hb
        rw [heq, getD_both hun] at h1
        cases h1
      have h2 := qOp_put hoj (hfree j oj hoj hji hjun hnot) (fun cs b => hsel i oi cs b hi) (fun cs b => hsel j oj cs b hoj) hy h1
      have hfree' : ∀ k ok, ops[k]? = some ok → k ≠ i → (listed.setIfInBounds j true).getD k true = false →
          (∀ e ∈ ok.after, Region.binds md e = true → e.on ≠ i) → oi.apart ops ok = true := fun k ok hk hki hun hno => by
        refine hfree k ok hk hki ?_ hno
        by_cases hjk : j = k
        · subst hjk; exact hjun
        · rw [getD_set_ne true hjk] at hun; exact hun
      refine qOp_mono (fun a' h3 => ih (listed.setIfInBounds j true) a' (inv.set hj hjn) hfree' (ready_mono hr (Ne.symm hji)) h3.1 ?_) h2
      rw [Array.setIfInBounds_comm _ _ hji]
      exact h3.2

theorem wpAnyM_lex {k0 n g : Nat} {Lq : Act → Prop} (hsel : Region.noSelect ops = true) (hs : sinkF md ops k0 n = true) (hc : Region.chainB md ops n = true) (hn : n < ops.size) :
    ∀ (l : List Oper) (k : Nat) (listed : Array Bool) (a : Act), k0 ≤ k → (∀ j, j < l.length → l[j]? = ops[k + j]?) → k + l.length = n → HeadInv md ops n listed →
    Region.lexHead md ops g l.length k listed = true → wpQuiet P ops C Lq l a →
    wpAnyM P md ops C n (fun listed' a' => Region.seqB md ops g n listed' = true ∧ Lq a') l.length listed a
  | [], k, listed, a, _, _, hk, _, hB, h => by
    have : k = n := by simpa using hk
    subst this
    exact ⟨by simpa [Region.lexHead] using hB, h⟩
  | o :: l, k, listed, a, hk0, hl, hk, inv, hB, h => by
    have h0 : ops[k]? = some o := by simpa using (hl 0 (by simp)).symm
    simp only [List.length_cons, Region.lexHead, Bool.and_eq_true] at hB
    obtain ⟨⟨hr, hf⟩, hB'⟩ := hB
    have hkn : k < n := by simp only [List.length_cons] at hk; omega
    have hr' : k ∈ Region.ready md ops listed := by simpa using hr
    have hst : qOp P ops C k (wpQuiet P ops C Lq l) a := by unfold qOp; simp only [h0]; exact h
    obtain ⟨v, hy, hK⟩ := yieldsIn_of_qOp h0 hst
    exact wpAnyM_first h0 (Region.noSelect_spec hsel) hs hc hn hk0 hkn (fun listed' a' hL => seqB_ready hL.1) l.length listed a inv (Region.free_spec h0 hf) hr' hy
      (wpAnyM_lex hsel hs hc hn l (k + 1) _ _ (by omega) (fun j hj => by have := hl (j + 1) (by simp; omega); simpa [Nat.add_assoc, Nat.add_comm 1 j] using this) (by simp only [List.length_cons] at hk; omega) (inv.set hr' hkn) hB' hK)

/-- The order of a region's text, from number k on, of operations that come first, then one behind the other. -/
def lexTailF (ops : Array Oper) (k n : Nat) (listed : Array Bool) : Bool :=
  Region.noSelect ops && decide (n < ops.size) && decide (k ≤ n) && sinkF .any ops k n && Region.chainB .any ops n && Region.lexHead .any ops (ops.size - n) (n - k) k listed
theorem wpAny_tail {k n : Nat} {Q : Exit → Act → World → Prop} {a : Act} {w : World} {l : List Oper} {listed : Array Bool} (hB : lexTailF l.toArray k n listed = true) (inv : HeadInv .any l.toArray n listed) (hC : C w)
    (h : wpQuiet P l.toArray C (fun a' => ∀ w', C w' → wpList P l.toArray Q (l.drop n) a' w') ((l.take n).drop k) a) : wpAny P .any l.toArray Q (l.length - k) listed a w := by
  simp only [lexTailF, Bool.and_eq_true, decide_eq_true_eq] at hB
  obtain ⟨⟨⟨⟨⟨hsel, hn⟩, hkn⟩, hs⟩, hc⟩, hlex⟩ := hB
  have hn' : n < l.length := by simpa using hn
  have htl : ((l.take n).drop k).length = n - k := by simp; omega
  have hdl : (l.drop n).length = l.toArray.size - n := by simp
  have H := wpAnyM_lex (md := .any) (g := l.toArray.size - n) hsel hs hc hn ((l.take n).drop k) k listed a (Nat.le_refl _) (fun j hj => by
    have hj' : j < n - k := by rw [htl] at hj; exact hj
    rw [List.getElem?_drop, List.getElem?_take, if_pos (by omega)]; simp) (by rw [htl]; omega) inv (by rw [htl]; exact hlex) h
  have := wpAny_of_headM (Q' := Q) (g := l.toArray.size - n) (fun listed a' w' hw hL => by
    have := wpAny_of_seq (md := .any) (Q' := Q) (l.drop n) n listed a' w' (fun j => by simp [List.getElem?_drop]) (by rw [hdl]; exact hL.1) (hL.2 w' hw)
    rwa [hdl] at this) _ _ _ _ hC H
  rw [htl, show n - k + (l.toArray.size - n) = l.length - k by simp; omega] at this
  exact this
theorem inv_start (l : List Oper) (n : Nat) : HeadInv .any l.toArray n (Array.replicate l.length false) :=
  ⟨by simp, fun j oj _ hl => (by rw [getD_replicate_false] at hl; cases hl), fun t _ ht => getD_in (by simpa using ht) (getD_replicate_false _ _)⟩
theorem wp_region_quiet_tail {id : Nat} {Q : Exit → Act → World → Prop} {a : Act} {w : World} {l : List Oper} (n : Nat) (hm : P.follows .mixedOrders = true) (hB : lexTailF l.toArray 0 n (Array.replicate l.length false) = true) (hC : C { w with drawn := w.drawn + 1 })
    (h : wpQuiet P l.toArray C (fun a' => ∀ w', C w' → wpList P l.toArray Q (l.drop n) a' w') (l.take n) a) : (Code.region id l.toArray true).wp P Q a w := by
  refine wp_region_any hm ?_
  have := wpAny_tail (k := 0) hB (inv_start l n) hC (by simpa using h)
  simpa using this
/-- The head leaves the world but for draws. -/
theorem wp_region_drewN_tail {id : Nat} {Q : Exit → Act → World → Prop} {a : Act} {w : World} {l : List Oper} (n : Nat) (hm : P.follows .mixedOrders = true) (hB : lexTailF l.toArray 0 n (Array.replicate l.length false) = true)
    (h : wpQuiet P l.toArray (fun w' => ∃ m, w' = w.drewN m) (fun a' => ∀ w', (∃ m, w' = w.drewN m) → wpList P l.toArray Q (l.drop n) a' w') (l.take n) a) : (Code.region id l.toArray true).wp P Q a w :=
  wp_region_quiet_tail (C := fun w' => ∃ m, w' = w.drewN m) n hm hB ⟨1, rfl⟩ h
end
end Go.Proofs.YtlfnmmnbfoimeaaGreatDoor

/- A region that draws its order, inside a round's fence: by the walk outside of any fence. No program in sight. -/
namespace Go.Proofs.YtlfnmmnbfoimeaaGreatDoor
set_option linter.unusedVariables false
open Go.RowKit

end Go.Proofs.YtlfnmmnbfoimeaaGreatDoor

/- Data that lies in memory: rows of elements, also elements that hold slices of their own. No program in sight. -/
namespace Go.Proofs.YtlfnmmnbfoimeaaGreatDoor
set_option linter.unusedVariables false
open Go.RowKit

/-- How a kind of data lies: so many cells; what they hold, and what lies behind them in blocks of F. -/
structure Rep (α : Type) where
  n : Nat
  rel : World → (Nat → Prop) → α → List Value → Prop
  len : ∀ {w F x cs}, rel w F x cs → cs.length = n
  keep : ∀ {w w' : World} {F : Nat → Prop} {x cs}, rel w F x cs → (∀ b, F b → w'.heap[b]? = w.heap[b]?) → rel w' F x cs
  more : ∀ {w F G x cs}, rel w F x cs → (∀ b, F b → G b) → rel w G x cs

/-- Data of cells alone. -/
def Rep.flat {α : Type} (n : Nat) (enc : α → List Value) (h : ∀ x, (enc x).length = n) : Rep α :=
  ⟨n, fun _ _ x cs => cs = enc x, fun e => by subst e; exact h _, fun e _ => e, fun e _ => e⟩
def strR : Rep ByteArray := Rep.flat 1 (fun s => [.string s]) (fun _ => rfl)
def intR : Rep Int := Rep.flat 1 (fun x => [.int .i64 x]) (fun _ => rfl)

/-- The cells of a row of elements. -/
def Lay {α : Type} (R : Rep α) (w : World) (F : Nat → Prop) (l : List α) (cs : List Value) : Prop :=
  cs.length = l.length * R.n ∧ ∀ (k : Nat) (x : α), l[k]? = some x → R.rel w F x ((cs.drop (k * R.n)).take R.n)

section
variable {α : Type} {R : Rep α} {w w' : World} {F G : Nat → Prop} {l : List α} {cs : List Value}
theorem Lay.nil_ : Lay R w F [] [] := ⟨by simp, fun k x h => by simp at h⟩
theorem Lay.keep (h : Lay R w F l cs) (hk : ∀ b, F b → w'.heap[b]? = w.heap[b]?) : Lay R w' F l cs := ⟨h.1, fun k x hx => R.keep (h.2 k x hx) hk⟩
theorem Lay.more (h : Lay R w F l cs) (hk : ∀ b, F b → G b) : Lay R w G l cs := ⟨h.1, fun k x hx => R.more (h.2 k x hx) hk⟩
theorem Lay.snoc {x : α} {a : List Value} (h : Lay R w F l cs) (ha : R.rel w F x a) : Lay R w F (l ++ [x]) (cs ++ a) := by
  have hl := R.len ha
  refine ⟨by simp [h.1, hl, Nat.add_mul], fun k y hy => ?_⟩
  by_cases hk : k < l.length
  · rw [List.getElem?_append_left hk] at hy
    have h2 := h.2 k y hy
    have h3 : (k + 1) * R.n ≤ cs.length := by rw [h.1]; exact Nat.mul_le_mul_right _ hk
    rw [Nat.add_mul, Nat.one_mul] at h3
    rw [List.drop_append_of_le_length (by omega), List.take_append_of_le_length (by simp; omega)]
    exact h2
  · have hk2 : k = l.length := by
      have := (List.getElem?_eq_some_iff.1 hy).1
      simp at this; omega
    subst hk2
    rw [List.getElem?_append_right (Nat.le_refl _)] at hy
    simp at hy
    subst hy
    rw [← h.1, List.drop_left' rfl, List.take_of_length_le (by omega)]
    exact ha
theorem Lay.app {l' : List α} {cs' : List Value} (h : Lay R w F l cs) (h' : Lay R w F l' cs') : Lay R w F (l ++ l') (cs ++ cs') := by
  refine ⟨by simp [h.1, h'.1, Nat.add_mul], fun k y hy => ?_⟩
  by_cases hk : k < l.length
  · rw [List.getElem?_append_left hk] at hy
    have h2 := h.2 k y hy
    have h3 : (k + 1) * R.n ≤ cs.length := by rw [h.1]; exact Nat.mul_le_mul_right _ hk
    rw [Nat.add_mul, Nat.one_mul] at h3
    rw [List.drop_append_of_le_length (by omega), List.take_append_of_le_length (by simp; omega)]
    exact h2
  · rw [List.getElem?_append_right (by omega)] at hy
    have := h'.2 _ y hy
    rw [show (cs ++ cs').drop (k * R.n) = cs'.drop ((k - l.length) * R.n) by
      rw [List.drop_append, List.drop_eq_nil_of_le (by rw [h.1]; exact Nat.mul_le_mul_right _ (by omega)), List.nil_append, h.1, Nat.sub_mul]]
    exact this
theorem Lay.one {x : α} {a : List Value} (ha : R.rel w F x a) : Lay R w F [x] a := by simpa using Lay.nil_.snoc ha
theorem Lay.drop (h : Lay R w F l cs) (k : Nat) : Lay R w F (l.drop k) (cs.drop (k * R.n)) := by
  refine ⟨by simp [h.1, Nat.sub_mul], fun j x hx => ?_⟩
  rw [List.getElem?_drop] at hx
  have := h.2 _ x hx
  rw [List.drop_drop, ← Nat.add_mul]
  exact this
theorem Lay.take (h : Lay R w F l cs) (k : Nat) : Lay R w F (l.take k) (cs.take (k * R.n)) := by
  refine ⟨?_, fun j x hx => ?_⟩
  · rw [List.length_take, List.length_take, h.1]
    rcases Nat.le_total k l.length with hk | hk
    · rw [Nat.min_eq_left hk, Nat.min_eq_left (Nat.mul_le_mul_right _ hk)]
    · rw [Nat.min_eq_right hk, Nat.min_eq_right (Nat.mul_le_mul_right _ hk)]
  · have hj : j < k := by
      have := (List.getElem?_eq_some_iff.1 hx).1
      simp at this; omega
    rw [List.getElem?_take_of_lt hj] at hx
    have h2 := h.2 j x hx
    have h3 : (j + 1) * R.n ≤ k * R.n := Nat.mul_le_mul_right _ hj
    rw [Nat.add_mul, Nat.one_mul] at h3
    rw [List.drop_take, List.take_take, Nat.min_eq_left (by omega)]
    exact h2
end

/-- A slice value that reads as a list. -/
def Sli {α : Type} (R : Rep α) (w : World) (F : Nat → Prop) (l : List α) (v : Value) : Prop :=
  ∃ A c, v = .slice A l.length c ∧ l.length ≤ c ∧ c ≤ 9223372036854775807 ∧ (0 < l.length → ∃ b off cs, A = some ⟨b, off, none⟩ ∧ F b ∧ Lay R w F l cs ∧ ∀ j u, cs[j]? = some u → w.cell? ⟨b, off + j, none⟩ = some u)

section
variable {α : Type} {R : Rep α} {w w' : World} {F G : Nat → Prop} {l : List α} {v : Value}
theorem cell_of_heap {b o : Nat} (h : w'.heap[b]? = w.heap[b]?) : w'.cell? ⟨b, o, none⟩ = w.cell? ⟨b, o, none⟩ := World.cell?_of_block (a := ⟨b, o, none⟩) h
theorem Sli.keep (h : Sli R w F l v) (hk : ∀ b, F b → w'.heap[b]? = w.heap[b]?) : Sli R w' F l v := by
  obtain ⟨A, c, e, h1, h2, h3⟩ := h
  refine ⟨A, c, e, h1, h2, fun h0 => ?_⟩
  obtain ⟨b, off, cs, ea, hb, hl, hc⟩ := h3 h0
  exact ⟨b, off, cs, ea, hb, hl.keep hk, fun j u hj => (cell_of_heap (hk b hb)).trans (hc j u hj)⟩
theorem Sli.more (h : Sli R w F l v) (hk : ∀ b, F b → G b) : Sli R w G l v := by
  obtain ⟨A, c, e, h1, h2, h3⟩ := h
  refine ⟨A, c, e, h1, h2, fun h0 => ?_⟩
  obtain ⟨b, off, cs, ea, hb, hl, hc⟩ := h3 h0
  exact ⟨b, off, cs, ea, hk b hb, hl.more hk, hc⟩
theorem Sli.nil_ : Sli R w F [] (.slice none 0 0) := ⟨none, 0, rfl, Nat.le_refl _, by omega, fun h => absurd h (by simp)⟩
theorem Sli.below {B : Nat} (h : Sli R w F l v) (hb : Below B w w') (hF : ∀ b, F b → b < B) : Sli R w' F l v := h.keep fun b hf => hb.block b (hF b hf)
theorem Sli.alloc (h : Sli R w F l v) (o : Obj) (hF : ∀ b, F b → b < w.heap.size) : Sli R (w.alloc o) F l v := h.keep fun b hf => Below.heap_alloc w o b (hF b hf)
theorem Sli.drew (h : Sli R w F l v) : Sli R w.drew F l v := h.keep fun _ _ => rfl
theorem Sli.drewN (h : Sli R w F l v) (n : Nat) : Sli R (w.drewN n) F l v := h.keep fun _ _ => rfl
theorem Sli.setCell (h : Sli R w F l v) {p : Addr} (u : Value) (hF : ¬ F p.block) : Sli R (w.setCell p u) F l v :=
  h.keep fun b hf => Below.heap_setCell w p u b (fun e => hF (by rw [← e]; exact hf))
theorem Sli.grown {g : Nat} (h : Sli R w F l v) (hg : w.grownBy w' (some g)) (hF : ∀ b, F b → b < w.heap.size ∧ b ≠ g) : Sli R w' F l v :=
  h.keep fun b hf => hg.block b (hF b hf).1 (by simpa using (hF b hf).2)
/-- Its form, and element k. -/
theorem Sli.form (h : Sli R w F l v) : ∃ A c, v = .slice A l.length c ∧ l.length ≤ c ∧ c ≤ 9223372036854775807 := by
  obtain ⟨A, c, e, h1, h2, _⟩ := h; exact ⟨A, c, e, h1, h2⟩
theorem Sli.at_ {A : Option Addr} {n c : Nat} (h : Sli R w F l (.slice A n c)) (k : Nat) (hk : k < l.length) :
    ∃ b off a, A = some ⟨b, off, none⟩ ∧ F b ∧ R.rel w F l[k] a ∧ ∀ j u, a[j]? = some u → w.cell? ⟨b, off + k * R.n + j, none⟩ = some u := by
  obtain ⟨A', c', e, h1, h2, h3⟩ := h
  injection e with e1 e2 e3
  subst e1
  obtain ⟨b, off, cs, ea, hb, hl, hc⟩ := h3 (by omega)
  refine ⟨b, off, _, ea, hb, hl.2 k _ (List.getElem?_eq_getElem hk), fun j u hj => ?_⟩
  rw [List.getElem?_take] at hj
  split at hj
  · rw [List.getElem?_drop] at hj
    rw [Nat.add_assoc]; exact hc _ u hj
  · cases hj
theorem Sli.take_ {A : Option Addr} {n c : Nat} (h : Sli R w F l (.slice A n c)) (k : Nat) (hk : k ≤ l.length) : Sli R w F (l.take k) (.slice A k c) := by
  obtain ⟨A', c', e, h1, h2, h3⟩ := h
  injection e with e1 e2 e3
  subst e1; subst e3
  refine ⟨A, c, by rw [List.length_take, Nat.min_eq_left hk], by simp; omega, h2, fun h0 => ?_⟩
  obtain ⟨b, off, cs, ea, hb, hl, hc⟩ := h3 (by simp at h0; omega)
  refine ⟨b, off, _, ea, hb, hl.take k, fun j u hj => hc j u ?_⟩
  rw [List.getElem?_take] at hj
  split at hj
  · exact hj
  · cases hj
/-- A slice that a call of one's own has filled. -/
theorem Sli.own {base e n : Nat} {xs : List Value} (h : w.ownsRow base e R.n v n xs) (hl : Lay R w F l xs) (hn : n = l.length) (hc : ∀ b c, v = .slice (some ⟨b, 0, none⟩) n c → F b) : Sli R w F l v := by
  subst hn
  rcases h.2 with ⟨rfl, h0⟩ | ⟨g, cap, cur, rfl, hb, hg, h1, h2, h3, h4⟩
  · obtain rfl : l = [] := List.length_eq_zero_iff.1 h0
    exact Sli.nil_
  · have hf := hc g cap rfl
    refine ⟨_, cap, rfl, h1, by unfold maxLen at h2; omega, fun _ => ⟨g, 0, xs, rfl, hf, hl, fun j u hj => ?_⟩⟩
    rw [Nat.zero_add]
    simp only [World.cell?, hg]
    rw [← h4] at hj
    rw [List.getElem?_take] at hj
    split at hj
    · simpa using hj
    · cases hj
/-- A row that has just been laid. -/
theorem Sli.new {cs : List Value} (T : TypeId) (c : Nat) (hl : Lay R (w.alloc (.cells cs.toArray T)) F l cs) (hF : F w.heap.size) (h1 : l.length ≤ c) (h2 : c ≤ 9223372036854775807) : Sli R (w.alloc (.cells cs.toArray T)) F l (.slice (some ⟨w.heap.size, 0, none⟩) l.length c) := by
  refine ⟨_, c, rfl, h1, h2, fun _ => ⟨_, 0, cs, rfl, hF, hl, fun j u hj => ?_⟩⟩
  rw [Nat.zero_add]
  have hg : (w.alloc (.cells cs.toArray T)).heap[w.heap.size]? = some (.cells cs.toArray T (0, 0)) := heap_alloc_new w _
  simp only [World.cell?, hg]
  simpa using hj
end

/-- Slices as elements. -/
def Rep.sli {α : Type} (R : Rep α) : Rep (List α) :=
  ⟨1, fun w F l cs => ∃ v, cs = [v] ∧ Sli R w F l v, fun h => by obtain ⟨v, rfl, _⟩ := h; rfl, fun h hk => by obtain ⟨v, e, h⟩ := h; exact ⟨v, e, h.keep hk⟩, fun h hk => by obtain ⟨v, e, h⟩ := h; exact ⟨v, e, h.more hk⟩⟩
end Go.Proofs.YtlfnmmnbfoimeaaGreatDoor

/- Files, manifests and copies, in plain words. No program in sight. -/
namespace Go.Proofs.YtlfnmmnbfoimeaaGreatDoor
set_option linter.unusedVariables false
open Go.RowKit

structure Copied where
  name : ByteArray
  size : Int
  sum : ByteArray
theorem Copied.ext_iff' {a b : Copied} : a = b ↔ a.name = b.name ∧ a.size = b.size ∧ a.sum = b.sum := by
  constructor
  · rintro rfl; exact ⟨rfl, rfl, rfl⟩
  · rintro ⟨h1, h2, h3⟩; cases a; cases b; simp at h1 h2 h3; subst h1; subst h2; subst h3; rfl
def Copied.cells (x : Copied) : List Value := [.string x.name, .int .i64 x.size, .string x.sum]
def Copied.val (x : Copied) : Value := .agg #[.string x.name, .int .i64 x.size, .string x.sum]
def Copied.eqB (a b : Copied) : Bool := decide (a.name = b.name) && decide (a.size = b.size) && decide (a.sum = b.sum)
theorem Copied.eqB_iff {a b : Copied} : a.eqB b = true ↔ a = b := by rw [Copied.ext_iff']; simp [Copied.eqB, and_assoc]

end Go.Proofs.YtlfnmmnbfoimeaaGreatDoor

/- Slices that a call of one's own fills by append, with elements that may hold slices of their own. -/
namespace Go.Proofs.YtlfnmmnbfoimeaaGreatDoor
set_option linter.unusedVariables false
open Go.RowKit

/-- What lies from block lo on, but for one block. -/
def From (w : World) (lo : Nat) (own : Option Nat) (b : Nat) : Prop := lo ≤ b ∧ b < w.heap.size ∧ some b ≠ own
/-- The value v owns the elements l, in a row from block base on; what they hold lies from block lo on, apart from that row. -/
def Own {α : Type} (R : Rep α) (w : World) (base lo : Nat) (e : TypeId) (l : List α) (v : Value) : Prop :=
  ∃ xs, w.ownsRow base e R.n v l.length xs ∧ Lay R w (From w lo v.ownBlock) l xs

section
variable {α : Type} {R : Rep α} {w w' w1 : World} {base lo : Nat} {e : TypeId} {l : List α} {v : Value}
theorem Own.nil_ : Own R w base lo e [] (.slice none 0 0) := ⟨[], World.ownsRow_nil w base e R.n, Lay.nil_⟩
theorem Own.form (h : Own R w base lo e l v) : (v = .slice none 0 0 ∧ l = []) ∨ ∃ g cap, v = .slice (some ⟨g, 0, none⟩) l.length cap ∧ base ≤ g ∧ g < w.heap.size ∧ l.length ≤ cap ∧ cap ≤ 9223372036854775807 := by
  obtain ⟨xs, ho, _⟩ := h
  rcases ho.2 with ⟨hv, h0⟩ | ⟨g, cap, cur, hv, hb, hg, hc, hm, _⟩
  · exact .inl ⟨hv, List.length_eq_zero_iff.1 h0⟩
  · exact .inr ⟨g, cap, hv, hb, heap_lt' hg, hc, by unfold maxLen at hm; omega⟩
where heap_lt' {w : World} {b : Nat} {o : Obj} (h : w.heap[b]? = some o) : b < w.heap.size := (Array.getElem?_eq_some_iff.1 h).1
theorem Own.block (h : Own R w base lo e l v) (g : Nat) (hg : v.ownBlock = some g) : base ≤ g ∧ g < w.heap.size := by
  obtain ⟨xs, ho, _⟩ := h
  exact ho.lt g hg
/-- It stays what it is where its row and what its elements hold stay. -/
theorem Own.keep (h : Own R w base lo e l v) (hs : w.heap.size ≤ w'.heap.size) (hk : ∀ b, (lo ≤ b ∨ v.ownBlock = some b) → b < w.heap.size → w'.heap[b]? = w.heap[b]?) : Own R w' base lo e l v := by
  obtain ⟨xs, ho, hl⟩ := h
  refine ⟨xs, ⟨ho.1, ?_⟩, (hl.keep fun b hb => hk b (.inl hb.1) hb.2.1).more fun b hb => ⟨hb.1, Nat.lt_of_lt_of_le hb.2.1 hs, hb.2.2⟩⟩
  rcases ho.2 with hn | ⟨g, cap, cur, rfl, hb, hg, rest⟩
  · exact .inl hn
  · exact .inr ⟨g, cap, cur, rfl, hb, by rw [hk g (.inr rfl) (Array.getElem?_eq_some_iff.1 hg).1]; exact hg, rest⟩
theorem Own.alloc (h : Own R w base lo e l v) (o : Obj) : Own R (w.alloc o) base lo e l v := h.keep (by simp) fun b _ hb => Below.heap_alloc w o b hb
theorem Own.drew (h : Own R w base lo e l v) : Own R w.drew base lo e l v := h.keep (Nat.le_refl _) fun _ _ _ => rfl
theorem Own.drewN (h : Own R w base lo e l v) (n : Nat) : Own R (w.drewN n) base lo e l v := h.keep (Nat.le_refl _) fun _ _ _ => rfl
theorem Own.below (h : Own R w base lo e l v) (hb : Below w.heap.size w w') : Own R w' base lo e l v := h.keep hb.size fun b _ hlt => hb.block b hlt
theorem Own.setCell (h : Own R w base lo e l v) {p : Addr} (u : Value) (h1 : p.block < lo) (h2 : v.ownBlock ≠ some p.block) : Own R (w.setCell p u) base lo e l v :=
  h.keep (by simp [World.setCell]) fun b hb _ => Below.heap_setCell w p u b (fun e => by
    subst e
    rcases hb with hb | hb
    · omega
    · exact h2 hb)
/-- Another row grows, or a stream turns. -/
theorem Own.grown {row : Option Nat} (h : Own R w base lo e l v) (hg : w.grownBy w' row) (h1 : ∀ k, row = some k → k < lo) (h2 : v.ownBlock = none ∨ v.ownBlock ≠ row) : Own R w' base lo e l v :=
  h.keep hg.size fun b hb hlt => hg.block b hlt (fun er => by
    rcases hb with hb | hb
    · have := h1 b er.symm; omega
    · rcases h2 with h2 | h2
      · rw [h2] at hb; cases hb
      · exact h2 (by rw [hb, er]))
/-- What it reads as. -/
theorem Own.sli {F : Nat → Prop} (h : Own R w base lo e l v) (hF : ∀ b, lo ≤ b → b < w.heap.size → F b) (hB : ∀ g, v.ownBlock = some g → F g) : Sli R w F l v := by
  obtain ⟨xs, ho, hl⟩ := h
  exact Sli.own ho (hl.more fun b hb => hF b hb.1 hb.2.1) rfl (fun b c hv => hB b (by rw [hv]; rfl))
/-- One element more has been appended. -/
theorem Own.push {row : List Value} {xs cs : List Value} {v' : Value} {g H : Nat} (hl : Lay R w (From w lo v.ownBlock) l xs) {y : α} (hy : R.rel w (From w lo v.ownBlock) y cs)
    (ho : w1.ownsRow base e R.n v' (l.length + 1) (xs ++ cs)) (hg : w.grownBy w1 v.ownBlock) (hv' : v'.ownBlock = some g) (hat : v.ownBlock = some g ∨ (g = H ∧ w.heap.size ≤ H)) : Own R w1 base lo e (l ++ [y]) v' := by
  have hF : ∀ b, From w lo v.ownBlock b → From w1 lo v'.ownBlock b := fun b hb => ⟨hb.1, Nat.lt_of_lt_of_le hb.2.1 hg.size, by
    rw [hv']
    rcases hat with h | ⟨h, h2⟩
    · rw [← h]; exact hb.2.2
    · intro e; injection e with e; have := hb.2.1; omega⟩
  have hk : ∀ b, From w lo v.ownBlock b → w1.heap[b]? = w.heap[b]? := fun b hb => hg.block b hb.2.1 hb.2.2
  exact ⟨_, by simpa using ho, ((hl.snoc hy).keep hk).more hF⟩
end
theorem gbTrans {w a b : World} {row : Option Nat} (h : w.grownBy a row) (g : a.grownBy b row) : w.grownBy b row :=
  ⟨g.os.trans h.os, g.tape.trans h.tape, g.output.trans h.output, Nat.le_trans h.size g.size, fun i hi hne => (g.block i (Nat.lt_of_lt_of_le hi h.size) hne).trans (h.block i hi hne)⟩
theorem oneC {cs : List Value} (h : cs.all (fun u => match u with | .agg _ | .tuple _ => false | _ => true) = true) : ∀ u ∈ cs, u.oneCell' = true := by
  intro u hu
  have := List.all_eq_true.1 h u hu
  cases u <;> first | rfl | cases this

end Go.Proofs.YtlfnmmnbfoimeaaGreatDoor

/- Append of one element that lies in a block of its own. No program in sight. -/
namespace Go.Proofs.YtlfnmmnbfoimeaaGreatDoor
set_option linter.unusedVariables false
open Go.RowKit

/-- 'append(out, y)' at the operation: y lies in a block of its own. -/
theorem wpList_pushB {P : Program} {α : Type} {R : Rep α} {ops : Array Oper} {rest : List Oper} {o : Oper} {a : Act} {Q : Exit → Act → World → Prop} (hgd : o.guard = none) (s x : Operand) (t : TypeId)
    (ho : o.op = .call { callee := .builtin .append, args := #[s, x], argTypes := #[t, t] })
    (base lo : Nat) (e : TypeId) (i : TypeInfo) (z : Value) (bytes : Nat) (ht : P.underlying t = some (.slice e)) (hi : P.info? e = some i) (hz : i.zero = some z)
    (hsize : i.size = R.n) (hby : i.bytes = bytes) (hzs : z.cells.size = R.n) (hsz : 0 < R.n)
    (W : World) (v : Value) (l : List α) (hs : a.eval s = v) (hown : Own R W base lo e l v) (y : α) (cs : List Value) (hy : R.rel W (From W lo v.ownBlock) y cs) (h1 : ∀ u ∈ cs, u.oneCell' = true)
    (B : Nat) (T : TypeId) (c : Nat) (hB : W.heap[B]? = some (.cells cs.toArray T (0, 0))) (hx : a.eval x = .slice (some ⟨B, 0, none⟩) 1 c) (h63 : l.length + 1 ≤ maxLen) (hbytes : (l.length + 1) * bytes ≤ 140737488355328) (hbase : base ≤ W.heap.size)
    (h : ∀ g cap w', Own R w' base lo e (l ++ [y]) (.slice (some ⟨g, 0, none⟩) (l.length + 1) cap) → W.grownBy w' v.ownBlock → (v.ownBlock = some g ∨ g = W.heap.size) → g < w'.heap.size → wpList P ops Q rest (a.put o.dst (.slice (some ⟨g, 0, none⟩) (l.length + 1) cap)) w') :
    wpList P ops Q (o :: rest) a W := by
  obtain ⟨xs, hor, hl⟩ := hown
  have hn := R.len hy
  refine wpList_append_lies W hgd s x t ho base e i z R.n bytes ht hi hz hsize hby hzs hsz v l.length xs hs hor ⟨B, 0, none⟩ 1 c cs hx (by rw [hn, Nat.one_mul]) ?_ h1 (by omega) h63 hbytes hbase W.heap.size rfl ?_
  · intro j u hj
    exact World.news_of_block hB j u (by simpa using hj)
  · intro g cap w' h2 h3 h4 h5
    exact h g cap w' (Own.push (row := xs) (g := g) (H := W.heap.size) hl hy h2 h3 rfl (h4.imp id fun h => ⟨h, Nat.le_refl _⟩)) h3 h4 h5

end Go.Proofs.YtlfnmmnbfoimeaaGreatDoor

/- Three slices of strings that one call fills side by side. -/
namespace Go.Proofs.YtlfnmmnbfoimeaaGreatDoor
set_option linter.unusedVariables false
open Go.RowKit

def Dis (v v' : Value) : Prop := ∀ g, v.ownBlock = some g → v'.ownBlock = some g → False
theorem Dis.symm {v v' : Value} (h : Dis v v') : Dis v' v := fun g a b => h g b a
theorem Dis.nil_ {v : Value} : Dis v (.slice none 0 0) := fun g _ b => by cases b
section
variable {w w' : World} {base : Nat} {l1 l2 l3 : List ByteArray} {v1 v2 v3 : Value}
end
end Go.Proofs.YtlfnmmnbfoimeaaGreatDoor

/- Append of several numbers at once onto a list of one's own. No program in sight. -/
namespace Go.Proofs.YtlfnmmnbfoimeaaGreatDoor
set_option linter.unusedVariables false
open Go.RowKit

end Go.Proofs.YtlfnmmnbfoimeaaGreatDoor

/- Rolls, rates and frames in plain words: what the program and the reference both compute. No program in sight. -/
namespace Go.Proofs.YtlfnmmnbfoimeaaGreatDoor
set_option linter.unusedVariables false
open Go.RowKit

structure Roll where
  name : ByteArray
  rate : Int
  start : Int
  long : Int
  drift : Int

def Roll.cells (r : Roll) : List Value := [.string r.name, .int .i64 r.rate, .int .i64 r.start, .int .i64 r.long, .int .i64 r.drift]
def Roll.val (r : Roll) : Value := .agg #[.string r.name, .int .i64 r.rate, .int .i64 r.start, .int .i64 r.long, .int .i64 r.drift]
def Roll.zero : Roll := ⟨⟨#[]⟩, 0, 0, 0, 0⟩

end Go.Proofs.YtlfnmmnbfoimeaaGreatDoor

/- Reading codes, in plain words. No program in sight. -/
namespace Go.Proofs.YtlfnmmnbfoimeaaGreatDoor
set_option linter.unusedVariables false
open Go.RowKit

def bt (s : ByteArray) (i : Nat) : Int := if h : i < s.size then (s[i].toNat : Int) else 0
theorem fields {r n c : Int} (hc : c = 24 ∨ c = 25 ∨ c = 30) (h0 : 0 ≤ n) (h1 : n < 86400 * c) :
    ∃ H M S F : Int, H = n / c / 3600 ∧ M = n / c / 60 % 60 ∧ S = n / c % 60 ∧ F = n % c ∧ 0 ≤ H ∧ H < 24 ∧ 0 ≤ M ∧ M < 60 ∧ 0 ≤ S ∧ S < 60 ∧ 0 ≤ F ∧ F < 30 ∧ n = (60 * (60 * H + M) + S) * c + F ∧ 60 * H + M = n / (60 * c) := by
  refine ⟨_, _, _, _, rfl, rfl, rfl, rfl, ?_⟩
  rcases hc with rfl | rfl | rfl <;> omega
end Go.Proofs.YtlfnmmnbfoimeaaGreatDoor

/- Codes by their fields, in plain words. No program in sight. -/
namespace Go.Proofs.YtlfnmmnbfoimeaaGreatDoor
set_option linter.unusedVariables false
open Go.RowKit

end Go.Proofs.YtlfnmmnbfoimeaaGreatDoor

/- Events in plain words: what the program and the reference both compute. No program in sight. -/
namespace Go.Proofs.YtlfnmmnbfoimeaaGreatDoor
set_option linter.unusedVariables false
open Go.RowKit

structure Ev where
  roll : ByteArray
  tin : Int
  tout : Int
theorem Ev.ext_iff' {a b : Ev} : a = b ↔ a.roll = b.roll ∧ a.tin = b.tin ∧ a.tout = b.tout := by
  constructor
  · rintro rfl; exact ⟨rfl, rfl, rfl⟩
  · rintro ⟨h1, h2, h3⟩; cases a; cases b; simp at h1 h2 h3; subst h1; subst h2; subst h3; rfl
def Ev.cells (x : Ev) : List Value := [.string x.roll, .int .i64 x.tin, .int .i64 x.tout]
def Ev.val (x : Ev) : Value := .agg #[.string x.roll, .int .i64 x.tin, .int .i64 x.tout]
def Ev.eqB (a b : Ev) : Bool := decide (a.roll = b.roll) && decide (a.tin = b.tin) && decide (a.tout = b.tout)
theorem Ev.eqB_iff {a b : Ev} : a.eqB b = true ↔ a = b := by rw [Ev.ext_iff']; simp [Ev.eqB, and_assoc]
/-- Words of a line. -/
def words (s : ByteArray) (c : UInt8) : List ByteArray := Lib.splitB ⟨#[c]⟩ 0 (Lib.countB s ⟨#[c]⟩) s
theorem splitB_size (sep : ByteArray) : ∀ (k : Nat) (s x : ByteArray), x ∈ Lib.splitB sep 0 k s → x.size ≤ s.size := by
  intro k
  induction k with
  | zero => intro s x hx; rw [Lib.splitB_zero] at hx; simp at hx; rw [hx]; exact Nat.le_refl _
  | succ k ih =>
    intro s x hx
    rw [Lib.splitB] at hx
    split at hx
    · simp at hx; rw [hx]; exact Nat.le_refl _
    · rcases List.mem_cons.1 hx with rfl | hx
      · rw [ByteArray.size_extract]; omega
      · have := ih _ _ hx
        rw [ByteArray.size_extract] at this; omega
theorem words_size {s x : ByteArray} {c : UInt8} (h : x ∈ words s c) : x.size ≤ s.size := splitB_size _ _ _ _ h
theorem words_len (s : ByteArray) (c : UInt8) : (words s c).length = Lib.countB s ⟨#[c]⟩ + 1 := Lib.splitB_all ⟨#[c]⟩ (Nat.le_refl 1) 0 _ s rfl
theorem words_le (s : ByteArray) (c : UInt8) : (words s c).length ≤ s.size + 1 := by
  rw [words_len]; have := Lib.countB_le ⟨#[c]⟩ (Nat.le_refl 1) s.size s (Nat.le_refl _); omega

end Go.Proofs.YtlfnmmnbfoimeaaGreatDoor

/- The generator's words for literal lists; rolls. -/
namespace Go.Proofs.YtlfnmmnbfoimeaaGreatDoor
set_option linter.unusedVariables false
open Go.RowKit

section
variable {a w w' w1 : World} {sb : Nat} {k : Int}
theorem gRefl (w : World) (sb : Nat) : w.grownBy w (some sb) := ⟨rfl, rfl, rfl, Nat.le_refl _, fun _ _ _ => rfl⟩
theorem gTrans (h : a.grownBy w (some sb)) (g : w.grownBy w1 (some sb)) : a.grownBy w1 (some sb) :=
  ⟨g.os.trans h.os, g.tape.trans h.tape, g.output.trans h.output, Nat.le_trans h.size g.size, fun i hi hne => (g.block i (Nat.lt_of_lt_of_le hi h.size) hne).trans (h.block i hi hne)⟩
theorem gAlloc (h : a.grownBy w (some sb)) (o : Obj) : a.grownBy (w.alloc o) (some sb) :=
  gTrans h ⟨rfl, rfl, rfl, by simp, fun i hi _ => Below.heap_alloc w o i hi⟩
theorem gBelow (h : a.grownBy w (some sb)) (hb : Below w.heap.size w w1) : a.grownBy w1 (some sb) :=
  gTrans h ⟨hb.os, hb.tape, hb.output, hb.size, fun i hi _ => hb.block i hi⟩
theorem gSet (h : a.grownBy w (some sb)) {p : Addr} (hp : a.heap.size ≤ p.block) (v : Value) : a.grownBy (w.setCell p v) (some sb) :=
  ⟨h.os, h.tape, h.output, by simpa [World.setCell] using h.size, fun i hi hne => (Below.heap_setCell w p v i (by omega)).trans (h.block i hi hne)⟩
theorem Str.lt (h : Str w sb k) : sb < w.heap.size := by
  obtain ⟨A, c, l, hb, _⟩ := h
  exact heap_lt hb
theorem Str.nonneg (h : Str w sb k) : 0 ≤ k := by
  obtain ⟨A, c, l, hb, h0, _⟩ := h
  exact h0
theorem Str.keep (h : Str w sb k) (hk : ∀ b, b ≤ sb → w1.heap[b]? = w.heap[b]?) : Str w1 sb k := by
  obtain ⟨A, c, l, hb, h0, hr, hl, ho⟩ := h
  exact ⟨A, c, l, (hk sb (Nat.le_refl _)).trans hb, h0, hr.keep (fun p _ hp => World.cell?_of_block (hk p.block (by omega))), hl, ho⟩
theorem Str.alloc (h : Str w sb k) (o : Obj) : Str (w.alloc o) sb k := h.keep fun b hb => Below.heap_alloc w o b (by have := h.lt; omega)
theorem Str.below (h : Str w sb k) (hb : Below w.heap.size w w1) : Str w1 sb k := h.keep fun b hb' => hb.block b (by have := h.lt; omega)
theorem Str.setCell (h : Str w sb k) {p : Addr} (hp : sb < p.block) (v : Value) : Str (w.setCell p v) sb k := h.keep fun b hb => Below.heap_setCell w p v b (by omega)
theorem Str.drew (h : Str w sb k) : Str w.drew sb k := h
theorem gDrew (h : a.grownBy w (some sb)) : a.grownBy w.drew (some sb) := ⟨h.os, h.tape, h.output, h.size, h.block⟩
theorem Rs.new1 {α : Type} (w : World) (l : List α) (enc1 : α → Value) (T : TypeId) (lo : Nat) (hlo : lo ≤ w.heap.size) : Rs (w.alloc (.cells (l.map enc1).toArray T)) lo (w.heap.size + 1) 1 (fun x => [enc1 x]) (some ⟨w.heap.size, 0, none⟩) l := by
  intro _
  refine ⟨_, _, rfl, hlo, by omega, fun j x hx i u hu => ?_⟩
  have hb : (w.alloc (.cells (l.map enc1).toArray T)).heap[w.heap.size]? = some (.cells (l.map enc1).toArray T (0, 0)) := heap_alloc_new w _
  rw [(str_cells hb).1]
  cases i with
  | zero => simp at hu; simp [hx, hu]
  | succ i => simp at hu

theorem pickL (w : World) (l : List Int) (cs : Array Value) (T n c : Nat) (hcs : cs = (l.map (Value.int .i64)).toArray) (hn : n = l.length) (h0 : 0 < n) (h1 : n ≤ 1000) (hs : Str w sb k) (hk : k ≤ 4611686018427387904) :
    Calls Tryz.prog 45 #[.pointer (some ⟨sb, 0, none⟩), .slice (some ⟨w.heap.size, 0, none⟩) n c] (w.alloc (.cells cs T)) (Took sb k 1 (isInt (· ∈ l)) (w.alloc (.cells cs T))) := by
  subst hcs; subst hn
  exact pick_c sb k _ l c w.heap.size (w.heap.size + 1) _ (hs.alloc _) hk h0 (by omega) (Rs.new1 w l (.int .i64) T _ (Nat.le_refl _)) hs.lt (by simp)
theorem oneL (w : World) (l : List ByteArray) (cs : Array Value) (T n c : Nat) (hcs : cs = (l.map Value.string).toArray) (hn : n = l.length) (h0 : 0 < n) (h1 : n ≤ 1000) (hs : Str w sb k) (hk : k ≤ 4611686018427387904) :
    Calls Tryz.prog 20 #[.pointer (some ⟨sb, 0, none⟩), .slice (some ⟨w.heap.size, 0, none⟩) n c] (w.alloc (.cells cs T)) (Took sb k 1 (isStr (· ∈ l)) (w.alloc (.cells cs T))) := by
  subst hcs; subst hn
  exact one_c sb k _ l c w.heap.size (w.heap.size + 1) _ (hs.alloc _) hk h0 (by omega) (Rs.new1 w l .string T _ (Nat.le_refl _)) hs.lt (by simp)
end

end Go.Proofs.YtlfnmmnbfoimeaaGreatDoor

/- Where a generator's loop stands: stream, what has been made, the list so far, and blocks of its own. -/
namespace Go.Proofs.YtlfnmmnbfoimeaaGreatDoor
set_option linter.unusedVariables false
open Go.RowKit

/-- The stream sb has handed out n numbers; since w only it has turned; v is the list l made so far; each block of P lies as it was laid. -/
structure GS {α : Type} (R : Rep α) (e : TypeId) (w : World) (sb : Nat) (l : List α) (v : Value) (P : List (Nat × Array Value × TypeId)) (n : Int) (wx : World) : Prop where
  str : Str wx sb n
  gr : w.grownBy wx (some sb)
  own : Own R wx w.heap.size w.heap.size e l v
  lt : sb < w.heap.size
  prv : ∀ p ∈ P, wx.heap[p.1]? = some (.cells p.2.1 p.2.2 (0, 0)) ∧ w.heap.size ≤ p.1 ∧ v.ownBlock ≠ some p.1
section
variable {α : Type} {R : Rep α} {e : TypeId} {w wx wy : World} {sb : Nat} {l : List α} {v : Value} {P : List (Nat × Array Value × TypeId)} {n n' : Int}
theorem GS.start (h : Str w sb n) : GS R e w sb [] (.slice none 0 0) [] n w := ⟨h, gRefl w sb, Own.nil_, h.lt, fun p hp => by cases hp⟩
theorem GS.size (h : GS R e w sb l v P n wx) : w.heap.size ≤ wx.heap.size := h.gr.size
theorem GS.plt (h : GS R e w sb l v P n wx) {p : Nat × Array Value × TypeId} (hp : p ∈ P) : p.1 < wx.heap.size := heap_lt (h.prv p hp).1
theorem GS.turn (h : GS R e w sb l v P n wx) (hg : wx.grownBy wy (some sb)) (hs : Str wy sb n') : GS R e w sb l v P n' wy :=
  ⟨hs, gTrans h.gr hg, h.own.grown hg (fun k e => by injection e with e; have := h.lt; omega) (Or.inr fun e => by have := h.own.block _ e; have := h.lt; omega), h.lt, fun p hp => by
    obtain ⟨h1, h2, h3⟩ := h.prv p hp
    exact ⟨(hg.block _ (heap_lt h1) (by have := h.lt; simp; omega)).trans h1, h2, h3⟩⟩
theorem GS.alloc (h : GS R e w sb l v P n wx) (o : Obj) : GS R e w sb l v P n (wx.alloc o) := h.turn (gAlloc (gRefl wx sb) o) (h.str.alloc o)
theorem GS.below (h : GS R e w sb l v P n wx) (hb : Below wx.heap.size wx wy) : GS R e w sb l v P n wy := h.turn (gBelow (gRefl wx sb) hb) (h.str.below hb)
theorem GS.drew (h : GS R e w sb l v P n wx) : GS R e w sb l v P n wx.drew := ⟨h.str, gDrew h.gr, h.own.drew, h.lt, h.prv⟩
theorem GS.drewN (h : GS R e w sb l v P n wx) (k : Nat) : GS R e w sb l v P n (wx.drewN k) := ⟨h.str.drewN k, grown_drewN h.gr k, h.own.drewN k, h.lt, h.prv⟩
theorem GS.new (h : GS R e w sb l v P n wx) (cs : Array Value) (T : TypeId) : GS R e w sb l v ((wx.heap.size, cs, T) :: P) n (wx.alloc (.cells cs T)) := by
  have h2 := h.alloc (.cells cs T)
  refine ⟨h2.str, h2.gr, h2.own, h2.lt, fun p hp => ?_⟩
  rcases List.mem_cons.1 hp with rfl | hp
  · exact ⟨heap_alloc_new wx _, h.size, fun e => by have := h.own.block _ e; omega⟩
  · exact h2.prv p hp
theorem GS.set {b i : Nat} {cs : Array Value} {T : TypeId} (h : GS R e w sb l v ((b, cs, T) :: P) n wx) (hf : ∀ {w w' : World} {F : Nat → Prop} {x : α} {cs : List Value}, R.rel w F x cs → R.rel w' F x cs) (u : Value) (hd : ∀ p ∈ P, p.1 ≠ b) : GS R e w sb l v ((b, cs.setIfInBounds i u, T) :: P) n (wx.setCell ⟨b, i, none⟩ u) := by
  obtain ⟨h1, h2, h3⟩ := h.prv (b, cs, T) (by simp)
  dsimp only at h1 h2 h3
  refine ⟨h.str.setCell (by have := h.lt; show sb < b; omega) _, gSet h.gr h2 _, ?_, h.lt, fun p hp => ?_⟩
  · obtain ⟨xs, ho, hl⟩ := h.own
    refine ⟨xs, ⟨ho.1, ?_⟩, ⟨hl.1, fun k x hx => ?_⟩⟩
    · rcases ho.2 with hn | ⟨g, cap, cur, rfl, hb, hg, rest⟩
      · exact .inl hn
      · exact .inr ⟨g, cap, cur, rfl, hb, (Below.heap_setCell wx ⟨b, i, none⟩ u g (by intro e; exact h3 (by rw [e]; rfl))).trans hg, rest⟩
    · exact hf (R.more (hl.2 k x hx) (fun q hq => ⟨hq.1, by simpa [World.setCell] using hq.2.1, hq.2.2⟩))
  · rcases List.mem_cons.1 hp with rfl | hp
    · exact ⟨by simp [World.setCell, Array.getElem?_modify, h1], h2, h3⟩
    · obtain ⟨k1, k2, k3⟩ := h.prv p (by simp [hp])
      exact ⟨(Below.heap_setCell wx ⟨b, i, none⟩ u _ (by have := hd p hp; show p.1 ≠ b; exact this)).trans k1, k2, k3⟩
/-- One element more has been appended. -/
theorem GS.push {l' : List α} {v' : Value} {o : Obj} (h : GS R e w sb l v P n wx) (hown : Own R wy w.heap.size w.heap.size e l' v') (hg : (wx.alloc o).grownBy wy v.ownBlock) : GS R e w sb l' v' [] n wy := by
  have ha := h.alloc o
  have hz := ha.size
  have hk : ∀ b, b < w.heap.size → wy.heap[b]? = (wx.alloc o).heap[b]? := fun b hb => hg.block b (by omega) (fun e => by have := ha.own.block b e.symm; omega)
  exact ⟨ha.str.keep fun b hb => hk b (by have := h.lt; omega), ⟨hg.os.trans ha.gr.os, hg.tape.trans ha.gr.tape, hg.output.trans ha.gr.output, Nat.le_trans ha.gr.size hg.size, fun i hi hne => (hk i hi).trans (ha.gr.block i hi hne)⟩, hown, h.lt, fun p hp => by cases hp⟩
theorem GS.less {Q : List (Nat × Array Value × TypeId)} (h : GS R e w sb l v P n wx) (hq : ∀ p ∈ Q, p ∈ P) : GS R e w sb l v Q n wx := ⟨h.str, h.gr, h.own, h.lt, fun p hp => h.prv p (hq p hp)⟩
theorem GS.cell (h : GS R e w sb l v P n wx) {p : Nat × Array Value × TypeId} (hp : p ∈ P) : (∀ i, wx.cell? ⟨p.1, i, none⟩ = p.2.1[i]?) ∧ (∀ i, wx.frozen? ⟨p.1, i, none⟩ = false) := str_cells (h.prv p hp).1
end
end Go.Proofs.YtlfnmmnbfoimeaaGreatDoor

/- Append of a whole list; a list that lies in a box of a generator. No program in sight. -/
namespace Go.Proofs.YtlfnmmnbfoimeaaGreatDoor
set_option linter.unusedVariables false
open Go.RowKit

theorem Lay.oneC {α : Type} {R : Rep α} {w : World} {F : Nat → Prop} {l : List α} {cs : List Value} (h : Lay R w F l cs) (h1 : ∀ x a, R.rel w F x a → ∀ u ∈ a, u.oneCell' = true) : ∀ u ∈ cs, u.oneCell' = true := by
  intro u hu
  obtain ⟨j, hj, rfl⟩ := List.mem_iff_getElem.1 hu
  by_cases hn : R.n = 0
  · rw [h.1, hn] at hj; omega
  · have hq : j / R.n < l.length := (Nat.div_lt_iff_lt_mul (by omega)).2 (by rw [← h.1]; exact hj)
    refine h1 _ _ (h.2 _ _ (List.getElem?_eq_getElem hq)) _ ?_
    rw [List.mem_iff_getElem?]
    refine ⟨j % R.n, ?_⟩
    rw [List.getElem?_take, List.getElem?_drop, if_pos (Nat.mod_lt _ (by omega)), Nat.mul_comm, Nat.div_add_mod]
    exact List.getElem?_eq_getElem hj

section
variable {α : Type} {R : Rep α} {w w' w1 : World} {base lo : Nat} {e : TypeId} {l l' : List α} {v : Value}
theorem Own.app {row : List Value} {xs cs : List Value} {v' : Value} {g H : Nat} (hl : Lay R w (From w lo v.ownBlock) l xs) (hy : Lay R w (From w lo v.ownBlock) l' cs)
    (ho : w1.ownsRow base e R.n v' (l.length + l'.length) (xs ++ cs)) (hg : w.grownBy w1 v.ownBlock) (hv' : v'.ownBlock = some g) (hat : v.ownBlock = some g ∨ (g = H ∧ w.heap.size ≤ H)) : Own R w1 base lo e (l ++ l') v' := by
  have hF : ∀ b, From w lo v.ownBlock b → From w1 lo v'.ownBlock b := fun b hb => ⟨hb.1, Nat.lt_of_lt_of_le hb.2.1 hg.size, by
    rw [hv']
    rcases hat with h | ⟨h, h2⟩
    · rw [← h]; exact hb.2.2
    · intro e; injection e with e; have := hb.2.1; omega⟩
  have hk : ∀ b, From w lo v.ownBlock b → w1.heap[b]? = w.heap[b]? := fun b hb => hg.block b hb.2.1 hb.2.2
  exact ⟨_, by simpa using ho, ((hl.app hy).keep hk).more hF⟩
end

/-- 'append(out, l2...)' at a step of a region that draws its order: l2 is not empty and lies apart from out's row. -/
theorem step_app {P : Program} {α : Type} {R : Rep α} {ops : Array Oper} {o : Oper} {a : Act} {K : Act → World → Prop} {Q : Exit → Act → World → Prop} {E : Prop} (hgd : o.guard = none) (s x : Operand) (t : TypeId)
    (ho : o.op = .call { callee := .builtin .append, args := #[s, x], argTypes := #[t, t] })
    (base lo : Nat) (e : TypeId) (i : TypeInfo) (z : Value) (bytes : Nat) (ht : P.underlying t = some (.slice e)) (hi : P.info? e = some i) (hz : i.zero = some z)
    (hsize : i.size = R.n) (hby : i.bytes = bytes) (hzs : z.cells.size = R.n) (hsz : 0 < R.n)
    (W : World) (v : Value) (l : List α) (hs : a.eval s = v) (hown : Own R W base lo e l v) (l2 : List α) (x2 : Value) (hx : a.eval x = x2) (hl2 : Sli R W (From W lo v.ownBlock) l2 x2)
    (h1 : ∀ (w : World) (F : Nat → Prop) y cs, R.rel w F y cs → ∀ u ∈ cs, u.oneCell' = true) (h0 : 0 < l2.length) (h63 : l.length + l2.length ≤ maxLen) (hbytes : (l.length + l2.length) * bytes ≤ 140737488355328) (hbase : base ≤ W.heap.size)
    (h : ∀ g cap w', Own R w' base lo e (l ++ l2) (.slice (some ⟨g, 0, none⟩) (l.length + l2.length) cap) → W.grownBy w' v.ownBlock → (v.ownBlock = some g ∨ g = W.heap.size) → g < w'.heap.size → K (a.put o.dst (.slice (some ⟨g, 0, none⟩) (l.length + l2.length) cap)) w') :
    if Region.wanted o (yielded ops a.tmps) = true then Oper.wp P o a W K Q else E := by
  obtain ⟨xs, hor, hl⟩ := hown
  obtain ⟨A, c, rfl, hc1, hc2, hc3⟩ := hl2
  obtain ⟨b, off, cs, rfl, hb, hlay, hcell⟩ := hc3 h0
  refine step_append_lies W hgd s x t ho base e i z R.n bytes ht hi hz hsize hby hzs hsz v l.length xs hs hor ⟨b, off, none⟩ l2.length c cs hx hlay.1 ?_ (hlay.oneC (h1 _ _)) h0 h63 hbytes hbase W.heap.size rfl ?_
  · intro j u hj
    have := hcell j u hj
    by_cases hj0 : j = 0
    · subst hj0; simpa [Addr.add] using this
    · simpa [Addr.add, hj0] using this
  · intro g cap w' h2 h3 h4 h5
    exact h g cap w' (Own.app (row := xs) (g := g) (H := W.heap.size) hl hlay h2 h3 rfl (h4.imp id fun h => ⟨h, Nat.le_refl _⟩)) h3 h4 h5

section
variable {α : Type} {R : Rep α} {e : TypeId} {w wx wy : World} {sb : Nat} {l : List α} {v : Value} {P : List (Nat × Array Value × TypeId)} {n n' : Int}
/-- The list has grown, in its row or in a new one. -/
theorem GS.more {l' : List α} {v' : Value} {g : Nat} (h : GS R e w sb l v P n wx) (hown : Own R wy w.heap.size w.heap.size e l' v') (hg : wx.grownBy wy v.ownBlock) (hv : v'.ownBlock = some g) (hat : v.ownBlock = some g ∨ g = wx.heap.size) : GS R e w sb l' v' P n wy := by
  have hz := h.size
  have hk : ∀ b, b < w.heap.size → wy.heap[b]? = wx.heap[b]? := fun b hb => hg.block b (by omega) (fun e => by have := h.own.block b e.symm; omega)
  refine ⟨h.str.keep fun b hb => hk b (by have := h.lt; omega), ⟨hg.os.trans h.gr.os, hg.tape.trans h.gr.tape, hg.output.trans h.gr.output, Nat.le_trans h.gr.size hg.size, fun i hi hne => (hk i hi).trans (h.gr.block i hi hne)⟩, hown, h.lt, fun p hp => ?_⟩
  obtain ⟨k1, k2, k3⟩ := h.prv p hp
  have hlt := heap_lt k1
  refine ⟨(hg.block p.1 hlt (fun e => k3 e.symm)).trans k1, k2, ?_⟩
  rw [hv]
  intro e
  injection e with e
  rcases hat with hat | hat
  · exact k3 (by rw [hat, e])
  · omega
/-- From elements that lie anywhere from the first block on, to such as lie apart from the row. -/
theorem GS.from_ {l2 : List α} {x2 : Value} (h : GS R e w sb l v P n wx) {b0 : Nat} (hb : ∀ g, v.ownBlock = some g → g < b0) (hlo : w.heap.size ≤ b0) (hs : Sli R wx (fun q => b0 ≤ q ∧ q < wx.heap.size) l2 x2) : Sli R wx (From wx w.heap.size v.ownBlock) l2 x2 :=
  hs.more fun q hq => ⟨by omega, hq.2, fun e => by have := hb q e.symm; omega⟩
end
end Go.Proofs.YtlfnmmnbfoimeaaGreatDoor

/- Where a generator's loop stands whose elements hold lists of their own. No program in sight. -/
namespace Go.Proofs.YtlfnmmnbfoimeaaGreatDoor
set_option linter.unusedVariables false
open Go.RowKit

/-- Inner lists lie in blocks made since w, apart from the private blocks and from the row. -/
def InF (w wx : World) (v : Value) (P : List (Nat × Array Value × TypeId)) (q : Nat) : Prop := w.heap.size ≤ q ∧ q < wx.heap.size ∧ (∀ p ∈ P, q ≠ p.1) ∧ v.ownBlock ≠ some q
structure GSI {α β : Type} (R : Rep α) (RI : Rep β) (inn : α → List β) (pv : α → Value) (e : TypeId) (w : World) (sb : Nat) (l : List α) (v : Value) (P : List (Nat × Array Value × TypeId)) (n : Int) (wx : World) : Prop where
  gs : GS R e w sb l v P n wx
  inn : ∀ x ∈ l, Sli RI wx (InF w wx v P) (inn x) (pv x)
section
variable {α β : Type} {R : Rep α} {RI : Rep β} {inn : α → List β} {pv : α → Value} {e : TypeId} {w wx wy : World} {sb : Nat} {l : List α} {v : Value} {P Q : List (Nat × Array Value × TypeId)} {n n' : Int}
theorem GSI.start (h : Str w sb n) : GSI R RI inn pv e w sb [] (.slice none 0 0) [] n w := ⟨GS.start h, fun x hx => by cases hx⟩
/-- An inner list that lies so, in a later world. -/
theorem innTurn {k : List β} {u : Value} (h : Sli RI wx (InF w wx v P) k u) (hlt : sb < w.heap.size) (hg : wx.grownBy wy (some sb)) : Sli RI wy (InF w wy v P) k u :=
  (h.keep (fun q hq => hg.block q hq.2.1 (by have := hq.1; simp; omega))).more (fun q hq => ⟨hq.1, Nat.lt_of_lt_of_le hq.2.1 hg.size, hq.2.2⟩)
theorem GSI.turn (h : GSI R RI inn pv e w sb l v P n wx) (hg : wx.grownBy wy (some sb)) (hs : Str wy sb n') : GSI R RI inn pv e w sb l v P n' wy := ⟨h.gs.turn hg hs, fun x hx => innTurn (h.inn x hx) h.gs.lt hg⟩
theorem GSI.alloc (h : GSI R RI inn pv e w sb l v P n wx) (o : Obj) : GSI R RI inn pv e w sb l v P n (wx.alloc o) := h.turn (gAlloc (gRefl wx sb) o) (h.gs.str.alloc o)
theorem GSI.below (h : GSI R RI inn pv e w sb l v P n wx) (hb : Below wx.heap.size wx wy) : GSI R RI inn pv e w sb l v P n wy := h.turn (gBelow (gRefl wx sb) hb) (h.gs.str.below hb)
theorem GSI.drew (h : GSI R RI inn pv e w sb l v P n wx) : GSI R RI inn pv e w sb l v P n wx.drew := ⟨h.gs.drew, fun x hx => (h.inn x hx).drew⟩
theorem innNew {k : List β} {u : Value} (h : Sli RI wx (InF w wx v P) k u) (cs : Array Value) (T : TypeId) : Sli RI (wx.alloc (.cells cs T)) (InF w (wx.alloc (.cells cs T)) v ((wx.heap.size, cs, T) :: P)) k u :=
  (h.alloc _ (fun q hq => hq.2.1)).more (fun q hq => ⟨hq.1, by have := hq.2.1; simp; omega, fun p hp => by
    rcases List.mem_cons.1 hp with rfl | hp
    · have := hq.2.1; dsimp only; omega
    · exact hq.2.2.1 p hp, hq.2.2.2⟩)
theorem GSI.new (h : GSI R RI inn pv e w sb l v P n wx) (cs : Array Value) (T : TypeId) : GSI R RI inn pv e w sb l v ((wx.heap.size, cs, T) :: P) n (wx.alloc (.cells cs T)) := ⟨h.gs.new cs T, fun x hx => innNew (h.inn x hx) cs T⟩
theorem innSet {k : List β} {u z : Value} {b i : Nat} {cs : Array Value} {T : TypeId} (h : Sli RI wx (InF w wx v ((b, cs, T) :: P)) k u) : Sli RI (wx.setCell ⟨b, i, none⟩ z) (InF w (wx.setCell ⟨b, i, none⟩ z) v ((b, cs.setIfInBounds i z, T) :: P)) k u :=
  (h.setCell z (p := ⟨b, i, none⟩) (fun hF => hF.2.2.1 (b, cs, T) (by simp) rfl)).more (fun q hq => ⟨hq.1, by simpa [World.setCell] using hq.2.1, fun p hp => by
    rcases List.mem_cons.1 hp with rfl | hp
    · exact hq.2.2.1 (b, cs, T) (by simp)
    · exact hq.2.2.1 p (by simp [hp]), hq.2.2.2⟩)
theorem GSI.set {b i : Nat} {cs : Array Value} {T : TypeId} (h : GSI R RI inn pv e w sb l v ((b, cs, T) :: P) n wx) (hf : ∀ {w w' : World} {F : Nat → Prop} {x : α} {cs : List Value}, R.rel w F x cs → R.rel w' F x cs) (u : Value) (hd : ∀ p ∈ P, p.1 ≠ b) : GSI R RI inn pv e w sb l v ((b, cs.setIfInBounds i u, T) :: P) n (wx.setCell ⟨b, i, none⟩ u) := ⟨h.gs.set hf u hd, fun x hx => innSet (h.inn x hx)⟩
theorem InF.less (hq : ∀ p ∈ Q, p ∈ P) {q : Nat} (h : InF w wx v P q) : InF w wx v Q q := ⟨h.1, h.2.1, fun p hp => h.2.2.1 p (hq p hp), h.2.2.2⟩
theorem GSI.less (h : GSI R RI inn pv e w sb l v P n wx) (hq : ∀ p ∈ Q, p ∈ P) : GSI R RI inn pv e w sb l v Q n wx := ⟨h.gs.less hq, fun x hx => (h.inn x hx).more fun _ hF => hF.less hq⟩
/-- One element more, with its inner list. -/
theorem GSI.more {x' : α} {v' : Value} {g : Nat} (h : GSI R RI inn pv e w sb l v P n wx) (hown : Own R wy w.heap.size w.heap.size e (l ++ [x']) v') (hg : wx.grownBy wy v.ownBlock) (hv : v'.ownBlock = some g) (hat : v.ownBlock = some g ∨ g = wx.heap.size)
    (hi : Sli RI wx (InF w wx v P) (inn x') (pv x')) : GSI R RI inn pv e w sb (l ++ [x']) v' P n wy := by
  have key : ∀ k u, Sli RI wx (InF w wx v P) k u → Sli RI wy (InF w wy v' P) k u := fun k u hs =>
    (hs.keep fun q hq => hg.block q hq.2.1 fun e => hq.2.2.2 e.symm).more fun q hq => ⟨hq.1, Nat.lt_of_lt_of_le hq.2.1 hg.size, hq.2.2.1, by
      rw [hv]
      intro e
      injection e with e
      rcases hat with hat | hat
      · exact hq.2.2.2 (by rw [hat, e])
      · have := hq.2.1; omega⟩
  exact ⟨h.gs.more hown hg hv hat, fun x hx => by
    rcases List.mem_append.1 hx with hx | hx
    · exact key _ _ (h.inn x hx)
    · rw [List.mem_singleton] at hx; subst hx; exact key _ _ hi⟩
end
end Go.Proofs.YtlfnmmnbfoimeaaGreatDoor

/- A store into an element of a list of one's own. No program in sight. -/
namespace Go.Proofs.YtlfnmmnbfoimeaaGreatDoor
set_option linter.unusedVariables false
open Go.RowKit

theorem take_drop_set {xs : List Value} {i a n : Nat} {u : Value} (h : i < a ∨ a + n ≤ i) : ((xs.set i u).drop a).take n = (xs.drop a).take n := by
  apply List.ext_getElem?
  intro j
  simp only [List.getElem?_take, List.getElem?_drop, List.getElem?_set]
  by_cases hj : j < n
  · rw [if_pos hj, if_pos hj, if_neg (by omega)]
  · rw [if_neg hj, if_neg hj]
theorem take_drop_set_in {xs : List Value} {a j n : Nat} {u : Value} (hj : j < n) (hl : a + j < xs.length) : ((xs.set (a + j) u).drop a).take n = ((xs.drop a).take n).set j u := by
  apply List.ext_getElem?
  intro i
  simp only [List.getElem?_take, List.getElem?_drop, List.getElem?_set, List.length_take, List.length_drop]
  by_cases hi : i < n
  · rw [if_pos hi, if_pos hi]
    by_cases e : j = i
    · subst e
      rw [if_pos rfl, if_pos rfl, if_pos hl, if_pos (by omega)]
    · rw [if_neg (by omega), if_neg e]
  · rw [if_neg hi, if_neg hi, if_neg (by omega)]
section
variable {α : Type} {n : Nat} {enc : α → List Value} {hn : ∀ x, (enc x).length = n} {w : World} {base lo : Nat} {e : TypeId} {l : List α} {v : Value}
theorem Lay.modify {F G : Nat → Prop} {w' : World} {xs : List Value} (h : Lay (Rep.flat n enc hn) w F l xs) (f : α → α) (k j : Nat) (u : Value) (hf : ∀ x, enc (f x) = (enc x).set j u) (hj : j < n) (hk : k < l.length) : Lay (Rep.flat n enc hn) w' G (l.modify k f) (xs.set (k * n + j) u) := by
  have h1 : xs.length = l.length * n := h.1
  refine ⟨by rw [List.length_set, List.length_modify]; exact h.1, fun i x hx => ?_⟩
  show ((xs.set (k * n + j) u).drop (i * n)).take n = enc x
  rw [List.getElem?_modify] at hx
  have hkn : (k + 1) * n ≤ l.length * n := Nat.mul_le_mul_right _ hk
  rw [Nat.add_mul, Nat.one_mul] at hkn
  by_cases e : k = i
  · subst e
    rw [List.getElem?_eq_getElem hk] at hx
    simp at hx
    have hz : (xs.drop (k * n)).take n = enc l[k] := h.2 k _ (List.getElem?_eq_getElem hk)
    rw [take_drop_set_in hj (by omega), hz, ← hx, hf]
  · have hx' : l[i]? = some x := by
      rw [← hx]
      cases l[i]? <;> simp [e]
    have hz : (xs.drop (i * n)).take n = enc x := h.2 i x hx'
    rw [take_drop_set ?_, hz]
    rcases Nat.lt_or_gt_of_ne e with h2 | h2
    · left
      have : (k + 1) * n ≤ i * n := Nat.mul_le_mul_right _ h2
      rw [Nat.add_mul, Nat.one_mul] at this
      omega
    · right
      have : (i + 1) * n ≤ k * n := Nat.mul_le_mul_right _ h2
      rw [Nat.add_mul, Nat.one_mul] at this
      omega
/-- The store at cell j of element k. -/
theorem Own.modify {g m cap : Nat} (h : Own (Rep.flat n enc hn) w base lo e l (.slice (some ⟨g, 0, none⟩) m cap)) (f : α → α) (k j : Nat) (u : Value) (hf : ∀ x, enc (f x) = (enc x).set j u) (hj : j < n) (hk : k < l.length) :
    Own (Rep.flat n enc hn) (w.setCell ⟨g, k * n + j, none⟩ u) base lo e (l.modify k f) (.slice (some ⟨g, 0, none⟩) m cap) := by
  obtain ⟨xs, ho, hl⟩ := h
  refine ⟨xs.set (k * n + j) u, ⟨by rw [List.length_set, List.length_modify]; exact ho.1, ?_⟩, hl.modify f k j u hf hj hk⟩
  rcases ho.2 with ⟨hv, _⟩ | ⟨g', cap', cur, hv, hb, hg, h1, h2, h3, h4⟩
  · cases hv
  · injection hv with hv1 hv2 hv3
    injection hv1 with hv1
    injection hv1 with hv1
    subst hv1; subst hv3
    refine .inr ⟨g, cap, cur.setIfInBounds (k * n + j) u, by rw [List.length_modify]; rw [hv2], hb, by simp [World.setCell, Array.getElem?_modify, hg], by rw [List.length_modify]; exact h1, h2, by simpa using h3, ?_⟩
    rw [List.length_modify, ← h4]
    have hkn : (k + 1) * n ≤ l.length * n := Nat.mul_le_mul_right _ hk
    rw [Nat.add_mul, Nat.one_mul] at hkn
    show (cur.setIfInBounds (k * n + j) u).toList.take (l.length * n) = (cur.toList.take (l.length * n)).set (k * n + j) u
    rw [Array.toList_setIfInBounds, List.take_set]
/-- A row that begins behind a block begins behind an earlier one. -/
theorem Own.less {base' lo' : Nat} (h : Own (Rep.flat n enc hn) w base lo e l v) (hb : base' ≤ base) : Own (Rep.flat n enc hn) w base' lo' e l v := by
  obtain ⟨xs, ho, hl⟩ := h
  refine ⟨xs, ⟨ho.1, ?_⟩, hl⟩
  rcases ho.2 with hv | ⟨g, cap, cur, hv, hg, rest⟩
  · exact .inl hv
  · exact .inr ⟨g, cap, cur, hv, by omega, rest⟩
/-- Cell j of element k, and that it may be written. -/
theorem Own.cellAt {g m cap : Nat} (h : Own (Rep.flat n enc hn) w base lo e l (.slice (some ⟨g, 0, none⟩) m cap)) (k : Nat) (hk : k < l.length) (j : Nat) (hj : j < n) : w.cell? ⟨g, k * n + j, none⟩ = (enc l[k])[j]? ∧ w.frozen? ⟨g, k * n + j, none⟩ = false := by
  obtain ⟨xs, ho, hl⟩ := h
  rcases ho.2 with ⟨hv, _⟩ | ⟨g', cap', cur, hv, hb, hg, h1, h2, h3, h4⟩
  · cases hv
  · injection hv with hv1 hv2 hv3
    injection hv1 with hv1
    injection hv1 with hv1
    subst hv1; subst hv3
    obtain ⟨h5, h6⟩ := str_cells hg
    refine ⟨?_, h6 _⟩
    rw [h5]
    have hz : (xs.drop (k * n)).take n = enc l[k] := hl.2 k _ (List.getElem?_eq_getElem hk)
    have hkn : (k + 1) * n ≤ l.length * n := Nat.mul_le_mul_right _ hk
    rw [Nat.add_mul, Nat.one_mul] at hkn
    rw [← hz, List.getElem?_take, if_pos hj, List.getElem?_drop, ← h4, List.getElem?_take, if_pos (by show k * n + j < l.length * n; omega)]
    simp
/-- The row is never nil when it has elements. -/
theorem Own.some_ (h : Own (Rep.flat n enc hn) w base lo e l v) (h0 : 0 < l.length) : ∃ g cap, v = .slice (some ⟨g, 0, none⟩) l.length cap ∧ base ≤ g ∧ g < w.heap.size := by
  rcases h.form with ⟨_, rfl⟩ | ⟨g, cap, hv, hb, hg, _⟩
  · simp at h0
  · exact ⟨g, cap, hv, hb, hg⟩
end
section
variable {α β : Type} {RI : Rep β} {inn : α → List β} {pv : α → Value} {n : Nat} {enc : α → List Value} {hn : ∀ x, (enc x).length = n} {e : TypeId} {w wx wy : World} {sb : Nat} {l : List α} {P : List (Nat × Array Value × TypeId)} {k0 : Int}
theorem GS.modify {g m cap : Nat} (h : GS (Rep.flat n enc hn) e w sb l (.slice (some ⟨g, 0, none⟩) m cap) P k0 wx) (f : α → α) (k j : Nat) (u : Value) (hf : ∀ x, enc (f x) = (enc x).set j u) (hj : j < n) (hk : k < l.length) :
    GS (Rep.flat n enc hn) e w sb (l.modify k f) (.slice (some ⟨g, 0, none⟩) m cap) P k0 (wx.setCell ⟨g, k * n + j, none⟩ u) := by
  have hg := h.own.block g rfl
  refine ⟨h.str.setCell (by have := h.lt; show sb < g; omega) _, gSet h.gr hg.1 _, h.own.modify f k j u hf hj hk, h.lt, fun p hp => ?_⟩
  obtain ⟨h1, h2, h3⟩ := h.prv p hp
  exact ⟨(Below.heap_setCell wx ⟨g, k * n + j, none⟩ u _ (by intro e; exact h3 (by rw [e]; rfl))).trans h1, h2, h3⟩
theorem GSI.modify {g m cap : Nat} (h : GSI (Rep.flat n enc hn) RI inn pv e w sb l (.slice (some ⟨g, 0, none⟩) m cap) P k0 wx) (f : α → α) (k j : Nat) (u : Value) (hf : ∀ x, enc (f x) = (enc x).set j u) (hj : j < n) (hk : k < l.length) (hi : ∀ x, inn (f x) = inn x) (hp : ∀ x, pv (f x) = pv x) :
    GSI (Rep.flat n enc hn) RI inn pv e w sb (l.modify k f) (.slice (some ⟨g, 0, none⟩) m cap) P k0 (wx.setCell ⟨g, k * n + j, none⟩ u) := by
  refine ⟨h.gs.modify f k j u hf hj hk, fun x hx => ?_⟩
  have key : ∀ y ∈ l, Sli RI (wx.setCell ⟨g, k * n + j, none⟩ u) (InF w (wx.setCell ⟨g, k * n + j, none⟩ u) (.slice (some ⟨g, 0, none⟩) m cap) P) (inn y) (pv y) := fun y hy =>
    ((h.inn y hy).setCell u (p := ⟨g, k * n + j, none⟩) (fun hF => hF.2.2.2 rfl)).more fun q hq => ⟨hq.1, by simpa [World.setCell] using hq.2.1, hq.2.2⟩
  obtain ⟨i, hi2⟩ := List.mem_iff_getElem?.1 hx
  rw [List.getElem?_modify] at hi2
  cases hli : l[i]? with
  | none => rw [hli] at hi2; simp at hi2
  | some y =>
    rw [hli] at hi2
    have hm : y ∈ l := List.mem_iff_getElem?.2 ⟨i, hli⟩
    simp at hi2
    by_cases e : k = i
    · rw [if_pos e] at hi2; rw [← hi2, hi, hp]; exact key y hm
    · rw [if_neg e] at hi2; rw [← hi2]; exact key y hm
end
end Go.Proofs.YtlfnmmnbfoimeaaGreatDoor

/- Where a loop stands that fills a list of its own: what it has left as it was, the list so far, and blocks of its own. No program in sight. -/
namespace Go.Proofs.YtlfnmmnbfoimeaaGreatDoor
set_option linter.unusedVariables false
open Go.RowKit

structure BO {α : Type} (R : Rep α) (e : TypeId) (w : World) (l : List α) (v : Value) (P : List (Nat × Array Value × TypeId)) (wx : World) : Prop where
  bel : Below w.heap.size w wx
  own : Own R wx w.heap.size w.heap.size e l v
  prv : ∀ p ∈ P, wx.heap[p.1]? = some (.cells p.2.1 p.2.2 (0, 0)) ∧ w.heap.size ≤ p.1 ∧ v.ownBlock ≠ some p.1
section
variable {α : Type} {R : Rep α} {e : TypeId} {w wx wy : World} {l : List α} {v : Value} {P Q : List (Nat × Array Value × TypeId)}
theorem BO.start (w : World) : BO R e w [] (.slice none 0 0) [] w := ⟨Below.refl _ _, Own.nil_, fun p hp => by cases hp⟩
theorem BO.size (h : BO R e w l v P wx) : w.heap.size ≤ wx.heap.size := h.bel.size
theorem BO.plt (h : BO R e w l v P wx) {p : Nat × Array Value × TypeId} (hp : p ∈ P) : p.1 < wx.heap.size := heap_lt (h.prv p hp).1
theorem BO.below (h : BO R e w l v P wx) (hb : Below wx.heap.size wx wy) : BO R e w l v P wy :=
  ⟨h.bel.trans (hb.mono h.size), h.own.below hb, fun p hp => ⟨(hb.block _ (h.plt hp)).trans (h.prv p hp).1, (h.prv p hp).2⟩⟩
theorem BO.alloc (h : BO R e w l v P wx) (o : Obj) : BO R e w l v P (wx.alloc o) := h.below ((Below.refl _ wx).alloc (Nat.le_refl _) o)
theorem BO.drew (h : BO R e w l v P wx) : BO R e w l v P wx.drew := ⟨⟨h.bel.os, h.bel.tape, h.bel.output, h.bel.size, h.bel.block⟩, h.own.drew, h.prv⟩
theorem BO.new (h : BO R e w l v P wx) (cs : Array Value) (T : TypeId) : BO R e w l v ((wx.heap.size, cs, T) :: P) (wx.alloc (.cells cs T)) := by
  have h2 := h.alloc (.cells cs T)
  refine ⟨h2.bel, h2.own, fun p hp => ?_⟩
  rcases List.mem_cons.1 hp with rfl | hp
  · exact ⟨heap_alloc_new wx _, h.size, fun e => by have := h.own.block _ e; omega⟩
  · exact h2.prv p hp
theorem belSet (h : Below w.heap.size w wx) {p : Addr} (hp : w.heap.size ≤ p.block) (u : Value) : Below w.heap.size w (wx.setCell p u) :=
  ⟨h.os, h.tape, h.output, by simpa [World.setCell] using h.size, fun i hi => (Below.heap_setCell wx p u i (by omega)).trans (h.block i hi)⟩
theorem BO.set {b i : Nat} {cs : Array Value} {T : TypeId} (h : BO R e w l v ((b, cs, T) :: P) wx) (hf : ∀ {w w' : World} {F : Nat → Prop} {x : α} {cs : List Value}, R.rel w F x cs → R.rel w' F x cs) (u : Value) (hd : ∀ p ∈ P, p.1 ≠ b) : BO R e w l v ((b, cs.setIfInBounds i u, T) :: P) (wx.setCell ⟨b, i, none⟩ u) := by
  obtain ⟨h1, h2, h3⟩ := h.prv (b, cs, T) (by simp)
  dsimp only at h1 h2 h3
  refine ⟨belSet h.bel h2 u, ?_, fun p hp => ?_⟩
  · obtain ⟨xs, ho, hl⟩ := h.own
    refine ⟨xs, ⟨ho.1, ?_⟩, ⟨hl.1, fun k x hx => ?_⟩⟩
    · rcases ho.2 with hn | ⟨g, cap, cur, rfl, hb, hg, rest⟩
      · exact .inl hn
      · exact .inr ⟨g, cap, cur, rfl, hb, (Below.heap_setCell wx ⟨b, i, none⟩ u g (by intro e; exact h3 (by rw [e]; rfl))).trans hg, rest⟩
    · exact hf (R.more (hl.2 k x hx) (fun q hq => ⟨hq.1, by simpa [World.setCell] using hq.2.1, hq.2.2⟩))
  · rcases List.mem_cons.1 hp with rfl | hp
    · exact ⟨by simp [World.setCell, Array.getElem?_modify, h1], h2, h3⟩
    · obtain ⟨k1, k2, k3⟩ := h.prv p (by simp [hp])
      exact ⟨(Below.heap_setCell wx ⟨b, i, none⟩ u _ (by have := hd p hp; show p.1 ≠ b; exact this)).trans k1, k2, k3⟩
theorem BO.less (h : BO R e w l v P wx) (hq : ∀ p ∈ Q, p ∈ P) : BO R e w l v Q wx := ⟨h.bel, h.own, fun p hp => h.prv p (hq p hp)⟩
theorem BO.cell (h : BO R e w l v P wx) {p : Nat × Array Value × TypeId} (hp : p ∈ P) : (∀ i, wx.cell? ⟨p.1, i, none⟩ = p.2.1[i]?) ∧ (∀ i, wx.frozen? ⟨p.1, i, none⟩ = false) := str_cells (h.prv p hp).1
/-- The list has grown, in its row or in a new one. -/
theorem BO.more {l' : List α} {v' : Value} {g : Nat} (h : BO R e w l v P wx) (hown : Own R wy w.heap.size w.heap.size e l' v') (hg : wx.grownBy wy v.ownBlock) (hv : v'.ownBlock = some g) (hat : v.ownBlock = some g ∨ g = wx.heap.size) : BO R e w l' v' P wy := by
  have hz := h.size
  refine ⟨h.bel.grown hg hz (fun k hk => (h.own.block k hk).1), hown, fun p hp => ?_⟩
  obtain ⟨k1, k2, k3⟩ := h.prv p hp
  have hlt := heap_lt k1
  refine ⟨(hg.block p.1 hlt (fun e => k3 e.symm)).trans k1, k2, ?_⟩
  rw [hv]
  intro e
  injection e with e
  rcases hat with hat | hat
  · exact k3 (by rw [hat, e])
  · omega
/-- A list that a call has made takes the place of an empty one. -/
theorem BO.take {l' : List α} {v' : Value} (h : BO R e w l v P wx) (hb : Below wx.heap.size wx wy) (hown : Own R wy wx.heap.size wx.heap.size e l' v') (hl : Own R wy w.heap.size w.heap.size e l' v') : BO R e w l' v' P wy :=
  ⟨h.bel.trans (hb.mono h.size), hl, fun p hp => ⟨(hb.block _ (h.plt hp)).trans (h.prv p hp).1, (h.prv p hp).2.1, fun e => by have := hown.block _ e; have := h.plt hp; omega⟩⟩
end
section
variable {α : Type} {n : Nat} {enc : α → List Value} {hn : ∀ x, (enc x).length = n} {e : TypeId} {w wx wy : World} {l : List α} {P : List (Nat × Array Value × TypeId)}
theorem BO.modify {g m cap : Nat} (h : BO (Rep.flat n enc hn) e w l (.slice (some ⟨g, 0, none⟩) m cap) P wx) (f : α → α) (k j : Nat) (u : Value) (hf : ∀ x, enc (f x) = (enc x).set j u) (hj : j < n) (hk : k < l.length) :
    BO (Rep.flat n enc hn) e w (l.modify k f) (.slice (some ⟨g, 0, none⟩) m cap) P (wx.setCell ⟨g, k * n + j, none⟩ u) := by
  have hg := h.own.block g rfl
  refine ⟨belSet h.bel hg.1 u, h.own.modify f k j u hf hj hk, fun p hp => ?_⟩
  obtain ⟨h1, h2, h3⟩ := h.prv p hp
  exact ⟨(Below.heap_setCell wx ⟨g, k * n + j, none⟩ u _ (by intro e; exact h3 (by rw [e]; rfl))).trans h1, h2, h3⟩
end
end Go.Proofs.YtlfnmmnbfoimeaaGreatDoor

/- Where a loop stands beside a stream, that fills a list whose elements hold lists of their own, the last of these under way; with blocks of its own of any kind. No program in sight. -/
namespace Go.Proofs.YtlfnmmnbfoimeaaGreatDoor
set_option linter.unusedVariables false
open Go.RowKit

abbrev Pb := Nat × (Option Obj → Prop)
theorem Own.fkeep {α : Type} {n : Nat} {enc : α → List Value} {hn : ∀ x, (enc x).length = n} {w w' : World} {base lo : Nat} {e : TypeId} {l : List α} {v : Value} (h : Own (Rep.flat n enc hn) w base lo e l v) (hk : ∀ g, v.ownBlock = some g → g < w.heap.size → w'.heap[g]? = w.heap[g]?) : Own (Rep.flat n enc hn) w' base lo e l v := by
  obtain ⟨xs, ho, hl⟩ := h
  refine ⟨xs, ⟨ho.1, ?_⟩, hl⟩
  rcases ho.2 with hv | ⟨g, cap, cur, rfl, hb, hg, rest⟩
  · exact .inl hv
  · exact .inr ⟨g, cap, cur, rfl, hb, by rw [hk g rfl (heap_lt hg)]; exact hg, rest⟩
section
variable {α β : Type} {n1 n2 : Nat} {enc : α → List Value} {h1 : ∀ x, (enc x).length = n1} {enc2 : β → List Value} {h2 : ∀ x, (enc2 x).length = n2} {inn : α → List β} {pv : α → Value} {e e2 : TypeId}
  {w wx wy : World} {sb : Nat} {l : List α} {v : Value} {lc : List β} {vc : Value} {P Q : List Pb} {n n' : Int}
end
end Go.Proofs.YtlfnmmnbfoimeaaGreatDoor

/- A list of one's own whose elements hold lists of their own that may still grow. No program in sight. -/
namespace Go.Proofs.YtlfnmmnbfoimeaaGreatDoor
set_option linter.unusedVariables false
open Go.RowKit

section
variable {α : Type} {n : Nat} {enc : α → List Value} {hn : ∀ x, (enc x).length = n} {w w' : World} {base lo : Nat} {e : TypeId} {l : List α} {v : Value}
/-- A row of plain cells stays where its own block stays. -/
theorem Own.keepF (h : Own (Rep.flat n enc hn) w base lo e l v) (hk : ∀ g, v.ownBlock = some g → w'.heap[g]? = w.heap[g]?) (hs : w.heap.size ≤ w'.heap.size) : Own (Rep.flat n enc hn) w' base lo e l v := by
  obtain ⟨xs, ho, hl⟩ := h
  refine ⟨xs, ⟨ho.1, ?_⟩, hl⟩
  rcases ho.2 with hn | ⟨g, cap, cur, rfl, hb, hg, rest⟩
  · exact .inl hn
  · exact .inr ⟨g, cap, cur, rfl, hb, by rw [hk g rfl]; exact hg, rest⟩
/-- The cells of a row of plain cells, where its own block lies. -/
theorem Own.sliF {F : Nat → Prop} (h : Own (Rep.flat n enc hn) w base lo e l v) (hB : ∀ g, v.ownBlock = some g → F g) : Sli (Rep.flat n enc hn) w F l v := by
  obtain ⟨xs, ho, hl⟩ := h
  exact Sli.own (R := Rep.flat n enc hn) ho hl rfl (fun b c hv => hB b (by rw [hv]; rfl))
end
section
variable {α β : Type} {n m : Nat} {enc : α → List Value} {hn : ∀ x, (enc x).length = n} {encI : β → List Value} {hm : ∀ x, (encI x).length = m} {inn : α → List β} {pv : α → Value} {e eI : TypeId} {w wx wy : World} {l : List α} {v : Value} {P Q : List (Nat × Array Value × TypeId)}
end
end Go.Proofs.YtlfnmmnbfoimeaaGreatDoor

/- Where a loop stands that fills a list of its own beside blocks of its own of any kind (maps, too). No program in sight. -/
namespace Go.Proofs.YtlfnmmnbfoimeaaGreatDoor
set_option linter.unusedVariables false
open Go.RowKit

section
variable {α : Type} {n : Nat} {enc : α → List Value} {hn : ∀ x, (enc x).length = n} {e : TypeId} {w wx wy : World} {l l' : List α} {v v' : Value} {P Q : List Pb}
end
end Go.Proofs.YtlfnmmnbfoimeaaGreatDoor

/- Append of one element onto a row of one's own: what the old row holds stays, wherever the new one lies. No program in sight. -/
namespace Go.Proofs.YtlfnmmnbfoimeaaGreatDoor
set_option linter.unusedVariables false
open Go.RowKit

theorem came_own {w : World} {base : Nat} {e : TypeId} {size : Nat} {g n cap : Nat} {xs : List Value} (h : w.ownsRow base e size (.slice (some ⟨g, 0, none⟩) n cap) n xs) : Came w size (some ⟨g, 0, none⟩) g 0 n cap xs := by
  rcases h.2 with ⟨hv, _⟩ | ⟨g', cap', cur, hv, hb, hg, h1, h2, h3, h4⟩
  · cases hv
  · injection hv with hv1 hv2 hv3
    injection hv1 with hv1
    injection hv1 with hv1
    subst hv1; subst hv3
    obtain ⟨h5, h6⟩ := str_cells hg
    refine ⟨h1, fun _ => rfl, fun _ => heap_lt hg, h.1, fun j u hj => ?_, fun j hj => ⟨?_, h6 _⟩⟩
    · rw [h5, Nat.zero_add, ← Array.getElem?_toList]
      have hlt : j < n * size := by rw [← h.1]; exact (List.getElem?_eq_some_iff.1 hj).1
      rw [← h4, List.getElem?_take, if_pos hlt] at hj
      exact hj
    · rw [h5, Nat.zero_add]
      have : n * size + j < cur.size := by
        rw [h3]
        rw [Nat.sub_mul] at hj
        omega
      simp [this]
theorem run_push_keeps {P : Program} {W : World} {base : Nat} {e : TypeId} {size : Nat} {g0 n cap0 : Nat} {xs : List Value} (hown : W.ownsRow base e size (.slice (some ⟨g0, 0, none⟩) n cap0) n xs)
    (t ty : TypeId) (i : TypeInfo) (z : Value) (bytes : Nat) (ht : P.underlying t = some (.slice e)) (hi : P.info? e = some i) (hz : i.zero = some z) (hsize : i.size = size) (hby : i.bytes = bytes) (hzs : z.cells.size = size) (hsz : 0 < size)
    (ad : Addr) (c : Nat) (news : List Value) (hl : news.length = 1 * size) (hnews : ∀ j u, news[j]? = some u → W.cell? (ad.add j) = some u) (h1 : ∀ u ∈ news, u.oneCell' = true)
    (h63 : n + 1 ≤ maxLen) (hbytes : (n + 1) * bytes ≤ 140737488355328) (hbase : base ≤ W.heap.size) :
    ∃ g cap w', (Builtin.append_ #[t, t] ty #[.slice (some ⟨g0, 0, none⟩) n cap0, .slice (some ad) 1 c]).run P W = .ok (.slice (some ⟨g, 0, none⟩) (n + 1) cap) w' ∧
      w'.ownsRow base e size (.slice (some ⟨g, 0, none⟩) (n + 1) cap) (n + 1) (xs ++ news) ∧ W.grownBy w' (some g0) ∧ (some g0 = some g ∨ g = W.heap.size) ∧ g < w'.heap.size ∧ (∀ j, j < n * size → w'.cell? ⟨g0, j, none⟩ = W.cell? ⟨g0, j, none⟩) := by
  obtain ⟨g, cap, w', hr, h2, h3, h4, h5⟩ := run_append_lies (P := P) W t ty base e i z size bytes ht hi hz hsize hby hzs hsz _ n xs hown ad 1 c news hl hnews h1 (by omega) h63 hbytes hbase W.heap.size rfl
  have hc := came_own hown
  obtain ⟨v2, w2, hr2, ho⟩ := run_append_onto (P := P) hc t ty i z bytes ht hi hz hsize hby hzs hsz (Onto.start hc) ad c news hl hnews h1 h63 hbytes
  have hg0 : g0 < W.heap.size := by
    rcases hown.2 with ⟨hv, _⟩ | ⟨g', cap', cur, hv, hb, hg, _⟩
    · cases hv
    · injection hv with hv1 hv2 hv3
      injection hv1 with hv1
      injection hv1 with hv1
      subst hv1
      exact heap_lt hg
  refine ⟨g, cap, w', hr, h2, h3, h4, h5, fun j hj => ?_⟩
  have e := hr.symm.trans hr2
  injection e with e1 e2
  subst e2
  exact ho.old hg0 (fun j' _ _ ⟨_, e⟩ => by omega)
end Go.Proofs.YtlfnmmnbfoimeaaGreatDoor

/- Append of one element, at the operation itself: for regions that draw their order. No program in sight. -/
namespace Go.Proofs.YtlfnmmnbfoimeaaGreatDoor
set_option linter.unusedVariables false
open Go.RowKit

/-- The same, the old row's cells told. -/
theorem oper_pushK {P : Program} {α : Type} {R : Rep α} {o : Oper} {a : Act} {K : Act → World → Prop} {Q : Exit → Act → World → Prop} (hgd : o.guard = none) (s x : Operand) (t : TypeId)
    (ho : o.op = .call { callee := .builtin .append, args := #[s, x], argTypes := #[t, t] })
    (base lo : Nat) (e : TypeId) (i : TypeInfo) (z : Value) (bytes : Nat) (ht : P.underlying t = some (.slice e)) (hi : P.info? e = some i) (hz : i.zero = some z)
    (hsize : i.size = R.n) (hby : i.bytes = bytes) (hzs : z.cells.size = R.n) (hsz : 0 < R.n)
    (W : World) (g0 cap0 n : Nat) (l : List α) (hln : l.length = n) (hs : a.eval s = .slice (some ⟨g0, 0, none⟩) n cap0) (hown : Own R W base lo e l (.slice (some ⟨g0, 0, none⟩) n cap0)) (y : α) (cs : List Value) (hy : R.rel W (From W lo (some g0)) y cs) (h1 : ∀ u ∈ cs, u.oneCell' = true)
    (B : Nat) (T : TypeId) (c : Nat) (hB : W.heap[B]? = some (.cells cs.toArray T (0, 0))) (hx : a.eval x = .slice (some ⟨B, 0, none⟩) 1 c) (h63 : n + 1 ≤ maxLen) (hbytes : (n + 1) * bytes ≤ 140737488355328) (hbase : base ≤ W.heap.size)
    (h : ∀ g cap w', Own R w' base lo e (l ++ [y]) (.slice (some ⟨g, 0, none⟩) (n + 1) cap) → W.grownBy w' (some g0) → (some g0 = some g ∨ g = W.heap.size) → g < w'.heap.size → (∀ j, j < n * R.n → w'.cell? ⟨g0, j, none⟩ = W.cell? ⟨g0, j, none⟩) → K (a.put o.dst (.slice (some ⟨g, 0, none⟩) (n + 1) cap)) w') :
    Oper.wp P o a W K Q := by
  subst hln
  obtain ⟨xs, hor, hl⟩ := hown
  have hn := R.len hy
  obtain ⟨g, cap, w', hr, h2, h3, h4, h5, h6⟩ := run_push_keeps (P := P) hor t o.type i z bytes ht hi hz hsize hby hzs hsz ⟨B, 0, none⟩ c cs (by rw [hn, Nat.one_mul]) (fun j u hj => World.news_of_block hB j u (by simpa using hj)) h1 h63 hbytes hbase
  unfold Oper.wp execOp
  simp only [ho, resolve, invoke, builtin, Sem.run_bind, Sem.run_pure, Result.andThen_ok, List.map_toArray, List.map_cons, List.map_nil, hs, hx, hr]
  exact h g cap w' (Own.push (v := .slice (some ⟨g0, 0, none⟩) l.length cap0) (row := xs) (g := g) (H := W.heap.size) hl hy h2 h3 rfl (h4.imp id fun h => ⟨h, Nat.le_refl _⟩)) h3 h4 h5 h6
end Go.Proofs.YtlfnmmnbfoimeaaGreatDoor

/- Append of several texts at once onto a list of one's own. No program in sight. -/
namespace Go.Proofs.YtlfnmmnbfoimeaaGreatDoor
set_option linter.unusedVariables false
open Go.RowKit

theorem lay_strs {w : World} {F : Nat → Prop} : ∀ (zs l : List ByteArray) (xs : List Value), Lay strR w F l xs → Lay strR w F (l ++ zs) (xs ++ zs.map (Value.string)) := by
  intro zs
  induction zs with
  | nil => intro l xs h; simpa using h
  | cons z r ih =>
    intro l xs h
    have h2 := ih (l ++ [z]) (xs ++ [.string z]) (h.snoc (show strR.rel w F z [.string z] from rfl))
    simpa using h2
/-- 'append(out, a, b, ..)' at the operation: the texts lie in a block of their own. -/
theorem wpList_pushS {P : Program} {ops : Array Oper} {rest : List Oper} {o : Oper} {a : Act} {Q : Exit → Act → World → Prop} (hgd : o.guard = none) (s x : Operand) (t : TypeId)
    (ho : o.op = .call { callee := .builtin .append, args := #[s, x], argTypes := #[t, t] })
    (base lo : Nat) (e : TypeId) (i : TypeInfo) (z : Value) (bytes : Nat) (ht : P.underlying t = some (.slice e)) (hi : P.info? e = some i) (hz : i.zero = some z)
    (hsize : i.size = 1) (hby : i.bytes = bytes) (hzs : z.cells.size = 1)
    (W : World) (v : Value) (l : List ByteArray) (hs : a.eval s = v) (hown : Own strR W base lo e l v) (zs : List ByteArray) (h0 : 0 < zs.length)
    (B : Nat) (T : TypeId) (c : Nat) (hB : W.heap[B]? = some (.cells (zs.map (Value.string)).toArray T (0, 0))) (hx : a.eval x = .slice (some ⟨B, 0, none⟩) zs.length c) (h63 : l.length + zs.length ≤ maxLen) (hbytes : (l.length + zs.length) * bytes ≤ 140737488355328) (hbase : base ≤ W.heap.size)
    (h : ∀ g cap w', Own strR w' base lo e (l ++ zs) (.slice (some ⟨g, 0, none⟩) (l.length + zs.length) cap) → W.grownBy w' v.ownBlock → (v.ownBlock = some g ∨ g = W.heap.size) → g < w'.heap.size → wpList P ops Q rest (a.put o.dst (.slice (some ⟨g, 0, none⟩) (l.length + zs.length) cap)) w') :
    wpList P ops Q (o :: rest) a W := by
  obtain ⟨xs, hor, hl⟩ := hown
  have hor1 : W.ownsRow base e 1 v l.length xs := hor
  refine wpList_append_lies W hgd s x t ho base e i z 1 bytes ht hi hz hsize hby hzs (by omega) v l.length xs hs hor1 ⟨B, 0, none⟩ zs.length c (zs.map (Value.string)) hx (by simp) ?_ (fun u hu => ?_) h0 h63 hbytes hbase W.heap.size rfl ?_
  · intro j u hj
    exact World.news_of_block hB j u (by simpa using hj)
  · obtain ⟨y, _, rfl⟩ := List.mem_map.1 hu
    rfl
  · intro g cap w' h2 h3 h4 h5
    refine h g cap w' ⟨xs ++ zs.map (Value.string), by rw [List.length_append]; exact h2, ?_⟩ h3 h4 h5
    have hF : ∀ b, From W lo v.ownBlock b → From w' lo (some g) b := fun b hb => ⟨hb.1, Nat.lt_of_lt_of_le hb.2.1 h3.size, by
      rcases h4 with h | h
      · rw [← h]; exact hb.2.2
      · intro e; injection e with e; have := hb.2.1; omega⟩
    have hk : ∀ b, From W lo v.ownBlock b → w'.heap[b]? = W.heap[b]? := fun b hb => h3.block b hb.2.1 hb.2.2
    exact ((lay_strs zs l xs hl).keep hk).more hF
/-- One text, two texts. -/
theorem wpList_pushS1 {P : Program} {ops : Array Oper} {rest : List Oper} {o : Oper} {a : Act} {Q : Exit → Act → World → Prop} (hgd : o.guard = none) (s x : Operand) (t : TypeId)
    (ho : o.op = .call { callee := .builtin .append, args := #[s, x], argTypes := #[t, t] })
    (base lo : Nat) (e : TypeId) (i : TypeInfo) (z : Value) (ht : P.underlying t = some (.slice e)) (hi : P.info? e = some i) (hz : i.zero = some z)
    (hsize : i.size = 1) (hby : i.bytes = 16) (hzs : z.cells.size = 1)
    (W : World) (v : Value) (l : List ByteArray) (m : Nat) (hm : l.length = m) (hs : a.eval s = v) (hown : Own strR W base lo e l v) (y : ByteArray)
    (B : Nat) (T : TypeId) (c : Nat) (hB : W.heap[B]? = some (.cells #[.string y] T (0, 0))) (hx : a.eval x = .slice (some ⟨B, 0, none⟩) 1 c) (hlen : m ≤ 1000000000) (hbase : base ≤ W.heap.size)
    (h : ∀ g cap w', Own strR w' base lo e (l ++ [y]) (.slice (some ⟨g, 0, none⟩) (m + 1) cap) → W.grownBy w' v.ownBlock → (v.ownBlock = some g ∨ g = W.heap.size) → g < w'.heap.size → wpList P ops Q rest (a.put o.dst (.slice (some ⟨g, 0, none⟩) (m + 1) cap)) w') :
    wpList P ops Q (o :: rest) a W := by
  subst hm
  exact wpList_pushS hgd s x t ho base lo e i z 16 ht hi hz hsize hby hzs W v l hs hown [y] (Nat.succ_pos _) B T c hB hx (by simp [maxLen]; omega) (by simp; omega) hbase h
end Go.Proofs.YtlfnmmnbfoimeaaGreatDoor

/- The program's functions on rolls and rates. -/
namespace Go.Proofs.YtlfnmmnbfoimeaaGreatDoor
set_option linter.unusedVariables false
open Go.RowKit

end Go.Proofs.YtlfnmmnbfoimeaaGreatDoor

/- The program's functions on rolls, looked up and checked. -/
namespace Go.Proofs.YtlfnmmnbfoimeaaGreatDoor
set_option linter.unusedVariables false
open Go.RowKit

/-- A variable's own cell keeps what it holds. -/
theorem cellC {w W : World} {b : Nat} {v : Value} (h : w.cell? ⟨b, 0, none⟩ = some v) (hb : Below w.heap.size w W) (hlt : b < w.heap.size) : W.cell? ⟨b, 0, none⟩ = some v := (hb.cell (p := ⟨b, 0, none⟩) hlt).trans h

end Go.Proofs.YtlfnmmnbfoimeaaGreatDoor

/- Scripts as they lie in memory. No program in sight. -/
namespace Go.Proofs.YtlfnmmnbfoimeaaGreatDoor
set_option linter.unusedVariables false
open Go.RowKit

structure Para where
  kind : Int
  text : ByteArray
structure Scene where
  no : ByteArray
  place : Int
  set : ByteArray
  time : Int
  paras : List Para
structure Script where
  title : ByteArray
  scenes : List Scene

def Para.cells (p : Para) : List Value := [.int .i64 p.kind, .string p.text]
def paraR : Rep Para := Rep.flat 2 Para.cells (fun _ => rfl)
def Scene.cells (s : Scene) (v : Value) : List Value := [.string s.no, .int .i64 s.place, .string s.set, .int .i64 s.time, v]
theorem para_at {w : World} {F : Nat → Prop} {l : List Para} {A : Option Addr} {n c : Nat} (h : Sli paraR w F l (.slice A n c)) (k : Nat) (hk : k < l.length) :
    ∃ b off, A = some ⟨b, off, none⟩ ∧ F b ∧ w.cell? ⟨b, off + k * 2, none⟩ = some (.int .i64 l[k].kind) ∧ w.cell? ⟨b, off + k * 2 + 1, none⟩ = some (.string l[k].text) := by
  obtain ⟨b, off, a, ea, hb, e, hc⟩ := h.at_ k hk
  have e' : a = Para.cells l[k] := e
  subst e'
  exact ⟨b, off, ea, hb, hc 0 _ rfl, hc 1 _ rfl⟩
theorem str_at {w : World} {F : Nat → Prop} {l : List ByteArray} {A : Option Addr} {n c : Nat} (h : Sli strR w F l (.slice A n c)) (k : Nat) (hk : k < l.length) :
    ∃ b off, A = some ⟨b, off, none⟩ ∧ F b ∧ w.cell? ⟨b, off + k, none⟩ = some (.string l[k]) := by
  obtain ⟨b, off, a, ea, hb, e, hc⟩ := h.at_ k hk
  have e' : a = [.string l[k]] := e
  subst e'
  have := hc 0 _ rfl
  exact ⟨b, off, ea, hb, by simpa [strR, Rep.flat] using this⟩

/-- What a made script stays within. -/
def paraBd (p : Para) : Prop := 1 ≤ p.kind ∧ p.kind ≤ 5 ∧ 0 < p.text.size ∧ p.text.size ≤ 10000
def sceneBd (s : Scene) : Prop := s.no.size ≤ 1000 ∧ 0 ≤ s.place ∧ s.place ≤ 3 ∧ s.set.size ≤ 1000 ∧ 0 ≤ s.time ∧ s.time ≤ 5 ∧ s.paras.length ≤ 60 ∧ ∀ p ∈ s.paras, paraBd p
def scriptBd (x : Script) : Prop := x.title.size ≤ 1000 ∧ x.scenes.length ≤ 90 ∧ ∀ s ∈ x.scenes, sceneBd s
end Go.Proofs.YtlfnmmnbfoimeaaGreatDoor

/- slices.Delete of one paragraph, in a row of one's own. -/
namespace Go.Proofs.YtlfnmmnbfoimeaaGreatDoor
set_option linter.unusedVariables false
open Go.RowKit

theorem grown_setCell (w : World) (b o : Nat) (v : Value) : w.grownBy (w.setCell ⟨b, o, none⟩ v) (some b) :=
  ⟨rfl, rfl, rfl, by simp [World.setCell], fun i _ hne => Below.heap_setCell w ⟨b, o, none⟩ v i (fun e => hne (by rw [e]))⟩
theorem grown_setCells (b : Nat) : ∀ (vs : List Value) (o : Nat) (w : World), w.grownBy (w.setCells b o vs) (some b)
  | [], o, w => ⟨rfl, rfl, rfl, Nat.le_refl _, fun _ _ _ => rfl⟩
  | v :: vs, o, w => gbTrans (grown_setCell w b o v) (grown_setCells b vs (o + 1) _)
/-- A row whose cells are known reads as a list. -/
theorem Sli.mkF {α : Type} {n : Nat} {enc : α → List Value} {hn : ∀ x, (enc x).length = n} {w : World} {F : Nat → Prop} {l : List α} {g c : Nat} (hF : F g) (hc : l.length ≤ c) (hc2 : c ≤ 9223372036854775807)
    (h : ∀ (k : Nat) x, l[k]? = some x → ∀ j u, (enc x)[j]? = some u → w.cell? ⟨g, k * n + j, none⟩ = some u) : Sli (Rep.flat n enc hn) w F l (.slice (some ⟨g, 0, none⟩) l.length c) := by
  have hlay : ∀ l : List α, (l.flatMap enc).length = l.length * n := fun l => by
    induction l with
    | nil => simp
    | cons a r ih => rw [List.flatMap_cons, List.length_append, hn, ih, List.length_cons, Nat.add_mul]; omega
  have hget : ∀ (l : List α) (k : Nat) x, l[k]? = some x → ((l.flatMap enc).drop (k * n)).take n = enc x := fun l => by
    induction l with
    | nil => intro k x hx; simp at hx
    | cons a r ih =>
      intro k x hx
      cases k with
      | zero =>
        simp at hx; subst hx
        rw [List.flatMap_cons, Nat.zero_mul, List.drop_zero, List.take_left' (hn a)]
      | succ k =>
        rw [List.flatMap_cons, show (k + 1) * n = n + k * n by rw [Nat.add_mul]; omega, ← List.drop_drop, List.drop_left' (hn a)]
        exact ih k x (by simpa using hx)
  refine ⟨_, c, rfl, hc, hc2, fun _ => ⟨g, 0, l.flatMap enc, rfl, hF, ⟨hlay l, fun k x hx => hget l k x hx⟩, fun j u hj => ?_⟩⟩
  rw [Nat.zero_add]
  have hjl := (List.getElem?_eq_some_iff.1 hj).1
  rw [hlay] at hjl
  by_cases h0 : n = 0
  · subst h0; omega
  · have hk : j / n < l.length := (Nat.div_lt_iff_lt_mul (by omega)).2 hjl
    have h2 := hget l (j / n) _ (List.getElem?_eq_getElem hk)
    have h3 : (enc l[j / n])[j % n]? = some u := by
      rw [← h2, List.getElem?_take, if_pos (Nat.mod_lt _ (by omega)), List.getElem?_drop, Nat.mul_comm, Nat.div_add_mod]
      exact hj
    have h4 := h (j / n) _ (List.getElem?_eq_getElem hk) _ u h3
    rw [Nat.mul_comm, Nat.div_add_mod] at h4
    exact h4
/-- 'clear' of one paragraph. -/
theorem run_clear_para (w : World) (ty : TypeId) (g o c : Nat) (h0 : (w.cell? ⟨g, o, none⟩).isSome = true) (h1 : (w.cell? ⟨g, o + 1, none⟩).isSome = true) (f0 : w.frozen? ⟨g, o, none⟩ = false) (f1 : w.frozen? ⟨g, o + 1, none⟩ = false) :
    (Builtin.clear_ #[64] ty #[.slice (some ⟨g, o, none⟩) 1 c]).run Tryz.prog w = .ok (.tuple #[]) (w.setCells g o [.int .i64 0, .string ⟨#[]⟩]) := by
  have hv : ∀ w, (zeroValue 68).run Tryz.prog w = .ok (.agg #[.int .i64 0, .string ⟨#[]⟩]) w := fun w => by kernel_rfl
  have hzc : (Builtin.zeroCells (Value.agg #[.int .i64 0, .string ⟨#[]⟩]).cells 1).toList = [.int .i64 0, .string ⟨#[]⟩] := by kernel_rfl
  have hst := run_storeCells_cells (P := Tryz.prog) g o [.int .i64 0, .string ⟨#[]⟩] 0 w (fun j hj => by
    match j, hj with
    | 0, _ => simpa using h0
    | 1, _ => simpa using h1) (fun j hj => by
    match j, hj with
    | 0, _ => simpa using f0
    | 1, _ => simpa using f1) (by intro v hv; simp at hv; rcases hv with rfl | rfl <;> rfl)
  simp only [Nat.add_zero] at hst
  simp [Builtin.clear_, run_underlying Tryz.underlying64, hv, hzc, hst]
def DelP (g i d cap : Nat) (l : List Para) (w : World) (e : Ending) (w' : World) : Prop := e = .returned (.slice (some ⟨g, 0, none⟩) (i + d) cap) ∧ Sli paraR w' (fun q => q = g) l (.slice (some ⟨g, 0, none⟩) (i + d) cap) ∧ w.grownBy w' (some g)
set_option maxRecDepth 100000 in
set_option maxHeartbeats 4000000 in
theorem delPara_c (g i d cap base lo : Nat) (l1 l2 : List Para) (x : Para) (w : World) (h : Own paraR w base lo 68 (l1 ++ x :: l2) (.slice (some ⟨g, 0, none⟩) (i + d + 1) cap)) (h1 : l1.length = i) (h2 : l2.length = d) (hl : i + d ≤ 1000000) :
    Calls Tryz.prog 41 #[.slice (some ⟨g, 0, none⟩) (i + d + 1) cap, .int .i64 i, .int .i64 (i + 1)] w (DelP g i d cap (l1 ++ l2) w) := by
  obtain ⟨i0, hi0, hz0, hz1, hz2⟩ := info_parts (show (Tryz.prog.info? 68).map (fun i => (i.zero, i.size, i.bytes)) = some (some (.agg #[.int .i64 0, .string ⟨#[]⟩]), 2, 24) by kernel_rfl)
  have hcap : i + d + 1 ≤ cap ∧ cap ≤ 9223372036854775807 := by
    rcases h.form with ⟨e, _⟩ | ⟨g', c', e, _, _, h3, h4⟩
    · cases e
    · injection e with _ e2 e3
      subst e3
      rw [← e2] at h3
      exact ⟨h3, h4⟩
  have hcell : ∀ k y, (l1 ++ x :: l2)[k]? = some y → ∀ j, j < 2 → w.cell? ⟨g, k * 2 + j, none⟩ = y.cells[j]? ∧ w.frozen? ⟨g, k * 2 + j, none⟩ = false := fun k y hy j hj => by
    obtain ⟨hk, rfl⟩ := List.getElem?_eq_some_iff.1 hy
    exact Own.cellAt (enc := Para.cells) h k hk j hj
  have HC := Lib.hid hcell
  clear hcell
  obtain ⟨news, hnews⟩ : ∃ news, news = l2.flatMap Para.cells := ⟨_, rfl⟩
  have hfl : ∀ l : List Para, (l.flatMap Para.cells).length = l.length * 2 := fun l => by
    induction l with
    | nil => simp
    | cons a r ih => rw [List.flatMap_cons, List.length_append, ih, List.length_cons, Nat.add_mul, show (Para.cells a).length = 2 from rfl]; omega
  have hfg : ∀ (l : List Para) (k : Nat) y, l[k]? = some y → ∀ j, j < 2 → (l.flatMap Para.cells)[k * 2 + j]? = y.cells[j]? := fun l => by
    induction l with
    | nil => intro k y hy; simp at hy
    | cons a r ih =>
      intro k y hy j hj
      cases k with
      | zero =>
        simp at hy; subst hy
        rw [List.flatMap_cons, Nat.zero_mul, Nat.zero_add, List.getElem?_append_left (by show j < 2; exact hj)]
      | succ k =>
        rw [List.flatMap_cons, List.getElem?_append_right (by show 2 ≤ _; omega)]
        have := ih k y (by simpa using hy) j hj
        rw [← this]
        congr 1
        show (k + 1) * 2 + j - 2 = _
        omega
  have hlen : news.length = d * 2 := by rw [hnews, hfl, h2]
  have hsrc : Hid (∀ t u, news[t]? = some u → w.drew.cell? ⟨g, (i + 1) * 2 + t, none⟩ = some u) := by
    intro t u hu
    have ht := (List.getElem?_eq_some_iff.1 hu).1
    rw [hlen] at ht
    have hk : t / 2 < l2.length := by omega
    have e := hfg l2 (t / 2) _ (List.getElem?_eq_getElem hk) (t % 2) (Nat.mod_lt _ (by decide))
    rw [show t / 2 * 2 + t % 2 = t by omega, ← hnews, hu] at e
    have hx : (l1 ++ x :: l2)[i + 1 + t / 2]? = some l2[t / 2] := by
      rw [List.getElem?_append_right (by omega), show i + 1 + t / 2 - l1.length = t / 2 + 1 by omega, List.getElem?_cons_succ, List.getElem?_eq_getElem hk]
    have hc := (HC.out _ _ hx (t % 2) (Nat.mod_lt _ (by decide))).1
    rw [show (i + 1 + t / 2) * 2 + t % 2 = (i + 1) * 2 + t by omega] at hc
    show w.cell? _ = _
    rw [hc, ← e]
  have s1 : Hid (news.length = d * 2) := hlen
  have s2 : Hid (∀ u ∈ news, u.oneCell' = true) := by
    intro u hu
    rw [hnews, List.mem_flatMap] at hu
    obtain ⟨p, _, hp⟩ := hu
    simp [Para.cells] at hp
    rcases hp with rfl | rfl <;> rfl
  have s3 : Hid (∀ t, t < d * 2 + 2 → (w.cell? ⟨g, i * 2 + t, none⟩).isSome = true ∧ w.frozen? ⟨g, i * 2 + t, none⟩ = false) := by
    intro t ht
    have hk : i + t / 2 < (l1 ++ x :: l2).length := by simp; omega
    have hc := HC.out _ _ (List.getElem?_eq_getElem hk) (t % 2) (Nat.mod_lt _ (by decide))
    rw [show (i + t / 2) * 2 + t % 2 = i * 2 + t by omega] at hc
    refine ⟨?_, hc.2⟩
    rw [hc.1, List.getElem?_eq_getElem (by show t % 2 < 2; omega)]
    rfl
  have HFG := Lib.hid (hfg l2)
  have HNW := Lib.hid hnews
  have hg : Hid (∀ (W1 : World), W1 = w.drew.setCells g (i * 2) news → DelP g i d cap (l1 ++ l2) w (.returned (.slice (some ⟨g, 0, none⟩) (i + d) cap)) (W1.setCells g ((i + d) * 2) [.int .i64 0, .string ⟨#[]⟩])) := by
    rintro W1 rfl
    refine ⟨rfl, ?_, gbTrans (gbTrans (⟨rfl, rfl, rfl, Nat.le_refl _, fun _ _ _ => rfl⟩ : w.grownBy w.drew (some g)) (grown_setCells g news (i * 2) w.drew)) (grown_setCells g _ _ _)⟩
    have hll : (l1 ++ l2).length = i + d := by rw [List.length_append, h1, h2]
    have key := Sli.mkF (n := 2) (enc := Para.cells) (hn := fun _ => rfl) (w := (w.drew.setCells g (i * 2) news).setCells g ((i + d) * 2) [.int .i64 0, .string ⟨#[]⟩]) (F := fun q => q = g) (l := l1 ++ l2) (g := g) (c := cap) rfl (by omega) hcap.2 (fun k y hy j u hj => by
      have hk := (List.getElem?_eq_some_iff.1 hy).1
      have hj2 : j < 2 := by have := (List.getElem?_eq_some_iff.1 hj).1; exact this
      rw [World.cell?_setCells_out g _ _ _ _ (fun _ _ => .inl (by dsimp only; omega))]
      by_cases hki : k < i
      · rw [World.cell?_setCells_out g _ _ _ _ (fun _ _ => .inl (by dsimp only; omega))]
        have hy2 : (l1 ++ x :: l2)[k]? = some y := by rw [← hy, List.getElem?_append_left (by omega), List.getElem?_append_left (by omega)]
        exact ((HC.out k y hy2 j hj2).1).trans hj
      · have hy2 : l2[k - i]? = some y := by rw [← hy, List.getElem?_append_right (by omega), h1]
        have e := HFG.out (k - i) y hy2 j hj2
        rw [← HNW.out, hj] at e
        have hlt := (List.getElem?_eq_some_iff.1 e).1
        have hc := World.cell?_setCells_in g news (i * 2) w.drew (fun t ht => (s3.out t (by rw [s1.out] at ht; omega)).1) ((k - i) * 2 + j) hlt
        rw [show i * 2 + ((k - i) * 2 + j) = k * 2 + j by omega] at hc
        rw [hc, ← e, List.getElem?_eq_getElem hlt])
    rw [hll] at key
    exact key
  have hcl : Hid (∀ (W1 : World), W1 = w.drew.setCells g (i * 2) news → ∀ ty c, (Builtin.clear_ #[64] ty #[.slice (some ⟨g, (i + d) * 2, none⟩) 1 c]).run Tryz.prog W1 = .ok (.tuple #[]) (W1.setCells g ((i + d) * 2) [.int .i64 0, .string ⟨#[]⟩])) := by
    rintro W1 rfl ty c
    have hin : ∀ t, t < 2 → ((w.drew.setCells g (i * 2) news).cell? ⟨g, (i + d) * 2 + t, none⟩).isSome = true ∧ (w.drew.setCells g (i * 2) news).frozen? ⟨g, (i + d) * 2 + t, none⟩ = false := fun t ht => by
      rw [World.cell?_setCells_out g _ _ _ _ (fun _ _ => .inr (by rw [s1.out]; dsimp only; omega)), World.frozen?_setCells]
      have := s3.out (d * 2 + t) (by omega)
      rw [show i * 2 + (d * 2 + t) = (i + d) * 2 + t by omega] at this
      exact this
    exact run_clear_para _ ty g _ c (hin 0 (by decide)).1 (hin 1 (by decide)).1 (hin 0 (by decide)).2 (hin 1 (by decide)).2
  have hnil : Hid (d = 0 → news = []) := fun h => List.eq_nil_of_length_eq_zero (by rw [hlen, h])
  have b1 : i ≤ cap := by omega
  have b2 : i + 1 ≤ cap := by omega
  have hp0 : (0 : Int) ≤ (i : Int) + 1 := by omega
  have hp1 : (i : Int) + 1 ≤ (i : Int) + d + 1 := by omega
  have hp2 : ((i : Int) + 1).toNat = i + 1 := by omega
  have hp4 : (0 : Int) ≤ (i : Int) + d + 1 := by omega
  have hp5 : (i : Int) + d + 1 ≤ (cap : Int) := by omega
  have hp3 : ((i : Int) == (i : Int) + 1) = false := beq_eq_false_iff_ne.2 (by omega)
  have hp6 : ¬ cap = i + d := by omega
  have hp7 : (i : Int) + d ≤ (i : Int) + d + 1 := by omega
  have hp8 : (0 : Int) ≤ (i : Int) + d := by omega
  have hp9 : ((i : Int) + d).toNat = i + d := by omega
  have hpa : ((i : Int) + d + 1).toNat = i + d + 1 := by omega
  have hidc : i + d ≤ cap := by omega
  obtain ⟨A, hA, hAS⟩ : ∃ A : Addr, (if cap = i + 1 then some (⟨g, 0, none⟩ : Addr) else some ⟨g, (i + 1) * 2, none⟩) = some A ∧ Hid (∀ t u, news[t]? = some u → w.drew.cell? (A.add t) = some u) := by
    by_cases hce : cap = i + 1
    · refine ⟨_, if_pos hce, fun t u hu => ?_⟩
      rw [hnil.out (by omega)] at hu
      simp at hu
    · refine ⟨_, if_neg hce, fun t u hu => ?_⟩
      rw [Addr.add_lit]
      exact hsrc.out t u hu
  clear hfl hfg hnews hlen h h1 h2 HFG HNW hcap hnil hsrc
  go_enter Tryz.func41, Tryz.ntmps41
  go_wp2_with fail
  go_region_law (refine step_append_room rfl (.tmp 22) (.tmp 25) 64 rfl 68 i0 2 Tryz.underlying64 hi0 hz1 g 0 i cap (by simp [Act.eval, Act.put]) A d (cap - (i + 1)) news (by simp [Act.eval, Act.put]; try omega) s1.out hAS.out s2.out (by omega) (fun t ht => by rw [Nat.zero_add]; exact s3.out t (by rw [s1.out] at ht; omega)) ?_; rw [Nat.zero_add])
  generalize hW1 : w.drew.setCells g (i * 2) news = W1
  have HW1 := Lib.hid hW1.symm
  have hcl2 := hcl.out W1 HW1.out
  clear hW1
  go_wp2
  go_ret
  exact hg.out W1 HW1.out
end Go.Proofs.YtlfnmmnbfoimeaaGreatDoor

/- A region that draws its order, inside a round's fence, one operation at a time. No program in sight. -/
namespace Go.Proofs.YtlfnmmnbfoimeaaGreatDoor
set_option linter.unusedVariables false
open Go.RowKit

end Go.Proofs.YtlfnmmnbfoimeaaGreatDoor

/- A loop over an iterator that keeps its state in a captured box (strings.SplitSeq): the iterator may turn that box between two rounds. No program in sight. -/
namespace Go.Proofs.YtlfnmmnbfoimeaaGreatDoor
set_option linter.unusedVariables false
open Go.RowKit

/-- Three boxes of the iterator's own, from c on, lie as they lay. -/
def KeepC (c : Nat) (W W' : World) : Prop := ∀ k, c ≤ k → k < c + 3 → W'.heap[k]? = W.heap[k]?
theorem KeepC.refl (c : Nat) (W : World) : KeepC c W W := fun _ _ _ => rfl
theorem KeepC.trans {c : Nat} {A B C : World} (h : KeepC c A B) (k : KeepC c B C) : KeepC c A C := fun i h1 h2 => (k i h1 h2).trans (h i h1 h2)
theorem KeepC.grown {c : Nat} {A B : World} {row : Option Nat} (hg : A.grownBy B row) (hc : c + 3 ≤ A.heap.size) (hr : ∀ r, row = some r → r < c ∨ c + 3 ≤ r) : KeepC c A B := fun k h1 h2 =>
  hg.block k (by omega) (fun e => by rcases hr k e.symm with h | h <;> omega)

/-- An iterator whose whole list is 'all': it returns when all have come, the loop's body never leaving. -/
def SeqC {α : Type} (F : Fence) (n : Nat) (P : Program) (g : Nat) (lb : Array Value) (enc : α → Value) (c : Nat) (all : List α) (w : World) : Prop :=
  ∀ (l : Nat) (J : List α → World → Prop) (W : World), Below w.heap.size w W →
    (∀ s A B, J s A → A.grownBy B (some c) → J s B) →
    (∀ pre x W1, J pre W1 → (pre ++ [x]) <+: all → YieldAt F (n - 1) P l #[enc x] W1 fun e W' => e = .returned (.bool true) ∧ J (pre ++ [x]) W' ∧ KeepC c W1 W') →
    J [] W →
    CallsIn F n P g (#[.func (.yield l) #[] #[]] ++ lb) W fun e W' => (∃ v, e = .returned v) ∧ J all W'

variable {F : Fence} {n : Nat} {P : Program}

end Go.Proofs.YtlfnmmnbfoimeaaGreatDoor

/- What a piece of a walk keeps: blocks below m, but for some boxes that it writes. No program in sight. -/
namespace Go.Proofs.YtlfnmmnbfoimeaaGreatDoor
set_option linter.unusedVariables false
open Go.RowKit

structure KeepM (m : Nat) (X : Nat → Prop) (W W' : World) : Prop where
  os : W'.os = W.os
  tape : W'.tape = W.tape
  output : W'.output = W.output
  size : W.heap.size ≤ W'.heap.size
  block : ∀ k, k < m → ¬ X k → W'.heap[k]? = W.heap[k]?
  others : KeepsOthers W W'
variable {m : Nat} {X : Nat → Prop} {A W W' : World}
theorem KeepM.refl (m : Nat) (X : Nat → Prop) (W : World) : KeepM m X W W := ⟨rfl, rfl, rfl, Nat.le_refl _, fun _ _ _ => rfl, KeepsOthers.refl _⟩
theorem KeepM.trans (h : KeepM m X A W) (k : KeepM m X W W') : KeepM m X A W' :=
  ⟨k.os.trans h.os, k.tape.trans h.tape, k.output.trans h.output, Nat.le_trans h.size k.size, fun i hi hx => (k.block i hi hx).trans (h.block i hi hx), h.others.trans k.others⟩
theorem KeepM.alloc (h : KeepM m X A W) (hm : m ≤ W.heap.size) (o : Obj) : KeepM m X A (W.alloc o) :=
  h.trans ⟨rfl, rfl, rfl, by simp, fun k hk _ => Below.heap_alloc W o k (by omega), KeepsOthers.alloc W o⟩
theorem KeepM.drew (h : KeepM m X A W) : KeepM m X A W.drew := h.trans ⟨rfl, rfl, rfl, Nat.le_refl _, fun _ _ _ => rfl, ⟨Nat.le_refl _, fun _ _ h _ => h⟩⟩
theorem KeepM.put (h : KeepM m X A W) {B : Nat} (hB : X B) (v : Value) : KeepM m X A (W.setCell ⟨B, 0, none⟩ v) :=
  h.trans ⟨rfl, rfl, rfl, (grownBy_setCell' W B v).size, fun k _ hx => Below.heap_setCell W _ v k (fun e => hx (by cases e; exact hB)), KeepsOthers.setCell _ _ _⟩
theorem KeepM.grown (h : KeepM m X A W) (hm : m ≤ W.heap.size) {v : Value} {e : TypeId} {size k : Nat} {xs : List Value} (hrow : W.ownsRow m e size v k xs) (hg : W.grownBy W' v.ownBlock) : KeepM m X A W' := by
  refine h.trans ⟨hg.os, hg.tape, hg.output, hg.size, fun i hi _ => hg.block i (by omega) (fun ei => ?_), KeepsOthers.of_grownBy hg fun j o ej hj => ?_⟩
  · rcases hrow.2 with ⟨rfl, _⟩ | ⟨g, cap, cur, rfl, hgb, _, _⟩
    · simp [Value.ownBlock] at ei
    · obtain rfl : i = g := by simpa [Value.ownBlock] using ei
      omega
  · rcases hrow.2 with ⟨rfl, _⟩ | ⟨g, cap, cur, rfl, _, hgb, _⟩
    · simp [Value.ownBlock] at ej
    · obtain rfl : g = j := by simpa [Value.ownBlock] using ej
      rw [hgb] at hj; cases hj; rfl
theorem KeepM.box {B : Nat} {t : TypeId} {v : Value} (h : KeepM m X W W') (hv : Boxed W B t v) (h1 : B < m) (h2 : ¬ X B) : Boxed W' B t v := (h.block B h1 h2).trans hv
theorem KeepM.below {n₀ : Nat} (h : KeepM m X W W') (h1 : n₀ ≤ m) (h2 : ∀ k, k < n₀ → ¬ X k) : Below n₀ W W' := ⟨h.os, h.tape, h.output, h.size, fun k hk => h.block k (by omega) (h2 k hk)⟩
theorem KeepM.keepC {c : Nat} (h : KeepM m X W W') (h1 : c + 3 ≤ m) (h2 : ∀ k, c ≤ k → k < c + 3 → ¬ X k) : KeepC c W W' := fun k a b => h.block k (by omega) (h2 k a b)
theorem KeepM.wide {X' : Nat → Prop} (h : KeepM m X W W') (hx : ∀ k, X k → X' k) : KeepM m X' W W' := ⟨h.os, h.tape, h.output, h.size, fun k hk hn => h.block k hk (fun e => hn (hx k e)), h.others⟩
end Go.Proofs.YtlfnmmnbfoimeaaGreatDoor

/- A loop over strings.SplitSeq whose body may also leave by a return. No program in sight. -/
namespace Go.Proofs.YtlfnmmnbfoimeaaGreatDoor
set_option linter.unusedVariables false
open Go.RowKit

/-- As SeqC, where the loop's body may leave: the iterator then returns at once. -/
def SeqL {α : Type} (F : Fence) (n : Nat) (P : Program) (g : Nat) (lb : Array Value) (enc : α → Value) (c : Nat) (all : List α) (w : World) : Prop :=
  ∀ (l : Nat) (J : List α → World → Prop) (L : World → Prop) (W : World), Below w.heap.size w W →
    (∀ s A B, J s A → A.grownBy B (some c) → J s B) →
    (∀ pre x W1, J pre W1 → (pre ++ [x]) <+: all → YieldAt F (n - 1) P l #[enc x] W1 fun e W' => (e = .returned (.bool true) ∧ J (pre ++ [x]) W' ∧ KeepC c W1 W') ∨ (e = .returned (.bool false) ∧ L W')) →
    J [] W →
    CallsIn F n P g (#[.func (.yield l) #[] #[]] ++ lb) W fun e W' => (∃ v, e = .returned v) ∧ (J all W' ∨ L W')

def postL {α : Type} (c : Nat) (I : List α → World → Prop) (L : World → Prop) (xs : List α) (W : World) : Exit → Act → World → Prop
  | .normal, _, W' => KeepsOthers W W' ∧ KeepC c W W' ∧ I xs W'
  | .ret, _, W' => KeepsOthers W W' ∧ L W'
  | _, _, _ => False

variable {F : Fence} {n : Nat} {P : Program}

theorem wpIn_seqL {α : Type} {g : Operand} {ps : Array Tmp} {assign body : Code} {Q : Exit → Act → World → Prop} {a : Act} {w : World}
    (hro : F.round = none) (h1 : 1 ≤ n) {gf : Nat} {lb : Array Value} (hg : a.eval g = .func (.func gf) #[] lb) (hFg : F.fn gf) (eg : ∀ args w, (callFunc gf args).run P w = .ok (.enter gf args) w)
    {enc : α → Value} {c : Nat} {all : List α} {w0 : World} (hseq : SeqL F (n - 1) P gf lb enc c all w0) (hc : c + 3 ≤ w.heap.size) (hb0 : Below w0.heap.size w0 w) (hps : 1 = ps.size)
    (I : List α → World → Prop) (L : World → Prop) (hI : OwnFrom w.heap.size I) (hL : OwnFrom w.heap.size (fun _ : Unit => L)) (hIc : ∀ s A B, I s A → A.grownBy B (some c) → I s B) (h0 : I [] w) (a₁ : α → Act)
    (hassign : ∀ (l : Nat) (x : α) (W : World) (K : Act → World → Prop), K (a₁ x) W →
      assign.wpIn (F.inRound l) (n - 1 - 1) P (Exit.then K (fun _ _ _ => False)) { tmps := (ps.zip #[enc x]).foldl (fun t (p, v) => t.setIfInBounds p v) a.tmps, defers := [] } W)
    (hbody : ∀ (l : Nat) (pre : List α) (x : α) (W : World), I pre W → (pre ++ [x]) <+: all → body.wpIn (F.inRound l) (n - 1 - 1) P (postL c I L (pre ++ [x]) W) (a₁ x) W)
    (hstop : ∀ (D : Nat) (W : World), w.heap.size ≤ D → L W → W.heap[D]? = some (.deferred (some [])) → Code.ret.wpIn F n P Q { a with defers := { target := .collected D, args := #[] } :: a.defers } W)
    (hdone : ∀ (D : Nat) (W : World), w.heap.size ≤ D → I all W → W.heap[D]? = some (.deferred (some [])) → Q .normal { a with defers := { target := .collected D, args := #[] } :: a.defers } W) :
    (Code.rangeFunc g ps assign body).wpIn F n P Q a w := by
  refine wpIn_rangeFunc fun fn hfn => ?_
  rw [hro]
  -- the loop's record at D + 1, the block for deferred calls at D
  obtain ⟨D, hD⟩ : ∃ D, D = w.heap.size := ⟨_, rfl⟩
  obtain ⟨rec, hrec⟩ : ∃ rec : LoopState → Option Code → Loop, rec = fun st pe => { state := st, pending := pe, fn, tmps := a.tmps, params := ps, assign, body, defers := w.heap.size } := ⟨_, rfl⟩
  have hI1 : I [] ((w.alloc (.deferred (some []))).alloc (.loop (rec .ready none))) := hI.alloc _ (hI.alloc _ h0)
  have hL1 : ((w.alloc (.deferred (some []))).alloc (.loop (rec .ready none))).heap[D + 1]? = some (.loop (rec .ready none)) := by
    have := World.alloc_heap_new (w.alloc (.deferred (some []))) (.loop (rec .ready none))
    rw [World.size_alloc] at this
    rw [hD]; exact this
  have hK1 : ((w.alloc (.deferred (some []))).alloc (.loop (rec .ready none))).heap[D]? = some (.deferred (some [])) := by
    rw [hD]
    exact (Below.heap_alloc _ _ _ (by simp)).trans (World.alloc_heap_new w _)
  have hb1 : Below w0.heap.size w0 ((w.alloc (.deferred (some []))).alloc (.loop (rec .ready none))) :=
    hb0.trans ((((Below.refl _ w).alloc (Nat.le_refl _) _).alloc (by simp) _).mono hb0.size)
  have hrun : (Instr.enterLoop fn a.tmps ps assign body none).run P w = .ok (D + 1, [{ target := .collected D, args := #[] }]) ((w.alloc (.deferred (some []))).alloc (.loop (rec .ready none))) := by
    rw [hD, hrec]; exact run_enterLoop_outer _ _ _ _ _
  generalize (w.alloc (.deferred (some []))).alloc (.loop (rec .ready none)) = W1 at hI1 hL1 hK1 hb1 hrun
  refine ⟨D + 1, [{ target := .collected D, args := #[] }], W1, { target := .fn (.func gf) lb, args := #[.func (.yield (D + 1)) #[] #[]] }, W1, gf,
    #[.func (.yield (D + 1)) #[] #[]] ++ lb, W1, hrun, ?_, ?_, ?_, fun _ => h1, ?_⟩
  · simp only [resolve, hg]
    simp [go_sem]
  · intro f' hf'; simp [Target.leads] at hf'; subst hf'; exact hFg
  · simp [invoke, go_sem, eg]
  · refine (hseq (D + 1)
      (fun pre W => I pre W ∧ W.heap[D + 1]? = some (.loop (rec .ready none)) ∧ W.heap[D]? = some (.deferred (some [])))
      (fun W => L W ∧ W.heap[D + 1]? = some (.loop (rec .done (some .ret))) ∧ W.heap[D]? = some (.deferred (some [])))
      W1 hb1 ?_ ?_ ⟨hI1, hL1, hK1⟩).mono ?_
    · rintro s A B ⟨hi, hl, hk⟩ hg'
      have l1 := (Array.getElem?_eq_some_iff.1 hl).1
      exact ⟨hIc s A B hi hg', (hg'.block _ l1 (fun e => by cases e; omega)).trans hl, (hg'.block _ (by omega) (fun e => by cases e; omega)).trans hk⟩
    · -- one round
      rintro pre x W ⟨hi, hl, hk⟩ hpre
      have hlt : D + 1 < W.heap.size := (Array.getElem?_eq_some_iff.1 hl).1
      have hy := run_yield (P := P) (args := #[enc x]) hl (by rw [hrec]; exact hps)
      have hst : (rec .ready none).state = .ready := by rw [hrec]
      have hy' : (Instr.yield (D + 1) #[enc x]).run P W = .ok (.round (D + 1) fn ((ps.zip #[enc x]).foldl (fun t (p, v) => t.setIfInBounds p v) a.tmps) assign body) W := by
        rw [hrec] at hy; exact hy
      have hbusy : ({ rec .ready none with state := .busy } : Loop) = rec .busy none := by rw [hrec]
      refine ⟨fn, _, assign, body, hy', roundIn_of_wpIn hfn (hassign _ x W _ ⟨_, run_beginRound hl hst, ?_⟩)⟩
      rw [hbusy]
      have hg2 : W.grownBy (W.putObj (D + 1) (.loop (rec .busy none))) (some (D + 1)) := grownBy_putObj' W (D + 1) _
      have hl2 : (W.putObj (D + 1) (.loop (rec .busy none))).heap[D + 1]? = some (.loop (rec .busy none)) := World.putObj_heap_same hlt
      have hk2 : (W.putObj (D + 1) (.loop (rec .busy none))).heap[D]? = some (.deferred (some [])) := (World.putObj_heap_other (by omega)).trans hk
      have hc2 : KeepC c W (W.putObj (D + 1) (.loop (rec .busy none))) := KeepC.grown hg2 (by omega) (fun r e => by cases e; omega)
      have hi2 : I pre (W.putObj (D + 1) (.loop (rec .busy none))) := hI.putObj _ hi (by omega) hl rfl
      generalize W.putObj (D + 1) (.loop (rec .busy none)) = W2 at hg2 hl2 hk2 hc2 hi2
      refine wpIn_mono (hbody _ pre x _ hi2 hpre) ?_
      rintro e a3 W3 hp
      cases e with
      | normal =>
        obtain ⟨hk3, hkc3, hi3⟩ := hp
        have hl3 := hk3.same _ _ hl2 rfl
        have hd3 := hk3.same _ _ hk2 rfl
        have hlt3 := (Array.getElem?_eq_some_iff.1 hl3).1
        have hr := run_endRound (P := P) none hl3
        have hready : ({ rec .busy none with state := .ready, pending := none } : Loop) = rec .ready none := by rw [hrec]
        simp only [Option.isNone_none, if_true] at hr
        rw [hready] at hr
        exact ⟨_, _, hr, .inl ⟨rfl, ⟨hI.putObj _ hi3 (by omega) hl3 rfl, World.putObj_heap_same hlt3, (World.putObj_heap_other (by omega)).trans hd3⟩,
          (hc2.trans hkc3).trans (KeepC.grown (grownBy_putObj' W3 (D + 1) _) (by omega) (fun r e => by cases e; omega))⟩⟩
      | ret =>
        obtain ⟨hk3, hi3⟩ := hp
        have hl3 := hk3.same _ _ hl2 rfl
        have hd3 := hk3.same _ _ hk2 rfl
        have hlt3 := (Array.getElem?_eq_some_iff.1 hl3).1
        have hr := run_endRound (P := P) (some .ret) hl3
        have hdn : ({ rec .busy none with state := .done, pending := some .ret } : Loop) = rec .done (some .ret) := by rw [hrec]
        simp only [Option.isNone_some, Bool.false_eq_true, if_false] at hr
        rw [hdn] at hr
        exact ⟨_, _, hr, .inr ⟨rfl, hL.putObj (s := ()) _ hi3 (by omega) hl3 rfl, World.putObj_heap_same hlt3, (World.putObj_heap_other (by omega)).trans hd3⟩⟩
      | _ => exact hp.elim
    · rintro e W2 ⟨⟨v, rfl⟩, (⟨hi, hl, hk⟩ | ⟨hi, hl, hk⟩)⟩
      · have hne : (rec .ready none).state ≠ .busy := by rw [hrec]; simp
        refine ⟨none, _, ?_, hdone D _ (by omega) (hI.putObj (.loop { rec .ready none with state := .exhausted }) hi (by omega) hl rfl) ((World.putObj_heap_other (by omega)).trans hk)⟩
        have := run_endLoop (P := P) hl hne
        rw [hrec] at this ⊢
        exact this
      · have hne : (rec .done (some .ret)).state ≠ .busy := by rw [hrec]; simp
        refine ⟨some .ret, _, ?_, hstop D _ (by omega) (hL.putObj (s := ()) (.loop { rec .done (some .ret) with state := .exhausted }) hi (by omega) hl rfl) ((World.putObj_heap_other (by omega)).trans hk)⟩
        have := run_endLoop (P := P) hl hne
        rw [hrec] at this ⊢
        exact this
end Go.Proofs.YtlfnmmnbfoimeaaGreatDoor

/- The shelf contracts that these proofs use, laid at this translation. -/
namespace Go.Proofs
open Go.Shelf
def Tryz.lays156_ren : Go.Shelf.Ren := ⟨fun | 156 => 46 | 165 => 80 | 166 => 81 | 169 => 83 | 240 => 118 | 241 => 119 | 276 => 154 | 277 => 155 | n => n, fun | 31 => 69 | 9 => 9 | 3 => 3 | 4 => 4 | 0 => 0 | 20 => 20 | 72 => 128 | 76 => 119 | 70 => 126 | 37 => 106 | 75 => 118 | 127 => 150 | 164 => 178 | 5 => 5 | 80 => 48 | n => n, fun | n => n⟩
theorem Tryz.lays156 : Go.Proofs.Lays.n156 Tryz.prog Tryz.lays156_ren := {
  mixed := by kernel_rfl
  f156 := Tryz.func46.trans (congrArg some (by kernel_rfl))
  f165 := Tryz.func80.trans (congrArg some (by kernel_rfl))
  f166 := Tryz.func81.trans (congrArg some (by kernel_rfl))
  f169 := Tryz.func83.trans (congrArg some (by kernel_rfl))
  f240 := Tryz.func118.trans (congrArg some (by kernel_rfl))
  f241 := Tryz.func119.trans (congrArg some (by kernel_rfl))
  f276 := Tryz.func154.trans (congrArg some (by kernel_rfl))
  f277 := Tryz.func155.trans (congrArg some (by kernel_rfl))
  t0 := Tryz.underlying0
  a0 := Tryz.isAgg0
  z0 := Tryz.sizeOf0
  v0 := Tryz.zeroValue0
  t3 := Tryz.underlying3
  a3 := Tryz.isAgg3
  z3 := Tryz.sizeOf3
  v3 := Tryz.zeroValue3
  t4 := Tryz.underlying4
  a4 := Tryz.isAgg4
  z4 := Tryz.sizeOf4
  v4 := Tryz.zeroValue4
  t9 := Tryz.underlying9
  a9 := Tryz.isAgg9
  z9 := Tryz.sizeOf9
  v9 := Tryz.zeroValue9
  t20 := Tryz.underlying20
  a20 := Tryz.isAgg20
  z20 := Tryz.sizeOf20
  v20 := Tryz.zeroValue20
  t31 := Tryz.underlying69
  a31 := Tryz.isAgg69
  z31 := Tryz.sizeOf69
  v31 := Tryz.zeroValue69
  t37 := Tryz.underlying106
  a37 := Tryz.isAgg106
  z37 := Tryz.sizeOf106
  v37 := Tryz.zeroValue106
  t70 := Tryz.underlying126
  a70 := Tryz.isAgg126
  z70 := Tryz.sizeOf126
  v70 := Tryz.zeroValue126
  t72 := Tryz.underlying128
  a72 := Tryz.isAgg128
  z72 := Tryz.sizeOf128
  v72 := Tryz.zeroValue128
  t75 := Tryz.underlying118
  a75 := Tryz.isAgg118
  z75 := Tryz.sizeOf118
  v75 := Tryz.zeroValue118
  t76 := Tryz.underlying119
  a76 := Tryz.isAgg119
  z76 := Tryz.sizeOf119
  v76 := Tryz.zeroValue119
  t127 := Tryz.underlying150
  a127 := Tryz.isAgg150
  z127 := Tryz.sizeOf150
  v127 := Tryz.zeroValue150
  t164 := Tryz.underlying178
  a164 := Tryz.isAgg178
  z164 := Tryz.sizeOf178
  v164 := Tryz.zeroValue178 }
theorem Tryz.Builder_Extra_156 : Builder.Extra Tryz.prog Tryz.lays156_ren := {
  sizeBuilder := by kernel_rfl
  liesBuilder := by kernel_rfl
  t5 := Tryz.underlying5
  a5 := Tryz.isAgg5
  z5 := Tryz.sizeOf5
  v5 := Tryz.zeroValue5
  infoByte := by kernel_rfl
  cellsByte := by kernel_rfl
  sizeByte := by kernel_rfl
  neB5 := by decide }
def Tryz.lays161_ren : Go.Shelf.Ren := ⟨fun | 161 => 109 | 231 => 130 | 227 => 132 | 233 => 133 | 235 => 135 | 228 => 163 | 197 => 141 | 151 => 164 | 260 => 172 | 152 => 184 | 137 => 124 | 119 => 195 | 224 => 167 | 225 => 166 | 217 => 158 | 266 => 181 | n => n, fun | 9 => 9 | 4 => 4 | 3 => 3 | 5 => 5 | 117 => 161 | 116 => 160 | 0 => 0 | 124 => 164 | 105 => 167 | 21 => 21 | 119 => 155 | 46 => 123 | 139 => 214 | 138 => 213 | n => n, fun | 3 => 5 | 4 => 6 | n => n⟩
theorem Tryz.lays161 : Go.Proofs.Lays.n161 Tryz.prog Tryz.lays161_ren := {
  mixed := by kernel_rfl
  f119 := Tryz.func195.trans (congrArg some (by kernel_rfl))
  f137 := Tryz.func124.trans (congrArg some (by kernel_rfl))
  f151 := Tryz.func164.trans (congrArg some (by kernel_rfl))
  f152 := Tryz.func184.trans (congrArg some (by kernel_rfl))
  f161 := Tryz.func109.trans (congrArg some (by kernel_rfl))
  f197 := Tryz.func141.trans (congrArg some (by kernel_rfl))
  f217 := Tryz.func158.trans (congrArg some (by kernel_rfl))
  f224 := Tryz.func167.trans (congrArg some (by kernel_rfl))
  f225 := Tryz.func166.trans (congrArg some (by kernel_rfl))
  f227 := Tryz.func132.trans (congrArg some (by kernel_rfl))
  f228 := Tryz.func163.trans (congrArg some (by kernel_rfl))
  f231 := Tryz.func130.trans (congrArg some (by kernel_rfl))
  f233 := Tryz.func133.trans (congrArg some (by kernel_rfl))
  f235 := Tryz.func135.trans (congrArg some (by kernel_rfl))
  f260 := Tryz.func172.trans (congrArg some (by kernel_rfl))
  f266 := Tryz.func181.trans (congrArg some (by kernel_rfl))
  t0 := Tryz.underlying0
  a0 := Tryz.isAgg0
  z0 := Tryz.sizeOf0
  v0 := Tryz.zeroValue0
  t3 := Tryz.underlying3
  a3 := Tryz.isAgg3
  z3 := Tryz.sizeOf3
  v3 := Tryz.zeroValue3
  t4 := Tryz.underlying4
  a4 := Tryz.isAgg4
  z4 := Tryz.sizeOf4
  v4 := Tryz.zeroValue4
  t5 := Tryz.underlying5
  a5 := Tryz.isAgg5
  z5 := Tryz.sizeOf5
  v5 := Tryz.zeroValue5
  t9 := Tryz.underlying9
  a9 := Tryz.isAgg9
  z9 := Tryz.sizeOf9
  v9 := Tryz.zeroValue9
  t21 := Tryz.underlying21
  a21 := Tryz.isAgg21
  z21 := Tryz.sizeOf21
  v21 := Tryz.zeroValue21
  t46 := Tryz.underlying123
  a46 := Tryz.isAgg123
  z46 := Tryz.sizeOf123
  v46 := Tryz.zeroValue123
  t105 := Tryz.underlying167
  a105 := Tryz.isAgg167
  z105 := Tryz.sizeOf167
  v105 := Tryz.zeroValue167
  t116 := Tryz.underlying160
  a116 := Tryz.isAgg160
  z116 := Tryz.sizeOf160
  t117 := Tryz.underlying161
  a117 := Tryz.isAgg161
  z117 := Tryz.sizeOf161
  v117 := Tryz.zeroValue161
  t119 := Tryz.underlying155
  a119 := Tryz.isAgg155
  z119 := Tryz.sizeOf155
  t124 := Tryz.underlying164
  a124 := Tryz.isAgg164
  z124 := Tryz.sizeOf164
  v124 := Tryz.zeroValue164
  t138 := Tryz.underlying213
  a138 := Tryz.isAgg213
  z138 := Tryz.sizeOf213
  v138 := Tryz.zeroValue213
  t139 := Tryz.underlying214
  a139 := Tryz.isAgg214
  z139 := Tryz.sizeOf214
  v139 := Tryz.zeroValue214
  g3 := by kernel_rfl
  g4 := by kernel_rfl }
def Tryz.lays160_ren : Go.Shelf.Ren := ⟨fun | 160 => 92 | 232 => 131 | 231 => 130 | 227 => 132 | 234 => 134 | 233 => 133 | 236 => 136 | 235 => 135 | 228 => 163 | 271 => 165 | 151 => 164 | 197 => 141 | 120 => 185 | 152 => 184 | 260 => 172 | 137 => 124 | 119 => 195 | 224 => 167 | 225 => 166 | 217 => 158 | 266 => 181 | n => n, fun | 9 => 9 | 4 => 4 | 3 => 3 | 5 => 5 | 117 => 161 | 116 => 160 | 0 => 0 | 124 => 164 | 21 => 21 | 105 => 167 | 46 => 123 | 119 => 155 | 139 => 214 | 138 => 213 | n => n, fun | 3 => 5 | 4 => 6 | n => n⟩
theorem Tryz.lays160 : Go.Proofs.Lays.n160 Tryz.prog Tryz.lays160_ren := {
  mixed := by kernel_rfl
  f119 := Tryz.func195.trans (congrArg some (by kernel_rfl))
  f120 := Tryz.func185.trans (congrArg some (by kernel_rfl))
  f137 := Tryz.func124.trans (congrArg some (by kernel_rfl))
  f151 := Tryz.func164.trans (congrArg some (by kernel_rfl))
  f152 := Tryz.func184.trans (congrArg some (by kernel_rfl))
  f160 := Tryz.func92.trans (congrArg some (by kernel_rfl))
  f197 := Tryz.func141.trans (congrArg some (by kernel_rfl))
  f217 := Tryz.func158.trans (congrArg some (by kernel_rfl))
  f224 := Tryz.func167.trans (congrArg some (by kernel_rfl))
  f225 := Tryz.func166.trans (congrArg some (by kernel_rfl))
  f227 := Tryz.func132.trans (congrArg some (by kernel_rfl))
  f228 := Tryz.func163.trans (congrArg some (by kernel_rfl))
  f231 := Tryz.func130.trans (congrArg some (by kernel_rfl))
  f232 := Tryz.func131.trans (congrArg some (by kernel_rfl))
  f233 := Tryz.func133.trans (congrArg some (by kernel_rfl))
  f234 := Tryz.func134.trans (congrArg some (by kernel_rfl))
  f235 := Tryz.func135.trans (congrArg some (by kernel_rfl))
  f236 := Tryz.func136.trans (congrArg some (by kernel_rfl))
  f260 := Tryz.func172.trans (congrArg some (by kernel_rfl))
  f266 := Tryz.func181.trans (congrArg some (by kernel_rfl))
  f271 := Tryz.func165.trans (congrArg some (by kernel_rfl))
  t0 := Tryz.underlying0
  a0 := Tryz.isAgg0
  z0 := Tryz.sizeOf0
  v0 := Tryz.zeroValue0
  t3 := Tryz.underlying3
  a3 := Tryz.isAgg3
  z3 := Tryz.sizeOf3
  v3 := Tryz.zeroValue3
  t4 := Tryz.underlying4
  a4 := Tryz.isAgg4
  z4 := Tryz.sizeOf4
  v4 := Tryz.zeroValue4
  t5 := Tryz.underlying5
  a5 := Tryz.isAgg5
  z5 := Tryz.sizeOf5
  v5 := Tryz.zeroValue5
  t9 := Tryz.underlying9
  a9 := Tryz.isAgg9
  z9 := Tryz.sizeOf9
  v9 := Tryz.zeroValue9
  t21 := Tryz.underlying21
  a21 := Tryz.isAgg21
  z21 := Tryz.sizeOf21
  v21 := Tryz.zeroValue21
  t46 := Tryz.underlying123
  a46 := Tryz.isAgg123
  z46 := Tryz.sizeOf123
  v46 := Tryz.zeroValue123
  t105 := Tryz.underlying167
  a105 := Tryz.isAgg167
  z105 := Tryz.sizeOf167
  v105 := Tryz.zeroValue167
  t116 := Tryz.underlying160
  a116 := Tryz.isAgg160
  z116 := Tryz.sizeOf160
  t117 := Tryz.underlying161
  a117 := Tryz.isAgg161
  z117 := Tryz.sizeOf161
  v117 := Tryz.zeroValue161
  t119 := Tryz.underlying155
  a119 := Tryz.isAgg155
  z119 := Tryz.sizeOf155
  t124 := Tryz.underlying164
  a124 := Tryz.isAgg164
  z124 := Tryz.sizeOf164
  v124 := Tryz.zeroValue164
  t138 := Tryz.underlying213
  a138 := Tryz.isAgg213
  z138 := Tryz.sizeOf213
  v138 := Tryz.zeroValue213
  t139 := Tryz.underlying214
  a139 := Tryz.isAgg214
  z139 := Tryz.sizeOf214
  v139 := Tryz.zeroValue214
  g3 := by kernel_rfl
  g4 := by kernel_rfl }
def Tryz.lays106_ren : Go.Shelf.Ren := ⟨fun | 106 => 114 | 213 => 153 | 265 => 180 | n => n, fun | 9 => 9 | 3 => 3 | n => n, fun | n => n⟩
theorem Tryz.lays106 : Go.Proofs.Lays.n106 Tryz.prog Tryz.lays106_ren := {
  mixed := by kernel_rfl
  f106 := Tryz.func114.trans (congrArg some (by kernel_rfl))
  f213 := Tryz.func153.trans (congrArg some (by kernel_rfl))
  f265 := Tryz.func180.trans (congrArg some (by kernel_rfl))
  t3 := Tryz.underlying3
  a3 := Tryz.isAgg3
  z3 := Tryz.sizeOf3
  v3 := Tryz.zeroValue3
  t9 := Tryz.underlying9
  a9 := Tryz.isAgg9
  z9 := Tryz.sizeOf9
  v9 := Tryz.zeroValue9 }
open Go.RowKit in
theorem Tryz.strings_Compare (a b : ByteArray) (w : World) :
    Calls Tryz.prog 114 #[.string a, .string b] w fun e w' => e = .returned (.int .i64 (Lib.compareBytes a.data.toList b.data.toList)) ∧ w' = w := Any.strings_Compare Tryz.lays106 a b w
def Tryz.lays137_ren : Go.Shelf.Ren := ⟨fun | 137 => 124 | 217 => 158 | 266 => 181 | n => n, fun | 9 => 9 | 5 => 5 | 3 => 3 | n => n, fun | n => n⟩
theorem Tryz.lays137 : Go.Proofs.Lays.n137 Tryz.prog Tryz.lays137_ren := {
  mixed := by kernel_rfl
  f137 := Tryz.func124.trans (congrArg some (by kernel_rfl))
  f217 := Tryz.func158.trans (congrArg some (by kernel_rfl))
  f266 := Tryz.func181.trans (congrArg some (by kernel_rfl))
  t3 := Tryz.underlying3
  a3 := Tryz.isAgg3
  z3 := Tryz.sizeOf3
  v3 := Tryz.zeroValue3
  t5 := Tryz.underlying5
  a5 := Tryz.isAgg5
  z5 := Tryz.sizeOf5
  v5 := Tryz.zeroValue5
  t9 := Tryz.underlying9
  a9 := Tryz.isAgg9
  z9 := Tryz.sizeOf9
  v9 := Tryz.zeroValue9 }
open Go.RowKit in
theorem Tryz.strings_IndexByte (s : ByteArray) (c : Int) (w : World) :
    Calls Tryz.prog 124 #[.string s, .int .u8 c] w fun e w' => e = .returned (.int .i64 (Lib.indexByte s.data.toList c.toNat.toUInt8)) ∧ w' = w := Any.strings_IndexByte Tryz.lays137 s c w
def Tryz.lays104_ren : Go.Shelf.Ren := ⟨fun | 104 => 99 | 211 => 142 | 207 => 94 | n => n, fun | 9 => 9 | 4 => 4 | 24 => 80 | 3 => 3 | n => n, fun | n => n⟩
theorem Tryz.lays104 : Go.Proofs.Lays.n104 Tryz.prog Tryz.lays104_ren := {
  mixed := by kernel_rfl
  f104 := Tryz.func99.trans (congrArg some (by kernel_rfl))
  f207 := Tryz.func94.trans (congrArg some (by kernel_rfl))
  f211 := Tryz.func142.trans (congrArg some (by kernel_rfl))
  t3 := Tryz.underlying3
  a3 := Tryz.isAgg3
  z3 := Tryz.sizeOf3
  v3 := Tryz.zeroValue3
  t4 := Tryz.underlying4
  a4 := Tryz.isAgg4
  z4 := Tryz.sizeOf4
  v4 := Tryz.zeroValue4
  t9 := Tryz.underlying9
  a9 := Tryz.isAgg9
  z9 := Tryz.sizeOf9
  v9 := Tryz.zeroValue9
  t24 := Tryz.underlying80
  a24 := Tryz.isAgg80
  z24 := Tryz.sizeOf80
  v24 := Tryz.zeroValue80 }
open Go.RowKit in
theorem Tryz.strings_CutSuffix (s p : ByteArray) (w : World) (hs : s.size ≤ 9223372036854775807) :
    Calls Tryz.prog 99 #[.string s, .string p] w fun e w' => e = .returned (.tuple #[.string ⟨(Lib.trimSuffix s.data.toList p.data.toList).toArray⟩, .bool (Lib.hasSuffix s.data.toList p.data.toList)]) ∧ w' = w := Any.strings_CutSuffix Tryz.lays104 s p w hs
def Tryz.lays122_ren : Go.Shelf.Ren := ⟨fun | 122 => 113 | 215 => 152 | n => n, fun | 3 => 3 | 4 => 4 | n => n, fun | n => n⟩
theorem Tryz.lays122 : Go.Proofs.Lays.n122 Tryz.prog Tryz.lays122_ren := {
  mixed := by kernel_rfl
  f122 := Tryz.func113.trans (congrArg some (by kernel_rfl))
  f215 := Tryz.func152.trans (congrArg some (by kernel_rfl))
  t3 := Tryz.underlying3
  a3 := Tryz.isAgg3
  z3 := Tryz.sizeOf3
  v3 := Tryz.zeroValue3
  t4 := Tryz.underlying4
  a4 := Tryz.isAgg4
  z4 := Tryz.sizeOf4
  v4 := Tryz.zeroValue4 }
open Go.RowKit in
theorem Tryz.cmp_Compare_int (x y : Int) (w : World) :
    Calls Tryz.prog 113 #[.int .i64 x, .int .i64 y] w fun e w' => e = .returned (.int .i64 (Lib.compareInt x y)) ∧ w' = w := Any.cmp_Compare_int Tryz.lays122 x y w
def Tryz.laysM171_ren : Go.Shelf.Ren := ⟨fun | 171 => 72 | 243 => 108 | 246 => 146 | 283 => 173 | 284 => 174 | 285 => 175 | 286 => 176 | 129 => 189 | 317 => 188 | 318 => 190 | 319 => 191 | 320 => 192 | 337 => 197 | 338 => 198 | n => n, fun | 3 => 3 | 9 => 9 | 2 => 2 | 4 => 4 | 171 => 188 | 0 => 0 | 53 => 147 | 37 => 106 | 5 => 5 | 173 => 191 | 212 => 216 | 51 => 144 | 20 => 20 | 213 => 217 | 46 => 123 | 232 => 226 | 233 => 227 | n => n, fun | 17 => 7 | 18 => 8 | 19 => 9 | n => n⟩
theorem Tryz.laysM171 : Go.Proofs.LaysM.n171 Tryz.prog Tryz.laysM171_ren := {
  mixed := by kernel_rfl
  f129 := Tryz.func189.trans (congrArg some (by kernel_rfl))
  f171 := Tryz.func72.trans (congrArg some (by kernel_rfl))
  f243 := Tryz.func108.trans (congrArg some (by kernel_rfl))
  f246 := Tryz.func146.trans (congrArg some (by kernel_rfl))
  f283 := Tryz.func173.trans (congrArg some (by kernel_rfl))
  f284 := Tryz.func174.trans (congrArg some (by kernel_rfl))
  f285 := Tryz.func175.trans (congrArg some (by kernel_rfl))
  f286 := Tryz.func176.trans (congrArg some (by kernel_rfl))
  f317 := Tryz.func188.trans (congrArg some (by kernel_rfl))
  f318 := Tryz.func190.trans (congrArg some (by kernel_rfl))
  f319 := Tryz.func191.trans (congrArg some (by kernel_rfl))
  f320 := Tryz.func192.trans (congrArg some (by kernel_rfl))
  f337 := Tryz.func197.trans (congrArg some (by kernel_rfl))
  f338 := Tryz.func198.trans (congrArg some (by kernel_rfl))
  t0 := Tryz.underlying0
  a0 := Tryz.isAgg0
  z0 := Tryz.sizeOf0
  v0 := Tryz.zeroValue0
  t2 := Tryz.underlying2
  a2 := Tryz.isAgg2
  z2 := Tryz.sizeOf2
  v2 := Tryz.zeroValue2
  t3 := Tryz.underlying3
  a3 := Tryz.isAgg3
  z3 := Tryz.sizeOf3
  v3 := Tryz.zeroValue3
  t4 := Tryz.underlying4
  a4 := Tryz.isAgg4
  z4 := Tryz.sizeOf4
  v4 := Tryz.zeroValue4
  t5 := Tryz.underlying5
  a5 := Tryz.isAgg5
  z5 := Tryz.sizeOf5
  v5 := Tryz.zeroValue5
  t9 := Tryz.underlying9
  a9 := Tryz.isAgg9
  z9 := Tryz.sizeOf9
  v9 := Tryz.zeroValue9
  t20 := Tryz.underlying20
  a20 := Tryz.isAgg20
  z20 := Tryz.sizeOf20
  v20 := Tryz.zeroValue20
  t37 := Tryz.underlying106
  a37 := Tryz.isAgg106
  z37 := Tryz.sizeOf106
  v37 := Tryz.zeroValue106
  t46 := Tryz.underlying123
  a46 := Tryz.isAgg123
  z46 := Tryz.sizeOf123
  v46 := Tryz.zeroValue123
  t51 := Tryz.underlying144
  a51 := Tryz.isAgg144
  z51 := Tryz.sizeOf144
  v51 := Tryz.zeroValue144
  t53 := Tryz.underlying147
  a53 := Tryz.isAgg147
  z53 := Tryz.sizeOf147
  v53 := Tryz.zeroValue147
  t171 := Tryz.underlying188
  a171 := Tryz.isAgg188
  z171 := Tryz.sizeOf188
  v171 := Tryz.zeroValue188
  t173 := Tryz.underlying191
  a173 := Tryz.isAgg191
  z173 := Tryz.sizeOf191
  v173 := Tryz.zeroValue191
  t212 := Tryz.underlying216
  a212 := Tryz.isAgg216
  z212 := Tryz.sizeOf216
  v212 := Tryz.zeroValue216
  t213 := Tryz.underlying217
  a213 := Tryz.isAgg217
  z213 := Tryz.sizeOf217
  t232 := Tryz.underlying226
  a232 := Tryz.isAgg226
  z232 := Tryz.sizeOf226
  v232 := Tryz.zeroValue226
  t233 := Tryz.underlying227
  a233 := Tryz.isAgg227
  z233 := Tryz.sizeOf227
  v233 := Tryz.zeroValue227
  g17 := by kernel_rfl
  g18 := by kernel_rfl
  g19 := by kernel_rfl
  i0 := by kernel_rfl
  i2 := by kernel_rfl
  i3 := by kernel_rfl
  i4 := by kernel_rfl
  i5 := by kernel_rfl
  i9 := by kernel_rfl
  i20 := by kernel_rfl
  i37 := by kernel_rfl
  i46 := by kernel_rfl
  i51 := by kernel_rfl
  i53 := by kernel_rfl
  i171 := by kernel_rfl
  i173 := by kernel_rfl
  i212 := by kernel_rfl
  i232 := by kernel_rfl
  i233 := by kernel_rfl
  m17 := by kernel_rfl
  m18 := by kernel_rfl
  m19 := by kernel_rfl }
def Tryz.lays171_ren : Go.Shelf.Ren := ⟨fun | 171 => 72 | 243 => 108 | 246 => 146 | 283 => 173 | 284 => 174 | 285 => 175 | 286 => 176 | 129 => 189 | 317 => 188 | 318 => 190 | 319 => 191 | 320 => 192 | 337 => 197 | 338 => 198 | n => n, fun | 3 => 3 | 9 => 9 | 2 => 2 | 4 => 4 | 171 => 188 | 0 => 0 | 53 => 147 | 37 => 106 | 5 => 5 | 173 => 191 | 212 => 216 | 51 => 144 | 20 => 20 | 213 => 217 | 46 => 123 | 232 => 226 | 233 => 227 | n => n, fun | 17 => 7 | 18 => 8 | 19 => 9 | n => n⟩
theorem Tryz.lays171 : Go.Proofs.Lays.n171 Tryz.prog Tryz.lays171_ren := {
  mixed := by kernel_rfl
  f129 := Tryz.func189.trans (congrArg some (by kernel_rfl))
  f171 := Tryz.func72.trans (congrArg some (by kernel_rfl))
  f243 := Tryz.func108.trans (congrArg some (by kernel_rfl))
  f246 := Tryz.func146.trans (congrArg some (by kernel_rfl))
  f283 := Tryz.func173.trans (congrArg some (by kernel_rfl))
  f284 := Tryz.func174.trans (congrArg some (by kernel_rfl))
  f285 := Tryz.func175.trans (congrArg some (by kernel_rfl))
  f286 := Tryz.func176.trans (congrArg some (by kernel_rfl))
  f317 := Tryz.func188.trans (congrArg some (by kernel_rfl))
  f318 := Tryz.func190.trans (congrArg some (by kernel_rfl))
  f319 := Tryz.func191.trans (congrArg some (by kernel_rfl))
  f320 := Tryz.func192.trans (congrArg some (by kernel_rfl))
  f337 := Tryz.func197.trans (congrArg some (by kernel_rfl))
  f338 := Tryz.func198.trans (congrArg some (by kernel_rfl))
  t0 := Tryz.underlying0
  a0 := Tryz.isAgg0
  z0 := Tryz.sizeOf0
  v0 := Tryz.zeroValue0
  t2 := Tryz.underlying2
  a2 := Tryz.isAgg2
  z2 := Tryz.sizeOf2
  v2 := Tryz.zeroValue2
  t3 := Tryz.underlying3
  a3 := Tryz.isAgg3
  z3 := Tryz.sizeOf3
  v3 := Tryz.zeroValue3
  t4 := Tryz.underlying4
  a4 := Tryz.isAgg4
  z4 := Tryz.sizeOf4
  v4 := Tryz.zeroValue4
  t5 := Tryz.underlying5
  a5 := Tryz.isAgg5
  z5 := Tryz.sizeOf5
  v5 := Tryz.zeroValue5
  t9 := Tryz.underlying9
  a9 := Tryz.isAgg9
  z9 := Tryz.sizeOf9
  v9 := Tryz.zeroValue9
  t20 := Tryz.underlying20
  a20 := Tryz.isAgg20
  z20 := Tryz.sizeOf20
  v20 := Tryz.zeroValue20
  t37 := Tryz.underlying106
  a37 := Tryz.isAgg106
  z37 := Tryz.sizeOf106
  v37 := Tryz.zeroValue106
  t46 := Tryz.underlying123
  a46 := Tryz.isAgg123
  z46 := Tryz.sizeOf123
  v46 := Tryz.zeroValue123
  t51 := Tryz.underlying144
  a51 := Tryz.isAgg144
  z51 := Tryz.sizeOf144
  v51 := Tryz.zeroValue144
  t53 := Tryz.underlying147
  a53 := Tryz.isAgg147
  z53 := Tryz.sizeOf147
  v53 := Tryz.zeroValue147
  t171 := Tryz.underlying188
  a171 := Tryz.isAgg188
  z171 := Tryz.sizeOf188
  v171 := Tryz.zeroValue188
  t173 := Tryz.underlying191
  a173 := Tryz.isAgg191
  z173 := Tryz.sizeOf191
  v173 := Tryz.zeroValue191
  t212 := Tryz.underlying216
  a212 := Tryz.isAgg216
  z212 := Tryz.sizeOf216
  v212 := Tryz.zeroValue216
  t213 := Tryz.underlying217
  a213 := Tryz.isAgg217
  z213 := Tryz.sizeOf217
  t232 := Tryz.underlying226
  a232 := Tryz.isAgg226
  z232 := Tryz.sizeOf226
  v232 := Tryz.zeroValue226
  t233 := Tryz.underlying227
  a233 := Tryz.isAgg227
  z233 := Tryz.sizeOf227
  v233 := Tryz.zeroValue227
  g17 := by kernel_rfl
  g18 := by kernel_rfl
  g19 := by kernel_rfl }
open Go.RowKit Go.Sort Go.Lib in
theorem Tryz.strconv_Itoa_small (i : Nat) (hi : i < 100) (w : World) :
    Calls Tryz.prog 72 #[.int .i64 i] w fun e w' => e = .returned (.string ⟨(Lib.decDigits i).toArray⟩) ∧ w' = w := Any.strconv_Itoa_small Tryz.lays171 i hi w
def Tryz.laysC172_ren : Go.Shelf.Ren := ⟨fun | 172 => 74 | 244 => 110 | 245 => 111 | 247 => 147 | 279 => 148 | 280 => 149 | 281 => 150 | 282 => 151 | 287 => 177 | 316 => 178 | 171 => 72 | 205 => 179 | 321 => 193 | 322 => 194 | 243 => 108 | 246 => 146 | 283 => 173 | 284 => 174 | 285 => 175 | 286 => 176 | 129 => 189 | 317 => 188 | 318 => 190 | 319 => 191 | 320 => 192 | 337 => 197 | 338 => 198 | n => n, fun | 9 => 9 | 3 => 3 | 75 => 118 | 76 => 119 | 4 => 4 | 5 => 5 | 167 => 172 | 37 => 106 | 0 => 0 | 85 => 173 | 2 => 2 | 168 => 175 | 53 => 147 | 175 => 193 | 46 => 123 | 210 => 197 | 127 => 150 | 145 => 222 | 143 => 220 | 21 => 21 | 171 => 188 | 173 => 191 | 212 => 216 | 51 => 144 | 20 => 20 | 213 => 217 | 232 => 226 | 233 => 227 | 80 => 48 | n => n, fun | 15 => 3 | 16 => 4 | 17 => 7 | 18 => 8 | 19 => 9 | n => n⟩
theorem Tryz.laysC172 : Go.Proofs.LaysC.n172 Tryz.prog Tryz.laysC172_ren := {
  mixed := by kernel_rfl
  f129 := Tryz.func189.trans (congrArg some (by kernel_rfl))
  f171 := Tryz.func72.trans (congrArg some (by kernel_rfl))
  f172 := Tryz.func74.trans (congrArg some (by kernel_rfl))
  f205 := Tryz.func179.trans (congrArg some (by kernel_rfl))
  f243 := Tryz.func108.trans (congrArg some (by kernel_rfl))
  f244 := Tryz.func110.trans (congrArg some (by kernel_rfl))
  f245 := Tryz.func111.trans (congrArg some (by kernel_rfl))
  f246 := Tryz.func146.trans (congrArg some (by kernel_rfl))
  f247 := Tryz.func147.trans (congrArg some (by kernel_rfl))
  f279 := Tryz.func148.trans (congrArg some (by kernel_rfl))
  f280 := Tryz.func149.trans (congrArg some (by kernel_rfl))
  f281 := Tryz.func150.trans (congrArg some (by kernel_rfl))
  f282 := Tryz.func151.trans (congrArg some (by kernel_rfl))
  f283 := Tryz.func173.trans (congrArg some (by kernel_rfl))
  f284 := Tryz.func174.trans (congrArg some (by kernel_rfl))
  f285 := Tryz.func175.trans (congrArg some (by kernel_rfl))
  f286 := Tryz.func176.trans (congrArg some (by kernel_rfl))
  f287 := Tryz.func177.trans (congrArg some (by kernel_rfl))
  f316 := Tryz.func178.trans (congrArg some (by kernel_rfl))
  f317 := Tryz.func188.trans (congrArg some (by kernel_rfl))
  f318 := Tryz.func190.trans (congrArg some (by kernel_rfl))
  f319 := Tryz.func191.trans (congrArg some (by kernel_rfl))
  f320 := Tryz.func192.trans (congrArg some (by kernel_rfl))
  f321 := Tryz.func193.trans (congrArg some (by kernel_rfl))
  f322 := Tryz.func194.trans (congrArg some (by kernel_rfl))
  f337 := Tryz.func197.trans (congrArg some (by kernel_rfl))
  f338 := Tryz.func198.trans (congrArg some (by kernel_rfl))
  t0 := Tryz.underlying0
  a0 := Tryz.isAgg0
  z0 := Tryz.sizeOf0
  v0 := Tryz.zeroValue0
  t2 := Tryz.underlying2
  a2 := Tryz.isAgg2
  z2 := Tryz.sizeOf2
  v2 := Tryz.zeroValue2
  t3 := Tryz.underlying3
  a3 := Tryz.isAgg3
  z3 := Tryz.sizeOf3
  v3 := Tryz.zeroValue3
  t4 := Tryz.underlying4
  a4 := Tryz.isAgg4
  z4 := Tryz.sizeOf4
  v4 := Tryz.zeroValue4
  t5 := Tryz.underlying5
  a5 := Tryz.isAgg5
  z5 := Tryz.sizeOf5
  v5 := Tryz.zeroValue5
  t9 := Tryz.underlying9
  a9 := Tryz.isAgg9
  z9 := Tryz.sizeOf9
  v9 := Tryz.zeroValue9
  t20 := Tryz.underlying20
  a20 := Tryz.isAgg20
  z20 := Tryz.sizeOf20
  v20 := Tryz.zeroValue20
  t21 := Tryz.underlying21
  a21 := Tryz.isAgg21
  z21 := Tryz.sizeOf21
  v21 := Tryz.zeroValue21
  t37 := Tryz.underlying106
  a37 := Tryz.isAgg106
  z37 := Tryz.sizeOf106
  v37 := Tryz.zeroValue106
  t46 := Tryz.underlying123
  a46 := Tryz.isAgg123
  z46 := Tryz.sizeOf123
  v46 := Tryz.zeroValue123
  t51 := Tryz.underlying144
  a51 := Tryz.isAgg144
  z51 := Tryz.sizeOf144
  v51 := Tryz.zeroValue144
  t53 := Tryz.underlying147
  a53 := Tryz.isAgg147
  z53 := Tryz.sizeOf147
  v53 := Tryz.zeroValue147
  t75 := Tryz.underlying118
  a75 := Tryz.isAgg118
  z75 := Tryz.sizeOf118
  v75 := Tryz.zeroValue118
  t76 := Tryz.underlying119
  a76 := Tryz.isAgg119
  z76 := Tryz.sizeOf119
  v76 := Tryz.zeroValue119
  t85 := Tryz.underlying173
  a85 := Tryz.isAgg173
  z85 := Tryz.sizeOf173
  v85 := Tryz.zeroValue173
  t127 := Tryz.underlying150
  a127 := Tryz.isAgg150
  z127 := Tryz.sizeOf150
  v127 := Tryz.zeroValue150
  t143 := Tryz.underlying220
  a143 := Tryz.isAgg220
  z143 := Tryz.sizeOf220
  v143 := Tryz.zeroValue220
  t145 := Tryz.underlying222
  a145 := Tryz.isAgg222
  z145 := Tryz.sizeOf222
  v145 := Tryz.zeroValue222
  t167 := Tryz.underlying172
  a167 := Tryz.isAgg172
  z167 := Tryz.sizeOf172
  v167 := Tryz.zeroValue172
  t168 := Tryz.underlying175
  a168 := Tryz.isAgg175
  z168 := Tryz.sizeOf175
  v168 := Tryz.zeroValue175
  t171 := Tryz.underlying188
  a171 := Tryz.isAgg188
  z171 := Tryz.sizeOf188
  v171 := Tryz.zeroValue188
  t173 := Tryz.underlying191
  a173 := Tryz.isAgg191
  z173 := Tryz.sizeOf191
  v173 := Tryz.zeroValue191
  t175 := Tryz.underlying193
  a175 := Tryz.isAgg193
  z175 := Tryz.sizeOf193
  v175 := Tryz.zeroValue193
  t210 := Tryz.underlying197
  a210 := Tryz.isAgg197
  z210 := Tryz.sizeOf197
  v210 := Tryz.zeroValue197
  t212 := Tryz.underlying216
  a212 := Tryz.isAgg216
  z212 := Tryz.sizeOf216
  v212 := Tryz.zeroValue216
  t213 := Tryz.underlying217
  a213 := Tryz.isAgg217
  z213 := Tryz.sizeOf217
  t232 := Tryz.underlying226
  a232 := Tryz.isAgg226
  z232 := Tryz.sizeOf226
  v232 := Tryz.zeroValue226
  t233 := Tryz.underlying227
  a233 := Tryz.isAgg227
  z233 := Tryz.sizeOf227
  v233 := Tryz.zeroValue227
  g15 := by kernel_rfl
  g16 := by kernel_rfl
  g17 := by kernel_rfl
  g18 := by kernel_rfl
  g19 := by kernel_rfl
  t80 := Tryz.underlying48
  a80 := Tryz.isAgg48
  z80 := Tryz.sizeOf48
  v80 := Tryz.zeroValue48
  i0 := by kernel_rfl
  i2 := by kernel_rfl
  i3 := by kernel_rfl
  i4 := by kernel_rfl
  i5 := by kernel_rfl
  i9 := by kernel_rfl
  i20 := by kernel_rfl
  i21 := by kernel_rfl
  i37 := by kernel_rfl
  i46 := by kernel_rfl
  i51 := by kernel_rfl
  i53 := by kernel_rfl
  i75 := by kernel_rfl
  i76 := by kernel_rfl
  i80 := by kernel_rfl
  i85 := by kernel_rfl
  i127 := by kernel_rfl
  i143 := by kernel_rfl
  i145 := by kernel_rfl
  i167 := by kernel_rfl
  i168 := by kernel_rfl
  i171 := by kernel_rfl
  i173 := by kernel_rfl
  i175 := by kernel_rfl
  i210 := by kernel_rfl
  i212 := by kernel_rfl
  i232 := by kernel_rfl
  i233 := by kernel_rfl
  m15 := by kernel_rfl
  m16 := by kernel_rfl
  m17 := by kernel_rfl
  m18 := by kernel_rfl
  m19 := by kernel_rfl
  c0 := by kernel_rfl
  c2 := by kernel_rfl
  c3 := by kernel_rfl
  c4 := by kernel_rfl
  c5 := by kernel_rfl
  c9 := by kernel_rfl
  c20 := by kernel_rfl
  c21 := by kernel_rfl
  c37 := by kernel_rfl
  c46 := by kernel_rfl
  c51 := by kernel_rfl
  c53 := by kernel_rfl
  c75 := by kernel_rfl
  c76 := by kernel_rfl
  c80 := by kernel_rfl
  c85 := by kernel_rfl
  c127 := by kernel_rfl
  c143 := by kernel_rfl
  c145 := by kernel_rfl
  c167 := by kernel_rfl
  c168 := by kernel_rfl
  c171 := by kernel_rfl
  c173 := by kernel_rfl
  c175 := by kernel_rfl
  c210 := by kernel_rfl
  c212 := by kernel_rfl
  c213 := by kernel_rfl
  c232 := by kernel_rfl
  c233 := by kernel_rfl }
def Tryz.lays143_ren : Go.Shelf.Ren := ⟨fun | 143 => 93 | 219 => 137 | 217 => 158 | 225 => 166 | 224 => 167 | 267 => 168 | 266 => 181 | 314 => 186 | n => n, fun | 9 => 9 | 3 => 3 | 4 => 4 | 5 => 5 | 46 => 123 | 146 => 145 | 51 => 144 | n => n, fun | 1 => 2 | n => n⟩
theorem Tryz.lays143 : Go.Proofs.Lays.n143 Tryz.prog Tryz.lays143_ren := {
  mixed := by kernel_rfl
  f143 := Tryz.func93.trans (congrArg some (by kernel_rfl))
  f217 := Tryz.func158.trans (congrArg some (by kernel_rfl))
  f219 := Tryz.func137.trans (congrArg some (by kernel_rfl))
  f224 := Tryz.func167.trans (congrArg some (by kernel_rfl))
  f225 := Tryz.func166.trans (congrArg some (by kernel_rfl))
  f266 := Tryz.func181.trans (congrArg some (by kernel_rfl))
  f267 := Tryz.func168.trans (congrArg some (by kernel_rfl))
  f314 := Tryz.func186.trans (congrArg some (by kernel_rfl))
  t3 := Tryz.underlying3
  a3 := Tryz.isAgg3
  z3 := Tryz.sizeOf3
  v3 := Tryz.zeroValue3
  t4 := Tryz.underlying4
  a4 := Tryz.isAgg4
  z4 := Tryz.sizeOf4
  v4 := Tryz.zeroValue4
  t5 := Tryz.underlying5
  a5 := Tryz.isAgg5
  z5 := Tryz.sizeOf5
  v5 := Tryz.zeroValue5
  t9 := Tryz.underlying9
  a9 := Tryz.isAgg9
  z9 := Tryz.sizeOf9
  v9 := Tryz.zeroValue9
  t46 := Tryz.underlying123
  a46 := Tryz.isAgg123
  z46 := Tryz.sizeOf123
  v46 := Tryz.zeroValue123
  t51 := Tryz.underlying144
  a51 := Tryz.isAgg144
  z51 := Tryz.sizeOf144
  v51 := Tryz.zeroValue144
  t146 := Tryz.underlying145
  a146 := Tryz.isAgg145
  z146 := Tryz.sizeOf145
  v146 := Tryz.zeroValue145
  g1 := by kernel_rfl }
open Go.RowKit Go.Lib in
theorem Tryz.strings_Index_one (s : ByteArray) (c : UInt8) (w : World) :
    Calls Tryz.prog 93 #[.string s, .string ⟨#[c]⟩] w fun e w' => e = .returned (.int .i64 (Lib.indexByte s.data.toList c)) ∧ w' = w := Any.strings_Index_one Tryz.lays143 s c w
def Tryz.lays144_ren : Go.Shelf.Ren := ⟨fun | 144 => 57 | 143 => 93 | 219 => 137 | 217 => 158 | 225 => 166 | 224 => 167 | 267 => 168 | 266 => 181 | 314 => 186 | n => n, fun | 9 => 9 | 4 => 4 | 3 => 3 | 5 => 5 | 46 => 123 | 146 => 145 | 51 => 144 | n => n, fun | 1 => 2 | n => n⟩
theorem Tryz.lays144 : Go.Proofs.Lays.n144 Tryz.prog Tryz.lays144_ren := {
  mixed := by kernel_rfl
  f143 := Tryz.func93.trans (congrArg some (by kernel_rfl))
  f144 := Tryz.func57.trans (congrArg some (by kernel_rfl))
  f217 := Tryz.func158.trans (congrArg some (by kernel_rfl))
  f219 := Tryz.func137.trans (congrArg some (by kernel_rfl))
  f224 := Tryz.func167.trans (congrArg some (by kernel_rfl))
  f225 := Tryz.func166.trans (congrArg some (by kernel_rfl))
  f266 := Tryz.func181.trans (congrArg some (by kernel_rfl))
  f267 := Tryz.func168.trans (congrArg some (by kernel_rfl))
  f314 := Tryz.func186.trans (congrArg some (by kernel_rfl))
  t3 := Tryz.underlying3
  a3 := Tryz.isAgg3
  z3 := Tryz.sizeOf3
  v3 := Tryz.zeroValue3
  t4 := Tryz.underlying4
  a4 := Tryz.isAgg4
  z4 := Tryz.sizeOf4
  v4 := Tryz.zeroValue4
  t5 := Tryz.underlying5
  a5 := Tryz.isAgg5
  z5 := Tryz.sizeOf5
  v5 := Tryz.zeroValue5
  t9 := Tryz.underlying9
  a9 := Tryz.isAgg9
  z9 := Tryz.sizeOf9
  v9 := Tryz.zeroValue9
  t46 := Tryz.underlying123
  a46 := Tryz.isAgg123
  z46 := Tryz.sizeOf123
  v46 := Tryz.zeroValue123
  t51 := Tryz.underlying144
  a51 := Tryz.isAgg144
  z51 := Tryz.sizeOf144
  v51 := Tryz.zeroValue144
  t146 := Tryz.underlying145
  a146 := Tryz.isAgg145
  z146 := Tryz.sizeOf145
  v146 := Tryz.zeroValue145
  g1 := by kernel_rfl }
open Go.RowKit Go.Lib in
theorem Tryz.strings_Contains (s sub : ByteArray) (m : Int) (w : World) (hs : s.size < 4294967281) (hm : w.cell? ⟨2, 0, none⟩ = some (.int .i64 m)) :
    Calls Tryz.prog 57 #[.string s, .string sub] w fun e w' => e = .returned (.bool (Lib.contains s.data.toList sub.data.toList)) ∧ w' = w := Any.strings_Contains Tryz.lays144 s sub m w hs hm
def Tryz.lays99_ren : Go.Shelf.Ren := ⟨fun | 99 => 79 | 206 => 117 | n => n, fun | 9 => 9 | 4 => 4 | 3 => 3 | n => n, fun | n => n⟩
theorem Tryz.lays99 : Go.Proofs.Lays.n99 Tryz.prog Tryz.lays99_ren := {
  mixed := by kernel_rfl
  f99 := Tryz.func79.trans (congrArg some (by kernel_rfl))
  f206 := Tryz.func117.trans (congrArg some (by kernel_rfl))
  t3 := Tryz.underlying3
  a3 := Tryz.isAgg3
  z3 := Tryz.sizeOf3
  v3 := Tryz.zeroValue3
  t4 := Tryz.underlying4
  a4 := Tryz.isAgg4
  z4 := Tryz.sizeOf4
  v4 := Tryz.zeroValue4
  t9 := Tryz.underlying9
  a9 := Tryz.isAgg9
  z9 := Tryz.sizeOf9
  v9 := Tryz.zeroValue9 }
open Go.RowKit Go.Lib in
theorem Tryz.strings_HasPrefix (s p : ByteArray) (w : World) :
    Calls Tryz.prog 79 #[.string s, .string p] w fun e w' => e = .returned (.bool (Lib.hasPrefix s.data.toList p.data.toList)) ∧ w' = w := Any.strings_HasPrefix Tryz.lays99 s p w
def Tryz.lays100_ren : Go.Shelf.Ren := ⟨fun | 100 => 58 | 207 => 94 | n => n, fun | 9 => 9 | 4 => 4 | 3 => 3 | n => n, fun | n => n⟩
theorem Tryz.lays100 : Go.Proofs.Lays.n100 Tryz.prog Tryz.lays100_ren := {
  mixed := by kernel_rfl
  f100 := Tryz.func58.trans (congrArg some (by kernel_rfl))
  f207 := Tryz.func94.trans (congrArg some (by kernel_rfl))
  t3 := Tryz.underlying3
  a3 := Tryz.isAgg3
  z3 := Tryz.sizeOf3
  v3 := Tryz.zeroValue3
  t4 := Tryz.underlying4
  a4 := Tryz.isAgg4
  z4 := Tryz.sizeOf4
  v4 := Tryz.zeroValue4
  t9 := Tryz.underlying9
  a9 := Tryz.isAgg9
  z9 := Tryz.sizeOf9
  v9 := Tryz.zeroValue9 }
open Go.RowKit Go.Lib in
theorem Tryz.strings_HasSuffix (s p : ByteArray) (w : World) (hs : s.size ≤ 9223372036854775807) :
    Calls Tryz.prog 58 #[.string s, .string p] w fun e w' => e = .returned (.bool (Lib.hasSuffix s.data.toList p.data.toList)) ∧ w' = w := Any.strings_HasSuffix Tryz.lays100 s p w hs
def Tryz.lays146_ren : Go.Shelf.Ren := ⟨fun | 146 => 47 | 221 => 86 | 268 => 121 | 138 => 122 | 143 => 93 | 195 => 156 | 197 => 141 | 218 => 157 | 219 => 137 | 260 => 172 | 217 => 158 | 225 => 166 | 224 => 167 | 267 => 168 | 266 => 181 | 314 => 186 | n => n, fun | 9 => 9 | 31 => 69 | 3 => 3 | 4 => 4 | 0 => 0 | 105 => 167 | 21 => 21 | 5 => 5 | 46 => 123 | 119 => 155 | 139 => 214 | 138 => 213 | 146 => 145 | 51 => 144 | n => n, fun | 1 => 2 | 3 => 5 | 4 => 6 | n => n⟩
theorem Tryz.lays146 : Go.Proofs.Lays.n146 Tryz.prog Tryz.lays146_ren := {
  mixed := by kernel_rfl
  f138 := Tryz.func122.trans (congrArg some (by kernel_rfl))
  f143 := Tryz.func93.trans (congrArg some (by kernel_rfl))
  f146 := Tryz.func47.trans (congrArg some (by kernel_rfl))
  f195 := Tryz.func156.trans (congrArg some (by kernel_rfl))
  f197 := Tryz.func141.trans (congrArg some (by kernel_rfl))
  f217 := Tryz.func158.trans (congrArg some (by kernel_rfl))
  f218 := Tryz.func157.trans (congrArg some (by kernel_rfl))
  f219 := Tryz.func137.trans (congrArg some (by kernel_rfl))
  f221 := Tryz.func86.trans (congrArg some (by kernel_rfl))
  f224 := Tryz.func167.trans (congrArg some (by kernel_rfl))
  f225 := Tryz.func166.trans (congrArg some (by kernel_rfl))
  f260 := Tryz.func172.trans (congrArg some (by kernel_rfl))
  f266 := Tryz.func181.trans (congrArg some (by kernel_rfl))
  f267 := Tryz.func168.trans (congrArg some (by kernel_rfl))
  f268 := Tryz.func121.trans (congrArg some (by kernel_rfl))
  f314 := Tryz.func186.trans (congrArg some (by kernel_rfl))
  t0 := Tryz.underlying0
  a0 := Tryz.isAgg0
  z0 := Tryz.sizeOf0
  v0 := Tryz.zeroValue0
  t3 := Tryz.underlying3
  a3 := Tryz.isAgg3
  z3 := Tryz.sizeOf3
  v3 := Tryz.zeroValue3
  t4 := Tryz.underlying4
  a4 := Tryz.isAgg4
  z4 := Tryz.sizeOf4
  v4 := Tryz.zeroValue4
  t5 := Tryz.underlying5
  a5 := Tryz.isAgg5
  z5 := Tryz.sizeOf5
  v5 := Tryz.zeroValue5
  t9 := Tryz.underlying9
  a9 := Tryz.isAgg9
  z9 := Tryz.sizeOf9
  v9 := Tryz.zeroValue9
  t21 := Tryz.underlying21
  a21 := Tryz.isAgg21
  z21 := Tryz.sizeOf21
  v21 := Tryz.zeroValue21
  t31 := Tryz.underlying69
  a31 := Tryz.isAgg69
  z31 := Tryz.sizeOf69
  v31 := Tryz.zeroValue69
  t46 := Tryz.underlying123
  a46 := Tryz.isAgg123
  z46 := Tryz.sizeOf123
  v46 := Tryz.zeroValue123
  t51 := Tryz.underlying144
  a51 := Tryz.isAgg144
  z51 := Tryz.sizeOf144
  v51 := Tryz.zeroValue144
  t105 := Tryz.underlying167
  a105 := Tryz.isAgg167
  z105 := Tryz.sizeOf167
  v105 := Tryz.zeroValue167
  t119 := Tryz.underlying155
  a119 := Tryz.isAgg155
  z119 := Tryz.sizeOf155
  t138 := Tryz.underlying213
  a138 := Tryz.isAgg213
  z138 := Tryz.sizeOf213
  v138 := Tryz.zeroValue213
  t139 := Tryz.underlying214
  a139 := Tryz.isAgg214
  z139 := Tryz.sizeOf214
  v139 := Tryz.zeroValue214
  t146 := Tryz.underlying145
  a146 := Tryz.isAgg145
  z146 := Tryz.sizeOf145
  v146 := Tryz.zeroValue145
  g1 := by kernel_rfl
  g3 := by kernel_rfl
  g4 := by kernel_rfl }
open Go.RowKit Go.Lib in
theorem Tryz.strings_Split (s sep : ByteArray) (m : Int) (w : World) (hs : s.size < 4294967281) (hm : w.cell? ⟨2, 0, none⟩ = some (.int .i64 m)) (h1 : 1 ≤ sep.size) :
    Calls Tryz.prog 47 #[.string s, .string sep] w fun e w' =>
      e = .returned (.slice (some ⟨w.heap.size, 0, none⟩) (Lib.countB s sep + 1) (Lib.countB s sep + 1)) ∧ w' = w.alloc (.cells ((Lib.splitB sep 0 (Lib.countB s sep) s).map Value.string).toArray 9) := Any.strings_Split Tryz.lays146 (by kernel_rfl) s sep m w hs hm h1
def Tryz.laysM157_ren : Go.Shelf.Ren := ⟨fun | 157 => 91 | 229 => 128 | 199 => 129 | 261 => 162 | 311 => 182 | 312 => 183 | n => n, fun | 9 => 9 | 31 => 69 | 3 => 3 | 5 => 5 | 4 => 4 | 119 => 155 | 0 => 0 | 40 => 157 | 152 => 182 | 21 => 21 | 154 => 184 | 51 => 144 | 141 => 186 | 196 => 202 | 193 => 199 | 198 => 205 | 49 => 203 | 194 => 200 | 201 => 208 | 226 => 223 | 46 => 123 | 227 => 224 | n => n, fun | 0 => 0 | 6 => 1 | n => n⟩
theorem Tryz.laysM157 : Go.Proofs.LaysM.n157 Tryz.prog Tryz.laysM157_ren := {
  mixed := by kernel_rfl
  f157 := Tryz.func91.trans (congrArg some (by kernel_rfl))
  f199 := Tryz.func129.trans (congrArg some (by kernel_rfl))
  f229 := Tryz.func128.trans (congrArg some (by kernel_rfl))
  f261 := Tryz.func162.trans (congrArg some (by kernel_rfl))
  f311 := Tryz.func182.trans (congrArg some (by kernel_rfl))
  f312 := Tryz.func183.trans (congrArg some (by kernel_rfl))
  t0 := Tryz.underlying0
  a0 := Tryz.isAgg0
  z0 := Tryz.sizeOf0
  v0 := Tryz.zeroValue0
  t3 := Tryz.underlying3
  a3 := Tryz.isAgg3
  z3 := Tryz.sizeOf3
  v3 := Tryz.zeroValue3
  t4 := Tryz.underlying4
  a4 := Tryz.isAgg4
  z4 := Tryz.sizeOf4
  v4 := Tryz.zeroValue4
  t5 := Tryz.underlying5
  a5 := Tryz.isAgg5
  z5 := Tryz.sizeOf5
  v5 := Tryz.zeroValue5
  t9 := Tryz.underlying9
  a9 := Tryz.isAgg9
  z9 := Tryz.sizeOf9
  v9 := Tryz.zeroValue9
  t21 := Tryz.underlying21
  a21 := Tryz.isAgg21
  z21 := Tryz.sizeOf21
  v21 := Tryz.zeroValue21
  t31 := Tryz.underlying69
  a31 := Tryz.isAgg69
  z31 := Tryz.sizeOf69
  v31 := Tryz.zeroValue69
  t40 := Tryz.underlying157
  a40 := Tryz.isAgg157
  z40 := Tryz.sizeOf157
  v40 := Tryz.zeroValue157
  t46 := Tryz.underlying123
  a46 := Tryz.isAgg123
  z46 := Tryz.sizeOf123
  v46 := Tryz.zeroValue123
  t49 := Tryz.underlying203
  a49 := Tryz.isAgg203
  z49 := Tryz.sizeOf203
  v49 := Tryz.zeroValue203
  t51 := Tryz.underlying144
  a51 := Tryz.isAgg144
  z51 := Tryz.sizeOf144
  v51 := Tryz.zeroValue144
  t119 := Tryz.underlying155
  a119 := Tryz.isAgg155
  z119 := Tryz.sizeOf155
  t141 := Tryz.underlying186
  a141 := Tryz.isAgg186
  z141 := Tryz.sizeOf186
  v141 := Tryz.zeroValue186
  t152 := Tryz.underlying182
  a152 := Tryz.isAgg182
  z152 := Tryz.sizeOf182
  v152 := Tryz.zeroValue182
  t154 := Tryz.underlying184
  a154 := Tryz.isAgg184
  z154 := Tryz.sizeOf184
  v154 := Tryz.zeroValue184
  t193 := Tryz.underlying199
  a193 := Tryz.isAgg199
  z193 := Tryz.sizeOf199
  v193 := Tryz.zeroValue199
  t194 := Tryz.underlying200
  a194 := Tryz.isAgg200
  z194 := Tryz.sizeOf200
  v194 := Tryz.zeroValue200
  t196 := Tryz.underlying202
  a196 := Tryz.isAgg202
  z196 := Tryz.sizeOf202
  v196 := Tryz.zeroValue202
  t198 := Tryz.underlying205
  a198 := Tryz.isAgg205
  z198 := Tryz.sizeOf205
  v198 := Tryz.zeroValue205
  t201 := Tryz.underlying208
  a201 := Tryz.isAgg208
  z201 := Tryz.sizeOf208
  v201 := Tryz.zeroValue208
  t226 := Tryz.underlying223
  a226 := Tryz.isAgg223
  z226 := Tryz.sizeOf223
  v226 := Tryz.zeroValue223
  t227 := Tryz.underlying224
  a227 := Tryz.isAgg224
  z227 := Tryz.sizeOf224
  v227 := Tryz.zeroValue224
  g0 := by kernel_rfl
  g6 := by kernel_rfl
  i0 := by kernel_rfl
  i3 := by kernel_rfl
  i4 := by kernel_rfl
  i5 := by kernel_rfl
  i9 := by kernel_rfl
  i21 := by kernel_rfl
  i31 := by kernel_rfl
  i40 := by kernel_rfl
  i46 := by kernel_rfl
  i49 := by kernel_rfl
  i51 := by kernel_rfl
  i141 := by kernel_rfl
  i152 := by kernel_rfl
  i154 := by kernel_rfl
  i193 := by kernel_rfl
  i194 := by kernel_rfl
  i196 := by kernel_rfl
  i198 := by kernel_rfl
  i201 := by kernel_rfl
  i226 := by kernel_rfl
  i227 := by kernel_rfl
  m0 := by kernel_rfl
  m6 := by kernel_rfl }
open Go.RowKit Go.Lib in
theorem Tryz.strings_Fields_laid (s : ByteArray) (w : World) (hs : s.size < 4294967281) (hascii : ∀ (j : Nat) b, s.data.toList[j]? = some b → b.toNat < 128) (htab : Lib.TabIs Tryz.prog w "strings.asciiSpace" .u8 Lib.asciiSpaceTab) :
    Calls Tryz.prog 91 #[.string s] w fun e w' =>
      e = .returned (.slice (some ⟨w.heap.size, 0, none⟩) (Lib.fields s.data.toList).length (Lib.fields s.data.toList).length) ∧ w' = w.alloc (.cells ((Lib.fields s.data.toList).map fun l => Value.string ⟨l.toArray⟩).toArray 9) := Any.strings_Fields_laid Tryz.laysM157 s w hs hascii htab
def Tryz.lays150_ren : Go.Shelf.Ren := ⟨fun | 150 => 170 | 153 => 187 | 152 => 184 | 226 => 196 | 227 => 132 | 228 => 163 | 137 => 124 | 119 => 195 | 224 => 167 | 225 => 166 | 217 => 158 | 266 => 181 | n => n, fun | 9 => 9 | 4 => 4 | 3 => 3 | 5 => 5 | 21 => 21 | 117 => 161 | 116 => 160 | 0 => 0 | 46 => 123 | 124 => 164 | n => n, fun | n => n⟩
theorem Tryz.lays150 : Go.Proofs.Lays.n150 Tryz.prog Tryz.lays150_ren := {
  mixed := by kernel_rfl
  f119 := Tryz.func195.trans (congrArg some (by kernel_rfl))
  f137 := Tryz.func124.trans (congrArg some (by kernel_rfl))
  f150 := Tryz.func170.trans (congrArg some (by kernel_rfl))
  f152 := Tryz.func184.trans (congrArg some (by kernel_rfl))
  f153 := Tryz.func187.trans (congrArg some (by kernel_rfl))
  f217 := Tryz.func158.trans (congrArg some (by kernel_rfl))
  f224 := Tryz.func167.trans (congrArg some (by kernel_rfl))
  f225 := Tryz.func166.trans (congrArg some (by kernel_rfl))
  f226 := Tryz.func196.trans (congrArg some (by kernel_rfl))
  f227 := Tryz.func132.trans (congrArg some (by kernel_rfl))
  f228 := Tryz.func163.trans (congrArg some (by kernel_rfl))
  f266 := Tryz.func181.trans (congrArg some (by kernel_rfl))
  t0 := Tryz.underlying0
  a0 := Tryz.isAgg0
  z0 := Tryz.sizeOf0
  v0 := Tryz.zeroValue0
  t3 := Tryz.underlying3
  a3 := Tryz.isAgg3
  z3 := Tryz.sizeOf3
  v3 := Tryz.zeroValue3
  t4 := Tryz.underlying4
  a4 := Tryz.isAgg4
  z4 := Tryz.sizeOf4
  v4 := Tryz.zeroValue4
  t5 := Tryz.underlying5
  a5 := Tryz.isAgg5
  z5 := Tryz.sizeOf5
  v5 := Tryz.zeroValue5
  t9 := Tryz.underlying9
  a9 := Tryz.isAgg9
  z9 := Tryz.sizeOf9
  v9 := Tryz.zeroValue9
  t21 := Tryz.underlying21
  a21 := Tryz.isAgg21
  z21 := Tryz.sizeOf21
  v21 := Tryz.zeroValue21
  t46 := Tryz.underlying123
  a46 := Tryz.isAgg123
  z46 := Tryz.sizeOf123
  v46 := Tryz.zeroValue123
  t116 := Tryz.underlying160
  a116 := Tryz.isAgg160
  z116 := Tryz.sizeOf160
  t117 := Tryz.underlying161
  a117 := Tryz.isAgg161
  z117 := Tryz.sizeOf161
  v117 := Tryz.zeroValue161
  t124 := Tryz.underlying164
  a124 := Tryz.isAgg164
  z124 := Tryz.sizeOf164
  v124 := Tryz.zeroValue164 }
open Go.RowKit Go.Lib in
theorem Tryz.strings_ContainsAny_laid (s chars : ByteArray) (w : World) (hs : s.size < 4294967281) (hcs : chars.size < 4294967281) (has : ∀ (j : Nat) b, s.data.toList[j]? = some b → b.toNat < 128) (hac : ∀ (j : Nat) b, chars.data.toList[j]? = some b → b.toNat < 128) :
    Calls Tryz.prog 170 #[.string s, .string chars] w fun e w' => e = .returned (.bool (Lib.containsAny s.data.toList chars.data.toList)) ∧ Below w.heap.size w w' := Any.strings_ContainsAny_laid Tryz.lays150 (by kernel_rfl) s chars w hs hcs has hac
def Tryz.lays105_ren : Go.Shelf.Ren := ⟨fun | 105 => 38 | 212 => 78 | 99 => 79 | 165 => 80 | 166 => 81 | 170 => 82 | 169 => 83 | 263 => 115 | 264 => 116 | 206 => 117 | 240 => 118 | 241 => 119 | 276 => 154 | 277 => 155 | n => n, fun | 9 => 9 | 3 => 3 | 4 => 4 | 20 => 20 | 0 => 0 | 46 => 123 | 109 => 124 | 5 => 5 | 72 => 128 | 76 => 119 | 51 => 144 | 146 => 145 | 53 => 147 | 148 => 148 | 70 => 126 | 37 => 106 | 75 => 118 | 127 => 150 | 164 => 178 | 80 => 48 | n => n, fun | n => n⟩
theorem Tryz.lays105 : Go.Proofs.Lays.n105 Tryz.prog Tryz.lays105_ren := {
  mixed := by kernel_rfl
  f99 := Tryz.func79.trans (congrArg some (by kernel_rfl))
  f105 := Tryz.func38.trans (congrArg some (by kernel_rfl))
  f165 := Tryz.func80.trans (congrArg some (by kernel_rfl))
  f166 := Tryz.func81.trans (congrArg some (by kernel_rfl))
  f169 := Tryz.func83.trans (congrArg some (by kernel_rfl))
  f170 := Tryz.func82.trans (congrArg some (by kernel_rfl))
  f206 := Tryz.func117.trans (congrArg some (by kernel_rfl))
  f212 := Tryz.func78.trans (congrArg some (by kernel_rfl))
  f240 := Tryz.func118.trans (congrArg some (by kernel_rfl))
  f241 := Tryz.func119.trans (congrArg some (by kernel_rfl))
  f263 := Tryz.func115.trans (congrArg some (by kernel_rfl))
  f264 := Tryz.func116.trans (congrArg some (by kernel_rfl))
  f276 := Tryz.func154.trans (congrArg some (by kernel_rfl))
  f277 := Tryz.func155.trans (congrArg some (by kernel_rfl))
  t0 := Tryz.underlying0
  a0 := Tryz.isAgg0
  z0 := Tryz.sizeOf0
  v0 := Tryz.zeroValue0
  t3 := Tryz.underlying3
  a3 := Tryz.isAgg3
  z3 := Tryz.sizeOf3
  v3 := Tryz.zeroValue3
  t4 := Tryz.underlying4
  a4 := Tryz.isAgg4
  z4 := Tryz.sizeOf4
  v4 := Tryz.zeroValue4
  t5 := Tryz.underlying5
  a5 := Tryz.isAgg5
  z5 := Tryz.sizeOf5
  v5 := Tryz.zeroValue5
  t9 := Tryz.underlying9
  a9 := Tryz.isAgg9
  z9 := Tryz.sizeOf9
  v9 := Tryz.zeroValue9
  t20 := Tryz.underlying20
  a20 := Tryz.isAgg20
  z20 := Tryz.sizeOf20
  v20 := Tryz.zeroValue20
  t37 := Tryz.underlying106
  a37 := Tryz.isAgg106
  z37 := Tryz.sizeOf106
  v37 := Tryz.zeroValue106
  t46 := Tryz.underlying123
  a46 := Tryz.isAgg123
  z46 := Tryz.sizeOf123
  v46 := Tryz.zeroValue123
  t51 := Tryz.underlying144
  a51 := Tryz.isAgg144
  z51 := Tryz.sizeOf144
  v51 := Tryz.zeroValue144
  t53 := Tryz.underlying147
  a53 := Tryz.isAgg147
  z53 := Tryz.sizeOf147
  v53 := Tryz.zeroValue147
  t70 := Tryz.underlying126
  a70 := Tryz.isAgg126
  z70 := Tryz.sizeOf126
  v70 := Tryz.zeroValue126
  t72 := Tryz.underlying128
  a72 := Tryz.isAgg128
  z72 := Tryz.sizeOf128
  v72 := Tryz.zeroValue128
  t75 := Tryz.underlying118
  a75 := Tryz.isAgg118
  z75 := Tryz.sizeOf118
  v75 := Tryz.zeroValue118
  t76 := Tryz.underlying119
  a76 := Tryz.isAgg119
  z76 := Tryz.sizeOf119
  v76 := Tryz.zeroValue119
  t109 := Tryz.underlying124
  a109 := Tryz.isAgg124
  z109 := Tryz.sizeOf124
  v109 := Tryz.zeroValue124
  t127 := Tryz.underlying150
  a127 := Tryz.isAgg150
  z127 := Tryz.sizeOf150
  v127 := Tryz.zeroValue150
  t146 := Tryz.underlying145
  a146 := Tryz.isAgg145
  z146 := Tryz.sizeOf145
  v146 := Tryz.zeroValue145
  t148 := Tryz.underlying148
  a148 := Tryz.isAgg148
  z148 := Tryz.sizeOf148
  v148 := Tryz.zeroValue148
  t164 := Tryz.underlying178
  a164 := Tryz.isAgg178
  z164 := Tryz.sizeOf178
  v164 := Tryz.zeroValue178 }
theorem Tryz.Builder_Extra_105 : Builder.Extra Tryz.prog Tryz.lays105_ren := {
  sizeBuilder := by kernel_rfl
  liesBuilder := by kernel_rfl
  t5 := Tryz.underlying5
  a5 := Tryz.isAgg5
  z5 := Tryz.sizeOf5
  v5 := Tryz.zeroValue5
  infoByte := by kernel_rfl
  cellsByte := by kernel_rfl
  sizeByte := by kernel_rfl
  neB5 := by decide }
open Go.RowKit Go.Lib in
theorem Tryz.strings_Repeat (s : ByteArray) (c : Nat) (w : World) (hc : c ≤ 9223372036854775807) (hlen : s.size * c ≤ 140737488355328) :
    Calls Tryz.prog 38 #[.string s, .int .i64 c] w fun e w' => e = .returned (.string ⟨(Lib.repeatL s.data.toList c).toArray⟩) ∧ Below w.heap.size w w' := Any.strings_Repeat Tryz.lays105 Tryz.Builder_Extra_105 s c w hc hlen
end Go.Proofs

