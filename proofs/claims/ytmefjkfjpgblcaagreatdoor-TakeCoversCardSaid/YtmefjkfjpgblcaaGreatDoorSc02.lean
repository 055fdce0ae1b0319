/- Texts packed: NestS, GrowM, MapN, MapM, PushK, OpPush, RollW, RollX, ScriptT, DelW, Shelf, AtoiW, BldW, LawA, RefA, Shelf2, Str, CodeW, CutS, CutW, DecW, GenC, GenE, HexW, FilesW, FilesX, FilesY, EqI, LaidW, NumS, PlainS, SlateS, TcO, TkS, TkT, TlS, TtS, WdS. -/
import Derived.Test.YtmefjkfjpgblcaaGreatDoorSc01
import Derived.Room.AppendOnto
import Derived.Test.YtmefjkfjpgblcaaGreatDoorRows
import Derived.BigQuiet
import Derived.Deep.RegionWith
import Derived.Deep.QuietTactic
import Derived.Deep.RegionLaw
import Derived.Laws.IdiomCopy
import Derived.Lib.SliceRun
import Derived.Deep.DeepCutAuto
import Derived.Shelf.Strings.Builder1
import Derived.Shelf.Strings.Builder2
import Derived.Shelf.Strings.OnBuilder
import Derived.Shelf.Strings.Trim
import Derived.Shelf.Small.Utf8
import Derived.Shelf.Small.Strs
import Derived.Shelf.Small.Wraps
import Derived.Shelf.Strings.BuilderF
import Derived.Shelf.Strings.BuilderK
import Derived.Shelf.Strings.Builder2Cap
import Derived.Shelf.Strconv.Atoi
import Derived.Shelf.Strconv.Itoa0
import Derived.Shelf.Strconv.Itoa1
import Derived.Shelf.LaysM
import Derived.Shelf.Strconv.Itoa2
import Derived.Shelf.Strconv.Itoa3
import Derived.Shelf.Strconv.AtoiErrFast
import Derived.Shelf.Strconv.ParseIntEmpty
import Derived.Shelf.Strconv.AtoiFail
import Derived.Shelf.Strconv.Clone
import Derived.Shelf.Strconv.SyntaxError
import Derived.Shelf.LaysC
import Derived.Shelf.Strconv.ToError
import Derived.Shelf.Strconv.Lower
import Derived.Shelf.Strconv.ParseUint10
import Derived.Shelf.Strconv.ParseUint10Empty
import Derived.Shelf.Strconv.ParseUint10Any
import Derived.Shelf.Strconv.ParseInt10
import Derived.Shelf.Strconv.AtoiLong
import Derived.Shelf.Strconv.AtoiInnerAll
import Derived.Shelf.Strconv.RangeError
import Derived.Shelf.Strconv.ToErrorRange
import Derived.Shelf.Strconv.AtoiAll
import Derived.Shelf.Strconv.ErrVarAll
import Derived.Shelf.Strings.Search1
import Derived.Shelf.Strings.Search2
import Derived.Shelf.Strings.Search3
import Derived.Shelf.Strings.Cut
import Derived.Shelf.Strings.Count
import Derived.Shelf.Strings.Shaped
import Derived.Shelf.Strings.LastIndex
import Derived.Shelf.Strings.LastIndexAll
import Derived.Shelf.Strings.Prefix
import Derived.Shelf.Strings.Split
import Derived.Shelf.Strings.Fields
import Derived.Shelf.Strings.SplitShaped
import Derived.Shelf.Unicode.Latin
import Derived.Shelf.Unicode.Decode
import Derived.Shelf.Strings.Runes
import Derived.Shelf.Strings.RuneCount
import Derived.Shelf.Strings.IndexAny
import Derived.Shelf.Strings.AsciiSet
import Derived.Shelf.Strings.IndexAnyAll
import Derived.Shelf.Strings.Explode
import Derived.Shelf.Bits.Mul64
import Derived.Shelf.Strings.Repeat
import Derived.Shelf.Unicode.DecodeSlow
import Derived.Shelf.Unicode.DecodeAny
import Derived.Shelf.Unicode.Is16White
import Derived.Shelf.Unicode.IsSpaceAny
import Derived.Shelf.Unicode.DecodeLast
import Derived.Shelf.Strings.FieldsFuncAny
import Derived.Shelf.Unicode.Is16Any
import Derived.Shelf.Unicode.Is32Any
import Derived.Shelf.Unicode.ExclAny
import Derived.Shelf.Strings.FieldsFuncGrows
import Derived.Shelf.Strings.BuilderCap
import Derived.Shelf.Slices.Turned
import Derived.Shelf.Slices.Equal
import Derived.Ground.Names2Prog
import Derived.Shelf.Slices.Clone
import Derived.Shelf.Slices.Delete
import Derived.Shelf.Slices.Empties2
import Derived.Ground.SlgnProg
import Derived.Shelf.SlicesE.Equal
import Derived.Test.YtmefjkfjpgblcaaGreatDoorProg
import Derived.Lib.SmallJoins
import Derived.Shelf.Strings.SlTrimAscii
import Derived.Laws.IdiomStrings
import Derived.Lib.QuietBelow
import Derived.Lib.IndexLaws
import Derived.Laws.Bits64
import Derived.Laws.Bits64b
import Derived.Lib.Repeat
import Derived.Outline
import Derived.Deep.RegionHeld3
import Derived.Deep.AppendLies
import Derived.Lib.ItoaLen
import Derived.Lib.Strings
import Derived.Lib.ItoaNum
import Derived.Lib.FieldsP
import Derived.Lib.IndexMore
import Derived.RegionTactic
/- A list of one's own whose elements hold lists of their own that may still grow. No program in sight. -/
namespace Go.Proofs.YtmefjkfjpgblcaaGreatDoor
set_option linter.unusedVariables false
open Go.RowKit

section
variable {α : Type} {n : Nat} {enc : α → List Value} {hn : ∀ x, (enc x).length = n} {w w' : World} {base lo : Nat} {e : TypeId} {l : List α} {v : Value}
/-- A row of plain cells stays where its own block stays. -/
theorem Own.keepF (h : Own (Rep.flat n enc hn) w base lo e l v) (hk : ∀ g, v.ownBlock = some g → w'.heap[g]? = w.heap[g]?) (hs : w.heap.size ≤ w'.heap.size) : Own (Rep.flat n enc hn) w' base lo e l v := by
  obtain ⟨xs, ho, hl⟩ := h
  refine ⟨xs, ⟨ho.1, ?_⟩, hl⟩
  rcases ho.2 with hn | ⟨g, cap, cur, rfl, hb, hg, rest⟩
  · exact .inl hn
  · exact .inr ⟨g, cap, cur, rfl, hb, by rw [hk g rfl]; exact hg, rest⟩
/-- The cells of a row of plain cells, where its own block lies. -/
theorem Own.sliF {F : Nat → Prop} (h : Own (Rep.flat n enc hn) w base lo e l v) (hB : ∀ g, v.ownBlock = some g → F g) : Sli (Rep.flat n enc hn) w F l v := by
  obtain ⟨xs, ho, hl⟩ := h
  exact Sli.own (R := Rep.flat n enc hn) ho hl rfl (fun b c hv => hB b (by rw [hv]; rfl))
end
section
variable {α β : Type} {n m : Nat} {enc : α → List Value} {hn : ∀ x, (enc x).length = n} {encI : β → List Value} {hm : ∀ x, (encI x).length = m} {inn : α → List β} {pv : α → Value} {e eI : TypeId} {w wx wy : World} {l : List α} {v : Value} {P Q : List (Nat × Array Value × TypeId)}
end
end Go.Proofs.YtmefjkfjpgblcaaGreatDoor

/- Where a loop stands that fills a list of its own beside blocks of its own of any kind (maps, too). No program in sight. -/
namespace Go.Proofs.YtmefjkfjpgblcaaGreatDoor
set_option linter.unusedVariables false
open Go.RowKit

section
variable {α : Type} {n : Nat} {enc : α → List Value} {hn : ∀ x, (enc x).length = n} {e : TypeId} {w wx wy : World} {l l' : List α} {v v' : Value} {P Q : List Pb}
end
end Go.Proofs.YtmefjkfjpgblcaaGreatDoor

/- A map of one's own whose values are growing lists of one's own, beside private blocks of any kind. No program in sight. -/
namespace Go.Proofs.YtmefjkfjpgblcaaGreatDoor
set_option linter.unusedVariables false
open Go.RowKit

structure MN {κ α : Type} [DecidableEq κ] (R : Rep α) (mk : κ → Value) (e : TypeId) (inn : κ → List α) (w : World) (mb : Nat) (m : List (κ × Value)) (P : List Pb) (wx : World) : Prop where
  bel : Below w.heap.size w wx
  map : MapL wx mb mk m
  mlo : w.heap.size ≤ mb
  row : ∀ k v, lk m k = some v → Own R wx w.heap.size w.heap.size e (inn k) v ∧ ∀ g, v.ownBlock = some g → g ≠ mb ∧ ∀ p ∈ P, p.1 ≠ g
  no : ∀ k, lk m k = none → inn k = []
  dis : ∀ k k' v v', lk m k = some v → lk m k' = some v' → k ≠ k' → Dis v v'
  prv : ∀ p ∈ P, p.2 wx.heap[p.1]? ∧ w.heap.size ≤ p.1 ∧ p.1 < wx.heap.size ∧ p.1 ≠ mb
section
variable {κ α : Type} [DecidableEq κ] {n : Nat} {enc : α → List Value} {hn : ∀ x, (enc x).length = n} {mk : κ → Value} {e : TypeId} {inn : κ → List α} {w wx wy wz : World} {mb : Nat} {m : List (κ × Value)} {P Q : List Pb}
theorem MN.size (h : MN (Rep.flat n enc hn) mk e inn w mb m P wx) : w.heap.size ≤ wx.heap.size := h.bel.size
theorem MN.below (h : MN (Rep.flat n enc hn) mk e inn w mb m P wx) (hb : Below wx.heap.size wx wy) : MN (Rep.flat n enc hn) mk e inn w mb m P wy :=
  ⟨h.bel.trans (hb.mono h.size), h.map.below hb h.map.lt, h.mlo, fun k v hk => ⟨(h.row k v hk).1.below hb, (h.row k v hk).2⟩, h.no, h.dis, fun p hp => by
    obtain ⟨a, b, c, d⟩ := h.prv p hp
    exact ⟨by rw [hb.block p.1 c]; exact a, b, Nat.lt_of_lt_of_le c hb.size, d⟩⟩
theorem MN.alloc (h : MN (Rep.flat n enc hn) mk e inn w mb m P wx) (o : Obj) : MN (Rep.flat n enc hn) mk e inn w mb m P (wx.alloc o) := h.below ((Below.refl _ wx).alloc (Nat.le_refl _) o)
theorem MN.drew (h : MN (Rep.flat n enc hn) mk e inn w mb m P wx) : MN (Rep.flat n enc hn) mk e inn w mb m P wx.drew := h.below (Below.drew (Below.refl _ _))
theorem MN.less (h : MN (Rep.flat n enc hn) mk e inn w mb m P wx) (hq : ∀ p ∈ Q, p ∈ P) : MN (Rep.flat n enc hn) mk e inn w mb m Q wx :=
  ⟨h.bel, h.map, h.mlo, fun k v hk => ⟨(h.row k v hk).1, fun g hg => ⟨((h.row k v hk).2 g hg).1, fun p hp => ((h.row k v hk).2 g hg).2 p (hq p hp)⟩⟩, h.no, h.dis, fun p hp => h.prv p (hq p hp)⟩
/-- A block that has been laid since takes its place among the private ones. -/
theorem MN.block (h : MN (Rep.flat n enc hn) mk e inn w mb m P wx) (hb : Below wx.heap.size wx wy) {B : Nat} {f : Option Obj → Prop} (hB : wx.heap.size ≤ B) (hlt : B < wy.heap.size) (hf : f wy.heap[B]?) : MN (Rep.flat n enc hn) mk e inn w mb m ((B, f) :: P) wy := by
  have h2 := h.below hb
  refine ⟨h2.bel, h2.map, h2.mlo, fun k v hk => ⟨(h2.row k v hk).1, fun g hg => ⟨((h2.row k v hk).2 g hg).1, fun p hp => ?_⟩⟩, h2.no, h2.dis, fun p hp => ?_⟩
  · rcases List.mem_cons.1 hp with rfl | hp
    · have := ((h.row k v hk).1.block g hg).2; dsimp only; omega
    · exact ((h2.row k v hk).2 g hg).2 p hp
  · rcases List.mem_cons.1 hp with rfl | hp
    · exact ⟨hf, Nat.le_trans h.size hB, hlt, by have := h.map.lt; dsimp only; omega⟩
    · exact h2.prv p hp
theorem MN.new (h : MN (Rep.flat n enc hn) mk e inn w mb m P wx) (cs : Array Value) (T : TypeId) : MN (Rep.flat n enc hn) mk e inn w mb m ((wx.heap.size, cellsP cs T) :: P) (wx.alloc (.cells cs T)) :=
  h.block ((Below.refl _ wx).alloc (Nat.le_refl _) _) (Nat.le_refl _) (by simp) (heap_alloc_new wx _)
theorem MN.cell (h : MN (Rep.flat n enc hn) mk e inn w mb m P wx) {b : Nat} {cs : Array Value} {T : TypeId} (hp : (b, cellsP cs T) ∈ P) : (∀ i, wx.cell? ⟨b, i, none⟩ = cs[i]?) ∧ (∀ i, wx.frozen? ⟨b, i, none⟩ = false) := str_cells (h.prv _ hp).1
theorem MN.pmap {κ' : Type} {mk' : κ' → Value} {m' : List (κ' × Value)} {b : Nat} (h : MN (Rep.flat n enc hn) mk e inn w mb m P wx) (hp : (b, mapP mk' m') ∈ P) : MapL wx b mk' m' := (h.prv _ hp).1
theorem MN.plt (h : MN (Rep.flat n enc hn) mk e inn w mb m P wx) {b : Nat} {f : Option Obj → Prop} (hp : (b, f) ∈ P) : w.heap.size ≤ b ∧ b < wx.heap.size := ⟨(h.prv _ hp).2.1, (h.prv _ hp).2.2.1⟩
/-- A store into a private block. -/
theorem MN.poke {b : Nat} {f g : Option Obj → Prop} (h : MN (Rep.flat n enc hn) mk e inn w mb m ((b, f) :: P) wx) (hd : ∀ p ∈ P, p.1 ≠ b) (hm : g wy.heap[b]?) (hg : wx.grownBy wy (some b)) : MN (Rep.flat n enc hn) mk e inn w mb m ((b, g) :: P) wy := by
  obtain ⟨h1, h2, h3, h4⟩ := h.prv (b, f) (by simp)
  dsimp only at h1 h2 h3 h4
  have hz := h.size
  refine ⟨h.bel.grown hg hz (fun k hk => by injection hk with hk; omega), h.map.keep (hg.block mb h.map.lt (fun e => by injection e with e; exact h4 e.symm)), h.mlo, fun k v hk => ⟨(h.row k v hk).1.keepF (fun q hq => hg.block q ((h.row k v hk).1.block q hq).2 (fun e => by injection e with e; exact ((h.row k v hk).2 q hq).2 (b, f) (by simp) e.symm)) hg.size, fun q hq => ⟨((h.row k v hk).2 q hq).1, fun p hp => ?_⟩⟩, h.no, h.dis, fun p hp => ?_⟩
  · rcases List.mem_cons.1 hp with rfl | hp
    · exact ((h.row k v hk).2 q hq).2 (b, f) (by simp)
    · exact ((h.row k v hk).2 q hq).2 p (by simp [hp])
  · rcases List.mem_cons.1 hp with rfl | hp
    · exact ⟨hm, h2, Nat.lt_of_lt_of_le h3 hg.size, h4⟩
    · obtain ⟨k1, k2, k3, k4⟩ := h.prv p (by simp [hp])
      exact ⟨by rw [hg.block p.1 k3 (fun e => by injection e with e; exact hd p hp e)]; exact k1, k2, Nat.lt_of_lt_of_le k3 hg.size, k4⟩
/-- The row under key k as it stands: the one held, or none yet. -/
theorem MN.at_ (h : MN (Rep.flat n enc hn) mk e inn w mb m P wx) (k : κ) : Own (Rep.flat n enc hn) wx w.heap.size w.heap.size e (inn k) ((lk m k).getD (.slice none 0 0)) := by
  cases hk : lk m k with
  | none => rw [h.no k hk]; exact Own.nil_
  | some v => exact (h.row k v hk).1
/-- The row under key k has grown (from wx to wy), and stands in the map again (wz). -/
theorem MN.push {k : κ} {x : α} {v' : Value} {g : Nat} (h : MN (Rep.flat n enc hn) mk e inn w mb m P wx) (hown : Own (Rep.flat n enc hn) wy w.heap.size w.heap.size e (inn k ++ [x]) v') (hg : wx.grownBy wy ((lk m k).getD (.slice none 0 0)).ownBlock) (hv : v'.ownBlock = some g) (hat : ((lk m k).getD (.slice none 0 0)).ownBlock = some g ∨ g = wx.heap.size)
    (hm : MapL wz mb mk (up m k v')) (hz : wy.grownBy wz (some mb)) : MN (Rep.flat n enc hn) mk e (fun q => if q = k then inn k ++ [x] else inn q) w mb (up m k v') P wz := by
  have hsz := h.size
  have hml := h.map.lt
  /- The block that has grown is no other one of ours. -/
  have hold : ∀ q, ((lk m k).getD (.slice none 0 0)).ownBlock = some q → q ≠ mb ∧ (∀ p ∈ P, p.1 ≠ q) ∧ w.heap.size ≤ q ∧ q < wx.heap.size := fun q hq => by
    cases hk : lk m k with
    | none => rw [hk] at hq; cases hq
    | some v =>
      rw [hk] at hq
      have hr := h.row k v hk
      exact ⟨(hr.2 q hq).1, (hr.2 q hq).2, hr.1.block q hq⟩
  have hgm : g ≠ mb := by
    rcases hat with hat | hat
    · exact (hold g hat).1
    · omega
  have hgP : ∀ p ∈ P, p.1 ≠ g := fun p hp => by
    rcases hat with hat | hat
    · exact (hold g hat).2.1 p hp
    · have := (h.prv p hp).2.2.1; omega
  have hb1 : Below w.heap.size w wy := h.bel.grown hg hsz (fun q hq => (hold q hq).2.2.1)
  have hb2 : Below w.heap.size w wz := hb1.grown hz hb1.size (fun q hq => by injection hq with hq; have := h.mlo; omega)
  refine ⟨hb2, hm, h.mlo, fun q v hq => ?_, fun q hq => ?_, fun q q' v u hq hq' hne => ?_, fun p hp => ?_⟩
  · rw [lk_up] at hq
    by_cases e1 : q = k
    · rw [if_pos e1] at hq
      injection hq with hq
      subst hq
      rw [if_pos e1]
      refine ⟨hown.keepF (fun b hb => hz.block b (hown.block b hb).2 (fun e => ?_)) hz.size, fun b hb => ?_⟩
      · rw [hv] at hb; injection hb with hb; injection e with e; exact hgm (hb.trans e)
      · rw [hv] at hb; injection hb with hb; subst hb; exact ⟨hgm, hgP⟩
    · rw [if_neg e1] at hq
      rw [if_neg e1]
      have hr := h.row q v hq
      refine ⟨(hr.1.keepF (fun b hb => hg.block b (hr.1.block b hb).2 (fun e => ?_)) hg.size).keepF (fun b hb => hz.block b (Nat.lt_of_lt_of_le (hr.1.block b hb).2 hg.size) (fun e => by injection e with e; exact (hr.2 b hb).1 e)) hz.size, hr.2⟩
      cases hk : lk m k with
      | none => rw [hk] at e; cases e
      | some u => rw [hk] at e; exact h.dis q k v u hq hk e1 b hb e.symm
  · rw [lk_up] at hq
    by_cases e1 : q = k
    · rw [if_pos e1] at hq; cases hq
    · rw [if_neg e1] at hq; rw [if_neg e1]; exact h.no q hq
  · have key : ∀ q v, lk m q = some v → q ≠ k → Dis v v' := fun q v hq hne b hb hb' => by
      rw [hv] at hb'
      injection hb' with hb'
      subst hb'
      rcases hat with hat | hat
      · cases hk : lk m k with
        | none => rw [hk] at hat; cases hat
        | some u => rw [hk] at hat; exact h.dis q k v u hq hk hne _ hb hat
      · have := ((h.row q v hq).1.block _ hb).2; omega
    rw [lk_up] at hq hq'
    by_cases e1 : q = k
    · rw [if_pos e1] at hq
      injection hq with hq
      subst hq
      by_cases e2 : q' = k
      · exact absurd (e1.trans e2.symm) hne
      · rw [if_neg e2] at hq'; exact (key q' u hq' e2).symm
    · rw [if_neg e1] at hq
      by_cases e2 : q' = k
      · rw [if_pos e2] at hq'
        injection hq' with hq'
        subst hq'
        exact key q v hq e1
      · rw [if_neg e2] at hq'; exact h.dis q q' v u hq hq' hne
  · obtain ⟨a, b, c, d⟩ := h.prv p hp
    refine ⟨?_, b, Nat.lt_of_lt_of_le c (Nat.le_trans hg.size hz.size), d⟩
    rw [hz.block p.1 (Nat.lt_of_lt_of_le c hg.size) (fun e => by injection e with e; exact d e), hg.block p.1 c (fun e => (hold p.1 e.symm).2.1 p hp rfl)]
    exact a
end
end Go.Proofs.YtmefjkfjpgblcaaGreatDoor

/- Maps of one's own (one for each number below N) whose values are growing lists of one's own, beside private blocks of any kind. No program in sight. -/
namespace Go.Proofs.YtmefjkfjpgblcaaGreatDoor
set_option linter.unusedVariables false
open Go.RowKit

structure NM {κ α : Type} [DecidableEq κ] (R : Rep α) (mk : κ → Value) (e : TypeId) (N : Nat) (inn : Nat → κ → List α) (w : World) (mb : Nat → Nat) (m : Nat → List (κ × Value)) (P : List Pb) (wx : World) : Prop where
  bel : Below w.heap.size w wx
  map : ∀ i, i < N → MapL wx (mb i) mk (m i)
  mlo : ∀ i, i < N → w.heap.size ≤ mb i
  inj : ∀ i j, i < N → j < N → i ≠ j → mb i ≠ mb j
  row : ∀ i, i < N → ∀ k v, lk (m i) k = some v → Own R wx w.heap.size w.heap.size e (inn i k) v ∧ ∀ g, v.ownBlock = some g → (∀ j, j < N → g ≠ mb j) ∧ ∀ p ∈ P, p.1 ≠ g
  no : ∀ i, i < N → ∀ k, lk (m i) k = none → inn i k = []
  dis : ∀ i j, i < N → j < N → ∀ k k' v v', lk (m i) k = some v → lk (m j) k' = some v' → (i ≠ j ∨ k ≠ k') → Dis v v'
  prv : ∀ p ∈ P, p.2 wx.heap[p.1]? ∧ w.heap.size ≤ p.1 ∧ p.1 < wx.heap.size ∧ ∀ i, i < N → p.1 ≠ mb i
section
variable {κ α : Type} [DecidableEq κ] {n : Nat} {enc : α → List Value} {hn : ∀ x, (enc x).length = n} {mk : κ → Value} {e : TypeId} {N : Nat} {inn : Nat → κ → List α} {w wx wy wz : World} {mb : Nat → Nat} {m : Nat → List (κ × Value)} {P Q : List Pb}
theorem NM.size (h : NM (Rep.flat n enc hn) mk e N inn w mb m P wx) : w.heap.size ≤ wx.heap.size := h.bel.size
theorem NM.below (h : NM (Rep.flat n enc hn) mk e N inn w mb m P wx) (hb : Below wx.heap.size wx wy) : NM (Rep.flat n enc hn) mk e N inn w mb m P wy :=
  ⟨h.bel.trans (hb.mono h.size), fun i hi => (h.map i hi).below hb (h.map i hi).lt, h.mlo, h.inj, fun i hi k v hk => ⟨(h.row i hi k v hk).1.below hb, (h.row i hi k v hk).2⟩, h.no, h.dis, fun p hp => by
    obtain ⟨a, b, c, d⟩ := h.prv p hp
    exact ⟨by rw [hb.block p.1 c]; exact a, b, Nat.lt_of_lt_of_le c hb.size, d⟩⟩
theorem NM.alloc (h : NM (Rep.flat n enc hn) mk e N inn w mb m P wx) (o : Obj) : NM (Rep.flat n enc hn) mk e N inn w mb m P (wx.alloc o) := h.below ((Below.refl _ wx).alloc (Nat.le_refl _) o)
theorem NM.drew (h : NM (Rep.flat n enc hn) mk e N inn w mb m P wx) : NM (Rep.flat n enc hn) mk e N inn w mb m P wx.drew := h.below (Below.drew (Below.refl _ _))
theorem NM.less (h : NM (Rep.flat n enc hn) mk e N inn w mb m P wx) (hq : ∀ p ∈ Q, p ∈ P) : NM (Rep.flat n enc hn) mk e N inn w mb m Q wx :=
  ⟨h.bel, h.map, h.mlo, h.inj, fun i hi k v hk => ⟨(h.row i hi k v hk).1, fun g hg => ⟨((h.row i hi k v hk).2 g hg).1, fun p hp => ((h.row i hi k v hk).2 g hg).2 p (hq p hp)⟩⟩, h.no, h.dis, fun p hp => h.prv p (hq p hp)⟩
/-- A block that has been laid since takes its place among the private ones. -/
theorem NM.block (h : NM (Rep.flat n enc hn) mk e N inn w mb m P wx) (hb : Below wx.heap.size wx wy) {B : Nat} {f : Option Obj → Prop} (hB : wx.heap.size ≤ B) (hlt : B < wy.heap.size) (hf : f wy.heap[B]?) : NM (Rep.flat n enc hn) mk e N inn w mb m ((B, f) :: P) wy := by
  have h2 := h.below hb
  refine ⟨h2.bel, h2.map, h2.mlo, h2.inj, fun i hi k v hk => ⟨(h2.row i hi k v hk).1, fun g hg => ⟨((h2.row i hi k v hk).2 g hg).1, fun p hp => ?_⟩⟩, h2.no, h2.dis, fun p hp => ?_⟩
  · rcases List.mem_cons.1 hp with rfl | hp
    · have := ((h.row i hi k v hk).1.block g hg).2; dsimp only; omega
    · exact ((h2.row i hi k v hk).2 g hg).2 p hp
  · rcases List.mem_cons.1 hp with rfl | hp
    · exact ⟨hf, Nat.le_trans h.size hB, hlt, fun i hi => by have := (h.map i hi).lt; dsimp only; omega⟩
    · exact h2.prv p hp
theorem NM.new (h : NM (Rep.flat n enc hn) mk e N inn w mb m P wx) (cs : Array Value) (T : TypeId) : NM (Rep.flat n enc hn) mk e N inn w mb m ((wx.heap.size, cellsP cs T) :: P) (wx.alloc (.cells cs T)) :=
  h.block ((Below.refl _ wx).alloc (Nat.le_refl _) _) (Nat.le_refl _) (by simp) (heap_alloc_new wx _)
theorem NM.cell (h : NM (Rep.flat n enc hn) mk e N inn w mb m P wx) {b : Nat} {cs : Array Value} {T : TypeId} (hp : (b, cellsP cs T) ∈ P) : (∀ i, wx.cell? ⟨b, i, none⟩ = cs[i]?) ∧ (∀ i, wx.frozen? ⟨b, i, none⟩ = false) := str_cells (h.prv _ hp).1
theorem NM.pmap {κ' : Type} {mk' : κ' → Value} {m' : List (κ' × Value)} {b : Nat} (h : NM (Rep.flat n enc hn) mk e N inn w mb m P wx) (hp : (b, mapP mk' m') ∈ P) : MapL wx b mk' m' := (h.prv _ hp).1
theorem NM.plt (h : NM (Rep.flat n enc hn) mk e N inn w mb m P wx) {b : Nat} {f : Option Obj → Prop} (hp : (b, f) ∈ P) : w.heap.size ≤ b ∧ b < wx.heap.size := ⟨(h.prv _ hp).2.1, (h.prv _ hp).2.2.1⟩
/-- One more map, empty. -/
theorem NM.more (h : NM (Rep.flat n enc hn) mk e N inn w mb m P wx) (hb : Below wx.heap.size wx wy) {B : Nat} (hB : wx.heap.size ≤ B) (hm : MapL wy B mk ([] : List (κ × Value))) (hi : ∀ k, inn N k = []) : NM (Rep.flat n enc hn) mk e (N + 1) inn w (fun i => if i = N then B else mb i) (fun i => if i = N then [] else m i) P wy := by
  have h2 := h.below hb
  have hz := h.size
  have hlt : ∀ i, i < N + 1 → i = N ∨ (¬ i = N ∧ i < N) := fun i hi => by omega
  refine ⟨h2.bel, fun i hi => ?_, fun i hi => ?_, fun i j hi hj hne => ?_, fun i hi k v hk => ?_, fun i hi2 k hk => ?_, fun i j hi hj k k' v v' hk hk' hne => ?_, fun p hp => ?_⟩
  · rcases hlt i hi with rfl | ⟨c, hc⟩
    · simp only [if_true]; exact hm
    · simp only [if_neg c]; exact h2.map i hc
  · rcases hlt i hi with rfl | ⟨c, hc⟩
    · simp only [if_true]; omega
    · simp only [if_neg c]; exact h2.mlo i hc
  · rcases hlt i hi with rfl | ⟨c, hc⟩ <;> rcases hlt j hj with rfl | ⟨d, hd⟩
    · exact absurd rfl hne
    · simp only [if_true, if_neg d]; have := (h.map j hd).lt; omega
    · simp only [if_true, if_neg c]; have := (h.map i hc).lt; omega
    · simp only [if_neg c, if_neg d]; exact h2.inj i j hc hd hne
  · rcases hlt i hi with rfl | ⟨c, hc⟩
    · simp only [if_true] at hk; cases hk
    · simp only [if_neg c] at hk
      refine ⟨(h2.row i hc k v hk).1, fun g hg => ⟨fun j hj => ?_, ((h2.row i hc k v hk).2 g hg).2⟩⟩
      rcases hlt j hj with rfl | ⟨d, hd⟩
      · simp only [if_true]; have := ((h.row i hc k v hk).1.block g hg).2; omega
      · simp only [if_neg d]; exact ((h2.row i hc k v hk).2 g hg).1 j hd
  · rcases hlt i hi2 with rfl | ⟨c, hc⟩
    · exact hi k
    · simp only [if_neg c] at hk; exact h2.no i hc k hk
  · rcases hlt i hi with rfl | ⟨c, hc⟩
    · simp only [if_true] at hk; cases hk
    rcases hlt j hj with rfl | ⟨d, hd⟩
    · simp only [if_true] at hk'; cases hk'
    simp only [if_neg c] at hk
    simp only [if_neg d] at hk'
    exact h2.dis i j hc hd k k' v v' hk hk' hne
  · obtain ⟨a, b, c, d⟩ := h2.prv p hp
    refine ⟨a, b, c, fun i hi => ?_⟩
    rcases hlt i hi with rfl | ⟨c', hc⟩
    · simp only [if_true]; have := (h.prv p hp).2.2.1; omega
    · simp only [if_neg c']; exact d i hc
theorem NM.start (hb : Below w.heap.size w wx) (hp : ∀ p ∈ P, p.2 wx.heap[p.1]? ∧ w.heap.size ≤ p.1 ∧ p.1 < wx.heap.size) : NM (Rep.flat n enc hn) mk e 0 inn w mb m P wx :=
  ⟨hb, fun i hi => absurd hi (by omega), fun i hi => absurd hi (by omega), fun i j hi => absurd hi (by omega), fun i hi => absurd hi (by omega), fun i hi => absurd hi (by omega), fun i j hi => absurd hi (by omega), fun p h => ⟨(hp p h).1, (hp p h).2.1, (hp p h).2.2, fun i hi => absurd hi (by omega)⟩⟩
/-- A store into a private block. -/
theorem NM.poke {b : Nat} {f g : Option Obj → Prop} (h : NM (Rep.flat n enc hn) mk e N inn w mb m ((b, f) :: P) wx) (hd : ∀ p ∈ P, p.1 ≠ b) (hm : g wy.heap[b]?) (hg : wx.grownBy wy (some b)) : NM (Rep.flat n enc hn) mk e N inn w mb m ((b, g) :: P) wy := by
  obtain ⟨h1, h2, h3, h4⟩ := h.prv (b, f) (by simp)
  dsimp only at h1 h2 h3 h4
  have hz := h.size
  refine ⟨h.bel.grown hg hz (fun k hk => by injection hk with hk; omega), fun i hi => (h.map i hi).keep (hg.block (mb i) (h.map i hi).lt (fun e => by injection e with e; exact h4 i hi e.symm)), h.mlo, h.inj, fun i hi k v hk => ⟨(h.row i hi k v hk).1.keepF (fun q hq => hg.block q ((h.row i hi k v hk).1.block q hq).2 (fun e => by injection e with e; exact ((h.row i hi k v hk).2 q hq).2 (b, f) (by simp) e.symm)) hg.size, fun q hq => ⟨((h.row i hi k v hk).2 q hq).1, fun p hp => ?_⟩⟩, h.no, h.dis, fun p hp => ?_⟩
  · rcases List.mem_cons.1 hp with rfl | hp
    · exact ((h.row i hi k v hk).2 q hq).2 (b, f) (by simp)
    · exact ((h.row i hi k v hk).2 q hq).2 p (by simp [hp])
  · rcases List.mem_cons.1 hp with rfl | hp
    · exact ⟨hm, h2, Nat.lt_of_lt_of_le h3 hg.size, h4⟩
    · obtain ⟨k1, k2, k3, k4⟩ := h.prv p (by simp [hp])
      exact ⟨by rw [hg.block p.1 k3 (fun e => by injection e with e; exact hd p hp e)]; exact k1, k2, Nat.lt_of_lt_of_le k3 hg.size, k4⟩
/-- The row under key k of map i as it stands: the one held, or none yet. -/
theorem NM.at_ (h : NM (Rep.flat n enc hn) mk e N inn w mb m P wx) {i : Nat} (hi : i < N) (k : κ) : Own (Rep.flat n enc hn) wx w.heap.size w.heap.size e (inn i k) ((lk (m i) k).getD (.slice none 0 0)) := by
  cases hk : lk (m i) k with
  | none => rw [h.no i hi k hk]; exact Own.nil_
  | some v => exact (h.row i hi k v hk).1
theorem NM.map_grown (h : NM (Rep.flat n enc hn) mk e N inn w mb m P wx) {i : Nat} (hi : i < N) (k : κ) (hg : wx.grownBy wy ((lk (m i) k).getD (.slice none 0 0)).ownBlock) {j : Nat} (hj : j < N) : MapL wy (mb j) mk (m j) :=
  (h.map j hj).keep (hg.block (mb j) (h.map j hj).lt (fun q => by
    cases hk : lk (m i) k with
    | none => rw [hk] at q; cases q
    | some v => rw [hk] at q; exact ((h.row i hi k v hk).2 (mb j) q.symm).1 j hj rfl))
theorem NM.prv_grown (h : NM (Rep.flat n enc hn) mk e N inn w mb m P wx) {i : Nat} (hi : i < N) (k : κ) (hg : wx.grownBy wy ((lk (m i) k).getD (.slice none 0 0)).ownBlock) {b : Nat} {f : Option Obj → Prop} (hp : (b, f) ∈ P) : wy.heap[b]? = wx.heap[b]? :=
  hg.block b (h.prv _ hp).2.2.1 (fun q => by
    cases hk : lk (m i) k with
    | none => rw [hk] at q; cases q
    | some v => rw [hk] at q; exact ((h.row i hi k v hk).2 b q.symm).2 _ hp rfl)
/-- The row under key k of map i has grown (from wx to wy), and stands in the map again (wz). -/
theorem NM.push {i : Nat} {k : κ} {x : α} {v' : Value} {g : Nat} (h : NM (Rep.flat n enc hn) mk e N inn w mb m P wx) (hi : i < N) (hown : Own (Rep.flat n enc hn) wy w.heap.size w.heap.size e (inn i k ++ [x]) v') (hg : wx.grownBy wy ((lk (m i) k).getD (.slice none 0 0)).ownBlock) (hv : v'.ownBlock = some g) (hat : ((lk (m i) k).getD (.slice none 0 0)).ownBlock = some g ∨ wx.heap.size ≤ g)
    (hm : MapL wz (mb i) mk (up (m i) k v')) (hz : wy.grownBy wz (some (mb i))) : NM (Rep.flat n enc hn) mk e N (fun j q => if j = i ∧ q = k then inn i k ++ [x] else inn j q) w mb (fun j => if j = i then up (m i) k v' else m j) P wz := by
  have hsz := h.size
  /- The block that has grown is no other one of ours. -/
  have hold : ∀ q, ((lk (m i) k).getD (.slice none 0 0)).ownBlock = some q → (∀ j, j < N → q ≠ mb j) ∧ (∀ p ∈ P, p.1 ≠ q) ∧ w.heap.size ≤ q ∧ q < wx.heap.size := fun q hq => by
    cases hk : lk (m i) k with
    | none => rw [hk] at hq; cases hq
    | some v =>
      rw [hk] at hq
      have hr := h.row i hi k v hk
      exact ⟨(hr.2 q hq).1, (hr.2 q hq).2, hr.1.block q hq⟩
  have hgm : ∀ j, j < N → g ≠ mb j := fun j hj => by
    rcases hat with hat | hat
    · exact (hold g hat).1 j hj
    · have := (h.map j hj).lt; omega
  have hgP : ∀ p ∈ P, p.1 ≠ g := fun p hp => by
    rcases hat with hat | hat
    · exact (hold g hat).2.1 p hp
    · have := (h.prv p hp).2.2.1; omega
  have hb1 : Below w.heap.size w wy := h.bel.grown hg hsz (fun q hq => (hold q hq).2.2.1)
  have hb2 : Below w.heap.size w wz := hb1.grown hz hb1.size (fun q hq => by injection hq with hq; have := h.mlo i hi; omega)
  have old : ∀ j, j < N → ∀ q v, lk (m j) q = some v → (j ≠ i ∨ q ≠ k) → Own (Rep.flat n enc hn) wz w.heap.size w.heap.size e (inn j q) v ∧ (∀ b, v.ownBlock = some b → (∀ j', j' < N → b ≠ mb j') ∧ ∀ p ∈ P, p.1 ≠ b) ∧ Dis v v' := fun j hj q v hq hne => by
    have hr := h.row j hj q v hq
    refine ⟨(hr.1.keepF (fun b hb => hg.block b (hr.1.block b hb).2 (fun e => ?_)) hg.size).keepF (fun b hb => hz.block b (Nat.lt_of_lt_of_le (hr.1.block b hb).2 hg.size) (fun e => by injection e with e; exact (hr.2 b hb).1 i hi e)) hz.size, hr.2, fun b hb hb' => ?_⟩
    · cases hk : lk (m i) k with
      | none => rw [hk] at e; cases e
      | some u => rw [hk] at e; exact h.dis j i hj hi q k v u hq hk hne b hb e.symm
    · rw [hv] at hb'
      injection hb' with hb'
      subst hb'
      rcases hat with hat | hat
      · cases hk : lk (m i) k with
        | none => rw [hk] at hat; cases hat
        | some u => rw [hk] at hat; exact h.dis j i hj hi q k v u hq hk hne _ hb hat
      · have := (hr.1.block _ hb).2; omega
  have hcase : ∀ j (q : κ) v, lk (if j = i then up (m i) k v' else m j) q = some v → (j = i ∧ q = k ∧ v = v') ∨ ((j ≠ i ∨ q ≠ k) ∧ lk (m j) q = some v) := fun j q v hq => by
    by_cases e1 : j = i
    · subst e1
      rw [if_pos rfl, lk_up] at hq
      by_cases e2 : q = k
      · rw [if_pos e2] at hq; injection hq with hq; exact .inl ⟨rfl, e2, hq.symm⟩
      · rw [if_neg e2] at hq; exact .inr ⟨.inr e2, hq⟩
    · rw [if_neg e1] at hq; exact .inr ⟨.inl e1, hq⟩
  refine ⟨hb2, fun j hj => ?_, h.mlo, h.inj, fun j hj q v hq => ?_, fun j hj q hq => ?_, fun j j' hj hj' q q' v u hq hq' hne => ?_, fun p hp => ?_⟩
  · by_cases e1 : j = i
    · subst e1; simp only [if_true]; exact hm
    · simp only [if_neg e1]
      exact (h.map_grown hi k hg hj).keep (hz.block (mb j) (Nat.lt_of_lt_of_le (h.map j hj).lt hg.size) (fun e => by injection e with e; exact h.inj j i hj hi e1 e))
  · rcases hcase j q v hq with ⟨rfl, rfl, rfl⟩ | ⟨hne, hq⟩
    · simp only [and_self, if_true]
      refine ⟨hown.keepF (fun b hb => hz.block b (hown.block b hb).2 (fun e => ?_)) hz.size, fun b hb => ?_⟩
      · rw [hv] at hb; injection hb with hb; injection e with e; exact hgm j hj (hb.trans e)
      · rw [hv] at hb; injection hb with hb; subst hb; exact ⟨hgm, hgP⟩
    · rw [if_neg (by rintro ⟨h1, h2⟩; rcases hne with h | h; exact h h1; exact h h2)]
      obtain ⟨a, b, _⟩ := old j hj q v hq hne
      exact ⟨a, b⟩
  · by_cases e1 : j = i
    · subst e1
      simp only [if_true] at hq
      rw [lk_up] at hq
      by_cases e2 : q = k
      · rw [if_pos e2] at hq; cases hq
      · rw [if_neg e2] at hq; rw [if_neg (by rintro ⟨_, h2⟩; exact e2 h2)]; exact h.no j hj q hq
    · simp only [if_neg e1] at hq; rw [if_neg (by rintro ⟨h1, _⟩; exact e1 h1)]; exact h.no j hj q hq
  · rcases hcase j q v hq with ⟨rfl, rfl, rfl⟩ | ⟨h1, hq1⟩
    · rcases hcase j' q' u hq' with ⟨rfl, rfl, rfl⟩ | ⟨h2, hq2⟩
      · rcases hne with h | h <;> exact absurd rfl h
      · exact (old j' hj' q' u hq2 h2).2.2.symm
    · rcases hcase j' q' u hq' with ⟨rfl, rfl, rfl⟩ | ⟨h2, hq2⟩
      · exact (old j hj q v hq1 h1).2.2
      · exact h.dis j j' hj hj' q q' v u hq1 hq2 hne
  · obtain ⟨a, b, c, d⟩ := h.prv p hp
    refine ⟨?_, b, Nat.lt_of_lt_of_le c (Nat.le_trans hg.size hz.size), d⟩
    rw [hz.block p.1 (Nat.lt_of_lt_of_le c hg.size) (fun e => by injection e with e; exact d i hi e), hg.block p.1 c (fun e => (hold p.1 e.symm).2.1 p hp rfl)]
    exact a
end
end Go.Proofs.YtmefjkfjpgblcaaGreatDoor

/- Append of one element onto a row of one's own: what the old row holds stays, wherever the new one lies. No program in sight. -/
namespace Go.Proofs.YtmefjkfjpgblcaaGreatDoor
set_option linter.unusedVariables false
open Go.RowKit

theorem came_own {w : World} {base : Nat} {e : TypeId} {size : Nat} {g n cap : Nat} {xs : List Value} (h : w.ownsRow base e size (.slice (some ⟨g, 0, none⟩) n cap) n xs) : Came w size (some ⟨g, 0, none⟩) g 0 n cap xs := by
  rcases h.2 with ⟨hv, _⟩ | ⟨g', cap', cur, hv, hb, hg, h1, h2, h3, h4⟩
  · cases hv
  · injection hv with hv1 hv2 hv3
    injection hv1 with hv1
    injection hv1 with hv1
    subst hv1; subst hv3
    obtain ⟨h5, h6⟩ := str_cells hg
    refine ⟨h1, fun _ => rfl, fun _ => heap_lt hg, h.1, fun j u hj => ?_, fun j hj => ⟨?_, h6 _⟩⟩
    · rw [h5, Nat.zero_add, ← Array.getElem?_toList]
      have hlt : j < n * size := by rw [← h.1]; exact (List.getElem?_eq_some_iff.1 hj).1
      rw [← h4, List.getElem?_take, if_pos hlt] at hj
      exact hj
    · rw [h5, Nat.zero_add]
      have : n * size + j < cur.size := by
        rw [h3]
        rw [Nat.sub_mul] at hj
        omega
      simp [this]
theorem run_push_keeps {P : Program} {W : World} {base : Nat} {e : TypeId} {size : Nat} {g0 n cap0 : Nat} {xs : List Value} (hown : W.ownsRow base e size (.slice (some ⟨g0, 0, none⟩) n cap0) n xs)
    (t ty : TypeId) (i : TypeInfo) (z : Value) (bytes : Nat) (ht : P.underlying t = some (.slice e)) (hi : P.info? e = some i) (hz : i.zero = some z) (hsize : i.size = size) (hby : i.bytes = bytes) (hzs : z.cells.size = size) (hsz : 0 < size)
    (ad : Addr) (c : Nat) (news : List Value) (hl : news.length = 1 * size) (hnews : ∀ j u, news[j]? = some u → W.cell? (ad.add j) = some u) (h1 : ∀ u ∈ news, u.oneCell' = true)
    (h63 : n + 1 ≤ maxLen) (hbytes : (n + 1) * bytes ≤ 140737488355328) (hbase : base ≤ W.heap.size) :
    ∃ g cap w', (Builtin.append_ #[t, t] ty #[.slice (some ⟨g0, 0, none⟩) n cap0, .slice (some ad) 1 c]).run P W = .ok (.slice (some ⟨g, 0, none⟩) (n + 1) cap) w' ∧
      w'.ownsRow base e size (.slice (some ⟨g, 0, none⟩) (n + 1) cap) (n + 1) (xs ++ news) ∧ W.grownBy w' (some g0) ∧ (some g0 = some g ∨ g = W.heap.size) ∧ g < w'.heap.size ∧ (∀ j, j < n * size → w'.cell? ⟨g0, j, none⟩ = W.cell? ⟨g0, j, none⟩) := by
  obtain ⟨g, cap, w', hr, h2, h3, h4, h5⟩ := run_append_lies (P := P) W t ty base e i z size bytes ht hi hz hsize hby hzs hsz _ n xs hown ad 1 c news hl hnews h1 (by omega) h63 hbytes hbase W.heap.size rfl
  have hc := came_own hown
  obtain ⟨v2, w2, hr2, ho⟩ := run_append_onto (P := P) hc t ty i z bytes ht hi hz hsize hby hzs hsz (Onto.start hc) ad c news hl hnews h1 h63 hbytes
  have hg0 : g0 < W.heap.size := by
    rcases hown.2 with ⟨hv, _⟩ | ⟨g', cap', cur, hv, hb, hg, _⟩
    · cases hv
    · injection hv with hv1 hv2 hv3
      injection hv1 with hv1
      injection hv1 with hv1
      subst hv1
      exact heap_lt hg
  refine ⟨g, cap, w', hr, h2, h3, h4, h5, fun j hj => ?_⟩
  have e := hr.symm.trans hr2
  injection e with e1 e2
  subst e2
  exact ho.old hg0 (fun j' _ _ ⟨_, e⟩ => by omega)
end Go.Proofs.YtmefjkfjpgblcaaGreatDoor

/- Append of one element, at the operation itself: for regions that draw their order. No program in sight. -/
namespace Go.Proofs.YtmefjkfjpgblcaaGreatDoor
set_option linter.unusedVariables false
open Go.RowKit

theorem oper_push {P : Program} {α : Type} {R : Rep α} {o : Oper} {a : Act} {K : Act → World → Prop} {Q : Exit → Act → World → Prop} (hgd : o.guard = none) (s x : Operand) (t : TypeId)
    (ho : o.op = .call { callee := .builtin .append, args := #[s, x], argTypes := #[t, t] })
    (base lo : Nat) (e : TypeId) (i : TypeInfo) (z : Value) (bytes : Nat) (ht : P.underlying t = some (.slice e)) (hi : P.info? e = some i) (hz : i.zero = some z)
    (hsize : i.size = R.n) (hby : i.bytes = bytes) (hzs : z.cells.size = R.n) (hsz : 0 < R.n)
    (W : World) (v : Value) (l : List α) (hs : a.eval s = v) (hown : Own R W base lo e l v) (y : α) (cs : List Value) (hy : R.rel W (From W lo v.ownBlock) y cs) (h1 : ∀ u ∈ cs, u.oneCell' = true)
    (B : Nat) (T : TypeId) (c : Nat) (hB : W.heap[B]? = some (.cells cs.toArray T (0, 0))) (hx : a.eval x = .slice (some ⟨B, 0, none⟩) 1 c) (h63 : l.length + 1 ≤ maxLen) (hbytes : (l.length + 1) * bytes ≤ 140737488355328) (hbase : base ≤ W.heap.size)
    (h : ∀ g cap w', Own R w' base lo e (l ++ [y]) (.slice (some ⟨g, 0, none⟩) (l.length + 1) cap) → W.grownBy w' v.ownBlock → (v.ownBlock = some g ∨ g = W.heap.size) → g < w'.heap.size → K (a.put o.dst (.slice (some ⟨g, 0, none⟩) (l.length + 1) cap)) w') :
    Oper.wp P o a W K Q := by
  have h2 := step_push (ops := #[]) (K := K) (Q := Q) (E := False) hgd s x t ho base lo e i z bytes ht hi hz hsize hby hzs hsz W v l hs hown y cs hy h1 B T c hB hx h63 hbytes hbase h
  rw [if_pos (by simp [Region.wanted, hgd])] at h2
  exact h2
/-- The same, the old row's cells told. -/
theorem oper_pushK {P : Program} {α : Type} {R : Rep α} {o : Oper} {a : Act} {K : Act → World → Prop} {Q : Exit → Act → World → Prop} (hgd : o.guard = none) (s x : Operand) (t : TypeId)
    (ho : o.op = .call { callee := .builtin .append, args := #[s, x], argTypes := #[t, t] })
    (base lo : Nat) (e : TypeId) (i : TypeInfo) (z : Value) (bytes : Nat) (ht : P.underlying t = some (.slice e)) (hi : P.info? e = some i) (hz : i.zero = some z)
    (hsize : i.size = R.n) (hby : i.bytes = bytes) (hzs : z.cells.size = R.n) (hsz : 0 < R.n)
    (W : World) (g0 cap0 n : Nat) (l : List α) (hln : l.length = n) (hs : a.eval s = .slice (some ⟨g0, 0, none⟩) n cap0) (hown : Own R W base lo e l (.slice (some ⟨g0, 0, none⟩) n cap0)) (y : α) (cs : List Value) (hy : R.rel W (From W lo (some g0)) y cs) (h1 : ∀ u ∈ cs, u.oneCell' = true)
    (B : Nat) (T : TypeId) (c : Nat) (hB : W.heap[B]? = some (.cells cs.toArray T (0, 0))) (hx : a.eval x = .slice (some ⟨B, 0, none⟩) 1 c) (h63 : n + 1 ≤ maxLen) (hbytes : (n + 1) * bytes ≤ 140737488355328) (hbase : base ≤ W.heap.size)
    (h : ∀ g cap w', Own R w' base lo e (l ++ [y]) (.slice (some ⟨g, 0, none⟩) (n + 1) cap) → W.grownBy w' (some g0) → (some g0 = some g ∨ g = W.heap.size) → g < w'.heap.size → (∀ j, j < n * R.n → w'.cell? ⟨g0, j, none⟩ = W.cell? ⟨g0, j, none⟩) → K (a.put o.dst (.slice (some ⟨g, 0, none⟩) (n + 1) cap)) w') :
    Oper.wp P o a W K Q := by
  subst hln
  obtain ⟨xs, hor, hl⟩ := hown
  have hn := R.len hy
  obtain ⟨g, cap, w', hr, h2, h3, h4, h5, h6⟩ := run_push_keeps (P := P) hor t o.type i z bytes ht hi hz hsize hby hzs hsz ⟨B, 0, none⟩ c cs (by rw [hn, Nat.one_mul]) (fun j u hj => World.news_of_block hB j u (by simpa using hj)) h1 h63 hbytes hbase
  unfold Oper.wp execOp
  simp only [ho, resolve, invoke, builtin, Sem.run_bind, Sem.run_pure, Result.andThen_ok, List.map_toArray, List.map_cons, List.map_nil, hs, hx, hr]
  exact h g cap w' (Own.push (v := .slice (some ⟨g0, 0, none⟩) l.length cap0) (row := xs) (g := g) (H := W.heap.size) hl hy h2 h3 rfl (h4.imp id fun h => ⟨h, Nat.le_refl _⟩)) h3 h4 h5 h6
end Go.Proofs.YtmefjkfjpgblcaaGreatDoor

/- The program's functions on rolls and rates. -/
namespace Go.Proofs.YtmefjkfjpgblcaaGreatDoor
set_option linter.unusedVariables false
open Go.RowKit

set_option maxHeartbeats 400000 in
theorem isRate_c (r : Int) (w : World) : Calls Tryz.prog 84 #[.int .i64 r] w fun e w' => e = .returned (.bool (isRateB r)) ∧ w = w' := by
  by_cases h1 : 1 ≤ r
  · by_cases h2 : r ≤ 4
    · have H := Lib.hid (show isRateB r = true by simp [isRateB]; omega)
      go_enter Tryz.func84, Tryz.ntmps84
      go_wp2
      go_ret
      exact ⟨by rw [H.out]; rfl, rfl⟩
    · have H := Lib.hid (show isRateB r = false by simp [isRateB]; omega)
      go_enter Tryz.func84, Tryz.ntmps84
      go_wp2
      go_ret
      exact ⟨by rw [H.out]; rfl, rfl⟩
  · have H := Lib.hid (show isRateB r = false by simp [isRateB]; omega)
    go_enter Tryz.func84, Tryz.ntmps84
    go_wp2
    go_ret
    exact ⟨by rw [H.out]; rfl, rfl⟩

set_option maxHeartbeats 400000 in
theorem counted_c (r : Int) (w : World) (h : isRateB r = true) : Calls Tryz.prog 168 #[.int .i64 r] w fun e w' => e = .returned (.int .i64 (countedN r)) ∧ w = w' := by
  rcases rate_cases h with rfl | rfl | rfl | rfl
  all_goals
    clear h
    have i1 : ∀ w, (Instr.index 287 (.agg #[.int .i64 0, .int .i64 24, .int .i64 25, .int .i64 30, .int .i64 30]) (.int .i64 1)).run Tryz.prog w = .ok (.int .i64 24) w := fun _ => by kernel_rfl
    have i2 : ∀ w, (Instr.index 287 (.agg #[.int .i64 0, .int .i64 24, .int .i64 25, .int .i64 30, .int .i64 30]) (.int .i64 2)).run Tryz.prog w = .ok (.int .i64 25) w := fun _ => by kernel_rfl
    have i3 : ∀ w, (Instr.index 287 (.agg #[.int .i64 0, .int .i64 24, .int .i64 25, .int .i64 30, .int .i64 30]) (.int .i64 3)).run Tryz.prog w = .ok (.int .i64 30) w := fun _ => by kernel_rfl
    have i4 : ∀ w, (Instr.index 287 (.agg #[.int .i64 0, .int .i64 24, .int .i64 25, .int .i64 30, .int .i64 30]) (.int .i64 4)).run Tryz.prog w = .ok (.int .i64 30) w := fun _ => by kernel_rfl
    go_enter Tryz.func168, Tryz.ntmps168
    go_wp2
    go_ret
    exact ⟨rfl, rfl⟩

set_option maxHeartbeats 400000 in
theorem frames_c (r : Int) (w : World) (h : isRateB r = true) : Calls Tryz.prog 85 #[.int .i64 r] w fun e w' => e = .returned (.int .i64 (framesN r)) ∧ w = w' := by
  rcases rate_cases h with rfl | rfl | rfl | rfl
  all_goals
    clear h
    have e1 : countedN 1 = 24 := rfl
    have e2 : countedN 2 = 25 := rfl
    have e3 : countedN 3 = 30 := rfl
    go_enter Tryz.func85, Tryz.ntmps85
    go_wp2_with (go_at_call 168; refine (counted_c _ _ (by decide)).mono ?_; rintro e w' ⟨rfl, rfl⟩)
    go_ret
    exact ⟨rfl, rfl⟩

end Go.Proofs.YtmefjkfjpgblcaaGreatDoor

/- The program's functions on rolls, looked up and checked. -/
namespace Go.Proofs.YtmefjkfjpgblcaaGreatDoor
set_option linter.unusedVariables false
open Go.RowKit

set_option maxHeartbeats 400000 in
theorem idxRoll_c (A : Option Addr) (l : List Roll) (c g lo : Nat) (cb : Array Value) (p : Roll → Bool) (w : World) (hr : Rs w lo w.heap.size 5 Roll.cells A l) (hlen : l.length ≤ 140737488355328)
    (hp : PredC Tryz.prog g cb Roll.val p w) :
    Calls Tryz.prog 169 #[.slice A l.length c, .func (.func g) #[] cb] w fun e w' => e = .returned (.int .i64 (idxV (l.findIdx? p))) ∧ Below w.heap.size w w' := by
  have eg := hp.1
  have HP := Lib.hid hp.2; clear hp
  go_enter Tryz.func169, Tryz.ntmps169
  go_wp2
  go_loopw [5, 8] (fun v i wr => ∃ k : Nat, k ≤ l.length ∧ i = .int .i64 k ∧ Below w.heap.size w wr ∧ Hid (∀ x ∈ l.take k, p x = false)) (fun _ i _ => l.length - (intOf i).toNat)
  case atStart => exact ⟨0, Nat.zero_le _, rfl, Below.refl _ _, by intro x hx; simp at hx⟩
  case round =>
    obtain ⟨k, hk, rfl, hb, HN⟩ := hrel
    by_cases hlt : k < l.length
    · obtain ⟨b, off, rfl, _, hbl, hc⟩ := (hr.below hb (Nat.le_refl _)).at_ hlt
      have c0 : wr.cell? ⟨b, off + k * 5, none⟩ = _ := hc 0 _ rfl
      have c1 := hc 1 _ rfl
      have c2 := hc 2 _ rfl
      have c3 := hc 3 _ rfl
      have c4 := hc 4 _ rfl
      clear hc
      cases hv : p l[k]
      all_goals
        have HV := Lib.hid hv; clear hv
        go_wp2_with fail
        refine (HP.out l[k] wr hb).mono ?_
        rintro e w' ⟨rfl, hb'⟩
        rw [HV.out]
        go_wp2
      · go_roundw
        case rel => exact ⟨k + 1, by omega, intNum, hb.trans (hb'.mono hb.size), take_next hlt HN.out HV.out⟩
        case measure => simp [intOf]; omega
      · go_ret
        have H := findIdx_at HN.out hlt HV.out
        exact ⟨by rw [H]; rfl, hb.trans (hb'.mono hb.size)⟩
    · go_wp2
      go_ret
      have H := findIdx_no (take_all hlt HN.out)
      exact ⟨by rw [H]; rfl, hb⟩

/-- A variable's own cell keeps what it holds. -/
theorem cellC {w W : World} {b : Nat} {v : Value} (h : w.cell? ⟨b, 0, none⟩ = some v) (hb : Below w.heap.size w W) (hlt : b < w.heap.size) : W.cell? ⟨b, 0, none⟩ = some v := (hb.cell (p := ⟨b, 0, none⟩) hlt).trans h

set_option maxHeartbeats 400000 in
theorem rollOf1_p (s : ByteArray) (b : Nat) (w : World) (h : w.cell? ⟨b, 0, none⟩ = some (.string s)) (hlt : b < w.heap.size) :
    PredC Tryz.prog 172 #[.pointer (some ⟨b, 0, none⟩)] Roll.val (fun y => decide (y.name = s)) w := by
  refine ⟨fun _ _ => by kernel_rfl, fun x W hb => ?_⟩
  have hc := cellC h hb hlt
  have hs := hb.size
  have hl : b < W.heap.size := by omega
  clear h hb hlt hs
  show Calls Tryz.prog _ #[.agg #[.string x.name, .int .i64 x.rate, .int .i64 x.start, .int .i64 x.long, .int .i64 x.drift], .pointer (some ⟨b, 0, none⟩)] W _
  go_enter Tryz.func172, Tryz.ntmps172
  go_wp2
  go_ret
  exact ⟨ret_bool (beqS _ _), (Below.refl _ _).alloc (Nat.le_refl _) _⟩

set_option maxHeartbeats 400000 in
theorem rollOf_c (A : Option Addr) (l : List Roll) (c lo : Nat) (s : ByteArray) (w : World) (hr : Rs w lo w.heap.size 5 Roll.cells A l) (hlen : l.length ≤ 140737488355328) :
    Calls Tryz.prog 94 #[.slice A l.length c, .string s] w fun e w' =>
      e = .returned (.tuple #[.agg #[.string (rollGet l s).name, .int .i64 (rollGet l s).rate, .int .i64 (rollGet l s).start, .int .i64 (rollGet l s).long, .int .i64 (rollGet l s).drift], .bool (rollHas l s)]) ∧ Below w.heap.size w w' := by
  have HR := Lib.hid hr; clear hr
  cases hi : rollIdx l s with
  | none =>
    have H0 := Lib.hid (show idxV (l.findIdx? fun y => decide (y.name = s)) = -1 by show idxV (rollIdx l s) = _; rw [hi]; rfl)
    have H1 := Lib.hid (show rollGet l s = Roll.zero by simp [rollGet, hi])
    have H2 := Lib.hid (show rollHas l s = false by simp [rollHas, hi])
    clear hi
    go_enter Tryz.func94, Tryz.ntmps94
    go_wp2_with fail
    refine (idxRoll_c A l c 172 lo #[.pointer (some ⟨w.heap.size, 0, none⟩)] (fun y => decide (y.name = s)) _
      (((HR.out.alloc (Nat.le_refl _) _).alloc (by simp) _).more (Nat.le_refl _) (by simp; omega)) hlen (rollOf1_p s w.heap.size _ (by go_simp) (by simp; omega))).mono ?_
    rintro e w' ⟨rfl, hb⟩
    rw [H0.out]
    have HB := Lib.hid ((((Below.refl w.heap.size w).alloc (Nat.le_refl _) _).alloc (by simp) _).trans (hb.mono (by simp; omega)))
    obtain ⟨hc, hf⟩ := bcell hb
    clear hb
    go_wp2
    refine bodyPost_ret (v := .tuple #[.agg #[.string ⟨#[]⟩, .int .i64 0, .int .i64 0, .int .i64 0, .int .i64 0], .bool false]) (by simp [results, Tryz.results94, go_sem, hc]) rfl ⟨?_, ?_⟩
    · rw [H1.out, H2.out]; rfl
    · repeat' refine Below.setCell ?_ (by simp) _
      exact HB.out
  | some k =>
    have hk := rollIdx_lt hi
    have H0 := Lib.hid (show idxV (l.findIdx? fun y => decide (y.name = s)) = (k : Int) by show idxV (rollIdx l s) = _; rw [hi]; rfl)
    have H1 := Lib.hid (show rollGet l s = l[k] by simp [rollGet, hi, hk])
    have H2 := Lib.hid (show rollHas l s = true by simp [rollHas, hi])
    clear hi
    go_enter Tryz.func94, Tryz.ntmps94
    go_wp2_with fail
    refine (idxRoll_c A l c 172 lo #[.pointer (some ⟨w.heap.size, 0, none⟩)] (fun y => decide (y.name = s)) _
      (((HR.out.alloc (Nat.le_refl _) _).alloc (by simp) _).more (Nat.le_refl _) (by simp; omega)) hlen (rollOf1_p s w.heap.size _ (by go_simp) (by simp; omega))).mono ?_
    rintro e w' ⟨rfl, hb⟩
    rw [H0.out]
    obtain ⟨b, off, rfl, _, hbl, hc⟩ := (((HR.out.alloc (Nat.le_refl _) _).alloc (by simp) _).below hb (by simp; omega)).at_ hk
    have c0 : w'.cell? ⟨b, off + k * 5, none⟩ = _ := hc 0 _ rfl
    have c1 := hc 1 _ rfl
    have c2 := hc 2 _ rfl
    have c3 := hc 3 _ rfl
    have c4 := hc 4 _ rfl
    clear hc
    have HB := Lib.hid ((((Below.refl w.heap.size w).alloc (Nat.le_refl _) _).alloc (by simp) _).trans (hb.mono (by simp; omega)))
    obtain ⟨hc, hf⟩ := bcell hb
    clear hb
    go_wp2
    refine bodyPost_ret (v := .tuple #[.agg #[.string l[k].name, .int .i64 l[k].rate, .int .i64 l[k].start, .int .i64 l[k].long, .int .i64 l[k].drift], .bool true]) (by simp [results, Tryz.results94, go_sem, hc]) rfl ⟨?_, ?_⟩
    · rw [H1.out, H2.out]
    · repeat' refine Below.setCell ?_ (by simp) _
      exact HB.out
end Go.Proofs.YtmefjkfjpgblcaaGreatDoor

/- Scripts as they lie in memory. No program in sight. -/
namespace Go.Proofs.YtmefjkfjpgblcaaGreatDoor
set_option linter.unusedVariables false
open Go.RowKit

structure Para where
  kind : Int
  text : ByteArray
structure Scene where
  no : ByteArray
  place : Int
  set : ByteArray
  time : Int
  paras : List Para
structure Script where
  title : ByteArray
  scenes : List Scene

def Para.cells (p : Para) : List Value := [.int .i64 p.kind, .string p.text]
def paraR : Rep Para := Rep.flat 2 Para.cells (fun _ => rfl)
def Scene.cells (s : Scene) (v : Value) : List Value := [.string s.no, .int .i64 s.place, .string s.set, .int .i64 s.time, v]
theorem para_at {w : World} {F : Nat → Prop} {l : List Para} {A : Option Addr} {n c : Nat} (h : Sli paraR w F l (.slice A n c)) (k : Nat) (hk : k < l.length) :
    ∃ b off, A = some ⟨b, off, none⟩ ∧ F b ∧ w.cell? ⟨b, off + k * 2, none⟩ = some (.int .i64 l[k].kind) ∧ w.cell? ⟨b, off + k * 2 + 1, none⟩ = some (.string l[k].text) := by
  obtain ⟨b, off, a, ea, hb, e, hc⟩ := h.at_ k hk
  have e' : a = Para.cells l[k] := e
  subst e'
  exact ⟨b, off, ea, hb, hc 0 _ rfl, hc 1 _ rfl⟩
theorem str_at {w : World} {F : Nat → Prop} {l : List ByteArray} {A : Option Addr} {n c : Nat} (h : Sli strR w F l (.slice A n c)) (k : Nat) (hk : k < l.length) :
    ∃ b off, A = some ⟨b, off, none⟩ ∧ F b ∧ w.cell? ⟨b, off + k, none⟩ = some (.string l[k]) := by
  obtain ⟨b, off, a, ea, hb, e, hc⟩ := h.at_ k hk
  have e' : a = [.string l[k]] := e
  subst e'
  have := hc 0 _ rfl
  exact ⟨b, off, ea, hb, by simpa [strR, Rep.flat] using this⟩

/-- What a made script stays within. -/
def paraBd (p : Para) : Prop := -10 ≤ p.kind ∧ p.kind ≤ 20 ∧ p.text.size ≤ 10000
def sceneBd (s : Scene) : Prop := s.no.size ≤ 1000 ∧ -10 ≤ s.place ∧ s.place ≤ 20 ∧ s.set.size ≤ 1000 ∧ -10 ≤ s.time ∧ s.time ≤ 20 ∧ s.paras.length ≤ 60 ∧ ∀ p ∈ s.paras, paraBd p
def scriptBd (x : Script) : Prop := x.title.size ≤ 1000 ∧ x.scenes.length ≤ 90 ∧ ∀ s ∈ x.scenes, sceneBd s
end Go.Proofs.YtmefjkfjpgblcaaGreatDoor

/- slices.Delete of one paragraph, in a row of one's own. -/
namespace Go.Proofs.YtmefjkfjpgblcaaGreatDoor
set_option linter.unusedVariables false
open Go.RowKit

theorem grown_setCell (w : World) (b o : Nat) (v : Value) : w.grownBy (w.setCell ⟨b, o, none⟩ v) (some b) :=
  ⟨rfl, rfl, rfl, by simp [World.setCell], fun i _ hne => Below.heap_setCell w ⟨b, o, none⟩ v i (fun e => hne (by rw [e]))⟩
theorem grown_setCells (b : Nat) : ∀ (vs : List Value) (o : Nat) (w : World), w.grownBy (w.setCells b o vs) (some b)
  | [], o, w => ⟨rfl, rfl, rfl, Nat.le_refl _, fun _ _ _ => rfl⟩
  | v :: vs, o, w => gbTrans (grown_setCell w b o v) (grown_setCells b vs (o + 1) _)
/-- A row whose cells are known reads as a list. -/
theorem Sli.mkF {α : Type} {n : Nat} {enc : α → List Value} {hn : ∀ x, (enc x).length = n} {w : World} {F : Nat → Prop} {l : List α} {g c : Nat} (hF : F g) (hc : l.length ≤ c) (hc2 : c ≤ 9223372036854775807)
    (h : ∀ (k : Nat) x, l[k]? = some x → ∀ j u, (enc x)[j]? = some u → w.cell? ⟨g, k * n + j, none⟩ = some u) : Sli (Rep.flat n enc hn) w F l (.slice (some ⟨g, 0, none⟩) l.length c) := by
  have hlay : ∀ l : List α, (l.flatMap enc).length = l.length * n := fun l => by
    induction l with
    | nil => simp
    | cons a r ih => rw [List.flatMap_cons, List.length_append, hn, ih, List.length_cons, Nat.add_mul]; omega
  have hget : ∀ (l : List α) (k : Nat) x, l[k]? = some x → ((l.flatMap enc).drop (k * n)).take n = enc x := fun l => by
    induction l with
    | nil => intro k x hx; simp at hx
    | cons a r ih =>
      intro k x hx
      cases k with
      | zero =>
        simp at hx; subst hx
        rw [List.flatMap_cons, Nat.zero_mul, List.drop_zero, List.take_left' (hn a)]
      | succ k =>
        rw [List.flatMap_cons, show (k + 1) * n = n + k * n by rw [Nat.add_mul]; omega, ← List.drop_drop, List.drop_left' (hn a)]
        exact ih k x (by simpa using hx)
  refine ⟨_, c, rfl, hc, hc2, fun _ => ⟨g, 0, l.flatMap enc, rfl, hF, ⟨hlay l, fun k x hx => hget l k x hx⟩, fun j u hj => ?_⟩⟩
  rw [Nat.zero_add]
  have hjl := (List.getElem?_eq_some_iff.1 hj).1
  rw [hlay] at hjl
  by_cases h0 : n = 0
  · subst h0; omega
  · have hk : j / n < l.length := (Nat.div_lt_iff_lt_mul (by omega)).2 hjl
    have h2 := hget l (j / n) _ (List.getElem?_eq_getElem hk)
    have h3 : (enc l[j / n])[j % n]? = some u := by
      rw [← h2, List.getElem?_take, if_pos (Nat.mod_lt _ (by omega)), List.getElem?_drop, Nat.mul_comm, Nat.div_add_mod]
      exact hj
    have h4 := h (j / n) _ (List.getElem?_eq_getElem hk) _ u h3
    rw [Nat.mul_comm, Nat.div_add_mod] at h4
    exact h4
/-- 'clear' of one paragraph. -/
theorem run_clear_para (w : World) (ty : TypeId) (g o c : Nat) (h0 : (w.cell? ⟨g, o, none⟩).isSome = true) (h1 : (w.cell? ⟨g, o + 1, none⟩).isSome = true) (f0 : w.frozen? ⟨g, o, none⟩ = false) (f1 : w.frozen? ⟨g, o + 1, none⟩ = false) :
    (Builtin.clear_ #[117] ty #[.slice (some ⟨g, o, none⟩) 1 c]).run Tryz.prog w = .ok (.tuple #[]) (w.setCells g o [.int .i64 0, .string ⟨#[]⟩]) := by
  have hv : ∀ w, (zeroValue 198).run Tryz.prog w = .ok (.agg #[.int .i64 0, .string ⟨#[]⟩]) w := fun w => by kernel_rfl
  have hzc : (Builtin.zeroCells (Value.agg #[.int .i64 0, .string ⟨#[]⟩]).cells 1).toList = [.int .i64 0, .string ⟨#[]⟩] := by kernel_rfl
  have hst := run_storeCells_cells (P := Tryz.prog) g o [.int .i64 0, .string ⟨#[]⟩] 0 w (fun j hj => by
    match j, hj with
    | 0, _ => simpa using h0
    | 1, _ => simpa using h1) (fun j hj => by
    match j, hj with
    | 0, _ => simpa using f0
    | 1, _ => simpa using f1) (by intro v hv; simp at hv; rcases hv with rfl | rfl <;> rfl)
  simp only [Nat.add_zero] at hst
  simp [Builtin.clear_, run_underlying Tryz.underlying117, hv, hzc, hst]
def DelP (g i d cap : Nat) (l : List Para) (w : World) (e : Ending) (w' : World) : Prop := e = .returned (.slice (some ⟨g, 0, none⟩) (i + d) cap) ∧ Sli paraR w' (fun q => q = g) l (.slice (some ⟨g, 0, none⟩) (i + d) cap) ∧ w.grownBy w' (some g)
set_option maxRecDepth 100000 in
set_option maxHeartbeats 4000000 in
theorem delPara_c (g i d cap base lo : Nat) (l1 l2 : List Para) (x : Para) (w : World) (h : Own paraR w base lo 198 (l1 ++ x :: l2) (.slice (some ⟨g, 0, none⟩) (i + d + 1) cap)) (h1 : l1.length = i) (h2 : l2.length = d) (hl : i + d ≤ 1000000) :
    Calls Tryz.prog 163 #[.slice (some ⟨g, 0, none⟩) (i + d + 1) cap, .int .i64 i, .int .i64 (i + 1)] w (DelP g i d cap (l1 ++ l2) w) := by
  obtain ⟨i0, hi0, hz0, hz1, hz2⟩ := info_parts (show (Tryz.prog.info? 198).map (fun i => (i.zero, i.size, i.bytes)) = some (some (.agg #[.int .i64 0, .string ⟨#[]⟩]), 2, 24) by kernel_rfl)
  have hcap : i + d + 1 ≤ cap ∧ cap ≤ 9223372036854775807 := by
    rcases h.form with ⟨e, _⟩ | ⟨g', c', e, _, _, h3, h4⟩
    · cases e
    · injection e with _ e2 e3
      subst e3
      rw [← e2] at h3
      exact ⟨h3, h4⟩
  have hcell : ∀ k y, (l1 ++ x :: l2)[k]? = some y → ∀ j, j < 2 → w.cell? ⟨g, k * 2 + j, none⟩ = y.cells[j]? ∧ w.frozen? ⟨g, k * 2 + j, none⟩ = false := fun k y hy j hj => by
    obtain ⟨hk, rfl⟩ := List.getElem?_eq_some_iff.1 hy
    exact Own.cellAt (enc := Para.cells) h k hk j hj
  have HC := Lib.hid hcell
  clear hcell
  obtain ⟨news, hnews⟩ : ∃ news, news = l2.flatMap Para.cells := ⟨_, rfl⟩
  have hfl : ∀ l : List Para, (l.flatMap Para.cells).length = l.length * 2 := fun l => by
    induction l with
    | nil => simp
    | cons a r ih => rw [List.flatMap_cons, List.length_append, ih, List.length_cons, Nat.add_mul, show (Para.cells a).length = 2 from rfl]; omega
  have hfg : ∀ (l : List Para) (k : Nat) y, l[k]? = some y → ∀ j, j < 2 → (l.flatMap Para.cells)[k * 2 + j]? = y.cells[j]? := fun l => by
    induction l with
    | nil => intro k y hy; simp at hy
    | cons a r ih =>
      intro k y hy j hj
      cases k with
      | zero =>
        simp at hy; subst hy
        rw [List.flatMap_cons, Nat.zero_mul, Nat.zero_add, List.getElem?_append_left (by show j < 2; exact hj)]
      | succ k =>
        rw [List.flatMap_cons, List.getElem?_append_right (by show 2 ≤ _; omega)]
        have := ih k y (by simpa using hy) j hj
        rw [← this]
        congr 1
        show (k + 1) * 2 + j - 2 = _
        omega
  have hlen : news.length = d * 2 := by rw [hnews, hfl, h2]
  have hsrc : Hid (∀ t u, news[t]? = some u → w.drew.cell? ⟨g, (i + 1) * 2 + t, none⟩ = some u) := by
    intro t u hu
    have ht := (List.getElem?_eq_some_iff.1 hu).1
    rw [hlen] at ht
    have hk : t / 2 < l2.length := by omega
    have e := hfg l2 (t / 2) _ (List.getElem?_eq_getElem hk) (t % 2) (Nat.mod_lt _ (by decide))
    rw [show t / 2 * 2 + t % 2 = t by omega, ← hnews, hu] at e
    have hx : (l1 ++ x :: l2)[i + 1 + t / 2]? = some l2[t / 2] := by
      rw [List.getElem?_append_right (by omega), show i + 1 + t / 2 - l1.length = t / 2 + 1 by omega, List.getElem?_cons_succ, List.getElem?_eq_getElem hk]
    have hc := (HC.out _ _ hx (t % 2) (Nat.mod_lt _ (by decide))).1
    rw [show (i + 1 + t / 2) * 2 + t % 2 = (i + 1) * 2 + t by omega] at hc
    show w.cell? _ = _
    rw [hc, ← e]
  have s1 : Hid (news.length = d * 2) := hlen
  have s2 : Hid (∀ u ∈ news, u.oneCell' = true) := by
    intro u hu
    rw [hnews, List.mem_flatMap] at hu
    obtain ⟨p, _, hp⟩ := hu
    simp [Para.cells] at hp
    rcases hp with rfl | rfl <;> rfl
  have s3 : Hid (∀ t, t < d * 2 + 2 → (w.cell? ⟨g, i * 2 + t, none⟩).isSome = true ∧ w.frozen? ⟨g, i * 2 + t, none⟩ = false) := by
    intro t ht
    have hk : i + t / 2 < (l1 ++ x :: l2).length := by simp; omega
    have hc := HC.out _ _ (List.getElem?_eq_getElem hk) (t % 2) (Nat.mod_lt _ (by decide))
    rw [show (i + t / 2) * 2 + t % 2 = i * 2 + t by omega] at hc
    refine ⟨?_, hc.2⟩
    rw [hc.1, List.getElem?_eq_getElem (by show t % 2 < 2; omega)]
    rfl
  have HFG := Lib.hid (hfg l2)
  have HNW := Lib.hid hnews
  have hg : Hid (∀ (W1 : World), W1 = w.drew.setCells g (i * 2) news → DelP g i d cap (l1 ++ l2) w (.returned (.slice (some ⟨g, 0, none⟩) (i + d) cap)) (W1.setCells g ((i + d) * 2) [.int .i64 0, .string ⟨#[]⟩])) := by
    rintro W1 rfl
    refine ⟨rfl, ?_, gbTrans (gbTrans (⟨rfl, rfl, rfl, Nat.le_refl _, fun _ _ _ => rfl⟩ : w.grownBy w.drew (some g)) (grown_setCells g news (i * 2) w.drew)) (grown_setCells g _ _ _)⟩
    have hll : (l1 ++ l2).length = i + d := by rw [List.length_append, h1, h2]
    have key := Sli.mkF (n := 2) (enc := Para.cells) (hn := fun _ => rfl) (w := (w.drew.setCells g (i * 2) news).setCells g ((i + d) * 2) [.int .i64 0, .string ⟨#[]⟩]) (F := fun q => q = g) (l := l1 ++ l2) (g := g) (c := cap) rfl (by omega) hcap.2 (fun k y hy j u hj => by
      have hk := (List.getElem?_eq_some_iff.1 hy).1
      have hj2 : j < 2 := by have := (List.getElem?_eq_some_iff.1 hj).1; exact this
      rw [World.cell?_setCells_out g _ _ _ _ (fun _ _ => .inl (by dsimp only; omega))]
      by_cases hki : k < i
      · rw [World.cell?_setCells_out g _ _ _ _ (fun _ _ => .inl (by dsimp only; omega))]
        have hy2 : (l1 ++ x :: l2)[k]? = some y := by rw [← hy, List.getElem?_append_left (by omega), List.getElem?_append_left (by omega)]
        exact ((HC.out k y hy2 j hj2).1).trans hj
      · have hy2 : l2[k - i]? = some y := by rw [← hy, List.getElem?_append_right (by omega), h1]
        have e := HFG.out (k - i) y hy2 j hj2
        rw [← HNW.out, hj] at e
        have hlt := (List.getElem?_eq_some_iff.1 e).1
        have hc := World.cell?_setCells_in g news (i * 2) w.drew (fun t ht => (s3.out t (by rw [s1.out] at ht; omega)).1) ((k - i) * 2 + j) hlt
        rw [show i * 2 + ((k - i) * 2 + j) = k * 2 + j by omega] at hc
        rw [hc, ← e, List.getElem?_eq_getElem hlt])
    rw [hll] at key
    exact key
  have hcl : Hid (∀ (W1 : World), W1 = w.drew.setCells g (i * 2) news → ∀ ty c, (Builtin.clear_ #[117] ty #[.slice (some ⟨g, (i + d) * 2, none⟩) 1 c]).run Tryz.prog W1 = .ok (.tuple #[]) (W1.setCells g ((i + d) * 2) [.int .i64 0, .string ⟨#[]⟩])) := by
    rintro W1 rfl ty c
    have hin : ∀ t, t < 2 → ((w.drew.setCells g (i * 2) news).cell? ⟨g, (i + d) * 2 + t, none⟩).isSome = true ∧ (w.drew.setCells g (i * 2) news).frozen? ⟨g, (i + d) * 2 + t, none⟩ = false := fun t ht => by
      rw [World.cell?_setCells_out g _ _ _ _ (fun _ _ => .inr (by rw [s1.out]; dsimp only; omega)), World.frozen?_setCells]
      have := s3.out (d * 2 + t) (by omega)
      rw [show i * 2 + (d * 2 + t) = (i + d) * 2 + t by omega] at this
      exact this
    exact run_clear_para _ ty g _ c (hin 0 (by decide)).1 (hin 1 (by decide)).1 (hin 0 (by decide)).2 (hin 1 (by decide)).2
  have hnil : Hid (d = 0 → news = []) := fun h => List.eq_nil_of_length_eq_zero (by rw [hlen, h])
  have b1 : i ≤ cap := by omega
  have b2 : i + 1 ≤ cap := by omega
  have hp0 : (0 : Int) ≤ (i : Int) + 1 := by omega
  have hp1 : (i : Int) + 1 ≤ (i : Int) + d + 1 := by omega
  have hp2 : ((i : Int) + 1).toNat = i + 1 := by omega
  have hp4 : (0 : Int) ≤ (i : Int) + d + 1 := by omega
  have hp5 : (i : Int) + d + 1 ≤ (cap : Int) := by omega
  have hp3 : ((i : Int) == (i : Int) + 1) = false := beq_eq_false_iff_ne.2 (by omega)
  have hp6 : ¬ cap = i + d := by omega
  have hp7 : (i : Int) + d ≤ (i : Int) + d + 1 := by omega
  have hp8 : (0 : Int) ≤ (i : Int) + d := by omega
  have hp9 : ((i : Int) + d).toNat = i + d := by omega
  have hpa : ((i : Int) + d + 1).toNat = i + d + 1 := by omega
  have hidc : i + d ≤ cap := by omega
  obtain ⟨A, hA, hAS⟩ : ∃ A : Addr, (if cap = i + 1 then some (⟨g, 0, none⟩ : Addr) else some ⟨g, (i + 1) * 2, none⟩) = some A ∧ Hid (∀ t u, news[t]? = some u → w.drew.cell? (A.add t) = some u) := by
    by_cases hce : cap = i + 1
    · refine ⟨_, if_pos hce, fun t u hu => ?_⟩
      rw [hnil.out (by omega)] at hu
      simp at hu
    · refine ⟨_, if_neg hce, fun t u hu => ?_⟩
      rw [Addr.add_lit]
      exact hsrc.out t u hu
  clear hfl hfg hnews hlen h h1 h2 HFG HNW hcap hnil hsrc
  go_enter Tryz.func163, Tryz.ntmps163
  go_wp2_with fail
  go_region_law (refine step_append_room rfl (.tmp 22) (.tmp 25) 117 rfl 198 i0 2 Tryz.underlying117 hi0 hz1 g 0 i cap (by simp [Act.eval, Act.put]) A d (cap - (i + 1)) news (by simp [Act.eval, Act.put]; try omega) s1.out hAS.out s2.out (by omega) (fun t ht => by rw [Nat.zero_add]; exact s3.out t (by rw [s1.out] at ht; omega)) ?_; rw [Nat.zero_add])
  generalize hW1 : w.drew.setCells g (i * 2) news = W1
  have HW1 := Lib.hid hW1.symm
  have hcl2 := hcl.out W1 HW1.out
  clear hW1
  go_wp2
  go_ret
  exact hg.out W1 HW1.out
end Go.Proofs.YtmefjkfjpgblcaaGreatDoor

/- The shelf contracts that these proofs use, laid at this translation. -/
namespace Go.Proofs
open Go.Shelf
def Tryz.lays156_ren : Go.Shelf.Ren := ⟨fun | 156 => 56 | 165 => 134 | 166 => 135 | 169 => 136 | 240 => 206 | 241 => 207 | 276 => 277 | 277 => 278 | n => n, fun | 31 => 91 | 9 => 9 | 3 => 3 | 4 => 4 | 0 => 0 | 20 => 20 | 72 => 203 | 76 => 207 | 70 => 200 | 37 => 201 | 75 => 206 | 127 => 262 | 164 => 306 | 5 => 5 | 80 => 26 | n => n, fun | n => n⟩
theorem Tryz.lays156 : Go.Proofs.Lays.n156 Tryz.prog Tryz.lays156_ren := {
  mixed := by kernel_rfl
  f156 := Tryz.func56.trans (congrArg some (by kernel_rfl))
  f165 := Tryz.func134.trans (congrArg some (by kernel_rfl))
  f166 := Tryz.func135.trans (congrArg some (by kernel_rfl))
  f169 := Tryz.func136.trans (congrArg some (by kernel_rfl))
  f240 := Tryz.func206.trans (congrArg some (by kernel_rfl))
  f241 := Tryz.func207.trans (congrArg some (by kernel_rfl))
  f276 := Tryz.func277.trans (congrArg some (by kernel_rfl))
  f277 := Tryz.func278.trans (congrArg some (by kernel_rfl))
  t0 := Tryz.underlying0
  a0 := Tryz.isAgg0
  z0 := Tryz.sizeOf0
  v0 := Tryz.zeroValue0
  t3 := Tryz.underlying3
  a3 := Tryz.isAgg3
  z3 := Tryz.sizeOf3
  v3 := Tryz.zeroValue3
  t4 := Tryz.underlying4
  a4 := Tryz.isAgg4
  z4 := Tryz.sizeOf4
  v4 := Tryz.zeroValue4
  t9 := Tryz.underlying9
  a9 := Tryz.isAgg9
  z9 := Tryz.sizeOf9
  v9 := Tryz.zeroValue9
  t20 := Tryz.underlying20
  a20 := Tryz.isAgg20
  z20 := Tryz.sizeOf20
  v20 := Tryz.zeroValue20
  t31 := Tryz.underlying91
  a31 := Tryz.isAgg91
  z31 := Tryz.sizeOf91
  v31 := Tryz.zeroValue91
  t37 := Tryz.underlying201
  a37 := Tryz.isAgg201
  z37 := Tryz.sizeOf201
  v37 := Tryz.zeroValue201
  t70 := Tryz.underlying200
  a70 := Tryz.isAgg200
  z70 := Tryz.sizeOf200
  v70 := Tryz.zeroValue200
  t72 := Tryz.underlying203
  a72 := Tryz.isAgg203
  z72 := Tryz.sizeOf203
  v72 := Tryz.zeroValue203
  t75 := Tryz.underlying206
  a75 := Tryz.isAgg206
  z75 := Tryz.sizeOf206
  v75 := Tryz.zeroValue206
  t76 := Tryz.underlying207
  a76 := Tryz.isAgg207
  z76 := Tryz.sizeOf207
  v76 := Tryz.zeroValue207
  t127 := Tryz.underlying262
  a127 := Tryz.isAgg262
  z127 := Tryz.sizeOf262
  v127 := Tryz.zeroValue262
  t164 := Tryz.underlying306
  a164 := Tryz.isAgg306
  z164 := Tryz.sizeOf306
  v164 := Tryz.zeroValue306 }
theorem Tryz.Builder_Extra_156 : Builder.Extra Tryz.prog Tryz.lays156_ren := {
  sizeBuilder := by kernel_rfl
  liesBuilder := by kernel_rfl
  t5 := Tryz.underlying5
  a5 := Tryz.isAgg5
  z5 := Tryz.sizeOf5
  v5 := Tryz.zeroValue5
  infoByte := by kernel_rfl
  cellsByte := by kernel_rfl
  sizeByte := by kernel_rfl
  neB5 := by decide }
def Tryz.lays161_ren : Go.Shelf.Ren := ⟨fun | 161 => 295 | 231 => 220 | 227 => 222 | 233 => 223 | 235 => 225 | 228 => 285 | 197 => 280 | 151 => 286 | 260 => 314 | 152 => 318 | 137 => 157 | 119 => 336 | 224 => 316 | 225 => 315 | 217 => 232 | 266 => 294 | n => n, fun | 9 => 9 | 4 => 4 | 3 => 3 | 5 => 5 | 117 => 275 | 116 => 274 | 0 => 0 | 124 => 278 | 105 => 309 | 21 => 21 | 119 => 279 | 46 => 209 | 139 => 357 | 138 => 356 | n => n, fun | 3 => 6 | 4 => 7 | n => n⟩
theorem Tryz.lays161 : Go.Proofs.Lays.n161 Tryz.prog Tryz.lays161_ren := {
  mixed := by kernel_rfl
  f119 := Tryz.func336.trans (congrArg some (by kernel_rfl))
  f137 := Tryz.func157.trans (congrArg some (by kernel_rfl))
  f151 := Tryz.func286.trans (congrArg some (by kernel_rfl))
  f152 := Tryz.func318.trans (congrArg some (by kernel_rfl))
  f161 := Tryz.func295.trans (congrArg some (by kernel_rfl))
  f197 := Tryz.func280.trans (congrArg some (by kernel_rfl))
  f217 := Tryz.func232.trans (congrArg some (by kernel_rfl))
  f224 := Tryz.func316.trans (congrArg some (by kernel_rfl))
  f225 := Tryz.func315.trans (congrArg some (by kernel_rfl))
  f227 := Tryz.func222.trans (congrArg some (by kernel_rfl))
  f228 := Tryz.func285.trans (congrArg some (by kernel_rfl))
  f231 := Tryz.func220.trans (congrArg some (by kernel_rfl))
  f233 := Tryz.func223.trans (congrArg some (by kernel_rfl))
  f235 := Tryz.func225.trans (congrArg some (by kernel_rfl))
  f260 := Tryz.func314.trans (congrArg some (by kernel_rfl))
  f266 := Tryz.func294.trans (congrArg some (by kernel_rfl))
  t0 := Tryz.underlying0
  a0 := Tryz.isAgg0
  z0 := Tryz.sizeOf0
  v0 := Tryz.zeroValue0
  t3 := Tryz.underlying3
  a3 := Tryz.isAgg3
  z3 := Tryz.sizeOf3
  v3 := Tryz.zeroValue3
  t4 := Tryz.underlying4
  a4 := Tryz.isAgg4
  z4 := Tryz.sizeOf4
  v4 := Tryz.zeroValue4
  t5 := Tryz.underlying5
  a5 := Tryz.isAgg5
  z5 := Tryz.sizeOf5
  v5 := Tryz.zeroValue5
  t9 := Tryz.underlying9
  a9 := Tryz.isAgg9
  z9 := Tryz.sizeOf9
  v9 := Tryz.zeroValue9
  t21 := Tryz.underlying21
  a21 := Tryz.isAgg21
  z21 := Tryz.sizeOf21
  v21 := Tryz.zeroValue21
  t46 := Tryz.underlying209
  a46 := Tryz.isAgg209
  z46 := Tryz.sizeOf209
  v46 := Tryz.zeroValue209
  t105 := Tryz.underlying309
  a105 := Tryz.isAgg309
  z105 := Tryz.sizeOf309
  v105 := Tryz.zeroValue309
  t116 := Tryz.underlying274
  a116 := Tryz.isAgg274
  z116 := Tryz.sizeOf274
  t117 := Tryz.underlying275
  a117 := Tryz.isAgg275
  z117 := Tryz.sizeOf275
  v117 := Tryz.zeroValue275
  t119 := Tryz.underlying279
  a119 := Tryz.isAgg279
  z119 := Tryz.sizeOf279
  t124 := Tryz.underlying278
  a124 := Tryz.isAgg278
  z124 := Tryz.sizeOf278
  v124 := Tryz.zeroValue278
  t138 := Tryz.underlying356
  a138 := Tryz.isAgg356
  z138 := Tryz.sizeOf356
  v138 := Tryz.zeroValue356
  t139 := Tryz.underlying357
  a139 := Tryz.isAgg357
  z139 := Tryz.sizeOf357
  v139 := Tryz.zeroValue357
  g3 := by kernel_rfl
  g4 := by kernel_rfl }
def Tryz.lays160_ren : Go.Shelf.Ren := ⟨fun | 160 => 150 | 232 => 221 | 231 => 220 | 227 => 222 | 234 => 224 | 233 => 223 | 236 => 226 | 235 => 225 | 228 => 285 | 271 => 287 | 151 => 286 | 197 => 280 | 120 => 319 | 152 => 318 | 260 => 314 | 137 => 157 | 119 => 336 | 224 => 316 | 225 => 315 | 217 => 232 | 266 => 294 | n => n, fun | 9 => 9 | 4 => 4 | 3 => 3 | 5 => 5 | 117 => 275 | 116 => 274 | 0 => 0 | 124 => 278 | 21 => 21 | 105 => 309 | 46 => 209 | 119 => 279 | 139 => 357 | 138 => 356 | n => n, fun | 3 => 6 | 4 => 7 | n => n⟩
theorem Tryz.lays160 : Go.Proofs.Lays.n160 Tryz.prog Tryz.lays160_ren := {
  mixed := by kernel_rfl
  f119 := Tryz.func336.trans (congrArg some (by kernel_rfl))
  f120 := Tryz.func319.trans (congrArg some (by kernel_rfl))
  f137 := Tryz.func157.trans (congrArg some (by kernel_rfl))
  f151 := Tryz.func286.trans (congrArg some (by kernel_rfl))
  f152 := Tryz.func318.trans (congrArg some (by kernel_rfl))
  f160 := Tryz.func150.trans (congrArg some (by kernel_rfl))
  f197 := Tryz.func280.trans (congrArg some (by kernel_rfl))
  f217 := Tryz.func232.trans (congrArg some (by kernel_rfl))
  f224 := Tryz.func316.trans (congrArg some (by kernel_rfl))
  f225 := Tryz.func315.trans (congrArg some (by kernel_rfl))
  f227 := Tryz.func222.trans (congrArg some (by kernel_rfl))
  f228 := Tryz.func285.trans (congrArg some (by kernel_rfl))
  f231 := Tryz.func220.trans (congrArg some (by kernel_rfl))
  f232 := Tryz.func221.trans (congrArg some (by kernel_rfl))
  f233 := Tryz.func223.trans (congrArg some (by kernel_rfl))
  f234 := Tryz.func224.trans (congrArg some (by kernel_rfl))
  f235 := Tryz.func225.trans (congrArg some (by kernel_rfl))
  f236 := Tryz.func226.trans (congrArg some (by kernel_rfl))
  f260 := Tryz.func314.trans (congrArg some (by kernel_rfl))
  f266 := Tryz.func294.trans (congrArg some (by kernel_rfl))
  f271 := Tryz.func287.trans (congrArg some (by kernel_rfl))
  t0 := Tryz.underlying0
  a0 := Tryz.isAgg0
  z0 := Tryz.sizeOf0
  v0 := Tryz.zeroValue0
  t3 := Tryz.underlying3
  a3 := Tryz.isAgg3
  z3 := Tryz.sizeOf3
  v3 := Tryz.zeroValue3
  t4 := Tryz.underlying4
  a4 := Tryz.isAgg4
  z4 := Tryz.sizeOf4
  v4 := Tryz.zeroValue4
  t5 := Tryz.underlying5
  a5 := Tryz.isAgg5
  z5 := Tryz.sizeOf5
  v5 := Tryz.zeroValue5
  t9 := Tryz.underlying9
  a9 := Tryz.isAgg9
  z9 := Tryz.sizeOf9
  v9 := Tryz.zeroValue9
  t21 := Tryz.underlying21
  a21 := Tryz.isAgg21
  z21 := Tryz.sizeOf21
  v21 := Tryz.zeroValue21
  t46 := Tryz.underlying209
  a46 := Tryz.isAgg209
  z46 := Tryz.sizeOf209
  v46 := Tryz.zeroValue209
  t105 := Tryz.underlying309
  a105 := Tryz.isAgg309
  z105 := Tryz.sizeOf309
  v105 := Tryz.zeroValue309
  t116 := Tryz.underlying274
  a116 := Tryz.isAgg274
  z116 := Tryz.sizeOf274
  t117 := Tryz.underlying275
  a117 := Tryz.isAgg275
  z117 := Tryz.sizeOf275
  v117 := Tryz.zeroValue275
  t119 := Tryz.underlying279
  a119 := Tryz.isAgg279
  z119 := Tryz.sizeOf279
  t124 := Tryz.underlying278
  a124 := Tryz.isAgg278
  z124 := Tryz.sizeOf278
  v124 := Tryz.zeroValue278
  t138 := Tryz.underlying356
  a138 := Tryz.isAgg356
  z138 := Tryz.sizeOf356
  v138 := Tryz.zeroValue356
  t139 := Tryz.underlying357
  a139 := Tryz.isAgg357
  z139 := Tryz.sizeOf357
  v139 := Tryz.zeroValue357
  g3 := by kernel_rfl
  g4 := by kernel_rfl }
def Tryz.lays106_ren : Go.Shelf.Ren := ⟨fun | 106 => 298 | 213 => 326 | 265 => 339 | n => n, fun | 9 => 9 | 3 => 3 | n => n, fun | n => n⟩
theorem Tryz.lays106 : Go.Proofs.Lays.n106 Tryz.prog Tryz.lays106_ren := {
  mixed := by kernel_rfl
  f106 := Tryz.func298.trans (congrArg some (by kernel_rfl))
  f213 := Tryz.func326.trans (congrArg some (by kernel_rfl))
  f265 := Tryz.func339.trans (congrArg some (by kernel_rfl))
  t3 := Tryz.underlying3
  a3 := Tryz.isAgg3
  z3 := Tryz.sizeOf3
  v3 := Tryz.zeroValue3
  t9 := Tryz.underlying9
  a9 := Tryz.isAgg9
  z9 := Tryz.sizeOf9
  v9 := Tryz.zeroValue9 }
open Go.RowKit in
theorem Tryz.strings_Compare (a b : ByteArray) (w : World) :
    Calls Tryz.prog 298 #[.string a, .string b] w fun e w' => e = .returned (.int .i64 (Lib.compareBytes a.data.toList b.data.toList)) ∧ w' = w := Any.strings_Compare Tryz.lays106 a b w
def Tryz.lays137_ren : Go.Shelf.Ren := ⟨fun | 137 => 157 | 217 => 232 | 266 => 294 | n => n, fun | 9 => 9 | 5 => 5 | 3 => 3 | n => n, fun | n => n⟩
theorem Tryz.lays137 : Go.Proofs.Lays.n137 Tryz.prog Tryz.lays137_ren := {
  mixed := by kernel_rfl
  f137 := Tryz.func157.trans (congrArg some (by kernel_rfl))
  f217 := Tryz.func232.trans (congrArg some (by kernel_rfl))
  f266 := Tryz.func294.trans (congrArg some (by kernel_rfl))
  t3 := Tryz.underlying3
  a3 := Tryz.isAgg3
  z3 := Tryz.sizeOf3
  v3 := Tryz.zeroValue3
  t5 := Tryz.underlying5
  a5 := Tryz.isAgg5
  z5 := Tryz.sizeOf5
  v5 := Tryz.zeroValue5
  t9 := Tryz.underlying9
  a9 := Tryz.isAgg9
  z9 := Tryz.sizeOf9
  v9 := Tryz.zeroValue9 }
open Go.RowKit in
theorem Tryz.strings_IndexByte (s : ByteArray) (c : Int) (w : World) :
    Calls Tryz.prog 157 #[.string s, .int .u8 c] w fun e w' => e = .returned (.int .i64 (Lib.indexByte s.data.toList c.toNat.toUInt8)) ∧ w' = w := Any.strings_IndexByte Tryz.lays137 s c w
def Tryz.lays122_ren : Go.Shelf.Ren := ⟨fun | 122 => 297 | 215 => 325 | n => n, fun | 3 => 3 | 4 => 4 | n => n, fun | n => n⟩
theorem Tryz.lays122 : Go.Proofs.Lays.n122 Tryz.prog Tryz.lays122_ren := {
  mixed := by kernel_rfl
  f122 := Tryz.func297.trans (congrArg some (by kernel_rfl))
  f215 := Tryz.func325.trans (congrArg some (by kernel_rfl))
  t3 := Tryz.underlying3
  a3 := Tryz.isAgg3
  z3 := Tryz.sizeOf3
  v3 := Tryz.zeroValue3
  t4 := Tryz.underlying4
  a4 := Tryz.isAgg4
  z4 := Tryz.sizeOf4
  v4 := Tryz.zeroValue4 }
open Go.RowKit in
theorem Tryz.cmp_Compare_int (x y : Int) (w : World) :
    Calls Tryz.prog 297 #[.int .i64 x, .int .i64 y] w fun e w' => e = .returned (.int .i64 (Lib.compareInt x y)) ∧ w' = w := Any.cmp_Compare_int Tryz.lays122 x y w
def Tryz.laysM171_ren : Go.Shelf.Ren := ⟨fun | 171 => 110 | 243 => 183 | 246 => 242 | 283 => 299 | 284 => 300 | 285 => 301 | 286 => 302 | 129 => 328 | 317 => 327 | 318 => 329 | 319 => 330 | 320 => 331 | 337 => 340 | 338 => 341 | n => n, fun | 3 => 3 | 9 => 9 | 2 => 2 | 4 => 4 | 171 => 324 | 0 => 0 | 53 => 266 | 37 => 201 | 5 => 5 | 173 => 327 | 212 => 352 | 51 => 263 | 20 => 20 | 213 => 353 | 46 => 209 | 232 => 366 | 233 => 367 | n => n, fun | 17 => 5 | 18 => 8 | 19 => 9 | n => n⟩
theorem Tryz.laysM171 : Go.Proofs.LaysM.n171 Tryz.prog Tryz.laysM171_ren := {
  mixed := by kernel_rfl
  f129 := Tryz.func328.trans (congrArg some (by kernel_rfl))
  f171 := Tryz.func110.trans (congrArg some (by kernel_rfl))
  f243 := Tryz.func183.trans (congrArg some (by kernel_rfl))
  f246 := Tryz.func242.trans (congrArg some (by kernel_rfl))
  f283 := Tryz.func299.trans (congrArg some (by kernel_rfl))
  f284 := Tryz.func300.trans (congrArg some (by kernel_rfl))
  f285 := Tryz.func301.trans (congrArg some (by kernel_rfl))
  f286 := Tryz.func302.trans (congrArg some (by kernel_rfl))
  f317 := Tryz.func327.trans (congrArg some (by kernel_rfl))
  f318 := Tryz.func329.trans (congrArg some (by kernel_rfl))
  f319 := Tryz.func330.trans (congrArg some (by kernel_rfl))
  f320 := Tryz.func331.trans (congrArg some (by kernel_rfl))
  f337 := Tryz.func340.trans (congrArg some (by kernel_rfl))
  f338 := Tryz.func341.trans (congrArg some (by kernel_rfl))
  t0 := Tryz.underlying0
  a0 := Tryz.isAgg0
  z0 := Tryz.sizeOf0
  v0 := Tryz.zeroValue0
  t2 := Tryz.underlying2
  a2 := Tryz.isAgg2
  z2 := Tryz.sizeOf2
  v2 := Tryz.zeroValue2
  t3 := Tryz.underlying3
  a3 := Tryz.isAgg3
  z3 := Tryz.sizeOf3
  v3 := Tryz.zeroValue3
  t4 := Tryz.underlying4
  a4 := Tryz.isAgg4
  z4 := Tryz.sizeOf4
  v4 := Tryz.zeroValue4
  t5 := Tryz.underlying5
  a5 := Tryz.isAgg5
  z5 := Tryz.sizeOf5
  v5 := Tryz.zeroValue5
  t9 := Tryz.underlying9
  a9 := Tryz.isAgg9
  z9 := Tryz.sizeOf9
  v9 := Tryz.zeroValue9
  t20 := Tryz.underlying20
  a20 := Tryz.isAgg20
  z20 := Tryz.sizeOf20
  v20 := Tryz.zeroValue20
  t37 := Tryz.underlying201
  a37 := Tryz.isAgg201
  z37 := Tryz.sizeOf201
  v37 := Tryz.zeroValue201
  t46 := Tryz.underlying209
  a46 := Tryz.isAgg209
  z46 := Tryz.sizeOf209
  v46 := Tryz.zeroValue209
  t51 := Tryz.underlying263
  a51 := Tryz.isAgg263
  z51 := Tryz.sizeOf263
  v51 := Tryz.zeroValue263
  t53 := Tryz.underlying266
  a53 := Tryz.isAgg266
  z53 := Tryz.sizeOf266
  v53 := Tryz.zeroValue266
  t171 := Tryz.underlying324
  a171 := Tryz.isAgg324
  z171 := Tryz.sizeOf324
  v171 := Tryz.zeroValue324
  t173 := Tryz.underlying327
  a173 := Tryz.isAgg327
  z173 := Tryz.sizeOf327
  v173 := Tryz.zeroValue327
  t212 := Tryz.underlying352
  a212 := Tryz.isAgg352
  z212 := Tryz.sizeOf352
  v212 := Tryz.zeroValue352
  t213 := Tryz.underlying353
  a213 := Tryz.isAgg353
  z213 := Tryz.sizeOf353
  t232 := Tryz.underlying366
  a232 := Tryz.isAgg366
  z232 := Tryz.sizeOf366
  v232 := Tryz.zeroValue366
  t233 := Tryz.underlying367
  a233 := Tryz.isAgg367
  z233 := Tryz.sizeOf367
  v233 := Tryz.zeroValue367
  g17 := by kernel_rfl
  g18 := by kernel_rfl
  g19 := by kernel_rfl
  i0 := by kernel_rfl
  i2 := by kernel_rfl
  i3 := by kernel_rfl
  i4 := by kernel_rfl
  i5 := by kernel_rfl
  i9 := by kernel_rfl
  i20 := by kernel_rfl
  i37 := by kernel_rfl
  i46 := by kernel_rfl
  i51 := by kernel_rfl
  i53 := by kernel_rfl
  i171 := by kernel_rfl
  i173 := by kernel_rfl
  i212 := by kernel_rfl
  i232 := by kernel_rfl
  i233 := by kernel_rfl
  m17 := by kernel_rfl
  m18 := by kernel_rfl
  m19 := by kernel_rfl }
def Tryz.lays171_ren : Go.Shelf.Ren := ⟨fun | 171 => 110 | 243 => 183 | 246 => 242 | 283 => 299 | 284 => 300 | 285 => 301 | 286 => 302 | 129 => 328 | 317 => 327 | 318 => 329 | 319 => 330 | 320 => 331 | 337 => 340 | 338 => 341 | n => n, fun | 3 => 3 | 9 => 9 | 2 => 2 | 4 => 4 | 171 => 324 | 0 => 0 | 53 => 266 | 37 => 201 | 5 => 5 | 173 => 327 | 212 => 352 | 51 => 263 | 20 => 20 | 213 => 353 | 46 => 209 | 232 => 366 | 233 => 367 | n => n, fun | 17 => 5 | 18 => 8 | 19 => 9 | n => n⟩
theorem Tryz.lays171 : Go.Proofs.Lays.n171 Tryz.prog Tryz.lays171_ren := {
  mixed := by kernel_rfl
  f129 := Tryz.func328.trans (congrArg some (by kernel_rfl))
  f171 := Tryz.func110.trans (congrArg some (by kernel_rfl))
  f243 := Tryz.func183.trans (congrArg some (by kernel_rfl))
  f246 := Tryz.func242.trans (congrArg some (by kernel_rfl))
  f283 := Tryz.func299.trans (congrArg some (by kernel_rfl))
  f284 := Tryz.func300.trans (congrArg some (by kernel_rfl))
  f285 := Tryz.func301.trans (congrArg some (by kernel_rfl))
  f286 := Tryz.func302.trans (congrArg some (by kernel_rfl))
  f317 := Tryz.func327.trans (congrArg some (by kernel_rfl))
  f318 := Tryz.func329.trans (congrArg some (by kernel_rfl))
  f319 := Tryz.func330.trans (congrArg some (by kernel_rfl))
  f320 := Tryz.func331.trans (congrArg some (by kernel_rfl))
  f337 := Tryz.func340.trans (congrArg some (by kernel_rfl))
  f338 := Tryz.func341.trans (congrArg some (by kernel_rfl))
  t0 := Tryz.underlying0
  a0 := Tryz.isAgg0
  z0 := Tryz.sizeOf0
  v0 := Tryz.zeroValue0
  t2 := Tryz.underlying2
  a2 := Tryz.isAgg2
  z2 := Tryz.sizeOf2
  v2 := Tryz.zeroValue2
  t3 := Tryz.underlying3
  a3 := Tryz.isAgg3
  z3 := Tryz.sizeOf3
  v3 := Tryz.zeroValue3
  t4 := Tryz.underlying4
  a4 := Tryz.isAgg4
  z4 := Tryz.sizeOf4
  v4 := Tryz.zeroValue4
  t5 := Tryz.underlying5
  a5 := Tryz.isAgg5
  z5 := Tryz.sizeOf5
  v5 := Tryz.zeroValue5
  t9 := Tryz.underlying9
  a9 := Tryz.isAgg9
  z9 := Tryz.sizeOf9
  v9 := Tryz.zeroValue9
  t20 := Tryz.underlying20
  a20 := Tryz.isAgg20
  z20 := Tryz.sizeOf20
  v20 := Tryz.zeroValue20
  t37 := Tryz.underlying201
  a37 := Tryz.isAgg201
  z37 := Tryz.sizeOf201
  v37 := Tryz.zeroValue201
  t46 := Tryz.underlying209
  a46 := Tryz.isAgg209
  z46 := Tryz.sizeOf209
  v46 := Tryz.zeroValue209
  t51 := Tryz.underlying263
  a51 := Tryz.isAgg263
  z51 := Tryz.sizeOf263
  v51 := Tryz.zeroValue263
  t53 := Tryz.underlying266
  a53 := Tryz.isAgg266
  z53 := Tryz.sizeOf266
  v53 := Tryz.zeroValue266
  t171 := Tryz.underlying324
  a171 := Tryz.isAgg324
  z171 := Tryz.sizeOf324
  v171 := Tryz.zeroValue324
  t173 := Tryz.underlying327
  a173 := Tryz.isAgg327
  z173 := Tryz.sizeOf327
  v173 := Tryz.zeroValue327
  t212 := Tryz.underlying352
  a212 := Tryz.isAgg352
  z212 := Tryz.sizeOf352
  v212 := Tryz.zeroValue352
  t213 := Tryz.underlying353
  a213 := Tryz.isAgg353
  z213 := Tryz.sizeOf353
  t232 := Tryz.underlying366
  a232 := Tryz.isAgg366
  z232 := Tryz.sizeOf366
  v232 := Tryz.zeroValue366
  t233 := Tryz.underlying367
  a233 := Tryz.isAgg367
  z233 := Tryz.sizeOf367
  v233 := Tryz.zeroValue367
  g17 := by kernel_rfl
  g18 := by kernel_rfl
  g19 := by kernel_rfl }
open Go.RowKit Go.Sort Go.Lib in
theorem Tryz.strconv_Itoa_small (i : Nat) (hi : i < 100) (w : World) :
    Calls Tryz.prog 110 #[.int .i64 i] w fun e w' => e = .returned (.string ⟨(Lib.decDigits i).toArray⟩) ∧ w' = w := Any.strconv_Itoa_small Tryz.lays171 i hi w
def Tryz.laysC172_ren : Go.Shelf.Ren := ⟨fun | 172 => 154 | 244 => 229 | 245 => 230 | 247 => 289 | 279 => 290 | 280 => 291 | 281 => 292 | 282 => 293 | 287 => 322 | 316 => 323 | 171 => 110 | 205 => 324 | 321 => 337 | 322 => 338 | 243 => 183 | 246 => 242 | 283 => 299 | 284 => 300 | 285 => 301 | 286 => 302 | 129 => 328 | 317 => 327 | 318 => 329 | 319 => 330 | 320 => 331 | 337 => 340 | 338 => 341 | n => n, fun | 9 => 9 | 3 => 3 | 75 => 206 | 76 => 207 | 4 => 4 | 5 => 5 | 167 => 318 | 37 => 201 | 0 => 0 | 85 => 319 | 2 => 2 | 168 => 321 | 53 => 266 | 175 => 345 | 46 => 209 | 210 => 349 | 127 => 262 | 145 => 364 | 143 => 362 | 21 => 21 | 171 => 324 | 173 => 327 | 212 => 352 | 51 => 263 | 20 => 20 | 213 => 353 | 232 => 366 | 233 => 367 | 80 => 26 | n => n, fun | 15 => 3 | 16 => 4 | 17 => 5 | 18 => 8 | 19 => 9 | n => n⟩
theorem Tryz.laysC172 : Go.Proofs.LaysC.n172 Tryz.prog Tryz.laysC172_ren := {
  mixed := by kernel_rfl
  f129 := Tryz.func328.trans (congrArg some (by kernel_rfl))
  f171 := Tryz.func110.trans (congrArg some (by kernel_rfl))
  f172 := Tryz.func154.trans (congrArg some (by kernel_rfl))
  f205 := Tryz.func324.trans (congrArg some (by kernel_rfl))
  f243 := Tryz.func183.trans (congrArg some (by kernel_rfl))
  f244 := Tryz.func229.trans (congrArg some (by kernel_rfl))
  f245 := Tryz.func230.trans (congrArg some (by kernel_rfl))
  f246 := Tryz.func242.trans (congrArg some (by kernel_rfl))
  f247 := Tryz.func289.trans (congrArg some (by kernel_rfl))
  f279 := Tryz.func290.trans (congrArg some (by kernel_rfl))
  f280 := Tryz.func291.trans (congrArg some (by kernel_rfl))
  f281 := Tryz.func292.trans (congrArg some (by kernel_rfl))
  f282 := Tryz.func293.trans (congrArg some (by kernel_rfl))
  f283 := Tryz.func299.trans (congrArg some (by kernel_rfl))
  f284 := Tryz.func300.trans (congrArg some (by kernel_rfl))
  f285 := Tryz.func301.trans (congrArg some (by kernel_rfl))
  f286 := Tryz.func302.trans (congrArg some (by kernel_rfl))
  f287 := Tryz.func322.trans (congrArg some (by kernel_rfl))
  f316 := Tryz.func323.trans (congrArg some (by kernel_rfl))
  f317 := Tryz.func327.trans (congrArg some (by kernel_rfl))
  f318 := Tryz.func329.trans (congrArg some (by kernel_rfl))
  f319 := Tryz.func330.trans (congrArg some (by kernel_rfl))
  f320 := Tryz.func331.trans (congrArg some (by kernel_rfl))
  f321 := Tryz.func337.trans (congrArg some (by kernel_rfl))
  f322 := Tryz.func338.trans (congrArg some (by kernel_rfl))
  f337 := Tryz.func340.trans (congrArg some (by kernel_rfl))
  f338 := Tryz.func341.trans (congrArg some (by kernel_rfl))
  t0 := Tryz.underlying0
  a0 := Tryz.isAgg0
  z0 := Tryz.sizeOf0
  v0 := Tryz.zeroValue0
  t2 := Tryz.underlying2
  a2 := Tryz.isAgg2
  z2 := Tryz.sizeOf2
  v2 := Tryz.zeroValue2
  t3 := Tryz.underlying3
  a3 := Tryz.isAgg3
  z3 := Tryz.sizeOf3
  v3 := Tryz.zeroValue3
  t4 := Tryz.underlying4
  a4 := Tryz.isAgg4
  z4 := Tryz.sizeOf4
  v4 := Tryz.zeroValue4
  t5 := Tryz.underlying5
  a5 := Tryz.isAgg5
  z5 := Tryz.sizeOf5
  v5 := Tryz.zeroValue5
  t9 := Tryz.underlying9
  a9 := Tryz.isAgg9
  z9 := Tryz.sizeOf9
  v9 := Tryz.zeroValue9
  t20 := Tryz.underlying20
  a20 := Tryz.isAgg20
  z20 := Tryz.sizeOf20
  v20 := Tryz.zeroValue20
  t21 := Tryz.underlying21
  a21 := Tryz.isAgg21
  z21 := Tryz.sizeOf21
  v21 := Tryz.zeroValue21
  t37 := Tryz.underlying201
  a37 := Tryz.isAgg201
  z37 := Tryz.sizeOf201
  v37 := Tryz.zeroValue201
  t46 := Tryz.underlying209
  a46 := Tryz.isAgg209
  z46 := Tryz.sizeOf209
  v46 := Tryz.zeroValue209
  t51 := Tryz.underlying263
  a51 := Tryz.isAgg263
  z51 := Tryz.sizeOf263
  v51 := Tryz.zeroValue263
  t53 := Tryz.underlying266
  a53 := Tryz.isAgg266
  z53 := Tryz.sizeOf266
  v53 := Tryz.zeroValue266
  t75 := Tryz.underlying206
  a75 := Tryz.isAgg206
  z75 := Tryz.sizeOf206
  v75 := Tryz.zeroValue206
  t76 := Tryz.underlying207
  a76 := Tryz.isAgg207
  z76 := Tryz.sizeOf207
  v76 := Tryz.zeroValue207
  t85 := Tryz.underlying319
  a85 := Tryz.isAgg319
  z85 := Tryz.sizeOf319
  v85 := Tryz.zeroValue319
  t127 := Tryz.underlying262
  a127 := Tryz.isAgg262
  z127 := Tryz.sizeOf262
  v127 := Tryz.zeroValue262
  t143 := Tryz.underlying362
  a143 := Tryz.isAgg362
  z143 := Tryz.sizeOf362
  v143 := Tryz.zeroValue362
  t145 := Tryz.underlying364
  a145 := Tryz.isAgg364
  z145 := Tryz.sizeOf364
  v145 := Tryz.zeroValue364
  t167 := Tryz.underlying318
  a167 := Tryz.isAgg318
  z167 := Tryz.sizeOf318
  v167 := Tryz.zeroValue318
  t168 := Tryz.underlying321
  a168 := Tryz.isAgg321
  z168 := Tryz.sizeOf321
  v168 := Tryz.zeroValue321
  t171 := Tryz.underlying324
  a171 := Tryz.isAgg324
  z171 := Tryz.sizeOf324
  v171 := Tryz.zeroValue324
  t173 := Tryz.underlying327
  a173 := Tryz.isAgg327
  z173 := Tryz.sizeOf327
  v173 := Tryz.zeroValue327
  t175 := Tryz.underlying345
  a175 := Tryz.isAgg345
  z175 := Tryz.sizeOf345
  v175 := Tryz.zeroValue345
  t210 := Tryz.underlying349
  a210 := Tryz.isAgg349
  z210 := Tryz.sizeOf349
  v210 := Tryz.zeroValue349
  t212 := Tryz.underlying352
  a212 := Tryz.isAgg352
  z212 := Tryz.sizeOf352
  v212 := Tryz.zeroValue352
  t213 := Tryz.underlying353
  a213 := Tryz.isAgg353
  z213 := Tryz.sizeOf353
  t232 := Tryz.underlying366
  a232 := Tryz.isAgg366
  z232 := Tryz.sizeOf366
  v232 := Tryz.zeroValue366
  t233 := Tryz.underlying367
  a233 := Tryz.isAgg367
  z233 := Tryz.sizeOf367
  v233 := Tryz.zeroValue367
  g15 := by kernel_rfl
  g16 := by kernel_rfl
  g17 := by kernel_rfl
  g18 := by kernel_rfl
  g19 := by kernel_rfl
  t80 := Tryz.underlying26
  a80 := Tryz.isAgg26
  z80 := Tryz.sizeOf26
  v80 := Tryz.zeroValue26
  i0 := by kernel_rfl
  i2 := by kernel_rfl
  i3 := by kernel_rfl
  i4 := by kernel_rfl
  i5 := by kernel_rfl
  i9 := by kernel_rfl
  i20 := by kernel_rfl
  i21 := by kernel_rfl
  i37 := by kernel_rfl
  i46 := by kernel_rfl
  i51 := by kernel_rfl
  i53 := by kernel_rfl
  i75 := by kernel_rfl
  i76 := by kernel_rfl
  i80 := by kernel_rfl
  i85 := by kernel_rfl
  i127 := by kernel_rfl
  i143 := by kernel_rfl
  i145 := by kernel_rfl
  i167 := by kernel_rfl
  i168 := by kernel_rfl
  i171 := by kernel_rfl
  i173 := by kernel_rfl
  i175 := by kernel_rfl
  i210 := by kernel_rfl
  i212 := by kernel_rfl
  i232 := by kernel_rfl
  i233 := by kernel_rfl
  m15 := by kernel_rfl
  m16 := by kernel_rfl
  m17 := by kernel_rfl
  m18 := by kernel_rfl
  m19 := by kernel_rfl
  c0 := by kernel_rfl
  c2 := by kernel_rfl
  c3 := by kernel_rfl
  c4 := by kernel_rfl
  c5 := by kernel_rfl
  c9 := by kernel_rfl
  c20 := by kernel_rfl
  c21 := by kernel_rfl
  c37 := by kernel_rfl
  c46 := by kernel_rfl
  c51 := by kernel_rfl
  c53 := by kernel_rfl
  c75 := by kernel_rfl
  c76 := by kernel_rfl
  c80 := by kernel_rfl
  c85 := by kernel_rfl
  c127 := by kernel_rfl
  c143 := by kernel_rfl
  c145 := by kernel_rfl
  c167 := by kernel_rfl
  c168 := by kernel_rfl
  c171 := by kernel_rfl
  c173 := by kernel_rfl
  c175 := by kernel_rfl
  c210 := by kernel_rfl
  c212 := by kernel_rfl
  c213 := by kernel_rfl
  c232 := by kernel_rfl
  c233 := by kernel_rfl }
def Tryz.lays144_ren : Go.Shelf.Ren := ⟨fun | 144 => 231 | 143 => 218 | 219 => 284 | 217 => 232 | 225 => 315 | 224 => 316 | 267 => 317 | 266 => 294 | 314 => 335 | n => n, fun | 9 => 9 | 4 => 4 | 3 => 3 | 5 => 5 | 46 => 209 | 146 => 264 | 51 => 263 | n => n, fun | 1 => 2 | n => n⟩
theorem Tryz.lays144 : Go.Proofs.Lays.n144 Tryz.prog Tryz.lays144_ren := {
  mixed := by kernel_rfl
  f143 := Tryz.func218.trans (congrArg some (by kernel_rfl))
  f144 := Tryz.func231.trans (congrArg some (by kernel_rfl))
  f217 := Tryz.func232.trans (congrArg some (by kernel_rfl))
  f219 := Tryz.func284.trans (congrArg some (by kernel_rfl))
  f224 := Tryz.func316.trans (congrArg some (by kernel_rfl))
  f225 := Tryz.func315.trans (congrArg some (by kernel_rfl))
  f266 := Tryz.func294.trans (congrArg some (by kernel_rfl))
  f267 := Tryz.func317.trans (congrArg some (by kernel_rfl))
  f314 := Tryz.func335.trans (congrArg some (by kernel_rfl))
  t3 := Tryz.underlying3
  a3 := Tryz.isAgg3
  z3 := Tryz.sizeOf3
  v3 := Tryz.zeroValue3
  t4 := Tryz.underlying4
  a4 := Tryz.isAgg4
  z4 := Tryz.sizeOf4
  v4 := Tryz.zeroValue4
  t5 := Tryz.underlying5
  a5 := Tryz.isAgg5
  z5 := Tryz.sizeOf5
  v5 := Tryz.zeroValue5
  t9 := Tryz.underlying9
  a9 := Tryz.isAgg9
  z9 := Tryz.sizeOf9
  v9 := Tryz.zeroValue9
  t46 := Tryz.underlying209
  a46 := Tryz.isAgg209
  z46 := Tryz.sizeOf209
  v46 := Tryz.zeroValue209
  t51 := Tryz.underlying263
  a51 := Tryz.isAgg263
  z51 := Tryz.sizeOf263
  v51 := Tryz.zeroValue263
  t146 := Tryz.underlying264
  a146 := Tryz.isAgg264
  z146 := Tryz.sizeOf264
  v146 := Tryz.zeroValue264
  g1 := by kernel_rfl }
open Go.RowKit Go.Lib in
theorem Tryz.strings_Contains (s sub : ByteArray) (m : Int) (w : World) (hs : s.size < 4294967281) (hm : w.cell? ⟨2, 0, none⟩ = some (.int .i64 m)) :
    Calls Tryz.prog 231 #[.string s, .string sub] w fun e w' => e = .returned (.bool (Lib.contains s.data.toList sub.data.toList)) ∧ w' = w := Any.strings_Contains Tryz.lays144 s sub m w hs hm
def Tryz.lays99_ren : Go.Shelf.Ren := ⟨fun | 99 => 138 | 206 => 210 | n => n, fun | 9 => 9 | 4 => 4 | 3 => 3 | n => n, fun | n => n⟩
theorem Tryz.lays99 : Go.Proofs.Lays.n99 Tryz.prog Tryz.lays99_ren := {
  mixed := by kernel_rfl
  f99 := Tryz.func138.trans (congrArg some (by kernel_rfl))
  f206 := Tryz.func210.trans (congrArg some (by kernel_rfl))
  t3 := Tryz.underlying3
  a3 := Tryz.isAgg3
  z3 := Tryz.sizeOf3
  v3 := Tryz.zeroValue3
  t4 := Tryz.underlying4
  a4 := Tryz.isAgg4
  z4 := Tryz.sizeOf4
  v4 := Tryz.zeroValue4
  t9 := Tryz.underlying9
  a9 := Tryz.isAgg9
  z9 := Tryz.sizeOf9
  v9 := Tryz.zeroValue9 }
open Go.RowKit Go.Lib in
theorem Tryz.strings_HasPrefix (s p : ByteArray) (w : World) :
    Calls Tryz.prog 138 #[.string s, .string p] w fun e w' => e = .returned (.bool (Lib.hasPrefix s.data.toList p.data.toList)) ∧ w' = w := Any.strings_HasPrefix Tryz.lays99 s p w
def Tryz.lays100_ren : Go.Shelf.Ren := ⟨fun | 100 => 147 | 207 => 219 | n => n, fun | 9 => 9 | 4 => 4 | 3 => 3 | n => n, fun | n => n⟩
theorem Tryz.lays100 : Go.Proofs.Lays.n100 Tryz.prog Tryz.lays100_ren := {
  mixed := by kernel_rfl
  f100 := Tryz.func147.trans (congrArg some (by kernel_rfl))
  f207 := Tryz.func219.trans (congrArg some (by kernel_rfl))
  t3 := Tryz.underlying3
  a3 := Tryz.isAgg3
  z3 := Tryz.sizeOf3
  v3 := Tryz.zeroValue3
  t4 := Tryz.underlying4
  a4 := Tryz.isAgg4
  z4 := Tryz.sizeOf4
  v4 := Tryz.zeroValue4
  t9 := Tryz.underlying9
  a9 := Tryz.isAgg9
  z9 := Tryz.sizeOf9
  v9 := Tryz.zeroValue9 }
open Go.RowKit Go.Lib in
theorem Tryz.strings_HasSuffix (s p : ByteArray) (w : World) (hs : s.size ≤ 9223372036854775807) :
    Calls Tryz.prog 147 #[.string s, .string p] w fun e w' => e = .returned (.bool (Lib.hasSuffix s.data.toList p.data.toList)) ∧ w' = w := Any.strings_HasSuffix Tryz.lays100 s p w hs
def Tryz.laysM157_ren : Go.Shelf.Ren := ⟨fun | 157 => 153 | 229 => 227 | 199 => 228 | 261 => 288 | 311 => 320 | 312 => 321 | n => n, fun | 9 => 9 | 31 => 91 | 3 => 3 | 5 => 5 | 4 => 4 | 119 => 279 | 0 => 0 | 40 => 281 | 152 => 313 | 21 => 21 | 154 => 315 | 51 => 263 | 141 => 317 | 196 => 337 | 193 => 334 | 198 => 340 | 49 => 338 | 194 => 335 | 201 => 343 | 226 => 359 | 46 => 209 | 227 => 360 | n => n, fun | 0 => 0 | 6 => 1 | n => n⟩
theorem Tryz.laysM157 : Go.Proofs.LaysM.n157 Tryz.prog Tryz.laysM157_ren := {
  mixed := by kernel_rfl
  f157 := Tryz.func153.trans (congrArg some (by kernel_rfl))
  f199 := Tryz.func228.trans (congrArg some (by kernel_rfl))
  f229 := Tryz.func227.trans (congrArg some (by kernel_rfl))
  f261 := Tryz.func288.trans (congrArg some (by kernel_rfl))
  f311 := Tryz.func320.trans (congrArg some (by kernel_rfl))
  f312 := Tryz.func321.trans (congrArg some (by kernel_rfl))
  t0 := Tryz.underlying0
  a0 := Tryz.isAgg0
  z0 := Tryz.sizeOf0
  v0 := Tryz.zeroValue0
  t3 := Tryz.underlying3
  a3 := Tryz.isAgg3
  z3 := Tryz.sizeOf3
  v3 := Tryz.zeroValue3
  t4 := Tryz.underlying4
  a4 := Tryz.isAgg4
  z4 := Tryz.sizeOf4
  v4 := Tryz.zeroValue4
  t5 := Tryz.underlying5
  a5 := Tryz.isAgg5
  z5 := Tryz.sizeOf5
  v5 := Tryz.zeroValue5
  t9 := Tryz.underlying9
  a9 := Tryz.isAgg9
  z9 := Tryz.sizeOf9
  v9 := Tryz.zeroValue9
  t21 := Tryz.underlying21
  a21 := Tryz.isAgg21
  z21 := Tryz.sizeOf21
  v21 := Tryz.zeroValue21
  t31 := Tryz.underlying91
  a31 := Tryz.isAgg91
  z31 := Tryz.sizeOf91
  v31 := Tryz.zeroValue91
  t40 := Tryz.underlying281
  a40 := Tryz.isAgg281
  z40 := Tryz.sizeOf281
  v40 := Tryz.zeroValue281
  t46 := Tryz.underlying209
  a46 := Tryz.isAgg209
  z46 := Tryz.sizeOf209
  v46 := Tryz.zeroValue209
  t49 := Tryz.underlying338
  a49 := Tryz.isAgg338
  z49 := Tryz.sizeOf338
  v49 := Tryz.zeroValue338
  t51 := Tryz.underlying263
  a51 := Tryz.isAgg263
  z51 := Tryz.sizeOf263
  v51 := Tryz.zeroValue263
  t119 := Tryz.underlying279
  a119 := Tryz.isAgg279
  z119 := Tryz.sizeOf279
  t141 := Tryz.underlying317
  a141 := Tryz.isAgg317
  z141 := Tryz.sizeOf317
  v141 := Tryz.zeroValue317
  t152 := Tryz.underlying313
  a152 := Tryz.isAgg313
  z152 := Tryz.sizeOf313
  v152 := Tryz.zeroValue313
  t154 := Tryz.underlying315
  a154 := Tryz.isAgg315
  z154 := Tryz.sizeOf315
  v154 := Tryz.zeroValue315
  t193 := Tryz.underlying334
  a193 := Tryz.isAgg334
  z193 := Tryz.sizeOf334
  v193 := Tryz.zeroValue334
  t194 := Tryz.underlying335
  a194 := Tryz.isAgg335
  z194 := Tryz.sizeOf335
  v194 := Tryz.zeroValue335
  t196 := Tryz.underlying337
  a196 := Tryz.isAgg337
  z196 := Tryz.sizeOf337
  v196 := Tryz.zeroValue337
  t198 := Tryz.underlying340
  a198 := Tryz.isAgg340
  z198 := Tryz.sizeOf340
  v198 := Tryz.zeroValue340
  t201 := Tryz.underlying343
  a201 := Tryz.isAgg343
  z201 := Tryz.sizeOf343
  v201 := Tryz.zeroValue343
  t226 := Tryz.underlying359
  a226 := Tryz.isAgg359
  z226 := Tryz.sizeOf359
  v226 := Tryz.zeroValue359
  t227 := Tryz.underlying360
  a227 := Tryz.isAgg360
  z227 := Tryz.sizeOf360
  v227 := Tryz.zeroValue360
  g0 := by kernel_rfl
  g6 := by kernel_rfl
  i0 := by kernel_rfl
  i3 := by kernel_rfl
  i4 := by kernel_rfl
  i5 := by kernel_rfl
  i9 := by kernel_rfl
  i21 := by kernel_rfl
  i31 := by kernel_rfl
  i40 := by kernel_rfl
  i46 := by kernel_rfl
  i49 := by kernel_rfl
  i51 := by kernel_rfl
  i141 := by kernel_rfl
  i152 := by kernel_rfl
  i154 := by kernel_rfl
  i193 := by kernel_rfl
  i194 := by kernel_rfl
  i196 := by kernel_rfl
  i198 := by kernel_rfl
  i201 := by kernel_rfl
  i226 := by kernel_rfl
  i227 := by kernel_rfl
  m0 := by kernel_rfl
  m6 := by kernel_rfl }
open Go.RowKit Go.Lib in
theorem Tryz.strings_Fields_laid (s : ByteArray) (w : World) (hs : s.size < 4294967281) (hascii : ∀ (j : Nat) b, s.data.toList[j]? = some b → b.toNat < 128) (htab : Lib.TabIs Tryz.prog w "strings.asciiSpace" .u8 Lib.asciiSpaceTab) :
    Calls Tryz.prog 153 #[.string s] w fun e w' =>
      e = .returned (.slice (some ⟨w.heap.size, 0, none⟩) (Lib.fields s.data.toList).length (Lib.fields s.data.toList).length) ∧ w' = w.alloc (.cells ((Lib.fields s.data.toList).map fun l => Value.string ⟨l.toArray⟩).toArray 9) := Any.strings_Fields_laid Tryz.laysM157 s w hs hascii htab
def Tryz.lays150_ren : Go.Shelf.Ren := ⟨fun | 150 => 259 | 153 => 309 | 152 => 318 | 226 => 332 | 227 => 222 | 228 => 285 | 137 => 157 | 119 => 336 | 224 => 316 | 225 => 315 | 217 => 232 | 266 => 294 | n => n, fun | 9 => 9 | 4 => 4 | 3 => 3 | 5 => 5 | 21 => 21 | 117 => 275 | 116 => 274 | 0 => 0 | 46 => 209 | 124 => 278 | n => n, fun | n => n⟩
theorem Tryz.lays150 : Go.Proofs.Lays.n150 Tryz.prog Tryz.lays150_ren := {
  mixed := by kernel_rfl
  f119 := Tryz.func336.trans (congrArg some (by kernel_rfl))
  f137 := Tryz.func157.trans (congrArg some (by kernel_rfl))
  f150 := Tryz.func259.trans (congrArg some (by kernel_rfl))
  f152 := Tryz.func318.trans (congrArg some (by kernel_rfl))
  f153 := Tryz.func309.trans (congrArg some (by kernel_rfl))
  f217 := Tryz.func232.trans (congrArg some (by kernel_rfl))
  f224 := Tryz.func316.trans (congrArg some (by kernel_rfl))
  f225 := Tryz.func315.trans (congrArg some (by kernel_rfl))
  f226 := Tryz.func332.trans (congrArg some (by kernel_rfl))
  f227 := Tryz.func222.trans (congrArg some (by kernel_rfl))
  f228 := Tryz.func285.trans (congrArg some (by kernel_rfl))
  f266 := Tryz.func294.trans (congrArg some (by kernel_rfl))
  t0 := Tryz.underlying0
  a0 := Tryz.isAgg0
  z0 := Tryz.sizeOf0
  v0 := Tryz.zeroValue0
  t3 := Tryz.underlying3
  a3 := Tryz.isAgg3
  z3 := Tryz.sizeOf3
  v3 := Tryz.zeroValue3
  t4 := Tryz.underlying4
  a4 := Tryz.isAgg4
  z4 := Tryz.sizeOf4
  v4 := Tryz.zeroValue4
  t5 := Tryz.underlying5
  a5 := Tryz.isAgg5
  z5 := Tryz.sizeOf5
  v5 := Tryz.zeroValue5
  t9 := Tryz.underlying9
  a9 := Tryz.isAgg9
  z9 := Tryz.sizeOf9
  v9 := Tryz.zeroValue9
  t21 := Tryz.underlying21
  a21 := Tryz.isAgg21
  z21 := Tryz.sizeOf21
  v21 := Tryz.zeroValue21
  t46 := Tryz.underlying209
  a46 := Tryz.isAgg209
  z46 := Tryz.sizeOf209
  v46 := Tryz.zeroValue209
  t116 := Tryz.underlying274
  a116 := Tryz.isAgg274
  z116 := Tryz.sizeOf274
  t117 := Tryz.underlying275
  a117 := Tryz.isAgg275
  z117 := Tryz.sizeOf275
  v117 := Tryz.zeroValue275
  t124 := Tryz.underlying278
  a124 := Tryz.isAgg278
  z124 := Tryz.sizeOf278
  v124 := Tryz.zeroValue278 }
open Go.RowKit Go.Lib in
theorem Tryz.strings_ContainsAny_laid (s chars : ByteArray) (w : World) (hs : s.size < 4294967281) (hcs : chars.size < 4294967281) (has : ∀ (j : Nat) b, s.data.toList[j]? = some b → b.toNat < 128) (hac : ∀ (j : Nat) b, chars.data.toList[j]? = some b → b.toNat < 128) :
    Calls Tryz.prog 259 #[.string s, .string chars] w fun e w' => e = .returned (.bool (Lib.containsAny s.data.toList chars.data.toList)) ∧ Below w.heap.size w w' := Any.strings_ContainsAny_laid Tryz.lays150 (by kernel_rfl) s chars w hs hcs has hac
def Tryz.lays105_ren : Go.Shelf.Ren := ⟨fun | 105 => 57 | 212 => 137 | 99 => 138 | 165 => 134 | 166 => 135 | 170 => 139 | 169 => 136 | 263 => 208 | 264 => 209 | 206 => 210 | 240 => 206 | 241 => 207 | 276 => 277 | 277 => 278 | n => n, fun | 9 => 9 | 3 => 3 | 4 => 4 | 20 => 20 | 0 => 0 | 46 => 209 | 109 => 210 | 5 => 5 | 72 => 203 | 76 => 207 | 51 => 263 | 146 => 264 | 53 => 266 | 148 => 267 | 70 => 200 | 37 => 201 | 75 => 206 | 127 => 262 | 164 => 306 | 80 => 26 | n => n, fun | n => n⟩
theorem Tryz.lays105 : Go.Proofs.Lays.n105 Tryz.prog Tryz.lays105_ren := {
  mixed := by kernel_rfl
  f99 := Tryz.func138.trans (congrArg some (by kernel_rfl))
  f105 := Tryz.func57.trans (congrArg some (by kernel_rfl))
  f165 := Tryz.func134.trans (congrArg some (by kernel_rfl))
  f166 := Tryz.func135.trans (congrArg some (by kernel_rfl))
  f169 := Tryz.func136.trans (congrArg some (by kernel_rfl))
  f170 := Tryz.func139.trans (congrArg some (by kernel_rfl))
  f206 := Tryz.func210.trans (congrArg some (by kernel_rfl))
  f212 := Tryz.func137.trans (congrArg some (by kernel_rfl))
  f240 := Tryz.func206.trans (congrArg some (by kernel_rfl))
  f241 := Tryz.func207.trans (congrArg some (by kernel_rfl))
  f263 := Tryz.func208.trans (congrArg some (by kernel_rfl))
  f264 := Tryz.func209.trans (congrArg some (by kernel_rfl))
  f276 := Tryz.func277.trans (congrArg some (by kernel_rfl))
  f277 := Tryz.func278.trans (congrArg some (by kernel_rfl))
  t0 := Tryz.underlying0
  a0 := Tryz.isAgg0
  z0 := Tryz.sizeOf0
  v0 := Tryz.zeroValue0
  t3 := Tryz.underlying3
  a3 := Tryz.isAgg3
  z3 := Tryz.sizeOf3
  v3 := Tryz.zeroValue3
  t4 := Tryz.underlying4
  a4 := Tryz.isAgg4
  z4 := Tryz.sizeOf4
  v4 := Tryz.zeroValue4
  t5 := Tryz.underlying5
  a5 := Tryz.isAgg5
  z5 := Tryz.sizeOf5
  v5 := Tryz.zeroValue5
  t9 := Tryz.underlying9
  a9 := Tryz.isAgg9
  z9 := Tryz.sizeOf9
  v9 := Tryz.zeroValue9
  t20 := Tryz.underlying20
  a20 := Tryz.isAgg20
  z20 := Tryz.sizeOf20
  v20 := Tryz.zeroValue20
  t37 := Tryz.underlying201
  a37 := Tryz.isAgg201
  z37 := Tryz.sizeOf201
  v37 := Tryz.zeroValue201
  t46 := Tryz.underlying209
  a46 := Tryz.isAgg209
  z46 := Tryz.sizeOf209
  v46 := Tryz.zeroValue209
  t51 := Tryz.underlying263
  a51 := Tryz.isAgg263
  z51 := Tryz.sizeOf263
  v51 := Tryz.zeroValue263
  t53 := Tryz.underlying266
  a53 := Tryz.isAgg266
  z53 := Tryz.sizeOf266
  v53 := Tryz.zeroValue266
  t70 := Tryz.underlying200
  a70 := Tryz.isAgg200
  z70 := Tryz.sizeOf200
  v70 := Tryz.zeroValue200
  t72 := Tryz.underlying203
  a72 := Tryz.isAgg203
  z72 := Tryz.sizeOf203
  v72 := Tryz.zeroValue203
  t75 := Tryz.underlying206
  a75 := Tryz.isAgg206
  z75 := Tryz.sizeOf206
  v75 := Tryz.zeroValue206
  t76 := Tryz.underlying207
  a76 := Tryz.isAgg207
  z76 := Tryz.sizeOf207
  v76 := Tryz.zeroValue207
  t109 := Tryz.underlying210
  a109 := Tryz.isAgg210
  z109 := Tryz.sizeOf210
  v109 := Tryz.zeroValue210
  t127 := Tryz.underlying262
  a127 := Tryz.isAgg262
  z127 := Tryz.sizeOf262
  v127 := Tryz.zeroValue262
  t146 := Tryz.underlying264
  a146 := Tryz.isAgg264
  z146 := Tryz.sizeOf264
  v146 := Tryz.zeroValue264
  t148 := Tryz.underlying267
  a148 := Tryz.isAgg267
  z148 := Tryz.sizeOf267
  v148 := Tryz.zeroValue267
  t164 := Tryz.underlying306
  a164 := Tryz.isAgg306
  z164 := Tryz.sizeOf306
  v164 := Tryz.zeroValue306 }
theorem Tryz.Builder_Extra_105 : Builder.Extra Tryz.prog Tryz.lays105_ren := {
  sizeBuilder := by kernel_rfl
  liesBuilder := by kernel_rfl
  t5 := Tryz.underlying5
  a5 := Tryz.isAgg5
  z5 := Tryz.sizeOf5
  v5 := Tryz.zeroValue5
  infoByte := by kernel_rfl
  cellsByte := by kernel_rfl
  sizeByte := by kernel_rfl
  neB5 := by decide }
open Go.RowKit Go.Lib in
theorem Tryz.strings_Repeat (s : ByteArray) (c : Nat) (w : World) (hc : c ≤ 9223372036854775807) (hlen : s.size * c ≤ 140737488355328) :
    Calls Tryz.prog 57 #[.string s, .int .i64 c] w fun e w' => e = .returned (.string ⟨(Lib.repeatL s.data.toList c).toArray⟩) ∧ Below w.heap.size w w' := Any.strings_Repeat Tryz.lays105 Tryz.Builder_Extra_105 s c w hc hlen
end Go.Proofs

/- strconv.Atoi at every string: one contract with its three ends. -/
namespace Go.Proofs.YtmefjkfjpgblcaaGreatDoor
set_option linter.unusedVariables false
open Go.RowKit

/-- The library's two errors lie where they were laid. -/
def ErrsLaid (w : World) : Prop := (∃ t p, w.cell? ⟨3, 0, none⟩ = some (.iface t p)) ∧ (∃ t p, w.cell? ⟨4, 0, none⟩ = some (.iface t p)) ∧ 3 < w.heap.size ∧ 4 < w.heap.size
theorem ErrsLaid.keep {w w' : World} (h : ErrsLaid w) (hs : w.heap.size ≤ w'.heap.size) (h1 : w'.cell? ⟨3, 0, none⟩ = w.cell? ⟨3, 0, none⟩) (h2 : w'.cell? ⟨4, 0, none⟩ = w.cell? ⟨4, 0, none⟩) : ErrsLaid w' :=
  ⟨by rw [h1]; exact h.1, by rw [h2]; exact h.2.1, by have := h.2.2.1; omega, by have := h.2.2.2; omega⟩
theorem ErrsLaid.below {w w' : World} {B : Nat} (h : ErrsLaid w) (hb : Below B w w') (hB : w.heap.size ≤ B) : ErrsLaid w' :=
  h.keep hb.size (hb.cell (Nat.lt_of_lt_of_le h.2.2.1 hB)) (hb.cell (Nat.lt_of_lt_of_le h.2.2.2 hB))

/-- How Atoi ends: the number and the error. -/
def AtoiP (s : ByteArray) (n : Int) (ev : Value) : Prop :=
  (Lib.atoiAll s.data.toList = .ok n ∧ ev = .nilIface) ∨ ((∀ v, Lib.atoiAll s.data.toList ≠ .ok v) ∧ ∃ t N, ev = .iface t (.pointer (some ⟨N, 0, none⟩)))
def AtoiR (s : ByteArray) (w : World) (e : Ending) (w' : World) : Prop := ∃ n ev, AtoiP s n ev ∧ e = .returned (.tuple #[.int .i64 n, ev]) ∧ Below w.heap.size w w'
theorem atoi_c (s : ByteArray) (w : World) (hs : s.size ≤ 140737488355328) (hl : ErrsLaid w) : Calls Tryz.prog 154 #[.string s] w (AtoiR s w) := by
  obtain ⟨⟨t1, p1, h1⟩, ⟨t2, p2, h2⟩, _, _⟩ := hl
  cases h : Lib.atoiAll s.data.toList
  case ok v =>
    refine (Any.strconv_Atoi_ok Tryz.laysC172 s (by omega) v h w).mono ?_
    rintro e w' ⟨he, hw⟩
    refine ⟨v, _, .inl ⟨h, rfl⟩, he, ?_⟩
    rcases hw with rfl | ⟨t, rfl⟩
    · exact Below.refl _ _
    · exact Joins.below_bytesWorld _ _ _ _ (Nat.le_refl _)
  · refine (Any.strconv_Atoi_syntax Tryz.laysC172 s (by omega) h _ w h1 (.inr ⟨_, _, rfl⟩)).mono ?_
    rintro e w' ⟨N, he, _, _, hb⟩
    exact ⟨_, _, .inr ⟨(fun v hv => by rw [h] at hv; cases hv), _, _, rfl⟩, he, hb⟩
  · refine (Any.strconv_Atoi_range Tryz.laysC172 s (by omega) h _ w h2 (.inr ⟨_, _, rfl⟩)).mono ?_
    rintro e w' ⟨N, he, _, _, hb⟩
    exact ⟨_, _, .inr ⟨(fun v hv => by rw [h] at hv; cases hv), _, _, rfl⟩, he, hb⟩
end Go.Proofs.YtmefjkfjpgblcaaGreatDoor

/- strings.Builder written, and strings.Join: the library's contracts at this program. -/
namespace Go.Proofs.YtmefjkfjpgblcaaGreatDoor
set_option linter.unusedVariables false
open Go.RowKit

/-- strings.Join of words in memory. -/
theorem join_c (l : List ByteArray) (sep : ByteArray) (v : Value) (F : Nat → Prop) (w : World) (hv : Sli strR w F l v) (hF : ∀ b, F b → b < w.heap.size) (hlen : (Lib.join (l.map (·.data.toList)) sep.data.toList).length ≤ 140737488355328) (hN : l.length ≤ 140737488355328) :
    Calls Tryz.prog 56 #[v, .string sep] w fun e w' => e = .returned (.string ⟨(Lib.join (l.map (·.data.toList)) sep.data.toList).toArray⟩) ∧ Below w.heap.size w w' := by
  obtain ⟨A, c, rfl, h1, h2, h3⟩ := hv
  by_cases h0 : 0 < l.length
  · obtain ⟨b, off, cs, rfl, hb, hl, hc⟩ := h3 h0
    refine Any.strings_Join Tryz.lays156 Tryz.Builder_Extra_156 b off c l sep w (fun j x hx => ?_) (hF b hb) hN h1 hlen
    have h4 : (cs.drop (j * 1)).take 1 = [.string x] := hl.2 j x hx
    refine hc j _ ?_
    have h5 : ((cs.drop (j * 1)).take 1)[0]? = some (.string x) := by rw [h4]; rfl
    rw [List.getElem?_take, if_pos (by decide), List.getElem?_drop] at h5
    simpa using h5
  · have : l = [] := List.length_eq_zero_iff.1 (by omega)
    subst this
    exact (Any.strings_Join_none Tryz.lays156 Tryz.Builder_Extra_156 A c sep w).mono fun e w' ⟨he, hw⟩ => ⟨he, hw ▸ Below.refl _ _⟩
end Go.Proofs.YtmefjkfjpgblcaaGreatDoor

/- What a law's walk ends with. No law in sight. -/
namespace Go.Proofs.YtmefjkfjpgblcaaGreatDoor
set_option linter.unusedVariables false
open Go.RowKit

theorem strNew (w : World) (A : Option Addr) (l : List Int) (c : Nat) (hr : Rs w 0 w.heap.size 1 intc A l) (hl : l.length ≤ 17592186044416) (ho : ∀ x ∈ l, okI x) :
    Str (w.alloc (.cells #[.slice A l.length c, .int .i64 0] 25)) w.heap.size 0 :=
  ⟨A, c, l, heap_alloc_new w _, Int.le_refl _, hr.alloc (Nat.le_refl _) _, hl, ho⟩
theorem gEnd {w w1 : World} {o : Obj} (h : (w.alloc o).grownBy w1 (some w.heap.size)) : Below w.heap.size w w1 :=
  ⟨h.os, h.tape, h.output, by have := h.size; simp at this; omega, fun i hi => (h.block i (by simp; omega) (by simp; omega)).trans (Below.heap_alloc w _ i hi)⟩
end Go.Proofs.YtmefjkfjpgblcaaGreatDoor

/- The reference's small words on strings. -/
namespace Go.Proofs.YtmefjkfjpgblcaaGreatDoor
set_option linter.unusedVariables false
open Go.RowKit

theorem trim_c (s cs : ByteArray) (w : World) (hs : s.size ≤ 140737488355328) (hcs : cs.size ≤ 1000) (ha : (cs.data.toList.all fun b => decide (b.toNat < 128)) = true) :
    Calls Tryz.prog 150 #[.string s, .string cs] w fun e w' => e = .returned (.string ⟨(Lib.trimS s.data.toList cs.data.toList).toArray⟩) ∧ Below w.heap.size w w' :=
  Any.strings_Trim_laid Tryz.lays160 (by kernel_rfl) s cs w (by omega) (by omega) (ascii_of_all ha)

theorem dropWhile_nil {p : UInt8 → Bool} {l : List UInt8} : l.dropWhile p = [] ↔ ∀ x ∈ l, p x = true := by
  induction l with
  | nil => simp
  | cons y l ih =>
    cases h : p y with
    | true => simp [h, ih]
    | false => simp [h]

theorem trimS_nil (l cs : List UInt8) : Lib.trimS l cs = [] ↔ l.all (cs.contains ·) = true := by
  unfold Lib.trimS Lib.trimLeftS Lib.trimRightS
  constructor
  · intro h
    have h1 : ∀ x ∈ (l.reverse.dropWhile (cs.contains ·)), cs.contains x = true := by
      have := dropWhile_nil.1 h
      simpa using this
    cases hd : l.reverse.dropWhile (cs.contains ·) with
    | nil =>
      have := dropWhile_nil.1 hd
      rw [List.all_eq_true]
      intro x hx
      exact this x (by simpa using hx)
    | cons y t =>
      have h2 := h1 y (by rw [hd]; simp)
      have h3 := List.head_dropWhile_not (p := (cs.contains ·)) (l := l.reverse) (by rw [hd]; simp)
      simp only [hd, List.head_cons] at h3
      rw [h3] at h2; cases h2
  · intro h
    rw [List.all_eq_true] at h
    have : l.reverse.dropWhile (cs.contains ·) = [] := dropWhile_nil.2 (fun x hx => h x (by simpa using hx))
    rw [this]; rfl

theorem toList_mk (l : List UInt8) : (⟨l.toArray⟩ : ByteArray).toList = l := by rw [ByteArray.toList_eq]

set_option maxHeartbeats 400000 in
theorem made_c (s cs : ByteArray) (w : World) (hs : s.size ≤ 140737488355328) (hcs : cs.size ≤ 1000) (ha : (cs.data.toList.all fun b => decide (b.toNat < 128)) = true) :
    Calls Tryz.prog 73 #[.string s, .string cs] w fun e w' => e = .returned (.bool (allB (cs.data.toList.contains ·) s)) ∧ Below w.heap.size w w' := by
  cases h : allB (cs.data.toList.contains ·) s with
  | true =>
    have h2 : (⟨(Lib.trimS s.data.toList cs.data.toList).toArray⟩ : ByteArray) = ⟨#[]⟩ := by rw [(trimS_nil _ _).2 h]
    have H := Lib.hid h2
    clear h2 h
    go_enter Tryz.func73, Tryz.ntmps73
    go_wp2_with fail
    refine (trim_c s cs _ hs hcs ha).mono ?_
    rintro e w' ⟨rfl, hb⟩
    rw [H.out]
    go_wp2
    go_ret
    exact ⟨rfl, hb⟩
  | false =>
    have h2 : (⟨(Lib.trimS s.data.toList cs.data.toList).toArray⟩ : ByteArray).toList.isEmpty = false := by
      rw [toList_mk]
      cases he : Lib.trimS s.data.toList cs.data.toList with
      | nil => rw [(trimS_nil _ _).1 he |> (show _ → allB (cs.data.toList.contains ·) s = true from id)] at h; cases h
      | cons y t => rfl
    have H := Lib.hid h2
    clear h2 h
    go_enter Tryz.func73, Tryz.ntmps73
    go_wp2_with fail
    refine (trim_c s cs _ hs hcs ha).mono ?_
    rintro e w' ⟨rfl, hb⟩
    generalize (⟨(Lib.trimS s.data.toList cs.data.toList).toArray⟩ : ByteArray) = t at H ⊢
    have h2 := H.out
    go_wp2
    go_ret
    exact ⟨rfl, hb⟩

set_option maxHeartbeats 400000 in
theorem long_c (s : ByteArray) (lo hi : Int) (w : World) (hs : s.size ≤ 140737488355328) :
    Calls Tryz.prog 71 #[.string s, .int .i64 lo, .int .i64 hi] w fun e w' => e = .returned (.bool (decide (lo ≤ s.size) && decide ((s.size : Int) ≤ hi))) ∧ w = w' := by
  by_cases h1 : lo ≤ (s.size : Int)
  all_goals
    go_enter Tryz.func71, Tryz.ntmps71
    go_wp2
    go_ret
    exact ⟨ret_bool (by first | (simp [h1]; done) | (simp; omega)), rfl⟩
end Go.Proofs.YtmefjkfjpgblcaaGreatDoor

/- The shelf contracts that these proofs use, laid at this translation. -/
namespace Go.Proofs
open Go.Shelf

end Go.Proofs

/- Small laws on strings and bytes. No program in sight. -/
namespace Go.Proofs.YtmefjkfjpgblcaaGreatDoor
set_option linter.unusedVariables false
open Go.RowKit

/-- 'string([]byte{..})' of a literal that has just been laid. -/
theorem run_bytes_lit {P : Program} (w : World) (src dst e : TypeId) (hs : P.underlying src = some (.slice e)) (he : P.underlying e = some (.int .u8)) (hd : P.underlying dst = some .string) (ns : List Int) (n c : Nat) (hn : n = ns.length) (cs : Array Value) (hcs : cs = (ns.map (Value.int .u8)).toArray) (T : TypeId) :
    (convert src dst (.slice (some ⟨w.heap.size, 0, none⟩) n c)).run P (w.alloc (.cells cs T)) = .ok (.string ⟨(ns.map fun x => UInt8.ofNat x.toNat).toArray⟩) (w.alloc (.cells cs T)) := by
  subst hn; subst hcs
  rw [run_convert_bytes_string _ src dst e _ _ _ hs he hd]
  have hl := run_loadCells_list (P := P) (w.alloc (.cells (ns.map (Value.int .u8)).toArray T)) ⟨w.heap.size, 0, none⟩ (ns.map (Value.int .u8)) (fun j v hj => by
    have : (⟨w.heap.size, 0, none⟩ : Addr).add j = ⟨w.heap.size, j, none⟩ := by unfold Addr.add; split <;> simp [*]
    rw [this]
    rw [World.cell?_alloc_mark]
    simpa using hj)
  simp only [List.length_map] at hl
  rw [run_bytesToString _ _ _ c ns hl]
  have hf : ∀ (l : List Int) (s : ByteArray), l.foldl (fun r x => r.push (UInt8.ofNat x.toNat)) s = ⟨s.data ++ (l.map fun x => UInt8.ofNat x.toNat).toArray⟩ := by
    intro l
    induction l with
    | nil => intro s; simp
    | cons x l ih => intro s; simp only [List.foldl_cons]; rw [ih]; simp [ByteArray.push]
  rw [hf]
  have he0 : ByteArray.empty.data = #[] := rfl
  rw [he0]
  simp

theorem below_of_regrown {w w' : World} (h : ∃ p : Regrown, w' = Sort.grow (redrawn w p.d) p.os) : Below w.heap.size w w' := by
  obtain ⟨p, rfl⟩ := h
  exact below_regrown w p.d p.os
end Go.Proofs.YtmefjkfjpgblcaaGreatDoor

/- The program's codes. -/
namespace Go.Proofs.YtmefjkfjpgblcaaGreatDoor
set_option linter.unusedVariables false
open Go.RowKit Go.Sort

set_option maxHeartbeats 400000 in
theorem two_any (n : Int) (w : World) : Calls Tryz.prog 239 #[.int .i64 n] w fun e w' => e = .returned (.string (twoS n)) ∧ Below w.heap.size w w' := by
  have hcv := fun (a b : Int) => run_bytes_lit (P := Tryz.prog) w 201 9 5 Tryz.underlying201 Tryz.underlying5 Tryz.underlying9 [a, b] 2 2 rfl _ rfl 5
  simp only [List.map_cons, List.map_nil] at hcv
  go_enter Tryz.func239, Tryz.ntmps239
  go_wp2
  go_ret
  exact ⟨rfl, (Below.refl _ _).alloc (Nat.le_refl _) _⟩

theorem code_eqs {s : Int} (h0 : 0 ≤ s) (h1 : s < 1000000000) : IntKind.i64.wrap (s.tdiv 3600) = s / 3600 ∧ IntKind.i64.wrap (s.tdiv 60) = s / 60 ∧ (s / 60).tmod 60 = s / 60 % 60 ∧ s.tmod 60 = s % 60 := by
  refine ⟨?_, ?_, Int.tmod_eq_emod_of_nonneg (by omega), Int.tmod_eq_emod_of_nonneg h0⟩
  · rw [Int.tdiv_eq_ediv_of_nonneg h0]; exact IntWalk.i64_in _ (by omega)
  · rw [Int.tdiv_eq_ediv_of_nonneg h0]; exact IntWalk.i64_in _ (by omega)

set_option maxHeartbeats 1000000 in
theorem code_c (r x : Int) (w : World) (hr : isRateB r = true) (h0 : 0 ≤ x) (h1 : x < framesN r) : Calls Tryz.prog 166 #[.int .i64 r, .int .i64 x] w fun e w' => e = .returned (.string (codeS r x)) ∧ Below w.heap.size w w' := by
  rcases rate_cases hr with rfl | rfl | rfl | rfl
  ·
    have e1 : countedN 1 = 24 := rfl
    have h2 : x < 2073600 := h1
    have HE := Lib.hid (show codeS 1 x = fmtS 1 (x / 24) (x % 24) from rfl)
    clear h1 hr
    go_enter Tryz.func166, Tryz.ntmps166
    go_wp2_with fail
    refine (counted_c _ _ rfl).mono ?_
    rintro e w' ⟨rfl, rfl⟩
    go_wp2
    obtain ⟨q1, q2, q3, q4⟩ := code_eqs (s := x / 24) (by omega) (by omega)
    have q5 : x.tmod 24 = x % 24 := Int.tmod_eq_emod_of_nonneg h0
    generalize x / 24 = s at *
    generalize x % 24 = n at *
    clear h0 h2
    have hz : ∀ n, (twoS n).size = 2 := fun _ => rfl
    refine wp_region_quiet_below (by kernel_rfl) (by kernel_rfl) ?_
    repeat (first | go_big_quiet_step ((go_at_call 239; exact Calls.regrown_of (two_any _ _))) | quiet_step ((go_at_call 239; exact Calls.regrown_of (two_any _ _))))
    refine wpQuiet_nil ?_
    intro wq hwq
    have hbq := below_of_regrown hwq
    clear hwq
    go_wp2
    go_ret
    exact ⟨by rw [HE.out]; rfl, hbq⟩
  ·
    have e1 : countedN 2 = 25 := rfl
    have h2 : x < 2160000 := h1
    have HE := Lib.hid (show codeS 2 x = fmtS 2 (x / 25) (x % 25) from rfl)
    clear h1 hr
    go_enter Tryz.func166, Tryz.ntmps166
    go_wp2_with fail
    refine (counted_c _ _ rfl).mono ?_
    rintro e w' ⟨rfl, rfl⟩
    go_wp2
    obtain ⟨q1, q2, q3, q4⟩ := code_eqs (s := x / 25) (by omega) (by omega)
    have q5 : x.tmod 25 = x % 25 := Int.tmod_eq_emod_of_nonneg h0
    generalize x / 25 = s at *
    generalize x % 25 = n at *
    clear h0 h2
    have hz : ∀ n, (twoS n).size = 2 := fun _ => rfl
    refine wp_region_quiet_below (by kernel_rfl) (by kernel_rfl) ?_
    repeat (first | go_big_quiet_step ((go_at_call 239; exact Calls.regrown_of (two_any _ _))) | quiet_step ((go_at_call 239; exact Calls.regrown_of (two_any _ _))))
    refine wpQuiet_nil ?_
    intro wq hwq
    have hbq := below_of_regrown hwq
    clear hwq
    go_wp2
    go_ret
    exact ⟨by rw [HE.out]; rfl, hbq⟩
  ·
    have e1 : countedN 3 = 30 := rfl
    have h2 : x < 2592000 := h1
    have HE := Lib.hid (show codeS 3 x = fmtS 3 (x / 30) (x % 30) from rfl)
    clear h1 hr
    go_enter Tryz.func166, Tryz.ntmps166
    go_wp2_with fail
    refine (counted_c _ _ rfl).mono ?_
    rintro e w' ⟨rfl, rfl⟩
    go_wp2
    obtain ⟨q1, q2, q3, q4⟩ := code_eqs (s := x / 30) (by omega) (by omega)
    have q5 : x.tmod 30 = x % 30 := Int.tmod_eq_emod_of_nonneg h0
    generalize x / 30 = s at *
    generalize x % 30 = n at *
    clear h0 h2
    have hz : ∀ n, (twoS n).size = 2 := fun _ => rfl
    refine wp_region_quiet_below (by kernel_rfl) (by kernel_rfl) ?_
    repeat (first | go_big_quiet_step ((go_at_call 239; exact Calls.regrown_of (two_any _ _))) | quiet_step ((go_at_call 239; exact Calls.regrown_of (two_any _ _))))
    refine wpQuiet_nil ?_
    intro wq hwq
    have hbq := below_of_regrown hwq
    clear hwq
    go_wp2
    go_ret
    exact ⟨by rw [HE.out]; rfl, hbq⟩
  ·
    have e1 : countedN 4 = 30 := rfl
    have h2 : x < 2589408 := h1
    clear h1 hr
    by_cases hc : 1800 ≤ x % 17982
    ·
      have HE := Lib.hid (show codeS 4 x = fmtS 4 ((x + 18 * (x / 17982) + (2 + 2 * ((x % 17982 - 1800) / 1798))) / 30) ((x + 18 * (x / 17982) + (2 + 2 * ((x % 17982 - 1800) / 1798))) % 30) by unfold codeS; rw [show adjN 4 x = x + 18 * (x / 17982) + (2 + 2 * ((x % 17982 - 1800) / 1798)) by unfold adjN; rw [if_pos rfl]; rw [if_pos hc]]; rfl)
      have HY := Lib.hid (show 0 ≤ x + 18 * (x / 17982) + (2 + 2 * ((x % 17982 - 1800) / 1798)) ∧ x + 18 * (x / 17982) + (2 + 2 * ((x % 17982 - 1800) / 1798)) ≤ 2700000 by omega)
      go_enter Tryz.func166, Tryz.ntmps166
      go_wp2_with fail
      refine (counted_c _ _ rfl).mono ?_
      rintro e w' ⟨rfl, rfl⟩
      go_wp2
      have hy := HY.out
      clear HY
      generalize x + 18 * (x / 17982) + (2 + 2 * ((x % 17982 - 1800) / 1798)) = y at *
      obtain ⟨q1, q2, q3, q4⟩ := code_eqs (s := y / 30) (by omega) (by omega)
      have q5 : y.tmod 30 = y % 30 := Int.tmod_eq_emod_of_nonneg hy.1
      generalize y / 30 = s at *
      generalize y % 30 = n at *
      clear h0 h2 hy hc
      have hz : ∀ n, (twoS n).size = 2 := fun _ => rfl
      refine wp_region_quiet_below (by kernel_rfl) (by kernel_rfl) ?_
      repeat (first | go_big_quiet_step ((go_at_call 239; exact Calls.regrown_of (two_any _ _))) | quiet_step ((go_at_call 239; exact Calls.regrown_of (two_any _ _))))
      refine wpQuiet_nil ?_
      intro wq hwq
      have hbq := below_of_regrown hwq
      clear hwq
      go_wp2
      go_ret
      exact ⟨by rw [HE.out]; rfl, hbq⟩
    ·
      have HE := Lib.hid (show codeS 4 x = fmtS 4 ((x + 18 * (x / 17982)) / 30) ((x + 18 * (x / 17982)) % 30) by unfold codeS; rw [show adjN 4 x = x + 18 * (x / 17982) by unfold adjN; rw [if_pos rfl]; rw [if_neg hc]; omega]; rfl)
      have HY := Lib.hid (show 0 ≤ x + 18 * (x / 17982) ∧ x + 18 * (x / 17982) ≤ 2700000 by omega)
      go_enter Tryz.func166, Tryz.ntmps166
      go_wp2_with fail
      refine (counted_c _ _ rfl).mono ?_
      rintro e w' ⟨rfl, rfl⟩
      go_wp2
      have hy := HY.out
      clear HY
      generalize x + 18 * (x / 17982) = y at *
      obtain ⟨q1, q2, q3, q4⟩ := code_eqs (s := y / 30) (by omega) (by omega)
      have q5 : y.tmod 30 = y % 30 := Int.tmod_eq_emod_of_nonneg hy.1
      generalize y / 30 = s at *
      generalize y % 30 = n at *
      clear h0 h2 hy hc
      have hz : ∀ n, (twoS n).size = 2 := fun _ => rfl
      refine wp_region_quiet_below (by kernel_rfl) (by kernel_rfl) ?_
      repeat (first | go_big_quiet_step ((go_at_call 239; exact Calls.regrown_of (two_any _ _))) | quiet_step ((go_at_call 239; exact Calls.regrown_of (two_any _ _))))
      refine wpQuiet_nil ?_
      intro wq hwq
      have hbq := below_of_regrown hwq
      clear hwq
      go_wp2
      go_ret
      exact ⟨by rw [HE.out]; rfl, hbq⟩

def codeE (r x : Int) : Int := if isRateB r = false then 4 else if x < 0 ∨ framesN r ≤ x then 1 else 0
def codeA (r x : Int) : ByteArray := if codeE r x = 0 then codeS r x else ⟨#[]⟩
set_option maxHeartbeats 400000 in
theorem Code_c (r x : Int) (w : World) : Calls Tryz.prog 81 #[.int .i64 r, .int .i64 x] w fun e w' => e = .returned (.tuple #[.string (codeA r x), .int .i64 (codeE r x)]) ∧ Below w.heap.size w w' := by
  cases hr : isRateB r with
  | false =>
    have E1 := Lib.hid (show codeE r x = 4 from if_pos hr)
    have E2 := Lib.hid (show codeA r x = ⟨#[]⟩ by unfold codeA; rw [E1.out]; rfl)
    go_enter Tryz.func81, Tryz.ntmps81
    go_wp2_with fail
    refine (isRate_c _ _).mono ?_
    rintro e w' ⟨rfl, rfl⟩
    go_wp2
    go_ret2
    exact ⟨by rw [E1.out, E2.out]; rfl, Below.refl _ _⟩
  | true =>
    have HR := Lib.hid hr
    by_cases h0 : x < 0
    · have E1 := Lib.hid (show codeE r x = 1 by unfold codeE; rw [if_neg (by rw [hr]; simp), if_pos (.inl h0)])
      have E2 := Lib.hid (show codeA r x = ⟨#[]⟩ by unfold codeA; rw [E1.out]; rfl)
      go_enter Tryz.func81, Tryz.ntmps81
      go_wp2_with fail
      refine (isRate_c _ _).mono ?_
      rintro e w' ⟨rfl, rfl⟩
      go_wp2
      go_ret2
      exact ⟨by rw [E1.out, E2.out]; rfl, Below.refl _ _⟩
    · by_cases h1 : framesN r ≤ x
      · have E1 := Lib.hid (show codeE r x = 1 by unfold codeE; rw [if_neg (by rw [hr]; simp), if_pos (.inr h1)])
        have E2 := Lib.hid (show codeA r x = ⟨#[]⟩ by unfold codeA; rw [E1.out]; rfl)
        go_enter Tryz.func81, Tryz.ntmps81
        go_wp2_with fail
        refine (isRate_c _ _).mono ?_
        rintro e w' ⟨rfl, rfl⟩
        go_wp2_with fail
        refine (frames_c _ _ HR.out).mono ?_
        rintro e w' ⟨rfl, rfl⟩
        go_wp2
        go_ret2
        exact ⟨by rw [E1.out, E2.out]; rfl, Below.refl _ _⟩
      · have E1 := Lib.hid (show codeE r x = 0 by unfold codeE; rw [if_neg (by rw [hr]; simp), if_neg (by omega)])
        have E2 := Lib.hid (show codeA r x = codeS r x by unfold codeA; rw [E1.out]; rfl)
        go_enter Tryz.func81, Tryz.ntmps81
        go_wp2_with fail
        refine (isRate_c _ _).mono ?_
        rintro e w' ⟨rfl, rfl⟩
        go_wp2_with fail
        refine (frames_c _ _ HR.out).mono ?_
        rintro e w' ⟨rfl, rfl⟩
        go_wp2_with fail
        refine (code_c _ _ _ HR.out (by omega) (by omega)).mono ?_
        rintro e w' ⟨rfl, hb⟩
        go_wp2
        go_ret2
        exact ⟨by rw [E1.out, E2.out]; rfl, hb⟩
end Go.Proofs.YtmefjkfjpgblcaaGreatDoor

/- A text cut at a byte, in plain words. No program in sight. -/
namespace Go.Proofs.YtmefjkfjpgblcaaGreatDoor
set_option linter.unusedVariables false
open Go.RowKit

/-- Where a byte stands first; the length where it does not stand. -/
def cutI (s : ByteArray) (c : UInt8) : Nat := s.data.toList.findIdx (· == c)
def cutF (s : ByteArray) (c : UInt8) : Bool := decide (cutI s c < s.size)
def cutA (s : ByteArray) (c : UInt8) : ByteArray := s.extract 0 (cutI s c)
def cutB (s : ByteArray) (c : UInt8) : ByteArray := s.extract (cutI s c + 1) s.size
theorem ba_ext {a b : ByteArray} (h : a.data.toList = b.data.toList) : a = b := by
  rcases a with ⟨⟨a⟩⟩; rcases b with ⟨⟨b⟩⟩; simp at h; rw [h]
end Go.Proofs.YtmefjkfjpgblcaaGreatDoor

/- strings.Cut at one byte, for every string. -/
namespace Go.Proofs.YtmefjkfjpgblcaaGreatDoor
set_option linter.unusedVariables false
open Go.RowKit

end Go.Proofs.YtmefjkfjpgblcaaGreatDoor

/- Numerals read by the program and by the reference. -/
namespace Go.Proofs.YtmefjkfjpgblcaaGreatDoor
set_option linter.unusedVariables false
open Go.RowKit Go.Sort

/-- The table of powers of ten lies where it was laid. -/
def PowLaid (w : World) : Prop := Lib.TabIs Tryz.prog w "internal/strconv.uint64pow10" .u64 Lib.pow10Tab
theorem pow_below {w w' : World} {B : Nat} (h : PowLaid w) (hb : Below B w w') (hB : w.heap.size ≤ B) : PowLaid w' :=
  Joins.tab_stays (g := 5) (by kernel_rfl) h hb hB
theorem below_grow {w w' : World} {k : Nat} {os : Array Obj} (h : w' = grow (w.drewN k) os) : Below w.heap.size w w' := by
  subst h
  exact below_regrown w (w.drawn + k) os
theorem itoa_c (n : Int) (w : World) (hn : okI n) (hp : PowLaid w) : Calls Tryz.prog 110 #[.int .i64 n] w fun e w' => e = .returned (.string ⟨(Lib.itoa n).toArray⟩) ∧ Below w.heap.size w w' :=
  (Any.strconv_Itoa Tryz.laysM171 n hn.1 hn.2 w hp).mono fun _ _ ⟨he, k, os, hw⟩ => ⟨he, below_grow hw⟩

end Go.Proofs.YtmefjkfjpgblcaaGreatDoor

/- The generator's changed texts and frames. -/
namespace Go.Proofs.YtmefjkfjpgblcaaGreatDoor
set_option linter.unusedVariables false
open Go.RowKit Go.Sort

end Go.Proofs.YtmefjkfjpgblcaaGreatDoor

/- The generator's numbers of scenes and setups. -/
namespace Go.Proofs.YtmefjkfjpgblcaaGreatDoor
set_option linter.unusedVariables false
open Go.RowKit Go.Sort

theorem oneOf {l : List ByteArray} {x : ByteArray} {n : Nat} (h : (l.all fun x => decide (x.size ≤ n)) = true) (hx : x ∈ l) : x.size ≤ n := by
  rw [List.all_eq_true] at h; simpa using h x hx
set_option maxHeartbeats 800000 in
theorem No_c (sb : Nat) (k : Int) (w : World) (hs : Str w sb k) (hk : k ≤ 4000000000000000000) :
    Calls Tryz.prog 80 #[.pointer (some ⟨sb, 0, none⟩)] w (Took sb k 1 (isStr (fun x => x.size ≤ 100)) w) := by
  have S0 := Lib.hid hs; clear hs
  go_enter Tryz.func80, Tryz.ntmps80
  go_wp2_with fail
  refine (oneL w [⟨#[]⟩, ⟨#[49]⟩, ⟨#[50]⟩, ⟨#[57]⟩, ⟨#[49, 50]⟩, ⟨#[49, 50, 66]⟩, ⟨#[49, 50, 65, 66]⟩, ⟨#[49, 50, 66, 66]⟩, ⟨#[49, 50, 90, 90, 90, 90, 90]⟩, ⟨#[49, 51]⟩, ⟨#[48, 66]⟩, ⟨#[48, 65, 66]⟩, ⟨#[48, 65, 65, 65, 65, 66]⟩, ⟨#[57, 57, 57]⟩, ⟨#[57, 57, 57, 66]⟩, ⟨#[57, 57, 57, 90, 90, 90, 90, 90]⟩, ⟨#[57, 57, 56, 90, 90, 90, 90, 90]⟩, ⟨#[49, 65]⟩, ⟨#[48]⟩, ⟨#[48, 49]⟩, ⟨#[49, 98]⟩, ⟨#[49, 48, 48, 48]⟩] _ _ _ _ rfl rfl (by decide) (by decide) S0.out (by omega)).mono ?_
  rintro e w1 ⟨v1, k1, rfl, ⟨x1, hx1, rfl⟩, hk1, hs1, hg1⟩
  have b1 : x1.size ≤ 100 := oneOf (by decide +kernel) hx1
  have S1 := Lib.hid hs1; have G1 := Lib.hid (gTrans (gAlloc (gRefl w sb) _) hg1); clear hs1 hg1 hx1
  go_wp2
  go_ret
  exact ⟨_, k1, rfl, ⟨x1, b1, rfl⟩, hk1, S1.out, G1.out⟩
end Go.Proofs.YtmefjkfjpgblcaaGreatDoor

/- Digests: the program's and the reference's. -/
namespace Go.Proofs.YtmefjkfjpgblcaaGreatDoor
set_option linter.unusedVariables false
open Go.RowKit Go.Sort

end Go.Proofs.YtmefjkfjpgblcaaGreatDoor

/- The program's names of files, and copies checked. -/
namespace Go.Proofs.YtmefjkfjpgblcaaGreatDoor
set_option linter.unusedVariables false
open Go.RowKit

theorem idx_set (set : List UInt8) (c : UInt8) : (set.contains c = true → 0 ≤ Lib.indexByte set c) ∧ (set.contains c = false → Lib.indexByte set c < 0) := by
  have hg := Lib.indexByte_ge set c
  constructor
  · intro h
    by_cases h1 : Lib.indexByte set c = -1
    · have hm : c ∈ set := by simpa using h
      obtain ⟨k, hk, e⟩ := List.mem_iff_getElem.1 hm
      exact absurd (by rw [List.getElem?_eq_getElem hk, e]) (Lib.indexByte_none h1 k)
    · omega
  · intro h
    by_cases h1 : 0 ≤ Lib.indexByte set c
    · obtain ⟨o, ho⟩ := Int.eq_ofNat_of_zero_le h1
      obtain ⟨h2, _⟩ := Lib.indexByte_some ho
      have : c ∈ set := List.mem_of_getElem? h2
      simp at h; exact absurd this h
    · omega
/-- strings.IndexByte: below 0 just where the byte is none of the set. -/
theorem idxB_c (set : ByteArray) (c : UInt8) (w : World) : Calls Tryz.prog 157 #[.string set, .int .u8 (c.toNat : Int)] w fun e w' => e = .returned (.int .i64 (Lib.indexByte set.data.toList c)) ∧ w = w' := by
  refine (Tryz.strings_IndexByte set (c.toNat : Int) w).mono ?_
  rintro e w' ⟨he, hw⟩
  refine ⟨?_, hw.symm⟩
  rw [he]
  have : ((c.toNat : Int)).toNat.toUInt8 = c := by simp
  rw [this]

end Go.Proofs.YtmefjkfjpgblcaaGreatDoor

/- Lists of copies checked, and manifests made. -/
namespace Go.Proofs.YtmefjkfjpgblcaaGreatDoor
set_option linter.unusedVariables false
open Go.RowKit

end Go.Proofs.YtmefjkfjpgblcaaGreatDoor

/- Slices compared and looked through; the reference's names of files. -/
namespace Go.Proofs.YtmefjkfjpgblcaaGreatDoor
set_option linter.unusedVariables false
open Go.RowKit

instance : DecidableEq Copied := fun a b => decidable_of_iff (a.eqB b = true) Copied.eqB_iff
end Go.Proofs.YtmefjkfjpgblcaaGreatDoor

/- Lists of whole numbers compared: the library's, walked. -/
namespace Go.Proofs.YtmefjkfjpgblcaaGreatDoor
set_option linter.unusedVariables false
open Go.RowKit

theorem intAt {w : World} {F : Nat → Prop} {l : List Int} {A : Option Addr} {n c : Nat} (h : Sli intR w F l (.slice A n c)) (k : Nat) (hk : k < l.length) : ∃ b off, A = some ⟨b, off, none⟩ ∧ F b ∧ w.cell? ⟨b, off + k, none⟩ = some (.int .i64 l[k]) := by
  obtain ⟨b, off, a, e, hb, hr, hc⟩ := h.at_ k hk
  have ha : a = [.int .i64 l[k]] := hr
  subst ha
  refine ⟨b, off, e, hb, ?_⟩
  have h := hc 0 _ rfl
  rw [show off + k * intR.n + 0 = off + k from by show off + k * 1 + 0 = _; omega] at h
  exact h
end Go.Proofs.YtmefjkfjpgblcaaGreatDoor

/- What the library has laid, kept beside a stream; Atoi and Itoa there. -/
namespace Go.Proofs.YtmefjkfjpgblcaaGreatDoor
set_option linter.unusedVariables false
open Go.RowKit Go.Sort

theorem pow_block {w w' : World} (h : PowLaid w) (hk : w'.heap[5]? = w.heap[5]?) : PowLaid w' := by
  unfold PowLaid Lib.TabIs World.var? at *
  rw [show Tryz.prog.globalNamed "internal/strconv.uint64pow10" = some 5 by kernel_rfl] at *
  simp only [Option.bind_some] at *
  rw [hk]; exact h
theorem pow_lt {w : World} (h : PowLaid w) : 5 < w.heap.size := by
  unfold PowLaid Lib.TabIs World.var? at h
  rw [show Tryz.prog.globalNamed "internal/strconv.uint64pow10" = some 5 by kernel_rfl] at h
  simp only [Option.bind_some] at h
  rcases Nat.lt_or_ge 5 w.heap.size with h' | h'
  · exact h'
  · simp [Array.getElem?_eq_none h'] at h
/-- The library's errors and its table of powers lie as they were laid, below the stream's block. -/
def LaidS (sb : Nat) (w : World) : Prop := ErrsLaid w ∧ PowLaid w ∧ 3 < sb ∧ 4 < sb ∧ 5 < sb
section
variable {w w' : World} {sb : Nat}
theorem LaidS.start (he : ErrsLaid w) (hp : PowLaid w) : LaidS w.heap.size w := ⟨he, hp, he.2.2.1, he.2.2.2, pow_lt hp⟩
theorem LaidS.keep (h : LaidS sb w) (hs : w.heap.size ≤ w'.heap.size) (hk : ∀ b, b < sb → w'.heap[b]? = w.heap[b]?) : LaidS sb w' :=
  ⟨h.1.keep hs (World.cell?_of_block (hk _ h.2.2.1)) (World.cell?_of_block (hk _ h.2.2.2.1)), pow_block h.2.1 (hk _ h.2.2.2.2), h.2.2⟩
theorem LaidS.grown (h : LaidS sb w) (hlt : sb < w.heap.size) (hg : w.grownBy w' (some sb)) : LaidS sb w' := h.keep hg.size fun b hb => hg.block b (by omega) (by simp; omega)
theorem LaidS.below {B : Nat} (h : LaidS sb w) (hb : Below B w w') (hB : sb ≤ B) : LaidS sb w' := h.keep hb.size fun b hlt => hb.block b (by omega)
theorem LaidS.alloc (h : LaidS sb w) (hlt : sb ≤ w.heap.size) (o : Obj) : LaidS sb (w.alloc o) := h.keep (by simp) fun b hb => Below.heap_alloc w o b (by omega)
theorem LaidS.errs (h : LaidS sb w) : ErrsLaid w := h.1
theorem LaidS.pow (h : LaidS sb w) : PowLaid w := h.2.1
end
def AtoiO (s : ByteArray) (w : World) (e : Ending) (w' : World) : Prop := ∃ n ev, okI n ∧ AtoiP s n ev ∧ e = .returned (.tuple #[.int .i64 n, ev]) ∧ Below w.heap.size w w'
theorem atoi_o (s : ByteArray) (w : World) (hs : s.size ≤ 140737488355328) (hl : ErrsLaid w) : Calls Tryz.prog 154 #[.string s] w (AtoiO s w) := by
  obtain ⟨⟨t1, p1, h1⟩, ⟨t2, p2, h2⟩, _, _⟩ := hl
  cases h : Lib.atoiAll s.data.toList
  case ok v =>
    refine (Any.strconv_Atoi_ok Tryz.laysC172 s (by omega) v h w).mono ?_
    rintro e w' ⟨he, hw⟩
    refine ⟨v, _, atoi_bd h, .inl ⟨h, rfl⟩, he, ?_⟩
    rcases hw with rfl | ⟨t, rfl⟩
    · exact Below.refl _ _
    · exact Joins.below_bytesWorld _ _ _ _ (Nat.le_refl _)
  · refine (Any.strconv_Atoi_syntax Tryz.laysC172 s (by omega) h _ w h1 (.inr ⟨_, _, rfl⟩)).mono ?_
    rintro e w' ⟨N, he, _, _, hb⟩
    exact ⟨_, _, by unfold okI; omega, .inr ⟨(fun v hv => by rw [h] at hv; cases hv), _, _, rfl⟩, he, hb⟩
  · refine (Any.strconv_Atoi_range Tryz.laysC172 s (by omega) h _ w h2 (.inr ⟨_, _, rfl⟩)).mono ?_
    rintro e w' ⟨N, he, _, _, hb⟩
    exact ⟨_, _, by unfold okI Lib.atoiSat; split <;> omega, .inr ⟨(fun v hv => by rw [h] at hv; cases hv), _, _, rfl⟩, he, hb⟩
theorem itoa_sz (n : Int) (h : okI n) : (⟨(Lib.itoa n).toArray⟩ : ByteArray).size ≤ 21 := by
  have := Lib.itoa_length_le n h.1 h.2
  show (Lib.itoa n).toArray.size ≤ 21
  simpa using this
end Go.Proofs.YtmefjkfjpgblcaaGreatDoor

/- The number of a scene, and a setup, in plain words. -/
namespace Go.Proofs.YtmefjkfjpgblcaaGreatDoor
set_option linter.unusedVariables false
open Go.RowKit

def digB (c : UInt8) : Bool := decide (48 ≤ c.toNat) && decide (c.toNat ≤ 57)
def capB (c : UInt8) : Bool := decide (65 ≤ c.toNat) && decide (c.toNat ≤ 90)
def numK (s : ByteArray) : Nat := (s.data.toList.takeWhile digB).length
def numB (s : ByteArray) : Bool :=
  (s.data.toList.drop (numK s)).all capB && decide (s.size - numK s ≤ 5) && !Lib.hasSuffix (s.data.toList.drop (numK s)) [65]
    && (if s.data.toList.take (numK s) = [48] then decide (numK s < s.size) else decide (1 ≤ numK s) && decide (numK s ≤ 3) && decide (s.data.toList.head? ≠ some 48))

theorem takeWhile_len {p : UInt8 → Bool} {l : List UInt8} {k : Nat} (h : ∀ x ∈ l.take k, p x = true) (hk : k ≤ l.length) (he : ∀ hlt : k < l.length, p l[k] = false) : (l.takeWhile p).length = k := by
  induction l generalizing k with
  | nil => simp at hk; simp [hk]
  | cons y l ih =>
    cases k with
    | zero => have := he (by simp); simp at this; simp [this]
    | succ k =>
      have h0 : p y = true := h y (by simp)
      have := ih (k := k) (fun x hx => h x (by simp [hx])) (by simpa using hk) (fun hlt => he (Nat.succ_lt_succ hlt))
      simp [h0, this]
theorem numK_eq {s : ByteArray} {k : Nat} (h : ∀ x ∈ s.data.toList.take k, digB x = true) (hk : k ≤ s.size) (he : ∀ hlt : k < s.size, digB s[k] = false) : numK s = k :=
  takeWhile_len h (by simpa using hk) (fun hlt => he (by simpa using hlt))
theorem extract_list (s : ByteArray) (a b : Nat) : (s.extract a b).data.toList = (s.data.toList.drop a).take (b - a) := by
  simp
theorem extract_end (s : ByteArray) (k : Nat) : (s.extract k s.size).data.toList = s.data.toList.drop k := by
  rw [extract_list, List.take_of_length_le]
  simp

theorem numB_size {s : ByteArray} (h : numB s = true) : s.size ≤ 8 := by
  simp only [numB, Bool.and_eq_true, decide_eq_true_eq] at h
  obtain ⟨⟨⟨_, h1⟩, _⟩, h2⟩ := h
  split at h2
  · rename_i h3
    have := congrArg List.length h3
    simp at this; omega
  · simp only [Bool.and_eq_true, decide_eq_true_eq] at h2; omega

def setC (c : UInt8) : Bool := capB c && decide (c.toNat ≠ 73) && decide (c.toNat ≠ 79)
def setupB (s : ByteArray) : Bool := allB setC s && decide (s.size ≤ 2)
theorem setupB_size {s : ByteArray} (h : setupB s = true) : s.size ≤ 2 := by
  simp only [setupB, Bool.and_eq_true, decide_eq_true_eq] at h; exact h.2
def slateE (scene setup : ByteArray) (n : Int) : Int := if numB scene = false then 5 else if setupB setup = false then 5 else if n < 1 ∨ 99 < n then 1 else 0
def slateS (scene setup : ByteArray) (n : Nat) : ByteArray := (if setup.toList.isEmpty = true then scene else scene ++ (⟨#[47]⟩ ++ setup)) ++ ⟨#[45]⟩ ++ ⟨(Lib.decDigits n).toArray⟩
def slateA (scene setup : ByteArray) (n : Int) : ByteArray := if slateE scene setup n = 0 then slateS scene setup n.toNat else ⟨#[]⟩
end Go.Proofs.YtmefjkfjpgblcaaGreatDoor

/- Plain texts, in plain words: joined words against no blanks beside blanks. No program in sight. -/
namespace Go.Proofs.YtmefjkfjpgblcaaGreatDoor
set_option linter.unusedVariables false
open Go.RowKit

/-- The words of a text: what stands between blanks. -/
def wordsA : List UInt8 → List UInt8 → List (List UInt8)
  | [], cur => if cur = [] then [] else [cur]
  | c :: l, cur => if c = 32 then (if cur = [] then wordsA l [] else cur :: wordsA l []) else wordsA l (cur ++ [c])
def joinW : List (List UInt8) → List UInt8
  | [] => []
  | [w] => w
  | w :: v :: r => w ++ 32 :: joinW (v :: r)
/-- No blank behind a blank, none at the end. -/
def okA : Bool → List UInt8 → Bool
  | prev, [] => !prev
  | prev, c :: l => if c = 32 then (if prev then false else okA true l) else okA false l
theorem joinW_cons (w : List UInt8) (r : List (List UInt8)) : joinW (w :: r) = if r = [] then w else w ++ 32 :: joinW r := by
  cases r with
  | nil => rfl
  | cons v r => rfl
theorem wordsA_ne (l : List UInt8) : ∀ cur, cur ≠ [] → wordsA l cur ≠ [] := by
  induction l with
  | nil => intro cur h; simp [wordsA, h]
  | cons c l ih =>
    intro cur h
    unfold wordsA
    by_cases hc : c = 32
    · rw [if_pos hc, if_neg h]; simp
    · rw [if_neg hc]; exact ih _ (by simp)
theorem join_len (l : List UInt8) : ∀ cur, (joinW (wordsA l cur)).length ≤ cur.length + l.length := by
  induction l with
  | nil => intro cur; by_cases h : cur = [] <;> simp [wordsA, h, joinW]
  | cons c l ih =>
    intro cur
    unfold wordsA
    by_cases hc : c = 32
    · rw [if_pos hc]
      have h1 := ih []
      by_cases h : cur = []
      · rw [if_pos h]; simp at h1 ⊢; omega
      · rw [if_neg h, joinW_cons]
        split
        · simp
        · simp at h1 ⊢; omega
    · rw [if_neg hc]
      have := ih (cur ++ [c])
      simp at this ⊢; omega
theorem join_ok (l : List UInt8) : (∀ cur, cur ≠ [] → (joinW (wordsA l cur) = cur ++ l ↔ okA false l = true)) ∧ ((wordsA l [] ≠ [] ∧ joinW (wordsA l []) = l) ↔ okA true l = true) := by
  induction l with
  | nil =>
    refine ⟨fun cur h => ?_, ?_⟩
    · simp [wordsA, h, joinW, okA]
    · simp [wordsA, okA]
  | cons c l ih =>
    obtain ⟨ihA, ihB⟩ := ih
    refine ⟨fun cur h => ?_, ?_⟩
    · unfold wordsA okA
      by_cases hc : c = 32
      · rw [if_pos hc, if_neg h, if_pos hc, joinW_cons]
        simp only [Bool.false_eq_true, if_false]
        rw [← ihB]
        by_cases hw : wordsA l [] = []
        · rw [if_pos hw]; simp [hw]
        · rw [if_neg hw, hc]
          simp [hw]
      · rw [if_neg hc, if_neg hc, ← ihA (cur ++ [c]) (by simp)]; simp
    · unfold wordsA okA
      by_cases hc : c = 32
      · rw [if_pos hc, if_pos rfl, if_pos hc]
        simp only [if_true, Bool.false_eq_true, iff_false, not_and]
        intro _ h
        have := join_len l []
        rw [h] at this
        simp at this
        omega
      · rw [if_neg hc, if_neg hc, List.nil_append, ← ihA [c] (by simp)]
        constructor
        · rintro ⟨_, h⟩; exact h
        · intro h; exact ⟨wordsA_ne l _ (by simp), h⟩
def plainL (l : List UInt8) : Bool := decide (l = []) || okA true l
/-- What the reference asks. -/
theorem plain_join (l : List UInt8) : joinW (wordsA l []) = l ↔ plainL l = true := by
  unfold plainL
  cases l with
  | nil => simp [wordsA, joinW]
  | cons c l =>
    have h := (join_ok (c :: l)).2
    simp only [Bool.or_eq_true, decide_eq_true_eq, reduceCtorEq, false_or]
    rw [← h]
    constructor
    · intro he
      refine ⟨fun hw => ?_, he⟩
      rw [hw] at he; cases he
    · exact fun h => h.2
def dblB : List UInt8 → Bool
  | [] => false
  | [_] => false
  | a :: b :: l => (a == 32 && b == 32) || dblB (b :: l)
def sufB : List UInt8 → Bool
  | [] => false
  | [a] => a == 32
  | _ :: b :: l => sufB (b :: l)
/-- What the program asks. -/
theorem okA_prog (l : List UInt8) : ∀ prev c, okA prev (c :: l) = (!dblB (c :: l) && !(prev && c == 32) && !sufB (c :: l)) := by
  induction l with
  | nil =>
    intro prev c
    by_cases hc : c = 32
    · cases prev <;> simp [okA, dblB, sufB, hc]
    · cases prev <;> simp [okA, dblB, sufB, hc]
  | cons d l ih =>
    intro prev c
    by_cases hc : c = 32
    · cases prev
      · rw [okA, if_pos hc]
        simp only [Bool.false_eq_true, if_false]
        rw [ih true d]
        have e : (c == 32) = true := by rw [hc]; rfl
        simp only [dblB, sufB, e, Bool.true_and, Bool.false_and, Bool.not_false, Bool.and_true]
        generalize dblB (d :: l) = x
        generalize sufB (d :: l) = y
        generalize (d == 32) = z
        cases x <;> cases y <;> cases z <;> rfl
      · have e : (c == 32) = true := by rw [hc]; rfl
        simp [okA, hc]
    · rw [okA, if_neg hc, ih false d]
      have e : (c == 32) = false := beq_eq_false_iff_ne.2 hc
      simp only [dblB, sufB, e, Bool.false_and, Bool.and_false, Bool.not_false, Bool.and_true, Bool.false_or]
theorem contains_cons (b : UInt8) (l sub : List UInt8) : Lib.contains (b :: l) sub = (sub.isPrefixOf (b :: l) || Lib.contains l sub) := by
  unfold Lib.contains
  have hg := Lib.index_ge l sub
  rw [Lib.index]
  cases h : sub.isPrefixOf (b :: l) with
  | true => simp
  | false =>
    simp only [Bool.false_eq_true, if_false, Bool.false_or]
    by_cases h1 : Lib.index l sub = -1
    · rw [h1]; rfl
    · rw [if_neg (by simpa using h1), decide_eq_decide]; omega
theorem beqC (a b : UInt8) : (a == b) = (b == a) := by
  rw [show (a == b) = decide (a = b) from rfl, show (b == a) = decide (b = a) from rfl, decide_eq_decide]
  exact ⟨fun h => h.symm, fun h => h.symm⟩
theorem dbl_contains (l : List UInt8) : Lib.contains l [32, 32] = dblB l := by
  induction l with
  | nil => rfl
  | cons a l ih =>
    rw [contains_cons, ih]
    cases l with
    | nil => simp [List.isPrefixOf, dblB]
    | cons b l =>
      simp only [List.isPrefixOf, dblB, Bool.and_true]
      have e1 : ((32 : UInt8) == a) = (a == 32) := beqC 32 a
      have e2 : ((32 : UInt8) == b) = (b == 32) := beqC 32 b
      rw [e1, e2]
theorem suf_has (l : List UInt8) : Lib.hasSuffix l [32] = sufB l := by
  unfold Lib.hasSuffix
  rw [Bool.eq_iff_iff, List.isSuffixOf_iff_suffix]
  induction l with
  | nil => simp [sufB]
  | cons a l ih =>
    rw [List.suffix_cons_iff, ih]
    cases l with
    | nil => simp [sufB]; exact eq_comm
    | cons b l => simp [sufB]
theorem pre_has (l : List UInt8) : Lib.hasPrefix l [32] = decide (l.head? = some 32) := by
  unfold Lib.hasPrefix
  cases l with
  | nil => rfl
  | cons a l =>
    show ((32 : UInt8) == a && List.isPrefixOf [] l) = _
    rw [show List.isPrefixOf ([] : List UInt8) l = true by cases l <;> rfl, Bool.and_true, List.head?_cons]
    rw [show ((32 : UInt8) == a) = decide ((32 : UInt8) = a) from rfl, decide_eq_decide]
    constructor
    · intro h; rw [h]
    · intro h; injection h with h; exact h.symm
/-- The two ways to ask for no blanks beside blanks. -/
theorem plain_prog (l : List UInt8) : plainL l = (!Lib.hasPrefix l [32] && !Lib.hasSuffix l [32] && !Lib.contains l [32, 32]) := by
  rw [dbl_contains, suf_has, pre_has]
  unfold plainL
  cases l with
  | nil => rfl
  | cons c l =>
    rw [okA_prog]
    simp only [reduceCtorEq, decide_false, Bool.false_or, List.head?_cons, Option.some.injEq, Bool.true_and]
    have e : (c == 32) = decide (c = 32) := rfl
    generalize dblB (c :: l) = x
    generalize sufB (c :: l) = y
    by_cases hc : c = 32
    · simp [hc]
    · have e : (c == 32) = false := beq_eq_false_iff_ne.2 hc
      simp only [e, hc, decide_false]; cases x <;> cases y <;> rfl
/-- All bytes from 32 to 126. -/
def prB (c : UInt8) : Bool := decide (32 ≤ c.toNat) && decide (c.toNat ≤ 126)
def plainB (s : ByteArray) : Bool := allB prB s && plainL s.data.toList
end Go.Proofs.YtmefjkfjpgblcaaGreatDoor

/- Reading slates, in plain words. No program in sight. -/
namespace Go.Proofs.YtmefjkfjpgblcaaGreatDoor
set_option linter.unusedVariables false
open Go.RowKit

theorem empty_iff (s : ByteArray) : s.toList.isEmpty = true ↔ s = ⟨#[]⟩ := by
  rw [ByteArray.toList_eq]
  constructor
  · intro h; exact ba_ext (by simpa using h)
  · rintro rfl; rfl
end Go.Proofs.YtmefjkfjpgblcaaGreatDoor

/- cmp.Or at two errors. -/
namespace Go.Proofs.YtmefjkfjpgblcaaGreatDoor
set_option linter.unusedVariables false
open Go.RowKit

def orE (a b : Int) : Int := if a = 0 then b else a
set_option maxHeartbeats 400000 in
theorem orE_c (a b : Int) (B c : Nat) (w : World) (h0 : w.cell? ⟨B, 0, none⟩ = some (.int .i64 a)) (h1 : w.cell? ⟨B, 1, none⟩ = some (.int .i64 b)) :
    Calls Tryz.prog 99 #[.slice (some ⟨B, 0, none⟩) 2 c] w fun e w' => e = .returned (.int .i64 (orE a b)) ∧ w = w' := by
  by_cases ha : a = 0
  · have HV := Lib.hid (show orE a b = b from if_pos ha)
    subst ha
    by_cases hb : b = 0
    · subst hb
      go_enter Tryz.func99, Tryz.ntmps99
      go_wp2
      go_loop [8] (fun i => ∃ k : Nat, k ≤ 2 ∧ i = .int .i64 k) (fun i => 2 - (intOf i).toNat)
      case atStart => exact ⟨0, Nat.zero_le _, rfl⟩
      case round =>
        obtain ⟨k, hk, rfl⟩ := hrel
        have : k = 0 ∨ k = 1 ∨ k = 2 := by omega
        rcases this with rfl | rfl | rfl
        · go_wp2
          go_round
          case rel => exact ⟨1, by omega, rfl⟩
          case measure => decide
        · go_wp2
          go_round
          case rel => exact ⟨2, by omega, rfl⟩
          case measure => decide
        · go_wp2
          go_ret
          exact ⟨ret_int HV.out.symm, rfl⟩
    · go_enter Tryz.func99, Tryz.ntmps99
      go_wp2
      go_loop [8] (fun i => ∃ k : Nat, k ≤ 1 ∧ i = .int .i64 k) (fun i => 2 - (intOf i).toNat)
      case atStart => exact ⟨0, Nat.zero_le _, rfl⟩
      case round =>
        obtain ⟨k, hk, rfl⟩ := hrel
        have : k = 0 ∨ k = 1 := by omega
        rcases this with rfl | rfl
        · go_wp2
          go_round
          case rel => exact ⟨1, by omega, rfl⟩
          case measure => decide
        · go_wp2
          go_ret
          exact ⟨ret_int HV.out.symm, rfl⟩
  · have HV := Lib.hid (show orE a b = a from if_neg ha)
    go_enter Tryz.func99, Tryz.ntmps99
    go_wp2
    go_loop [8] (fun i => i = .int .i64 0) (fun i => 2 - (intOf i).toNat)
    case atStart => rfl
    case round =>
      obtain rfl := hrel
      go_wp2
      go_ret
      exact ⟨ret_int HV.out.symm, rfl⟩
end Go.Proofs.YtmefjkfjpgblcaaGreatDoor

/- Takes as they lie in memory. No program in sight. -/
namespace Go.Proofs.YtmefjkfjpgblcaaGreatDoor
set_option linter.unusedVariables false
open Go.RowKit

structure Cov where
  para : Int
  tin : Int
  tout : Int
  on : Bool
structure Tk where
  scene : ByteArray
  setup : ByteArray
  number : Int
  roll : ByteArray
  sound : ByteArray
  tin : Int
  tout : Int
  good : Bool
  covers : List Cov
def Cov.cells (c : Cov) : List Value := [.int .i64 c.para, .int .i64 c.tin, .int .i64 c.tout, .bool c.on]
abbrev covR : Rep Cov := Rep.flat 4 Cov.cells (fun _ => rfl)
def Tk.cells (t : Tk) (v : Value) : List Value := [.string t.scene, .string t.setup, .int .i64 t.number, .string t.roll, .string t.sound, .int .i64 t.tin, .int .i64 t.tout, .bool t.good, v]
abbrev tvR : Rep (Tk × Value) := Rep.flat 9 (fun x => x.1.cells x.2) (fun _ => rfl)
/-- What made takes stay within. -/
def covB (B : Int) (c : Cov) : Prop := -B ≤ c.para ∧ c.para ≤ B ∧ -B ≤ c.tin ∧ c.tin ≤ B ∧ -B ≤ c.tout ∧ c.tout ≤ B
def tkB (B : Int) (t : Tk) : Prop := t.scene.size ≤ 1000 ∧ t.setup.size ≤ 1000 ∧ -1000 ≤ t.number ∧ t.number ≤ 10000 ∧ t.roll.size ≤ 1000 ∧ t.sound.size ≤ 1000 ∧ -B ≤ t.tin ∧ t.tin ≤ B ∧ -B ≤ t.tout ∧ t.tout ≤ B ∧ t.covers.length ≤ 70 ∧ ∀ c ∈ t.covers, covB B c
abbrev covBd (c : Cov) : Prop := covB 200000000 c
abbrev tkBd (t : Tk) : Prop := tkB 200000000 t
theorem covB.more {B B' : Int} {c : Cov} (h : covB B c) (hB : B ≤ B') : covB B' c := ⟨by have := h.1; omega, by have := h.2.1; omega, by have := h.2.2.1; omega, by have := h.2.2.2.1; omega, by have := h.2.2.2.2.1; omega, by have := h.2.2.2.2.2; omega⟩
theorem tkB.more {B B' : Int} {t : Tk} (h : tkB B t) (hB : B ≤ B') : tkB B' t := by
  obtain ⟨h1, h2, h3, h4, h5, h6, h7, h8, h9, h10, h11, h12⟩ := h
  exact ⟨h1, h2, h3, h4, h5, h6, by omega, by omega, by omega, by omega, h11, fun c hc => (h12 c hc).more hB⟩
end Go.Proofs.YtmefjkfjpgblcaaGreatDoor

/- The cells of a take in a list of takes; the greater and the lesser of two numbers. No program in sight. -/
namespace Go.Proofs.YtmefjkfjpgblcaaGreatDoor
set_option linter.unusedVariables false
open Go.RowKit

theorem tkAt {w : World} {F : Nat → Prop} {l : List (Tk × Value)} {A : Option Addr} {n c : Nat} (h : Sli tvR w F l (.slice A n c)) (k : Nat) (hk : k < l.length) : ∃ b off, A = some ⟨b, off, none⟩ ∧ F b ∧ w.cell? ⟨b, off + k * 9, none⟩ = some (.string l[k].1.scene) ∧ w.cell? ⟨b, off + k * 9 + 1, none⟩ = some (.string l[k].1.setup) ∧ w.cell? ⟨b, off + k * 9 + 2, none⟩ = some (.int .i64 l[k].1.number) ∧ w.cell? ⟨b, off + k * 9 + 3, none⟩ = some (.string l[k].1.roll) ∧ w.cell? ⟨b, off + k * 9 + 4, none⟩ = some (.string l[k].1.sound) ∧ w.cell? ⟨b, off + k * 9 + 5, none⟩ = some (.int .i64 l[k].1.tin) ∧ w.cell? ⟨b, off + k * 9 + 6, none⟩ = some (.int .i64 l[k].1.tout) ∧ w.cell? ⟨b, off + k * 9 + 7, none⟩ = some (.bool l[k].1.good) ∧ w.cell? ⟨b, off + k * 9 + 8, none⟩ = some l[k].2 := by
  obtain ⟨b, off, a, e, hb, hr, hc⟩ := h.at_ k hk
  have ha : a = (l[k]).1.cells l[k].2 := hr
  subst ha
  exact ⟨b, off, e, hb, hc 0 _ rfl, hc 1 _ rfl, hc 2 _ rfl, hc 3 _ rfl, hc 4 _ rfl, hc 5 _ rfl, hc 6 _ rfl, hc 7 _ rfl, hc 8 _ rfl⟩
end Go.Proofs.YtmefjkfjpgblcaaGreatDoor

/- How many scenes each set has, in plain words. No program in sight. -/
namespace Go.Proofs.YtmefjkfjpgblcaaGreatDoor
set_option linter.unusedVariables false
open Go.RowKit

instance memBA (s : ByteArray) (a : List ByteArray) : Decidable (s ∈ a) := decidable_of_iff (∃ x ∈ a, x = s) (by simp)
end Go.Proofs.YtmefjkfjpgblcaaGreatDoor

/- The error of a take that is written, in plain words. No program in sight. -/
namespace Go.Proofs.YtmefjkfjpgblcaaGreatDoor
set_option linter.unusedVariables false
open Go.RowKit

end Go.Proofs.YtmefjkfjpgblcaaGreatDoor

/- The words of a text, in plain words. No program in sight. -/
namespace Go.Proofs.YtmefjkfjpgblcaaGreatDoor
set_option linter.unusedVariables false
open Go.RowKit

end Go.Proofs.YtmefjkfjpgblcaaGreatDoor

