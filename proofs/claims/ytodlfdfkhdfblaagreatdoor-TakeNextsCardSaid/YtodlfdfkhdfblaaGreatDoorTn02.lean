/- Texts packed: GrowB, GrowJ, PushK, RollW, RollX, ScriptT, Shelf, AtoiW, LawA, RefA, Str, CutS, CutW, DecW, GenC, GenE, LaidW, NumS, SlateS, TkS, NextS, TkT. -/
import Derived.Test.YtodlfdfkhdfblaaGreatDoorTn01
import Derived.Room.AppendOnto
import Derived.Test.YtodlfdfkhdfblaaGreatDoorRows
import Derived.BigQuiet
import Derived.Deep.RegionWith
import Derived.Deep.QuietTactic
import Derived.Shelf.Strings.Builder1
import Derived.Shelf.Strings.Builder2
import Derived.Shelf.Strings.OnBuilder
import Derived.Shelf.Strings.Trim
import Derived.Shelf.Small.Utf8
import Derived.Shelf.Small.Strs
import Derived.Shelf.Small.Wraps
import Derived.Shelf.Strings.BuilderF
import Derived.Shelf.Strings.BuilderK
import Derived.Shelf.Strings.Builder2Cap
import Derived.Shelf.Strconv.Atoi
import Derived.Shelf.Strconv.Itoa0
import Derived.Shelf.Strconv.Itoa1
import Derived.Shelf.LaysM
import Derived.Shelf.Strconv.Itoa2
import Derived.Shelf.Strconv.Itoa3
import Derived.Shelf.Strconv.AtoiErrFast
import Derived.Shelf.Strconv.ParseIntEmpty
import Derived.Shelf.Strconv.AtoiFail
import Derived.Shelf.Strconv.Clone
import Derived.Shelf.Strconv.SyntaxError
import Derived.Shelf.LaysC
import Derived.Shelf.Strconv.ToError
import Derived.Shelf.Strconv.Lower
import Derived.Shelf.Strconv.ParseUint10
import Derived.Shelf.Strconv.ParseUint10Empty
import Derived.Shelf.Strconv.ParseUint10Any
import Derived.Shelf.Strconv.ParseInt10
import Derived.Shelf.Strconv.AtoiLong
import Derived.Shelf.Strconv.AtoiInnerAll
import Derived.Shelf.Strconv.RangeError
import Derived.Shelf.Strconv.ToErrorRange
import Derived.Shelf.Strconv.AtoiAll
import Derived.Shelf.Strconv.ErrVarAll
import Derived.Shelf.Strings.Search1
import Derived.Shelf.Strings.Search2
import Derived.Shelf.Strings.Search3
import Derived.Shelf.Strings.Cut
import Derived.Shelf.Strings.Count
import Derived.Shelf.Strings.Shaped
import Derived.Shelf.Strings.Prefix
import Derived.Shelf.Strings.Split
import Derived.Shelf.Strings.Fields
import Derived.Shelf.Strings.SplitShaped
import Derived.Shelf.Unicode.Latin
import Derived.Shelf.Unicode.Decode
import Derived.Shelf.Strings.Runes
import Derived.Shelf.Strings.RuneCount
import Derived.Shelf.Strings.IndexAny
import Derived.Shelf.Strings.AsciiSet
import Derived.Shelf.Strings.IndexAnyAll
import Derived.Shelf.Strings.Explode
import Derived.Shelf.Bits.Mul64
import Derived.Shelf.Strings.Repeat
import Derived.Shelf.Unicode.DecodeSlow
import Derived.Shelf.Unicode.DecodeAny
import Derived.Shelf.Unicode.Is16White
import Derived.Shelf.Unicode.IsSpaceAny
import Derived.Shelf.Unicode.DecodeLast
import Derived.Shelf.Strings.FieldsFuncAny
import Derived.Shelf.Unicode.Is16Any
import Derived.Shelf.Unicode.Is32Any
import Derived.Shelf.Unicode.ExclAny
import Derived.Shelf.Strings.FieldsFuncGrows
import Derived.Shelf.Strings.BuilderCap
import Derived.Shelf.Slices.Turned
import Derived.Test.YtodlfdfkhdfblaaGreatDoorProg
import Derived.Lib.SmallJoins
import Derived.Shelf.Strings.SlTrimAscii
import Derived.Laws.IdiomStrings
import Derived.Lib.QuietBelow
import Derived.Lib.IndexLaws
import Derived.Lib.ItoaLen
import Derived.Lib.Strings
import Derived.Lib.ItoaNum
import Derived.Lib.Slices
import Derived.RegionTactic
/- Where a loop stands that fills a list of its own: what it has left as it was, the list so far, and blocks of its own. No program in sight. -/
namespace Go.Proofs.YtodlfdfkhdfblaaGreatDoor
set_option linter.unusedVariables false
open Go.RowKit

structure BO {α : Type} (R : Rep α) (e : TypeId) (w : World) (l : List α) (v : Value) (P : List (Nat × Array Value × TypeId)) (wx : World) : Prop where
  bel : Below w.heap.size w wx
  own : Own R wx w.heap.size w.heap.size e l v
  prv : ∀ p ∈ P, wx.heap[p.1]? = some (.cells p.2.1 p.2.2 (0, 0)) ∧ w.heap.size ≤ p.1 ∧ v.ownBlock ≠ some p.1
section
variable {α : Type} {R : Rep α} {e : TypeId} {w wx wy : World} {l : List α} {v : Value} {P Q : List (Nat × Array Value × TypeId)}
theorem BO.start (w : World) : BO R e w [] (.slice none 0 0) [] w := ⟨Below.refl _ _, Own.nil_, fun p hp => by cases hp⟩
theorem BO.size (h : BO R e w l v P wx) : w.heap.size ≤ wx.heap.size := h.bel.size
theorem BO.plt (h : BO R e w l v P wx) {p : Nat × Array Value × TypeId} (hp : p ∈ P) : p.1 < wx.heap.size := heap_lt (h.prv p hp).1
theorem BO.below (h : BO R e w l v P wx) (hb : Below wx.heap.size wx wy) : BO R e w l v P wy :=
  ⟨h.bel.trans (hb.mono h.size), h.own.below hb, fun p hp => ⟨(hb.block _ (h.plt hp)).trans (h.prv p hp).1, (h.prv p hp).2⟩⟩
theorem BO.alloc (h : BO R e w l v P wx) (o : Obj) : BO R e w l v P (wx.alloc o) := h.below ((Below.refl _ wx).alloc (Nat.le_refl _) o)
theorem BO.drew (h : BO R e w l v P wx) : BO R e w l v P wx.drew := ⟨⟨h.bel.os, h.bel.tape, h.bel.output, h.bel.size, h.bel.block⟩, h.own.drew, h.prv⟩
theorem BO.new (h : BO R e w l v P wx) (cs : Array Value) (T : TypeId) : BO R e w l v ((wx.heap.size, cs, T) :: P) (wx.alloc (.cells cs T)) := by
  have h2 := h.alloc (.cells cs T)
  refine ⟨h2.bel, h2.own, fun p hp => ?_⟩
  rcases List.mem_cons.1 hp with rfl | hp
  · exact ⟨heap_alloc_new wx _, h.size, fun e => by have := h.own.block _ e; omega⟩
  · exact h2.prv p hp
theorem belSet (h : Below w.heap.size w wx) {p : Addr} (hp : w.heap.size ≤ p.block) (u : Value) : Below w.heap.size w (wx.setCell p u) :=
  ⟨h.os, h.tape, h.output, by simpa [World.setCell] using h.size, fun i hi => (Below.heap_setCell wx p u i (by omega)).trans (h.block i hi)⟩
theorem BO.set {b i : Nat} {cs : Array Value} {T : TypeId} (h : BO R e w l v ((b, cs, T) :: P) wx) (hf : ∀ {w w' : World} {F : Nat → Prop} {x : α} {cs : List Value}, R.rel w F x cs → R.rel w' F x cs) (u : Value) (hd : ∀ p ∈ P, p.1 ≠ b) : BO R e w l v ((b, cs.setIfInBounds i u, T) :: P) (wx.setCell ⟨b, i, none⟩ u) := by
  obtain ⟨h1, h2, h3⟩ := h.prv (b, cs, T) (by simp)
  dsimp only at h1 h2 h3
  refine ⟨belSet h.bel h2 u, ?_, fun p hp => ?_⟩
  · obtain ⟨xs, ho, hl⟩ := h.own
    refine ⟨xs, ⟨ho.1, ?_⟩, ⟨hl.1, fun k x hx => ?_⟩⟩
    · rcases ho.2 with hn | ⟨g, cap, cur, rfl, hb, hg, rest⟩
      · exact .inl hn
      · exact .inr ⟨g, cap, cur, rfl, hb, (Below.heap_setCell wx ⟨b, i, none⟩ u g (by intro e; exact h3 (by rw [e]; rfl))).trans hg, rest⟩
    · exact hf (R.more (hl.2 k x hx) (fun q hq => ⟨hq.1, by simpa [World.setCell] using hq.2.1, hq.2.2⟩))
  · rcases List.mem_cons.1 hp with rfl | hp
    · exact ⟨by simp [World.setCell, Array.getElem?_modify, h1], h2, h3⟩
    · obtain ⟨k1, k2, k3⟩ := h.prv p (by simp [hp])
      exact ⟨(Below.heap_setCell wx ⟨b, i, none⟩ u _ (by have := hd p hp; show p.1 ≠ b; exact this)).trans k1, k2, k3⟩
theorem BO.less (h : BO R e w l v P wx) (hq : ∀ p ∈ Q, p ∈ P) : BO R e w l v Q wx := ⟨h.bel, h.own, fun p hp => h.prv p (hq p hp)⟩
theorem BO.cell (h : BO R e w l v P wx) {p : Nat × Array Value × TypeId} (hp : p ∈ P) : (∀ i, wx.cell? ⟨p.1, i, none⟩ = p.2.1[i]?) ∧ (∀ i, wx.frozen? ⟨p.1, i, none⟩ = false) := str_cells (h.prv p hp).1
/-- The list has grown, in its row or in a new one. -/
theorem BO.more {l' : List α} {v' : Value} {g : Nat} (h : BO R e w l v P wx) (hown : Own R wy w.heap.size w.heap.size e l' v') (hg : wx.grownBy wy v.ownBlock) (hv : v'.ownBlock = some g) (hat : v.ownBlock = some g ∨ g = wx.heap.size) : BO R e w l' v' P wy := by
  have hz := h.size
  refine ⟨h.bel.grown hg hz (fun k hk => (h.own.block k hk).1), hown, fun p hp => ?_⟩
  obtain ⟨k1, k2, k3⟩ := h.prv p hp
  have hlt := heap_lt k1
  refine ⟨(hg.block p.1 hlt (fun e => k3 e.symm)).trans k1, k2, ?_⟩
  rw [hv]
  intro e
  injection e with e
  rcases hat with hat | hat
  · exact k3 (by rw [hat, e])
  · omega
/-- A list that a call has made takes the place of an empty one. -/
theorem BO.take {l' : List α} {v' : Value} (h : BO R e w l v P wx) (hb : Below wx.heap.size wx wy) (hown : Own R wy wx.heap.size wx.heap.size e l' v') (hl : Own R wy w.heap.size w.heap.size e l' v') : BO R e w l' v' P wy :=
  ⟨h.bel.trans (hb.mono h.size), hl, fun p hp => ⟨(hb.block _ (h.plt hp)).trans (h.prv p hp).1, (h.prv p hp).2.1, fun e => by have := hown.block _ e; have := h.plt hp; omega⟩⟩
end
section
variable {α : Type} {n : Nat} {enc : α → List Value} {hn : ∀ x, (enc x).length = n} {e : TypeId} {w wx wy : World} {l : List α} {P : List (Nat × Array Value × TypeId)}
theorem BO.modify {g m cap : Nat} (h : BO (Rep.flat n enc hn) e w l (.slice (some ⟨g, 0, none⟩) m cap) P wx) (f : α → α) (k j : Nat) (u : Value) (hf : ∀ x, enc (f x) = (enc x).set j u) (hj : j < n) (hk : k < l.length) :
    BO (Rep.flat n enc hn) e w (l.modify k f) (.slice (some ⟨g, 0, none⟩) m cap) P (wx.setCell ⟨g, k * n + j, none⟩ u) := by
  have hg := h.own.block g rfl
  refine ⟨belSet h.bel hg.1 u, h.own.modify f k j u hf hj hk, fun p hp => ?_⟩
  obtain ⟨h1, h2, h3⟩ := h.prv p hp
  exact ⟨(Below.heap_setCell wx ⟨g, k * n + j, none⟩ u _ (by intro e; exact h3 (by rw [e]; rfl))).trans h1, h2, h3⟩
end
end Go.Proofs.YtodlfdfkhdfblaaGreatDoor

/- Where a loop stands beside a stream, that fills a list whose elements hold lists of their own, the last of these under way; with blocks of its own of any kind. No program in sight. -/
namespace Go.Proofs.YtodlfdfkhdfblaaGreatDoor
set_option linter.unusedVariables false
open Go.RowKit

abbrev Pb := Nat × (Option Obj → Prop)
/-- A block that holds just these cells. -/
def cellsP (cs : Array Value) (T : TypeId) : Option Obj → Prop := fun o => o = some (.cells cs T (0, 0))
/-- A block that is a map. -/
def mapP {κ : Type} (mk : κ → Value) (m : List (κ × Value)) : Option Obj → Prop := fun o => ∃ es clock, o = some (.map es clock) ∧ epairs es.toList = pairs mk m
def InG (w wx : World) (v vc : Value) (P : List Pb) (q : Nat) : Prop := w.heap.size ≤ q ∧ q < wx.heap.size ∧ (∀ p ∈ P, q ≠ p.1) ∧ v.ownBlock ≠ some q ∧ vc.ownBlock ≠ some q
structure GJ {α β : Type} (R : Rep α) (RI : Rep β) (inn : α → List β) (pv : α → Value) (e e2 : TypeId) (w : World) (sb : Nat) (l : List α) (v : Value) (lc : List β) (vc : Value) (P : List Pb) (n : Int) (wx : World) : Prop where
  str : Str wx sb n
  gr : w.grownBy wx (some sb)
  lt : sb < w.heap.size
  own : Own R wx w.heap.size w.heap.size e l v
  inr : Own RI wx w.heap.size w.heap.size e2 lc vc
  dis : ∀ g, v.ownBlock = some g → vc.ownBlock ≠ some g
  prv : ∀ p ∈ P, p.2 wx.heap[p.1]? ∧ w.heap.size ≤ p.1 ∧ p.1 < wx.heap.size ∧ v.ownBlock ≠ some p.1 ∧ vc.ownBlock ≠ some p.1
  inn : ∀ x ∈ l, Sli RI wx (InG w wx v vc P) (inn x) (pv x)
theorem Own.fkeep {α : Type} {n : Nat} {enc : α → List Value} {hn : ∀ x, (enc x).length = n} {w w' : World} {base lo : Nat} {e : TypeId} {l : List α} {v : Value} (h : Own (Rep.flat n enc hn) w base lo e l v) (hk : ∀ g, v.ownBlock = some g → g < w.heap.size → w'.heap[g]? = w.heap[g]?) : Own (Rep.flat n enc hn) w' base lo e l v := by
  obtain ⟨xs, ho, hl⟩ := h
  refine ⟨xs, ⟨ho.1, ?_⟩, hl⟩
  rcases ho.2 with hv | ⟨g, cap, cur, rfl, hb, hg, rest⟩
  · exact .inl hv
  · exact .inr ⟨g, cap, cur, rfl, hb, by rw [hk g rfl (heap_lt hg)]; exact hg, rest⟩
section
variable {α β : Type} {n1 n2 : Nat} {enc : α → List Value} {h1 : ∀ x, (enc x).length = n1} {enc2 : β → List Value} {h2 : ∀ x, (enc2 x).length = n2} {inn : α → List β} {pv : α → Value} {e e2 : TypeId}
  {w wx wy : World} {sb : Nat} {l : List α} {v : Value} {lc : List β} {vc : Value} {P Q : List Pb} {n n' : Int}
theorem GJ.start (h : Str w sb n) : GJ (Rep.flat n1 enc h1) (Rep.flat n2 enc2 h2) inn pv e e2 w sb [] (.slice none 0 0) [] (.slice none 0 0) [] n w :=
  ⟨h, gRefl w sb, h.lt, Own.nil_, Own.nil_, fun g hg => (by cases hg), fun p hp => (by cases hp), fun x hx => (by cases hx)⟩
theorem GJ.size (h : GJ (Rep.flat n1 enc h1) (Rep.flat n2 enc2 h2) inn pv e e2 w sb l v lc vc P n wx) : w.heap.size ≤ wx.heap.size := h.gr.size
/-- Whatever leaves the rows and the inner lists, and does to the private blocks what it says. -/
theorem GJ.step (h : GJ (Rep.flat n1 enc h1) (Rep.flat n2 enc2 h2) inn pv e e2 w sb l v lc vc P n wx) (hs : Str wy sb n') (hg : w.grownBy wy (some sb)) (hsz : wx.heap.size ≤ wy.heap.size)
    (hk : ∀ b, w.heap.size ≤ b → b < wx.heap.size → (∀ p ∈ P, b ≠ p.1) → wy.heap[b]? = wx.heap[b]?)
    (hP : ∀ p ∈ Q, p.2 wy.heap[p.1]? ∧ p.1 < wy.heap.size ∧ ((∃ q ∈ P, q.1 = p.1) ∨ wx.heap.size ≤ p.1)) (hQ : ∀ p ∈ P, ∃ q ∈ Q, q.1 = p.1) : GJ (Rep.flat n1 enc h1) (Rep.flat n2 enc2 h2) inn pv e e2 w sb l v lc vc Q n' wy := by
  have hz := h.gr.size
  have kv : ∀ g, v.ownBlock = some g → g < wx.heap.size → wy.heap[g]? = wx.heap[g]? := fun g e hlt => hk g (h.own.block g e).1 hlt fun p hp e2 => (h.prv p hp).2.2.2.1 (by rw [e, e2])
  have kc : ∀ g, vc.ownBlock = some g → g < wx.heap.size → wy.heap[g]? = wx.heap[g]? := fun g e hlt => hk g (h.inr.block g e).1 hlt fun p hp e2 => (h.prv p hp).2.2.2.2 (by rw [e, e2])
  refine ⟨hs, hg, h.lt, h.own.fkeep kv, h.inr.fkeep kc, h.dis, fun p hp => ?_, fun x hx => ?_⟩
  · obtain ⟨a, b, c⟩ := hP p hp
    rcases c with ⟨q, hq, e⟩ | c
    · have := h.prv q hq
      rw [e] at this
      exact ⟨a, this.2.1, b, this.2.2.2⟩
    · exact ⟨a, by omega, b, fun e => by have := (h.own.block _ e).2; omega, fun e => by have := (h.inr.block _ e).2; omega⟩
  · refine ((h.inn x hx).keep fun b hF => hk b hF.1 hF.2.1 hF.2.2.1).more fun q hF => ⟨hF.1, Nat.lt_of_lt_of_le hF.2.1 hsz, fun p hp e => ?_, hF.2.2.2⟩
    rcases (hP p hp).2.2 with ⟨r, hr, e2⟩ | c
    · exact hF.2.2.1 r hr (e.trans e2.symm)
    · have := hF.2.1; omega
theorem GJ.turn (h : GJ (Rep.flat n1 enc h1) (Rep.flat n2 enc2 h2) inn pv e e2 w sb l v lc vc P n wx) (hg : wx.grownBy wy (some sb)) (hs : Str wy sb n') : GJ (Rep.flat n1 enc h1) (Rep.flat n2 enc2 h2) inn pv e e2 w sb l v lc vc P n' wy :=
  have hlt := h.lt
  have hz := h.gr.size
  h.step hs (gTrans h.gr hg) hg.size (fun b hb hb2 _ => hg.block b hb2 (by simp; omega)) (fun p hp => by
    obtain ⟨a, b, c, _⟩ := h.prv p hp
    exact ⟨by rw [hg.block p.1 c (by simp; omega)]; exact a, Nat.lt_of_lt_of_le c hg.size, .inl ⟨p, hp, rfl⟩⟩) (fun p hp => ⟨p, hp, rfl⟩)
theorem GJ.alloc (h : GJ (Rep.flat n1 enc h1) (Rep.flat n2 enc2 h2) inn pv e e2 w sb l v lc vc P n wx) (o : Obj) : GJ (Rep.flat n1 enc h1) (Rep.flat n2 enc2 h2) inn pv e e2 w sb l v lc vc P n (wx.alloc o) := h.turn (gAlloc (gRefl wx sb) o) (h.str.alloc o)
theorem GJ.below (h : GJ (Rep.flat n1 enc h1) (Rep.flat n2 enc2 h2) inn pv e e2 w sb l v lc vc P n wx) (hb : Below wx.heap.size wx wy) : GJ (Rep.flat n1 enc h1) (Rep.flat n2 enc2 h2) inn pv e e2 w sb l v lc vc P n wy := h.turn (gBelow (gRefl wx sb) hb) (h.str.below hb)
theorem GJ.drew (h : GJ (Rep.flat n1 enc h1) (Rep.flat n2 enc2 h2) inn pv e e2 w sb l v lc vc P n wx) : GJ (Rep.flat n1 enc h1) (Rep.flat n2 enc2 h2) inn pv e e2 w sb l v lc vc P n wx.drew := h.turn (gDrew (gRefl wx sb)) h.str.drew
theorem GJ.drewN (h : GJ (Rep.flat n1 enc h1) (Rep.flat n2 enc2 h2) inn pv e e2 w sb l v lc vc P n wx) (k : Nat) : GJ (Rep.flat n1 enc h1) (Rep.flat n2 enc2 h2) inn pv e e2 w sb l v lc vc P n (wx.drewN k) := h.turn (grown_drewN (gRefl wx sb) k) (h.str.drewN k)
/-- A block that has been laid since takes its place among the private ones. -/
theorem GJ.block (h : GJ (Rep.flat n1 enc h1) (Rep.flat n2 enc2 h2) inn pv e e2 w sb l v lc vc P n wx) (hg : wx.grownBy wy (some sb)) (hs : Str wy sb n') {B : Nat} {f : Option Obj → Prop} (hB : wx.heap.size ≤ B) (hlt : B < wy.heap.size) (hf : f wy.heap[B]?) : GJ (Rep.flat n1 enc h1) (Rep.flat n2 enc2 h2) inn pv e e2 w sb l v lc vc ((B, f) :: P) n' wy :=
  have h2 := h.turn hg hs
  have hz := h.gr.size
  h.step hs h2.gr hg.size (fun b hb hb2 _ => hg.block b hb2 (by have := h.lt; simp; omega)) (fun p hp => by
    rcases List.mem_cons.1 hp with rfl | hp
    · exact ⟨hf, hlt, .inr hB⟩
    · have := h2.prv p hp
      exact ⟨this.1, this.2.2.1, .inl ⟨p, hp, rfl⟩⟩) (fun p hp => ⟨p, List.mem_cons_of_mem _ hp, rfl⟩)
theorem GJ.new (h : GJ (Rep.flat n1 enc h1) (Rep.flat n2 enc2 h2) inn pv e e2 w sb l v lc vc P n wx) (cs : Array Value) (T : TypeId) : GJ (Rep.flat n1 enc h1) (Rep.flat n2 enc2 h2) inn pv e e2 w sb l v lc vc ((wx.heap.size, cellsP cs T) :: P) n (wx.alloc (.cells cs T)) :=
  h.block (gAlloc (gRefl wx sb) _) (h.str.alloc _) (Nat.le_refl _) (by simp) (heap_alloc_new wx _)
theorem GJ.newMap {κ : Type} (mk : κ → Value) (h : GJ (Rep.flat n1 enc h1) (Rep.flat n2 enc2 h2) inn pv e e2 w sb l v lc vc P n wx) : GJ (Rep.flat n1 enc h1) (Rep.flat n2 enc2 h2) inn pv e e2 w sb l v lc vc ((wx.heap.size, mapP mk ([] : List (κ × Value))) :: P) n (wx.alloc (.map #[] 0)) :=
  h.block (gAlloc (gRefl wx sb) _) (h.str.alloc _) (Nat.le_refl _) (by simp) ⟨#[], 0, heap_alloc_new wx _, rfl⟩
/-- A store into a private block. -/
theorem GJ.set {b i : Nat} {cs : Array Value} {T : TypeId} {u : Value} (h : GJ (Rep.flat n1 enc h1) (Rep.flat n2 enc2 h2) inn pv e e2 w sb l v lc vc P n wx) (hm : (b, cellsP cs T) ∈ P) (hQ : ∀ p ∈ Q, p = (b, cellsP (cs.setIfInBounds i u) T) ∨ (p ∈ P ∧ p.1 ≠ b)) (hQ2 : ∀ p ∈ P, ∃ q ∈ Q, q.1 = p.1) : GJ (Rep.flat n1 enc h1) (Rep.flat n2 enc2 h2) inn pv e e2 w sb l v lc vc Q n (wx.setCell ⟨b, i, none⟩ u) := by
  obtain ⟨a1, a2, a3, _⟩ := h.prv _ hm
  dsimp only at a2 a3
  have hlt := h.lt
  refine h.step (h.str.setCell (by show sb < b; omega) _) (gSet h.gr a2 _) (by simp [World.setCell]) (fun c hc _ hn => Below.heap_setCell wx _ _ c (hn _ hm)) (fun p hp => ?_) hQ2
  rcases hQ p hp with rfl | ⟨hp, hne⟩
  · refine ⟨?_, by simpa [World.setCell] using a3, .inl ⟨_, hm, rfl⟩⟩
    have a1' : wx.heap[b]? = some (.cells cs T (0, 0)) := a1
    show _ = _
    simp [World.setCell, Array.getElem?_modify, a1']
  · obtain ⟨b1, b2, b3, _⟩ := h.prv p hp
    exact ⟨by rw [Below.heap_setCell wx ⟨b, i, none⟩ u p.1 hne]; exact b1, by simpa [World.setCell] using b3, .inl ⟨p, hp, rfl⟩⟩
theorem GJ.set0 {b : Nat} {cs : Array Value} {T : TypeId} (h : GJ (Rep.flat n1 enc h1) (Rep.flat n2 enc2 h2) inn pv e e2 w sb l v lc vc ((b, cellsP cs T) :: P) n wx) (i : Nat) (u : Value) (hd : ∀ p ∈ P, p.1 ≠ b) : GJ (Rep.flat n1 enc h1) (Rep.flat n2 enc2 h2) inn pv e e2 w sb l v lc vc ((b, cellsP (cs.setIfInBounds i u) T) :: P) n (wx.setCell ⟨b, i, none⟩ u) :=
  h.set (b := b) (cs := cs) (T := T) (List.mem_cons_self ..) (fun p hp => by
    rcases List.mem_cons.1 hp with rfl | hp
    · exact .inl rfl
    · exact .inr ⟨List.mem_cons_of_mem _ hp, hd p hp⟩) (fun p hp => by
    rcases List.mem_cons.1 hp with rfl | hp
    · exact ⟨_, List.mem_cons_self .., rfl⟩
    · exact ⟨p, List.mem_cons_of_mem _ hp, rfl⟩)
/-- What a map's store does. -/
theorem GJ.poke {b : Nat} {f g : Option Obj → Prop} (h : GJ (Rep.flat n1 enc h1) (Rep.flat n2 enc2 h2) inn pv e e2 w sb l v lc vc P n wx) (hm : (b, f) ∈ P) (hg : wx.grownBy wy (some b)) (hf : g wy.heap[b]?) (hQ : ∀ p ∈ Q, p = (b, g) ∨ (p ∈ P ∧ p.1 ≠ b)) (hQ2 : ∀ p ∈ P, ∃ q ∈ Q, q.1 = p.1) : GJ (Rep.flat n1 enc h1) (Rep.flat n2 enc2 h2) inn pv e e2 w sb l v lc vc Q n wy := by
  obtain ⟨a1, a2, a3, _⟩ := h.prv _ hm
  dsimp only at a2 a3
  have hlt := h.lt
  have hz := h.gr.size
  have hk : ∀ c, c < wx.heap.size → c ≠ b → wy.heap[c]? = wx.heap[c]? := fun c hc hne => hg.block c hc (by simpa using hne)
  refine h.step (h.str.keep fun c hc => hk c (by omega) (by omega)) ⟨hg.os.trans h.gr.os, hg.tape.trans h.gr.tape, hg.output.trans h.gr.output, Nat.le_trans hz hg.size, fun i hi hne => (hk i (by omega) (by omega)).trans (h.gr.block i hi hne)⟩ hg.size (fun c _ hc hn => hk c hc (hn _ hm)) (fun p hp => ?_) hQ2
  rcases hQ p hp with rfl | ⟨hp, hne⟩
  · exact ⟨hf, Nat.lt_of_lt_of_le a3 hg.size, .inl ⟨_, hm, rfl⟩⟩
  · obtain ⟨b1, b2, b3, _⟩ := h.prv p hp
    exact ⟨by rw [hk p.1 b3 hne]; exact b1, Nat.lt_of_lt_of_le b3 hg.size, .inl ⟨p, hp, rfl⟩⟩
theorem InG.less {q : Nat} (h : InG w wx v vc P q) (hq : ∀ p ∈ Q, p ∈ P) : InG w wx v vc Q q := ⟨h.1, h.2.1, fun p hp => h.2.2.1 p (hq p hp), h.2.2.2⟩
theorem GJ.less (h : GJ (Rep.flat n1 enc h1) (Rep.flat n2 enc2 h2) inn pv e e2 w sb l v lc vc P n wx) (hq : ∀ p ∈ Q, p ∈ P) : GJ (Rep.flat n1 enc h1) (Rep.flat n2 enc2 h2) inn pv e e2 w sb l v lc vc Q n wx := ⟨h.str, h.gr, h.lt, h.own, h.inr, h.dis, fun p hp => h.prv p (hq p hp), fun x hx => (h.inn x hx).more fun q hF => hF.less hq⟩
theorem GJ.cell (h : GJ (Rep.flat n1 enc h1) (Rep.flat n2 enc2 h2) inn pv e e2 w sb l v lc vc P n wx) {b : Nat} {cs : Array Value} {T : TypeId} (hp : (b, cellsP cs T) ∈ P) : (∀ i, wx.cell? ⟨b, i, none⟩ = cs[i]?) ∧ (∀ i, wx.frozen? ⟨b, i, none⟩ = false) := str_cells (h.prv _ hp).1
theorem GJ.map {b : Nat} {κ : Type} {mk : κ → Value} {m : List (κ × Value)} (h : GJ (Rep.flat n1 enc h1) (Rep.flat n2 enc2 h2) inn pv e e2 w sb l v lc vc P n wx) (hp : (b, mapP mk m) ∈ P) : MapL wx b mk m := (h.prv _ hp).1
theorem GJ.plt (h : GJ (Rep.flat n1 enc h1) (Rep.flat n2 enc2 h2) inn pv e e2 w sb l v lc vc P n wx) {b : Nat} {f : Option Obj → Prop} (hp : (b, f) ∈ P) : w.heap.size ≤ b ∧ b < wx.heap.size := ⟨(h.prv _ hp).2.1, (h.prv _ hp).2.2.1⟩
/-- A row of one's own has grown, or begun anew. -/
theorem grow_all (h : GJ (Rep.flat n1 enc h1) (Rep.flat n2 enc2 h2) inn pv e e2 w sb l v lc vc P n wx) {vr vr' : Value} {g : Nat} (hg : wx.grownBy wy vr.ownBlock) (hr : ∀ q, vr.ownBlock = some q → w.heap.size ≤ q) :
    Str wy sb n ∧ w.grownBy wy (some sb) ∧ ∀ b, b < wx.heap.size → vr.ownBlock ≠ some b → wy.heap[b]? = wx.heap[b]? := by
  have hz := h.gr.size
  have hlt := h.lt
  have hk : ∀ b, b < wx.heap.size → vr.ownBlock ≠ some b → wy.heap[b]? = wx.heap[b]? := fun b hb hne => hg.block b hb (fun e => hne e.symm)
  have hw : ∀ b, b < w.heap.size → wy.heap[b]? = wx.heap[b]? := fun b hb => hk b (by omega) (fun e => by have := hr b e; omega)
  exact ⟨h.str.keep fun b hb => hw b (by omega), ⟨hg.os.trans h.gr.os, hg.tape.trans h.gr.tape, hg.output.trans h.gr.output, Nat.le_trans hz hg.size, fun i hi hne => (hw i hi).trans (h.gr.block i hi hne)⟩, hk⟩
/-- One more in the list under way. -/
theorem GJ.moreC {lc' : List β} {vc' : Value} {g : Nat} (h : GJ (Rep.flat n1 enc h1) (Rep.flat n2 enc2 h2) inn pv e e2 w sb l v lc vc P n wx) (hown : Own (Rep.flat n2 enc2 h2) wy w.heap.size w.heap.size e2 lc' vc') (hg : wx.grownBy wy vc.ownBlock) (hv : vc'.ownBlock = some g) (hat : vc.ownBlock = some g ∨ g = wx.heap.size) : GJ (Rep.flat n1 enc h1) (Rep.flat n2 enc2 h2) inn pv e e2 w sb l v lc' vc' P n wy := by
  obtain ⟨a1, a2, a3⟩ := grow_all (vr' := vc') (g := g) h hg (fun q e => (h.inr.block q e).1)
  have hfar : ∀ b, b < wx.heap.size → vc.ownBlock ≠ some b → vc'.ownBlock ≠ some b := fun b hb hne e => by
    rw [hv] at e
    injection e with e
    rcases hat with hat | hat
    · exact hne (by rw [hat, e])
    · omega
  refine ⟨a1, a2, h.lt, h.own.fkeep fun q e hlt => a3 q hlt (h.dis q e), hown, fun q e => hfar q (h.own.block q e).2 (h.dis q e), fun p hp => ?_, fun x hx => ?_⟩
  · obtain ⟨b1, b2, b3, b4, b5⟩ := h.prv p hp
    exact ⟨by rw [a3 p.1 b3 b5]; exact b1, b2, Nat.lt_of_lt_of_le b3 hg.size, b4, hfar p.1 b3 b5⟩
  · exact ((h.inn x hx).keep fun b hF => a3 b hF.2.1 hF.2.2.2.2).more fun q hF => ⟨hF.1, Nat.lt_of_lt_of_le hF.2.1 hg.size, hF.2.2.1, hF.2.2.2.1, hfar q hF.2.1 hF.2.2.2.2⟩
/-- The list under way has become the new element's. -/
theorem GJ.push {x : α} {v' : Value} {g : Nat} (h : GJ (Rep.flat n1 enc h1) (Rep.flat n2 enc2 h2) inn pv e e2 w sb l v lc vc P n wx) (hown : Own (Rep.flat n1 enc h1) wy w.heap.size w.heap.size e (l ++ [x]) v') (hg : wx.grownBy wy v.ownBlock) (hv : v'.ownBlock = some g) (hat : v.ownBlock = some g ∨ g = wx.heap.size) (hi : inn x = lc) (hp : pv x = vc) :
    GJ (Rep.flat n1 enc h1) (Rep.flat n2 enc2 h2) inn pv e e2 w sb (l ++ [x]) v' [] (.slice none 0 0) P n wy := by
  obtain ⟨a1, a2, a3⟩ := grow_all (vr' := v') (g := g) h hg (fun q e => (h.own.block q e).1)
  have hfar : ∀ b, b < wx.heap.size → v.ownBlock ≠ some b → v'.ownBlock ≠ some b := fun b hb hne e => by
    rw [hv] at e
    injection e with e
    rcases hat with hat | hat
    · exact hne (by rw [hat, e])
    · omega
  refine ⟨a1, a2, h.lt, hown, Own.nil_, fun q _ e => (by cases e), fun p hp => ?_, fun y hy => ?_⟩
  · obtain ⟨b1, b2, b3, b4, b5⟩ := h.prv p hp
    exact ⟨by rw [a3 p.1 b3 b4]; exact b1, b2, Nat.lt_of_lt_of_le b3 hg.size, hfar p.1 b3 b4, fun e => (by cases e)⟩
  · rcases List.mem_append.1 hy with hy | hy
    · exact ((h.inn y hy).keep fun b hF => a3 b hF.2.1 hF.2.2.2.1).more fun q hF => ⟨hF.1, Nat.lt_of_lt_of_le hF.2.1 hg.size, hF.2.2.1, hfar q hF.2.1 hF.2.2.2.1, fun e => (by cases e)⟩
    · rw [List.mem_singleton] at hy
      subst hy
      rw [hi, hp]
      have hs : Sli (Rep.flat n2 enc2 h2) wx (fun q => vc.ownBlock = some q) lc vc := by
        obtain ⟨xs, ho, hl⟩ := h.inr
        exact Sli.own ho ⟨hl.1, hl.2⟩ rfl (fun b c e => by rw [e]; rfl)
      refine (hs.keep fun b hb => a3 b (h.inr.block b hb).2 (fun e => h.dis b e hb)).more fun q hb => ⟨(h.inr.block q hb).1, Nat.lt_of_lt_of_le (h.inr.block q hb).2 hg.size, fun p hp e => (h.prv p hp).2.2.2.2 (by rw [← e]; exact hb), hfar q (h.inr.block q hb).2 (fun e => h.dis q e hb), fun e => (by cases e)⟩
/-- A block laid early whose cells are stored later, one behind the other. -/
def setFrom (w : World) (B : Nat) : Nat → List Value → World
  | _, [] => w
  | i, u :: us => setFrom (w.setCell ⟨B, i, none⟩ u) B (i + 1) us
theorem setFrom_heap (B : Nat) (T : TypeId) : ∀ (us pre post : List Value) (w : World), w.heap[B]? = some (.cells (pre ++ post).toArray T (0, 0)) → us.length = post.length → (setFrom w B pre.length us).heap[B]? = some (.cells (pre ++ us).toArray T (0, 0))
  | [], pre, post, w, h, hl => by
    have : post = [] := List.length_eq_zero_iff.1 hl.symm
    subst this
    exact h
  | u :: us, pre, [], w, h, hl => by cases hl
  | u :: us, pre, x :: post, w, h, hl => by
    have h2 : (w.setCell ⟨B, pre.length, none⟩ u).heap[B]? = some (.cells ((pre ++ [u]) ++ post).toArray T (0, 0)) := by
      simp [World.setCell, Array.getElem?_modify, h]
    have := setFrom_heap B T us (pre ++ [u]) post _ h2 (by simpa using hl)
    simpa [setFrom] using this
theorem setFrom_far {B b : Nat} (hb : b ≠ B) : ∀ (us : List Value) (i : Nat) (w : World), (setFrom w B i us).heap[b]? = w.heap[b]?
  | [], _, _ => rfl
  | u :: us, i, w => (setFrom_far hb us (i + 1) _).trans (Below.heap_setCell w ⟨B, i, none⟩ u b hb)
theorem setFrom_size {B : Nat} : ∀ (us : List Value) (i : Nat) (w : World), (setFrom w B i us).heap.size = w.heap.size
  | [], _, _ => rfl
  | u :: us, i, w => (setFrom_size us (i + 1) _).trans (by simp [World.setCell])
theorem setFrom_gr {a : World} {s B : Nat} (hB : a.heap.size ≤ B) : ∀ (us : List Value) (i : Nat) (w : World), a.grownBy w (some s) → a.grownBy (setFrom w B i us) (some s)
  | [], _, _, h => h
  | u :: us, i, w, h => setFrom_gr hB us (i + 1) _ (gSet h hB u)
theorem setFrom_str {s B : Nat} {k : Int} (hB : s < B) : ∀ (us : List Value) (i : Nat) (w : World), Str w s k → Str (setFrom w B i us) s k
  | [], _, _, h => h
  | u :: us, i, w, h => setFrom_str hB us (i + 1) _ (h.setCell hB u)
theorem GJ.blockSet (h : GJ (Rep.flat n1 enc h1) (Rep.flat n2 enc2 h2) inn pv e e2 w sb l v lc vc P n wx) (hg : wx.grownBy wy (some sb)) (hs : Str wy sb n') {B : Nat} {cs : List Value} {T : TypeId} (hB : wx.heap.size ≤ B) (hb : wy.heap[B]? = some (.cells cs.toArray T (0, 0))) (us : List Value) (hl : us.length = cs.length) : GJ (Rep.flat n1 enc h1) (Rep.flat n2 enc2 h2) inn pv e e2 w sb l v lc vc ((B, cellsP us.toArray T) :: P) n' (setFrom wy B 0 us) :=
  h.block (setFrom_gr hB us 0 _ hg) (setFrom_str (by have := h.lt; have := h.gr.size; omega) us 0 _ hs) hB (by rw [setFrom_size]; exact heap_lt hb) (setFrom_heap B T us [] cs wy hb hl)
end
end Go.Proofs.YtodlfdfkhdfblaaGreatDoor

/- Append of one element onto a row of one's own: what the old row holds stays, wherever the new one lies. No program in sight. -/
namespace Go.Proofs.YtodlfdfkhdfblaaGreatDoor
set_option linter.unusedVariables false
open Go.RowKit

theorem came_own {w : World} {base : Nat} {e : TypeId} {size : Nat} {g n cap : Nat} {xs : List Value} (h : w.ownsRow base e size (.slice (some ⟨g, 0, none⟩) n cap) n xs) : Came w size (some ⟨g, 0, none⟩) g 0 n cap xs := by
  rcases h.2 with ⟨hv, _⟩ | ⟨g', cap', cur, hv, hb, hg, h1, h2, h3, h4⟩
  · cases hv
  · injection hv with hv1 hv2 hv3
    injection hv1 with hv1
    injection hv1 with hv1
    subst hv1; subst hv3
    obtain ⟨h5, h6⟩ := str_cells hg
    refine ⟨h1, fun _ => rfl, fun _ => heap_lt hg, h.1, fun j u hj => ?_, fun j hj => ⟨?_, h6 _⟩⟩
    · rw [h5, Nat.zero_add, ← Array.getElem?_toList]
      have hlt : j < n * size := by rw [← h.1]; exact (List.getElem?_eq_some_iff.1 hj).1
      rw [← h4, List.getElem?_take, if_pos hlt] at hj
      exact hj
    · rw [h5, Nat.zero_add]
      have : n * size + j < cur.size := by
        rw [h3]
        rw [Nat.sub_mul] at hj
        omega
      simp [this]
theorem run_push_keeps {P : Program} {W : World} {base : Nat} {e : TypeId} {size : Nat} {g0 n cap0 : Nat} {xs : List Value} (hown : W.ownsRow base e size (.slice (some ⟨g0, 0, none⟩) n cap0) n xs)
    (t ty : TypeId) (i : TypeInfo) (z : Value) (bytes : Nat) (ht : P.underlying t = some (.slice e)) (hi : P.info? e = some i) (hz : i.zero = some z) (hsize : i.size = size) (hby : i.bytes = bytes) (hzs : z.cells.size = size) (hsz : 0 < size)
    (ad : Addr) (c : Nat) (news : List Value) (hl : news.length = 1 * size) (hnews : ∀ j u, news[j]? = some u → W.cell? (ad.add j) = some u) (h1 : ∀ u ∈ news, u.oneCell' = true)
    (h63 : n + 1 ≤ maxLen) (hbytes : (n + 1) * bytes ≤ 140737488355328) (hbase : base ≤ W.heap.size) :
    ∃ g cap w', (Builtin.append_ #[t, t] ty #[.slice (some ⟨g0, 0, none⟩) n cap0, .slice (some ad) 1 c]).run P W = .ok (.slice (some ⟨g, 0, none⟩) (n + 1) cap) w' ∧
      w'.ownsRow base e size (.slice (some ⟨g, 0, none⟩) (n + 1) cap) (n + 1) (xs ++ news) ∧ W.grownBy w' (some g0) ∧ (some g0 = some g ∨ g = W.heap.size) ∧ g < w'.heap.size ∧ (∀ j, j < n * size → w'.cell? ⟨g0, j, none⟩ = W.cell? ⟨g0, j, none⟩) := by
  obtain ⟨g, cap, w', hr, h2, h3, h4, h5⟩ := run_append_lies (P := P) W t ty base e i z size bytes ht hi hz hsize hby hzs hsz _ n xs hown ad 1 c news hl hnews h1 (by omega) h63 hbytes hbase W.heap.size rfl
  have hc := came_own hown
  obtain ⟨v2, w2, hr2, ho⟩ := run_append_onto (P := P) hc t ty i z bytes ht hi hz hsize hby hzs hsz (Onto.start hc) ad c news hl hnews h1 h63 hbytes
  have hg0 : g0 < W.heap.size := by
    rcases hown.2 with ⟨hv, _⟩ | ⟨g', cap', cur, hv, hb, hg, _⟩
    · cases hv
    · injection hv with hv1 hv2 hv3
      injection hv1 with hv1
      injection hv1 with hv1
      subst hv1
      exact heap_lt hg
  refine ⟨g, cap, w', hr, h2, h3, h4, h5, fun j hj => ?_⟩
  have e := hr.symm.trans hr2
  injection e with e1 e2
  subst e2
  exact ho.old hg0 (fun j' _ _ ⟨_, e⟩ => by omega)
/-- 'append(out, y)' at the operation, the old row's cells told. -/
theorem wpList_pushK {P : Program} {α : Type} {R : Rep α} {ops : Array Oper} {rest : List Oper} {o : Oper} {a : Act} {Q : Exit → Act → World → Prop} (hgd : o.guard = none) (s x : Operand) (t : TypeId)
    (ho : o.op = .call { callee := .builtin .append, args := #[s, x], argTypes := #[t, t] })
    (base lo : Nat) (e : TypeId) (i : TypeInfo) (z : Value) (bytes : Nat) (ht : P.underlying t = some (.slice e)) (hi : P.info? e = some i) (hz : i.zero = some z)
    (hsize : i.size = R.n) (hby : i.bytes = bytes) (hzs : z.cells.size = R.n) (hsz : 0 < R.n)
    (W : World) (g0 cap0 n : Nat) (l : List α) (hln : l.length = n) (hs : a.eval s = .slice (some ⟨g0, 0, none⟩) n cap0) (hown : Own R W base lo e l (.slice (some ⟨g0, 0, none⟩) n cap0)) (y : α) (cs : List Value) (hy : R.rel W (From W lo (some g0)) y cs) (h1 : ∀ u ∈ cs, u.oneCell' = true)
    (B : Nat) (T : TypeId) (c : Nat) (hB : W.heap[B]? = some (.cells cs.toArray T (0, 0))) (hx : a.eval x = .slice (some ⟨B, 0, none⟩) 1 c) (h63 : n + 1 ≤ maxLen) (hbytes : (n + 1) * bytes ≤ 140737488355328) (hbase : base ≤ W.heap.size)
    (h : ∀ g cap w', Own R w' base lo e (l ++ [y]) (.slice (some ⟨g, 0, none⟩) (n + 1) cap) → W.grownBy w' (some g0) → (some g0 = some g ∨ g = W.heap.size) → g < w'.heap.size → (∀ j, j < n * R.n → w'.cell? ⟨g0, j, none⟩ = W.cell? ⟨g0, j, none⟩) → wpList P ops Q rest (a.put o.dst (.slice (some ⟨g, 0, none⟩) (n + 1) cap)) w') :
    wpList P ops Q (o :: rest) a W := by
  subst hln
  obtain ⟨xs, hor, hl⟩ := hown
  have hn := R.len hy
  obtain ⟨g, cap, w', hr, h2, h3, h4, h5, h6⟩ := run_push_keeps (P := P) hor t o.type i z bytes ht hi hz hsize hby hzs hsz ⟨B, 0, none⟩ c cs (by rw [hn, Nat.one_mul]) (fun j u hj => World.news_of_block hB j u (by simpa using hj)) h1 h63 hbytes hbase
  refine wpList_plain hgd fun K hK => ?_
  unfold Oper.wp execOp
  simp only [ho, resolve, invoke, builtin, Sem.run_bind, Sem.run_pure, Result.andThen_ok, List.map_toArray, List.map_cons, List.map_nil, hs, hx, hr]
  exact hK _ _ (h g cap w' (Own.push (v := .slice (some ⟨g0, 0, none⟩) l.length cap0) (row := xs) (g := g) (H := W.heap.size) hl hy h2 h3 rfl (h4.imp id fun h => ⟨h, Nat.le_refl _⟩)) h3 h4 h5 h6)
/-- A list of one string, in the block that a literal has made. -/
theorem Own.lit1 (w : World) (e : TypeId) (x : ByteArray) : Own strR (w.alloc (.cells #[.string x] e)) w.heap.size w.heap.size e [x] (.slice (some ⟨w.heap.size, 0, none⟩) 1 1) :=
  ⟨[.string x], ⟨rfl, .inr ⟨w.heap.size, 1, #[.string x], rfl, Nat.le_refl _, heap_alloc_new w _, Nat.le_refl _, by decide, rfl, rfl⟩⟩, rfl, fun k y hk => by
    cases k with
    | zero => simp at hk; subst hk; rfl
    | succ k => simp at hk⟩
end Go.Proofs.YtodlfdfkhdfblaaGreatDoor

/- The program's functions on rolls and rates. -/
namespace Go.Proofs.YtodlfdfkhdfblaaGreatDoor
set_option linter.unusedVariables false
open Go.RowKit

set_option maxHeartbeats 400000 in
theorem isRate_c (r : Int) (w : World) : Calls Tryz.prog 120 #[.int .i64 r] w fun e w' => e = .returned (.bool (isRateB r)) ∧ w = w' := by
  by_cases h1 : 1 ≤ r
  · by_cases h2 : r ≤ 4
    · have H := Lib.hid (show isRateB r = true by simp [isRateB]; omega)
      go_enter Tryz.func120, Tryz.ntmps120
      go_wp2
      go_ret
      exact ⟨by rw [H.out]; rfl, rfl⟩
    · have H := Lib.hid (show isRateB r = false by simp [isRateB]; omega)
      go_enter Tryz.func120, Tryz.ntmps120
      go_wp2
      go_ret
      exact ⟨by rw [H.out]; rfl, rfl⟩
  · have H := Lib.hid (show isRateB r = false by simp [isRateB]; omega)
    go_enter Tryz.func120, Tryz.ntmps120
    go_wp2
    go_ret
    exact ⟨by rw [H.out]; rfl, rfl⟩

set_option maxHeartbeats 400000 in
theorem counted_c (r : Int) (w : World) (h : isRateB r = true) : Calls Tryz.prog 165 #[.int .i64 r] w fun e w' => e = .returned (.int .i64 (countedN r)) ∧ w = w' := by
  rcases rate_cases h with rfl | rfl | rfl | rfl
  all_goals
    clear h
    have i1 : ∀ w, (Instr.index 208 (.agg #[.int .i64 0, .int .i64 24, .int .i64 25, .int .i64 30, .int .i64 30]) (.int .i64 1)).run Tryz.prog w = .ok (.int .i64 24) w := fun _ => by kernel_rfl
    have i2 : ∀ w, (Instr.index 208 (.agg #[.int .i64 0, .int .i64 24, .int .i64 25, .int .i64 30, .int .i64 30]) (.int .i64 2)).run Tryz.prog w = .ok (.int .i64 25) w := fun _ => by kernel_rfl
    have i3 : ∀ w, (Instr.index 208 (.agg #[.int .i64 0, .int .i64 24, .int .i64 25, .int .i64 30, .int .i64 30]) (.int .i64 3)).run Tryz.prog w = .ok (.int .i64 30) w := fun _ => by kernel_rfl
    have i4 : ∀ w, (Instr.index 208 (.agg #[.int .i64 0, .int .i64 24, .int .i64 25, .int .i64 30, .int .i64 30]) (.int .i64 4)).run Tryz.prog w = .ok (.int .i64 30) w := fun _ => by kernel_rfl
    go_enter Tryz.func165, Tryz.ntmps165
    go_wp2
    go_ret
    exact ⟨rfl, rfl⟩

set_option maxHeartbeats 400000 in
theorem frames_c (r : Int) (w : World) (h : isRateB r = true) : Calls Tryz.prog 121 #[.int .i64 r] w fun e w' => e = .returned (.int .i64 (framesN r)) ∧ w = w' := by
  rcases rate_cases h with rfl | rfl | rfl | rfl
  all_goals
    clear h
    have e1 : countedN 1 = 24 := rfl
    have e2 : countedN 2 = 25 := rfl
    have e3 : countedN 3 = 30 := rfl
    go_enter Tryz.func121, Tryz.ntmps121
    go_wp2_with (go_at_call 165; refine (counted_c _ _ (by decide)).mono ?_; rintro e w' ⟨rfl, rfl⟩)
    go_ret
    exact ⟨rfl, rfl⟩

end Go.Proofs.YtodlfdfkhdfblaaGreatDoor

/- The program's functions on rolls, looked up and checked. -/
namespace Go.Proofs.YtodlfdfkhdfblaaGreatDoor
set_option linter.unusedVariables false
open Go.RowKit

set_option maxHeartbeats 400000 in
theorem idxRoll_c (A : Option Addr) (l : List Roll) (c g lo : Nat) (cb : Array Value) (p : Roll → Bool) (w : World) (hr : Rs w lo w.heap.size 5 Roll.cells A l) (hlen : l.length ≤ 140737488355328)
    (hp : PredC Tryz.prog g cb Roll.val p w) :
    Calls Tryz.prog 122 #[.slice A l.length c, .func (.func g) #[] cb] w fun e w' => e = .returned (.int .i64 (idxV (l.findIdx? p))) ∧ Below w.heap.size w w' := by
  have eg := hp.1
  have HP := Lib.hid hp.2; clear hp
  go_enter Tryz.func122, Tryz.ntmps122
  go_wp2
  go_loopw [5, 8] (fun v i wr => ∃ k : Nat, k ≤ l.length ∧ i = .int .i64 k ∧ Below w.heap.size w wr ∧ Hid (∀ x ∈ l.take k, p x = false)) (fun _ i _ => l.length - (intOf i).toNat)
  case atStart => exact ⟨0, Nat.zero_le _, rfl, Below.refl _ _, by intro x hx; simp at hx⟩
  case round =>
    obtain ⟨k, hk, rfl, hb, HN⟩ := hrel
    by_cases hlt : k < l.length
    · obtain ⟨b, off, rfl, _, hbl, hc⟩ := (hr.below hb (Nat.le_refl _)).at_ hlt
      have c0 : wr.cell? ⟨b, off + k * 5, none⟩ = _ := hc 0 _ rfl
      have c1 := hc 1 _ rfl
      have c2 := hc 2 _ rfl
      have c3 := hc 3 _ rfl
      have c4 := hc 4 _ rfl
      clear hc
      cases hv : p l[k]
      all_goals
        have HV := Lib.hid hv; clear hv
        go_wp2_with fail
        refine (HP.out l[k] wr hb).mono ?_
        rintro e w' ⟨rfl, hb'⟩
        rw [HV.out]
        go_wp2
      · go_roundw
        case rel => exact ⟨k + 1, by omega, intNum, hb.trans (hb'.mono hb.size), take_next hlt HN.out HV.out⟩
        case measure => simp [intOf]; omega
      · go_ret
        have H := findIdx_at HN.out hlt HV.out
        exact ⟨by rw [H]; rfl, hb.trans (hb'.mono hb.size)⟩
    · go_wp2
      go_ret
      have H := findIdx_no (take_all hlt HN.out)
      exact ⟨by rw [H]; rfl, hb⟩

/-- A variable's own cell keeps what it holds. -/
theorem cellC {w W : World} {b : Nat} {v : Value} (h : w.cell? ⟨b, 0, none⟩ = some v) (hb : Below w.heap.size w W) (hlt : b < w.heap.size) : W.cell? ⟨b, 0, none⟩ = some v := (hb.cell (p := ⟨b, 0, none⟩) hlt).trans h

set_option maxHeartbeats 400000 in
theorem rollOf1_p (s : ByteArray) (b : Nat) (w : World) (h : w.cell? ⟨b, 0, none⟩ = some (.string s)) (hlt : b < w.heap.size) :
    PredC Tryz.prog 123 #[.pointer (some ⟨b, 0, none⟩)] Roll.val (fun y => decide (y.name = s)) w := by
  refine ⟨fun _ _ => by kernel_rfl, fun x W hb => ?_⟩
  have hc := cellC h hb hlt
  have hs := hb.size
  have hl : b < W.heap.size := by omega
  clear h hb hlt hs
  show Calls Tryz.prog _ #[.agg #[.string x.name, .int .i64 x.rate, .int .i64 x.start, .int .i64 x.long, .int .i64 x.drift], .pointer (some ⟨b, 0, none⟩)] W _
  go_enter Tryz.func123, Tryz.ntmps123
  go_wp2
  go_ret
  exact ⟨ret_bool (beqS _ _), (Below.refl _ _).alloc (Nat.le_refl _) _⟩

set_option maxHeartbeats 400000 in
theorem rollOf_c (A : Option Addr) (l : List Roll) (c lo : Nat) (s : ByteArray) (w : World) (hr : Rs w lo w.heap.size 5 Roll.cells A l) (hlen : l.length ≤ 140737488355328) :
    Calls Tryz.prog 53 #[.slice A l.length c, .string s] w fun e w' =>
      e = .returned (.tuple #[.agg #[.string (rollGet l s).name, .int .i64 (rollGet l s).rate, .int .i64 (rollGet l s).start, .int .i64 (rollGet l s).long, .int .i64 (rollGet l s).drift], .bool (rollHas l s)]) ∧ Below w.heap.size w w' := by
  have HR := Lib.hid hr; clear hr
  cases hi : rollIdx l s with
  | none =>
    have H0 := Lib.hid (show idxV (l.findIdx? fun y => decide (y.name = s)) = -1 by show idxV (rollIdx l s) = _; rw [hi]; rfl)
    have H1 := Lib.hid (show rollGet l s = Roll.zero by simp [rollGet, hi])
    have H2 := Lib.hid (show rollHas l s = false by simp [rollHas, hi])
    clear hi
    go_enter Tryz.func53, Tryz.ntmps53
    go_wp2_with fail
    refine (idxRoll_c A l c 123 lo #[.pointer (some ⟨w.heap.size, 0, none⟩)] (fun y => decide (y.name = s)) _
      (((HR.out.alloc (Nat.le_refl _) _).alloc (by simp) _).more (Nat.le_refl _) (by simp; omega)) hlen (rollOf1_p s w.heap.size _ (by go_simp) (by simp; omega))).mono ?_
    rintro e w' ⟨rfl, hb⟩
    rw [H0.out]
    have HB := Lib.hid ((((Below.refl w.heap.size w).alloc (Nat.le_refl _) _).alloc (by simp) _).trans (hb.mono (by simp; omega)))
    obtain ⟨hc, hf⟩ := bcell hb
    clear hb
    go_wp2
    refine bodyPost_ret (v := .tuple #[.agg #[.string ⟨#[]⟩, .int .i64 0, .int .i64 0, .int .i64 0, .int .i64 0], .bool false]) (by simp [results, Tryz.results53, go_sem, hc]) rfl ⟨?_, ?_⟩
    · rw [H1.out, H2.out]; rfl
    · repeat' refine Below.setCell ?_ (by simp) _
      exact HB.out
  | some k =>
    have hk := rollIdx_lt hi
    have H0 := Lib.hid (show idxV (l.findIdx? fun y => decide (y.name = s)) = (k : Int) by show idxV (rollIdx l s) = _; rw [hi]; rfl)
    have H1 := Lib.hid (show rollGet l s = l[k] by simp [rollGet, hi, hk])
    have H2 := Lib.hid (show rollHas l s = true by simp [rollHas, hi])
    clear hi
    go_enter Tryz.func53, Tryz.ntmps53
    go_wp2_with fail
    refine (idxRoll_c A l c 123 lo #[.pointer (some ⟨w.heap.size, 0, none⟩)] (fun y => decide (y.name = s)) _
      (((HR.out.alloc (Nat.le_refl _) _).alloc (by simp) _).more (Nat.le_refl _) (by simp; omega)) hlen (rollOf1_p s w.heap.size _ (by go_simp) (by simp; omega))).mono ?_
    rintro e w' ⟨rfl, hb⟩
    rw [H0.out]
    obtain ⟨b, off, rfl, _, hbl, hc⟩ := (((HR.out.alloc (Nat.le_refl _) _).alloc (by simp) _).below hb (by simp; omega)).at_ hk
    have c0 : w'.cell? ⟨b, off + k * 5, none⟩ = _ := hc 0 _ rfl
    have c1 := hc 1 _ rfl
    have c2 := hc 2 _ rfl
    have c3 := hc 3 _ rfl
    have c4 := hc 4 _ rfl
    clear hc
    have HB := Lib.hid ((((Below.refl w.heap.size w).alloc (Nat.le_refl _) _).alloc (by simp) _).trans (hb.mono (by simp; omega)))
    obtain ⟨hc, hf⟩ := bcell hb
    clear hb
    go_wp2
    refine bodyPost_ret (v := .tuple #[.agg #[.string l[k].name, .int .i64 l[k].rate, .int .i64 l[k].start, .int .i64 l[k].long, .int .i64 l[k].drift], .bool true]) (by simp [results, Tryz.results53, go_sem, hc]) rfl ⟨?_, ?_⟩
    · rw [H1.out, H2.out]
    · repeat' refine Below.setCell ?_ (by simp) _
      exact HB.out
end Go.Proofs.YtodlfdfkhdfblaaGreatDoor

/- Scripts as they lie in memory. No program in sight. -/
namespace Go.Proofs.YtodlfdfkhdfblaaGreatDoor
set_option linter.unusedVariables false
open Go.RowKit

structure Para where
  kind : Int
  text : ByteArray
structure Scene where
  no : ByteArray
  place : Int
  set : ByteArray
  time : Int
  paras : List Para
structure Script where
  title : ByteArray
  scenes : List Scene

def Para.cells (p : Para) : List Value := [.int .i64 p.kind, .string p.text]
def paraR : Rep Para := Rep.flat 2 Para.cells (fun _ => rfl)
def Scene.cells (s : Scene) (v : Value) : List Value := [.string s.no, .int .i64 s.place, .string s.set, .int .i64 s.time, v]
def sceneR : Rep Scene :=
  ⟨5, fun w F s cs => ∃ v, cs = s.cells v ∧ Sli paraR w F s.paras v, fun h => by obtain ⟨v, rfl, _⟩ := h; rfl, fun h hk => by obtain ⟨v, e, h⟩ := h; exact ⟨v, e, h.keep hk⟩, fun h hk => by obtain ⟨v, e, h⟩ := h; exact ⟨v, e, h.more hk⟩⟩
/-- The cells of element k of a slice of scenes. -/
theorem scene_at {w : World} {F : Nat → Prop} {l : List Scene} {A : Option Addr} {n c : Nat} (h : Sli sceneR w F l (.slice A n c)) (k : Nat) (hk : k < l.length) :
    ∃ b off v, A = some ⟨b, off, none⟩ ∧ F b ∧ Sli paraR w F l[k].paras v ∧ w.cell? ⟨b, off + k * 5, none⟩ = some (.string l[k].no) ∧ w.cell? ⟨b, off + k * 5 + 1, none⟩ = some (.int .i64 l[k].place) ∧ w.cell? ⟨b, off + k * 5 + 2, none⟩ = some (.string l[k].set)
      ∧ w.cell? ⟨b, off + k * 5 + 3, none⟩ = some (.int .i64 l[k].time) ∧ w.cell? ⟨b, off + k * 5 + 4, none⟩ = some v := by
  obtain ⟨b, off, a, ea, hb, ⟨v, e, hv⟩, hc⟩ := h.at_ k hk
  subst e
  exact ⟨b, off, v, ea, hb, hv, hc 0 _ rfl, hc 1 _ rfl, hc 2 _ rfl, hc 3 _ rfl, hc 4 _ rfl⟩
theorem para_at {w : World} {F : Nat → Prop} {l : List Para} {A : Option Addr} {n c : Nat} (h : Sli paraR w F l (.slice A n c)) (k : Nat) (hk : k < l.length) :
    ∃ b off, A = some ⟨b, off, none⟩ ∧ F b ∧ w.cell? ⟨b, off + k * 2, none⟩ = some (.int .i64 l[k].kind) ∧ w.cell? ⟨b, off + k * 2 + 1, none⟩ = some (.string l[k].text) := by
  obtain ⟨b, off, a, ea, hb, e, hc⟩ := h.at_ k hk
  have e' : a = Para.cells l[k] := e
  subst e'
  exact ⟨b, off, ea, hb, hc 0 _ rfl, hc 1 _ rfl⟩
theorem str_at {w : World} {F : Nat → Prop} {l : List ByteArray} {A : Option Addr} {n c : Nat} (h : Sli strR w F l (.slice A n c)) (k : Nat) (hk : k < l.length) :
    ∃ b off, A = some ⟨b, off, none⟩ ∧ F b ∧ w.cell? ⟨b, off + k, none⟩ = some (.string l[k]) := by
  obtain ⟨b, off, a, ea, hb, e, hc⟩ := h.at_ k hk
  have e' : a = [.string l[k]] := e
  subst e'
  have := hc 0 _ rfl
  exact ⟨b, off, ea, hb, by simpa [strR, Rep.flat] using this⟩

/-- What a made script stays within. -/
def paraBd (p : Para) : Prop := -10 ≤ p.kind ∧ p.kind ≤ 20 ∧ p.text.size ≤ 10000
def sceneBd (s : Scene) : Prop := s.no.size ≤ 1000 ∧ -10 ≤ s.place ∧ s.place ≤ 20 ∧ s.set.size ≤ 1000 ∧ -10 ≤ s.time ∧ s.time ≤ 20 ∧ s.paras.length ≤ 1000 ∧ ∀ p ∈ s.paras, paraBd p
def scriptBd (x : Script) : Prop := x.title.size ≤ 1000 ∧ x.scenes.length ≤ 90 ∧ ∀ s ∈ x.scenes, sceneBd s
end Go.Proofs.YtodlfdfkhdfblaaGreatDoor

/- The shelf contracts that these proofs use, laid at this translation. -/
namespace Go.Proofs
open Go.Shelf
def Tryz.lays169_ren : Go.Shelf.Ren := ⟨fun | 169 => 100 | n => n, fun | 70 => 127 | 9 => 9 | 0 => 0 | 72 => 130 | 37 => 128 | 127 => 173 | 3 => 3 | 5 => 5 | n => n, fun | n => n⟩
theorem Tryz.lays169 : Go.Proofs.Lays.n169 Tryz.prog Tryz.lays169_ren := {
  mixed := by kernel_rfl
  f169 := Tryz.func100.trans (congrArg some (by kernel_rfl))
  t0 := Tryz.underlying0
  a0 := Tryz.isAgg0
  z0 := Tryz.sizeOf0
  v0 := Tryz.zeroValue0
  t3 := Tryz.underlying3
  a3 := Tryz.isAgg3
  z3 := Tryz.sizeOf3
  v3 := Tryz.zeroValue3
  t9 := Tryz.underlying9
  a9 := Tryz.isAgg9
  z9 := Tryz.sizeOf9
  v9 := Tryz.zeroValue9
  t37 := Tryz.underlying128
  a37 := Tryz.isAgg128
  z37 := Tryz.sizeOf128
  v37 := Tryz.zeroValue128
  t70 := Tryz.underlying127
  a70 := Tryz.isAgg127
  z70 := Tryz.sizeOf127
  v70 := Tryz.zeroValue127
  t72 := Tryz.underlying130
  a72 := Tryz.isAgg130
  z72 := Tryz.sizeOf130
  v72 := Tryz.zeroValue130
  t127 := Tryz.underlying173
  a127 := Tryz.isAgg173
  z127 := Tryz.sizeOf173
  v127 := Tryz.zeroValue173 }
theorem Tryz.Builder_Extra_169 : Builder.Extra Tryz.prog Tryz.lays169_ren := {
  sizeBuilder := by kernel_rfl
  liesBuilder := by kernel_rfl
  t5 := Tryz.underlying5
  a5 := Tryz.isAgg5
  z5 := Tryz.sizeOf5
  v5 := Tryz.zeroValue5
  infoByte := by kernel_rfl
  cellsByte := by kernel_rfl
  sizeByte := by kernel_rfl
  neB5 := by decide }
open Go.RowKit in
theorem Tryz.Builder_String_any (B b : Nat) (l : List UInt8) (w : World) (h : Lib.IsBuilder 130 5 B b (Lib.byteCells l) w) (hBw : B ≤ w.heap.size) :
    Calls Tryz.prog 100 #[.pointer (some ⟨b, 0, none⟩)] w fun e w' => e = .returned (.string ⟨l.toArray⟩) ∧ Below B w w' := Any.Builder_String_any Tryz.lays169 Tryz.Builder_Extra_169 B b l w h hBw
def Tryz.lays156_ren : Go.Shelf.Ren := ⟨fun | 156 => 97 | 165 => 151 | 166 => 96 | 169 => 100 | 240 => 153 | 241 => 189 | 276 => 190 | 277 => 217 | n => n, fun | 31 => 100 | 9 => 9 | 3 => 3 | 4 => 4 | 0 => 0 | 20 => 20 | 72 => 130 | 76 => 133 | 70 => 127 | 37 => 128 | 75 => 132 | 127 => 173 | 164 => 198 | 5 => 5 | 80 => 54 | n => n, fun | n => n⟩
theorem Tryz.lays156 : Go.Proofs.Lays.n156 Tryz.prog Tryz.lays156_ren := {
  mixed := by kernel_rfl
  f156 := Tryz.func97.trans (congrArg some (by kernel_rfl))
  f165 := Tryz.func151.trans (congrArg some (by kernel_rfl))
  f166 := Tryz.func96.trans (congrArg some (by kernel_rfl))
  f169 := Tryz.func100.trans (congrArg some (by kernel_rfl))
  f240 := Tryz.func153.trans (congrArg some (by kernel_rfl))
  f241 := Tryz.func189.trans (congrArg some (by kernel_rfl))
  f276 := Tryz.func190.trans (congrArg some (by kernel_rfl))
  f277 := Tryz.func217.trans (congrArg some (by kernel_rfl))
  t0 := Tryz.underlying0
  a0 := Tryz.isAgg0
  z0 := Tryz.sizeOf0
  v0 := Tryz.zeroValue0
  t3 := Tryz.underlying3
  a3 := Tryz.isAgg3
  z3 := Tryz.sizeOf3
  v3 := Tryz.zeroValue3
  t4 := Tryz.underlying4
  a4 := Tryz.isAgg4
  z4 := Tryz.sizeOf4
  v4 := Tryz.zeroValue4
  t9 := Tryz.underlying9
  a9 := Tryz.isAgg9
  z9 := Tryz.sizeOf9
  v9 := Tryz.zeroValue9
  t20 := Tryz.underlying20
  a20 := Tryz.isAgg20
  z20 := Tryz.sizeOf20
  v20 := Tryz.zeroValue20
  t31 := Tryz.underlying100
  a31 := Tryz.isAgg100
  z31 := Tryz.sizeOf100
  v31 := Tryz.zeroValue100
  t37 := Tryz.underlying128
  a37 := Tryz.isAgg128
  z37 := Tryz.sizeOf128
  v37 := Tryz.zeroValue128
  t70 := Tryz.underlying127
  a70 := Tryz.isAgg127
  z70 := Tryz.sizeOf127
  v70 := Tryz.zeroValue127
  t72 := Tryz.underlying130
  a72 := Tryz.isAgg130
  z72 := Tryz.sizeOf130
  v72 := Tryz.zeroValue130
  t75 := Tryz.underlying132
  a75 := Tryz.isAgg132
  z75 := Tryz.sizeOf132
  v75 := Tryz.zeroValue132
  t76 := Tryz.underlying133
  a76 := Tryz.isAgg133
  z76 := Tryz.sizeOf133
  v76 := Tryz.zeroValue133
  t127 := Tryz.underlying173
  a127 := Tryz.isAgg173
  z127 := Tryz.sizeOf173
  v127 := Tryz.zeroValue173
  t164 := Tryz.underlying198
  a164 := Tryz.isAgg198
  z164 := Tryz.sizeOf198
  v164 := Tryz.zeroValue198 }
theorem Tryz.Builder_Extra_156 : Builder.Extra Tryz.prog Tryz.lays156_ren := {
  sizeBuilder := by kernel_rfl
  liesBuilder := by kernel_rfl
  t5 := Tryz.underlying5
  a5 := Tryz.isAgg5
  z5 := Tryz.sizeOf5
  v5 := Tryz.zeroValue5
  infoByte := by kernel_rfl
  cellsByte := by kernel_rfl
  sizeByte := by kernel_rfl
  neB5 := by decide }
def Tryz.lays161_ren : Go.Shelf.Ren := ⟨fun | 161 => 130 | 231 => 167 | 227 => 168 | 233 => 169 | 235 => 170 | 228 => 203 | 197 => 204 | 151 => 205 | 260 => 229 | 152 => 230 | 137 => 135 | 119 => 244 | 224 => 209 | 225 => 208 | 217 => 174 | 266 => 207 | n => n, fun | 9 => 9 | 4 => 4 | 3 => 3 | 5 => 5 | 117 => 186 | 116 => 185 | 0 => 0 | 124 => 189 | 105 => 209 | 21 => 21 | 119 => 229 | 46 => 168 | 139 => 242 | 138 => 241 | n => n, fun | 3 => 5 | 4 => 6 | n => n⟩
theorem Tryz.lays161 : Go.Proofs.Lays.n161 Tryz.prog Tryz.lays161_ren := {
  mixed := by kernel_rfl
  f119 := Tryz.func244.trans (congrArg some (by kernel_rfl))
  f137 := Tryz.func135.trans (congrArg some (by kernel_rfl))
  f151 := Tryz.func205.trans (congrArg some (by kernel_rfl))
  f152 := Tryz.func230.trans (congrArg some (by kernel_rfl))
  f161 := Tryz.func130.trans (congrArg some (by kernel_rfl))
  f197 := Tryz.func204.trans (congrArg some (by kernel_rfl))
  f217 := Tryz.func174.trans (congrArg some (by kernel_rfl))
  f224 := Tryz.func209.trans (congrArg some (by kernel_rfl))
  f225 := Tryz.func208.trans (congrArg some (by kernel_rfl))
  f227 := Tryz.func168.trans (congrArg some (by kernel_rfl))
  f228 := Tryz.func203.trans (congrArg some (by kernel_rfl))
  f231 := Tryz.func167.trans (congrArg some (by kernel_rfl))
  f233 := Tryz.func169.trans (congrArg some (by kernel_rfl))
  f235 := Tryz.func170.trans (congrArg some (by kernel_rfl))
  f260 := Tryz.func229.trans (congrArg some (by kernel_rfl))
  f266 := Tryz.func207.trans (congrArg some (by kernel_rfl))
  t0 := Tryz.underlying0
  a0 := Tryz.isAgg0
  z0 := Tryz.sizeOf0
  v0 := Tryz.zeroValue0
  t3 := Tryz.underlying3
  a3 := Tryz.isAgg3
  z3 := Tryz.sizeOf3
  v3 := Tryz.zeroValue3
  t4 := Tryz.underlying4
  a4 := Tryz.isAgg4
  z4 := Tryz.sizeOf4
  v4 := Tryz.zeroValue4
  t5 := Tryz.underlying5
  a5 := Tryz.isAgg5
  z5 := Tryz.sizeOf5
  v5 := Tryz.zeroValue5
  t9 := Tryz.underlying9
  a9 := Tryz.isAgg9
  z9 := Tryz.sizeOf9
  v9 := Tryz.zeroValue9
  t21 := Tryz.underlying21
  a21 := Tryz.isAgg21
  z21 := Tryz.sizeOf21
  v21 := Tryz.zeroValue21
  t46 := Tryz.underlying168
  a46 := Tryz.isAgg168
  z46 := Tryz.sizeOf168
  v46 := Tryz.zeroValue168
  t105 := Tryz.underlying209
  a105 := Tryz.isAgg209
  z105 := Tryz.sizeOf209
  v105 := Tryz.zeroValue209
  t116 := Tryz.underlying185
  a116 := Tryz.isAgg185
  z116 := Tryz.sizeOf185
  t117 := Tryz.underlying186
  a117 := Tryz.isAgg186
  z117 := Tryz.sizeOf186
  v117 := Tryz.zeroValue186
  t119 := Tryz.underlying229
  a119 := Tryz.isAgg229
  z119 := Tryz.sizeOf229
  t124 := Tryz.underlying189
  a124 := Tryz.isAgg189
  z124 := Tryz.sizeOf189
  v124 := Tryz.zeroValue189
  t138 := Tryz.underlying241
  a138 := Tryz.isAgg241
  z138 := Tryz.sizeOf241
  v138 := Tryz.zeroValue241
  t139 := Tryz.underlying242
  a139 := Tryz.isAgg242
  z139 := Tryz.sizeOf242
  v139 := Tryz.zeroValue242
  g3 := by kernel_rfl
  g4 := by kernel_rfl }
open Go.RowKit in
theorem Tryz.strings_TrimLeft_one (s : ByteArray) (c : UInt8) (hc : c.toNat < 128) (w : World) :
    Calls Tryz.prog 130 #[.string s, .string ⟨#[c]⟩] w fun e w' => e = .returned (.string ⟨(Lib.trimLeftB s.data.toList c).toArray⟩) ∧ w' = w := Any.strings_TrimLeft_one Tryz.lays161 s c hc w
def Tryz.lays160_ren : Go.Shelf.Ren := ⟨fun | 160 => 131 | 232 => 171 | 231 => 167 | 227 => 168 | 234 => 172 | 233 => 169 | 236 => 173 | 235 => 170 | 228 => 203 | 271 => 206 | 151 => 205 | 197 => 204 | 120 => 231 | 152 => 230 | 260 => 229 | 137 => 135 | 119 => 244 | 224 => 209 | 225 => 208 | 217 => 174 | 266 => 207 | n => n, fun | 9 => 9 | 4 => 4 | 3 => 3 | 5 => 5 | 117 => 186 | 116 => 185 | 0 => 0 | 124 => 189 | 21 => 21 | 105 => 209 | 46 => 168 | 119 => 229 | 139 => 242 | 138 => 241 | n => n, fun | 3 => 5 | 4 => 6 | n => n⟩
theorem Tryz.lays160 : Go.Proofs.Lays.n160 Tryz.prog Tryz.lays160_ren := {
  mixed := by kernel_rfl
  f119 := Tryz.func244.trans (congrArg some (by kernel_rfl))
  f120 := Tryz.func231.trans (congrArg some (by kernel_rfl))
  f137 := Tryz.func135.trans (congrArg some (by kernel_rfl))
  f151 := Tryz.func205.trans (congrArg some (by kernel_rfl))
  f152 := Tryz.func230.trans (congrArg some (by kernel_rfl))
  f160 := Tryz.func131.trans (congrArg some (by kernel_rfl))
  f197 := Tryz.func204.trans (congrArg some (by kernel_rfl))
  f217 := Tryz.func174.trans (congrArg some (by kernel_rfl))
  f224 := Tryz.func209.trans (congrArg some (by kernel_rfl))
  f225 := Tryz.func208.trans (congrArg some (by kernel_rfl))
  f227 := Tryz.func168.trans (congrArg some (by kernel_rfl))
  f228 := Tryz.func203.trans (congrArg some (by kernel_rfl))
  f231 := Tryz.func167.trans (congrArg some (by kernel_rfl))
  f232 := Tryz.func171.trans (congrArg some (by kernel_rfl))
  f233 := Tryz.func169.trans (congrArg some (by kernel_rfl))
  f234 := Tryz.func172.trans (congrArg some (by kernel_rfl))
  f235 := Tryz.func170.trans (congrArg some (by kernel_rfl))
  f236 := Tryz.func173.trans (congrArg some (by kernel_rfl))
  f260 := Tryz.func229.trans (congrArg some (by kernel_rfl))
  f266 := Tryz.func207.trans (congrArg some (by kernel_rfl))
  f271 := Tryz.func206.trans (congrArg some (by kernel_rfl))
  t0 := Tryz.underlying0
  a0 := Tryz.isAgg0
  z0 := Tryz.sizeOf0
  v0 := Tryz.zeroValue0
  t3 := Tryz.underlying3
  a3 := Tryz.isAgg3
  z3 := Tryz.sizeOf3
  v3 := Tryz.zeroValue3
  t4 := Tryz.underlying4
  a4 := Tryz.isAgg4
  z4 := Tryz.sizeOf4
  v4 := Tryz.zeroValue4
  t5 := Tryz.underlying5
  a5 := Tryz.isAgg5
  z5 := Tryz.sizeOf5
  v5 := Tryz.zeroValue5
  t9 := Tryz.underlying9
  a9 := Tryz.isAgg9
  z9 := Tryz.sizeOf9
  v9 := Tryz.zeroValue9
  t21 := Tryz.underlying21
  a21 := Tryz.isAgg21
  z21 := Tryz.sizeOf21
  v21 := Tryz.zeroValue21
  t46 := Tryz.underlying168
  a46 := Tryz.isAgg168
  z46 := Tryz.sizeOf168
  v46 := Tryz.zeroValue168
  t105 := Tryz.underlying209
  a105 := Tryz.isAgg209
  z105 := Tryz.sizeOf209
  v105 := Tryz.zeroValue209
  t116 := Tryz.underlying185
  a116 := Tryz.isAgg185
  z116 := Tryz.sizeOf185
  t117 := Tryz.underlying186
  a117 := Tryz.isAgg186
  z117 := Tryz.sizeOf186
  v117 := Tryz.zeroValue186
  t119 := Tryz.underlying229
  a119 := Tryz.isAgg229
  z119 := Tryz.sizeOf229
  t124 := Tryz.underlying189
  a124 := Tryz.isAgg189
  z124 := Tryz.sizeOf189
  v124 := Tryz.zeroValue189
  t138 := Tryz.underlying241
  a138 := Tryz.isAgg241
  z138 := Tryz.sizeOf241
  v138 := Tryz.zeroValue241
  t139 := Tryz.underlying242
  a139 := Tryz.isAgg242
  z139 := Tryz.sizeOf242
  v139 := Tryz.zeroValue242
  g3 := by kernel_rfl
  g4 := by kernel_rfl }
open Go.RowKit in
theorem Tryz.strings_Trim_one (s : ByteArray) (c : UInt8) (hc : c.toNat < 128) (w : World) (hs : s.size ≤ 9223372036854775807) :
    Calls Tryz.prog 131 #[.string s, .string ⟨#[c]⟩] w fun e w' => e = .returned (.string ⟨(Lib.trimB s.data.toList c).toArray⟩) ∧ (w' = w ∨ w' = w.drew) := Any.strings_Trim_one Tryz.lays160 s c hc w hs
def Tryz.lays106_ren : Go.Shelf.Ren := ⟨fun | 106 => 164 | 213 => 202 | 265 => 228 | n => n, fun | 9 => 9 | 3 => 3 | n => n, fun | n => n⟩
theorem Tryz.lays106 : Go.Proofs.Lays.n106 Tryz.prog Tryz.lays106_ren := {
  mixed := by kernel_rfl
  f106 := Tryz.func164.trans (congrArg some (by kernel_rfl))
  f213 := Tryz.func202.trans (congrArg some (by kernel_rfl))
  f265 := Tryz.func228.trans (congrArg some (by kernel_rfl))
  t3 := Tryz.underlying3
  a3 := Tryz.isAgg3
  z3 := Tryz.sizeOf3
  v3 := Tryz.zeroValue3
  t9 := Tryz.underlying9
  a9 := Tryz.isAgg9
  z9 := Tryz.sizeOf9
  v9 := Tryz.zeroValue9 }
open Go.RowKit in
theorem Tryz.strings_Compare (a b : ByteArray) (w : World) :
    Calls Tryz.prog 164 #[.string a, .string b] w fun e w' => e = .returned (.int .i64 (Lib.compareBytes a.data.toList b.data.toList)) ∧ w' = w := Any.strings_Compare Tryz.lays106 a b w
def Tryz.lays137_ren : Go.Shelf.Ren := ⟨fun | 137 => 135 | 217 => 174 | 266 => 207 | n => n, fun | 9 => 9 | 5 => 5 | 3 => 3 | n => n, fun | n => n⟩
theorem Tryz.lays137 : Go.Proofs.Lays.n137 Tryz.prog Tryz.lays137_ren := {
  mixed := by kernel_rfl
  f137 := Tryz.func135.trans (congrArg some (by kernel_rfl))
  f217 := Tryz.func174.trans (congrArg some (by kernel_rfl))
  f266 := Tryz.func207.trans (congrArg some (by kernel_rfl))
  t3 := Tryz.underlying3
  a3 := Tryz.isAgg3
  z3 := Tryz.sizeOf3
  v3 := Tryz.zeroValue3
  t5 := Tryz.underlying5
  a5 := Tryz.isAgg5
  z5 := Tryz.sizeOf5
  v5 := Tryz.zeroValue5
  t9 := Tryz.underlying9
  a9 := Tryz.isAgg9
  z9 := Tryz.sizeOf9
  v9 := Tryz.zeroValue9 }
open Go.RowKit in
theorem Tryz.strings_IndexByte (s : ByteArray) (c : Int) (w : World) :
    Calls Tryz.prog 135 #[.string s, .int .u8 c] w fun e w' => e = .returned (.int .i64 (Lib.indexByte s.data.toList c.toNat.toUInt8)) ∧ w' = w := Any.strings_IndexByte Tryz.lays137 s c w
def Tryz.lays103_ren : Go.Shelf.Ren := ⟨fun | 103 => 84 | 210 => 143 | 206 => 181 | n => n, fun | 9 => 9 | 4 => 4 | 24 => 61 | 3 => 3 | n => n, fun | n => n⟩
theorem Tryz.lays103 : Go.Proofs.Lays.n103 Tryz.prog Tryz.lays103_ren := {
  mixed := by kernel_rfl
  f103 := Tryz.func84.trans (congrArg some (by kernel_rfl))
  f206 := Tryz.func181.trans (congrArg some (by kernel_rfl))
  f210 := Tryz.func143.trans (congrArg some (by kernel_rfl))
  t3 := Tryz.underlying3
  a3 := Tryz.isAgg3
  z3 := Tryz.sizeOf3
  v3 := Tryz.zeroValue3
  t4 := Tryz.underlying4
  a4 := Tryz.isAgg4
  z4 := Tryz.sizeOf4
  v4 := Tryz.zeroValue4
  t9 := Tryz.underlying9
  a9 := Tryz.isAgg9
  z9 := Tryz.sizeOf9
  v9 := Tryz.zeroValue9
  t24 := Tryz.underlying61
  a24 := Tryz.isAgg61
  z24 := Tryz.sizeOf61
  v24 := Tryz.zeroValue61 }
open Go.RowKit in
theorem Tryz.strings_CutPrefix (s p : ByteArray) (w : World) :
    Calls Tryz.prog 84 #[.string s, .string p] w fun e w' => e = .returned (.tuple #[.string ⟨(Lib.trimPrefix s.data.toList p.data.toList).toArray⟩, .bool (Lib.hasPrefix s.data.toList p.data.toList)]) ∧ w' = w := Any.strings_CutPrefix Tryz.lays103 s p w
def Tryz.lays104_ren : Go.Shelf.Ren := ⟨fun | 104 => 85 | 211 => 144 | 207 => 132 | n => n, fun | 9 => 9 | 4 => 4 | 24 => 61 | 3 => 3 | n => n, fun | n => n⟩
theorem Tryz.lays104 : Go.Proofs.Lays.n104 Tryz.prog Tryz.lays104_ren := {
  mixed := by kernel_rfl
  f104 := Tryz.func85.trans (congrArg some (by kernel_rfl))
  f207 := Tryz.func132.trans (congrArg some (by kernel_rfl))
  f211 := Tryz.func144.trans (congrArg some (by kernel_rfl))
  t3 := Tryz.underlying3
  a3 := Tryz.isAgg3
  z3 := Tryz.sizeOf3
  v3 := Tryz.zeroValue3
  t4 := Tryz.underlying4
  a4 := Tryz.isAgg4
  z4 := Tryz.sizeOf4
  v4 := Tryz.zeroValue4
  t9 := Tryz.underlying9
  a9 := Tryz.isAgg9
  z9 := Tryz.sizeOf9
  v9 := Tryz.zeroValue9
  t24 := Tryz.underlying61
  a24 := Tryz.isAgg61
  z24 := Tryz.sizeOf61
  v24 := Tryz.zeroValue61 }
open Go.RowKit in
theorem Tryz.strings_CutSuffix (s p : ByteArray) (w : World) (hs : s.size ≤ 9223372036854775807) :
    Calls Tryz.prog 85 #[.string s, .string p] w fun e w' => e = .returned (.tuple #[.string ⟨(Lib.trimSuffix s.data.toList p.data.toList).toArray⟩, .bool (Lib.hasSuffix s.data.toList p.data.toList)]) ∧ w' = w := Any.strings_CutSuffix Tryz.lays104 s p w hs
def Tryz.lays122_ren : Go.Shelf.Ren := ⟨fun | 122 => 163 | 215 => 201 | n => n, fun | 3 => 3 | 4 => 4 | n => n, fun | n => n⟩
theorem Tryz.lays122 : Go.Proofs.Lays.n122 Tryz.prog Tryz.lays122_ren := {
  mixed := by kernel_rfl
  f122 := Tryz.func163.trans (congrArg some (by kernel_rfl))
  f215 := Tryz.func201.trans (congrArg some (by kernel_rfl))
  t3 := Tryz.underlying3
  a3 := Tryz.isAgg3
  z3 := Tryz.sizeOf3
  v3 := Tryz.zeroValue3
  t4 := Tryz.underlying4
  a4 := Tryz.isAgg4
  z4 := Tryz.sizeOf4
  v4 := Tryz.zeroValue4 }
open Go.RowKit in
theorem Tryz.cmp_Compare_int (x y : Int) (w : World) :
    Calls Tryz.prog 163 #[.int .i64 x, .int .i64 y] w fun e w' => e = .returned (.int .i64 (Lib.compareInt x y)) ∧ w' = w := Any.cmp_Compare_int Tryz.lays122 x y w
def Tryz.laysM171_ren : Go.Shelf.Ren := ⟨fun | 171 => 98 | 243 => 154 | 246 => 191 | 283 => 218 | 284 => 219 | 285 => 220 | 286 => 221 | 129 => 238 | 317 => 237 | 318 => 239 | 319 => 240 | 320 => 241 | 337 => 247 | 338 => 248 | n => n, fun | 3 => 3 | 9 => 9 | 2 => 2 | 4 => 4 | 171 => 216 | 0 => 0 | 53 => 195 | 37 => 128 | 5 => 5 | 173 => 219 | 212 => 233 | 51 => 190 | 20 => 20 | 213 => 234 | 46 => 168 | 232 => 260 | 233 => 261 | n => n, fun | 17 => 4 | 18 => 8 | 19 => 9 | n => n⟩
theorem Tryz.laysM171 : Go.Proofs.LaysM.n171 Tryz.prog Tryz.laysM171_ren := {
  mixed := by kernel_rfl
  f129 := Tryz.func238.trans (congrArg some (by kernel_rfl))
  f171 := Tryz.func98.trans (congrArg some (by kernel_rfl))
  f243 := Tryz.func154.trans (congrArg some (by kernel_rfl))
  f246 := Tryz.func191.trans (congrArg some (by kernel_rfl))
  f283 := Tryz.func218.trans (congrArg some (by kernel_rfl))
  f284 := Tryz.func219.trans (congrArg some (by kernel_rfl))
  f285 := Tryz.func220.trans (congrArg some (by kernel_rfl))
  f286 := Tryz.func221.trans (congrArg some (by kernel_rfl))
  f317 := Tryz.func237.trans (congrArg some (by kernel_rfl))
  f318 := Tryz.func239.trans (congrArg some (by kernel_rfl))
  f319 := Tryz.func240.trans (congrArg some (by kernel_rfl))
  f320 := Tryz.func241.trans (congrArg some (by kernel_rfl))
  f337 := Tryz.func247.trans (congrArg some (by kernel_rfl))
  f338 := Tryz.func248.trans (congrArg some (by kernel_rfl))
  t0 := Tryz.underlying0
  a0 := Tryz.isAgg0
  z0 := Tryz.sizeOf0
  v0 := Tryz.zeroValue0
  t2 := Tryz.underlying2
  a2 := Tryz.isAgg2
  z2 := Tryz.sizeOf2
  v2 := Tryz.zeroValue2
  t3 := Tryz.underlying3
  a3 := Tryz.isAgg3
  z3 := Tryz.sizeOf3
  v3 := Tryz.zeroValue3
  t4 := Tryz.underlying4
  a4 := Tryz.isAgg4
  z4 := Tryz.sizeOf4
  v4 := Tryz.zeroValue4
  t5 := Tryz.underlying5
  a5 := Tryz.isAgg5
  z5 := Tryz.sizeOf5
  v5 := Tryz.zeroValue5
  t9 := Tryz.underlying9
  a9 := Tryz.isAgg9
  z9 := Tryz.sizeOf9
  v9 := Tryz.zeroValue9
  t20 := Tryz.underlying20
  a20 := Tryz.isAgg20
  z20 := Tryz.sizeOf20
  v20 := Tryz.zeroValue20
  t37 := Tryz.underlying128
  a37 := Tryz.isAgg128
  z37 := Tryz.sizeOf128
  v37 := Tryz.zeroValue128
  t46 := Tryz.underlying168
  a46 := Tryz.isAgg168
  z46 := Tryz.sizeOf168
  v46 := Tryz.zeroValue168
  t51 := Tryz.underlying190
  a51 := Tryz.isAgg190
  z51 := Tryz.sizeOf190
  v51 := Tryz.zeroValue190
  t53 := Tryz.underlying195
  a53 := Tryz.isAgg195
  z53 := Tryz.sizeOf195
  v53 := Tryz.zeroValue195
  t171 := Tryz.underlying216
  a171 := Tryz.isAgg216
  z171 := Tryz.sizeOf216
  v171 := Tryz.zeroValue216
  t173 := Tryz.underlying219
  a173 := Tryz.isAgg219
  z173 := Tryz.sizeOf219
  v173 := Tryz.zeroValue219
  t212 := Tryz.underlying233
  a212 := Tryz.isAgg233
  z212 := Tryz.sizeOf233
  v212 := Tryz.zeroValue233
  t213 := Tryz.underlying234
  a213 := Tryz.isAgg234
  z213 := Tryz.sizeOf234
  t232 := Tryz.underlying260
  a232 := Tryz.isAgg260
  z232 := Tryz.sizeOf260
  v232 := Tryz.zeroValue260
  t233 := Tryz.underlying261
  a233 := Tryz.isAgg261
  z233 := Tryz.sizeOf261
  v233 := Tryz.zeroValue261
  g17 := by kernel_rfl
  g18 := by kernel_rfl
  g19 := by kernel_rfl
  i0 := by kernel_rfl
  i2 := by kernel_rfl
  i3 := by kernel_rfl
  i4 := by kernel_rfl
  i5 := by kernel_rfl
  i9 := by kernel_rfl
  i20 := by kernel_rfl
  i37 := by kernel_rfl
  i46 := by kernel_rfl
  i51 := by kernel_rfl
  i53 := by kernel_rfl
  i171 := by kernel_rfl
  i173 := by kernel_rfl
  i212 := by kernel_rfl
  i232 := by kernel_rfl
  i233 := by kernel_rfl
  m17 := by kernel_rfl
  m18 := by kernel_rfl
  m19 := by kernel_rfl }
def Tryz.lays171_ren : Go.Shelf.Ren := ⟨fun | 171 => 98 | 243 => 154 | 246 => 191 | 283 => 218 | 284 => 219 | 285 => 220 | 286 => 221 | 129 => 238 | 317 => 237 | 318 => 239 | 319 => 240 | 320 => 241 | 337 => 247 | 338 => 248 | n => n, fun | 3 => 3 | 9 => 9 | 2 => 2 | 4 => 4 | 171 => 216 | 0 => 0 | 53 => 195 | 37 => 128 | 5 => 5 | 173 => 219 | 212 => 233 | 51 => 190 | 20 => 20 | 213 => 234 | 46 => 168 | 232 => 260 | 233 => 261 | n => n, fun | 17 => 4 | 18 => 8 | 19 => 9 | n => n⟩
theorem Tryz.lays171 : Go.Proofs.Lays.n171 Tryz.prog Tryz.lays171_ren := {
  mixed := by kernel_rfl
  f129 := Tryz.func238.trans (congrArg some (by kernel_rfl))
  f171 := Tryz.func98.trans (congrArg some (by kernel_rfl))
  f243 := Tryz.func154.trans (congrArg some (by kernel_rfl))
  f246 := Tryz.func191.trans (congrArg some (by kernel_rfl))
  f283 := Tryz.func218.trans (congrArg some (by kernel_rfl))
  f284 := Tryz.func219.trans (congrArg some (by kernel_rfl))
  f285 := Tryz.func220.trans (congrArg some (by kernel_rfl))
  f286 := Tryz.func221.trans (congrArg some (by kernel_rfl))
  f317 := Tryz.func237.trans (congrArg some (by kernel_rfl))
  f318 := Tryz.func239.trans (congrArg some (by kernel_rfl))
  f319 := Tryz.func240.trans (congrArg some (by kernel_rfl))
  f320 := Tryz.func241.trans (congrArg some (by kernel_rfl))
  f337 := Tryz.func247.trans (congrArg some (by kernel_rfl))
  f338 := Tryz.func248.trans (congrArg some (by kernel_rfl))
  t0 := Tryz.underlying0
  a0 := Tryz.isAgg0
  z0 := Tryz.sizeOf0
  v0 := Tryz.zeroValue0
  t2 := Tryz.underlying2
  a2 := Tryz.isAgg2
  z2 := Tryz.sizeOf2
  v2 := Tryz.zeroValue2
  t3 := Tryz.underlying3
  a3 := Tryz.isAgg3
  z3 := Tryz.sizeOf3
  v3 := Tryz.zeroValue3
  t4 := Tryz.underlying4
  a4 := Tryz.isAgg4
  z4 := Tryz.sizeOf4
  v4 := Tryz.zeroValue4
  t5 := Tryz.underlying5
  a5 := Tryz.isAgg5
  z5 := Tryz.sizeOf5
  v5 := Tryz.zeroValue5
  t9 := Tryz.underlying9
  a9 := Tryz.isAgg9
  z9 := Tryz.sizeOf9
  v9 := Tryz.zeroValue9
  t20 := Tryz.underlying20
  a20 := Tryz.isAgg20
  z20 := Tryz.sizeOf20
  v20 := Tryz.zeroValue20
  t37 := Tryz.underlying128
  a37 := Tryz.isAgg128
  z37 := Tryz.sizeOf128
  v37 := Tryz.zeroValue128
  t46 := Tryz.underlying168
  a46 := Tryz.isAgg168
  z46 := Tryz.sizeOf168
  v46 := Tryz.zeroValue168
  t51 := Tryz.underlying190
  a51 := Tryz.isAgg190
  z51 := Tryz.sizeOf190
  v51 := Tryz.zeroValue190
  t53 := Tryz.underlying195
  a53 := Tryz.isAgg195
  z53 := Tryz.sizeOf195
  v53 := Tryz.zeroValue195
  t171 := Tryz.underlying216
  a171 := Tryz.isAgg216
  z171 := Tryz.sizeOf216
  v171 := Tryz.zeroValue216
  t173 := Tryz.underlying219
  a173 := Tryz.isAgg219
  z173 := Tryz.sizeOf219
  v173 := Tryz.zeroValue219
  t212 := Tryz.underlying233
  a212 := Tryz.isAgg233
  z212 := Tryz.sizeOf233
  v212 := Tryz.zeroValue233
  t213 := Tryz.underlying234
  a213 := Tryz.isAgg234
  z213 := Tryz.sizeOf234
  t232 := Tryz.underlying260
  a232 := Tryz.isAgg260
  z232 := Tryz.sizeOf260
  v232 := Tryz.zeroValue260
  t233 := Tryz.underlying261
  a233 := Tryz.isAgg261
  z233 := Tryz.sizeOf261
  v233 := Tryz.zeroValue261
  g17 := by kernel_rfl
  g18 := by kernel_rfl
  g19 := by kernel_rfl }
open Go.RowKit Go.Sort Go.Lib in
theorem Tryz.strconv_Itoa_small (i : Nat) (hi : i < 100) (w : World) :
    Calls Tryz.prog 98 #[.int .i64 i] w fun e w' => e = .returned (.string ⟨(Lib.decDigits i).toArray⟩) ∧ w' = w := Any.strconv_Itoa_small Tryz.lays171 i hi w
def Tryz.laysC172_ren : Go.Shelf.Ren := ⟨fun | 172 => 116 | 244 => 160 | 245 => 161 | 247 => 196 | 279 => 197 | 280 => 198 | 281 => 199 | 282 => 200 | 287 => 225 | 316 => 226 | 171 => 98 | 205 => 227 | 321 => 242 | 322 => 243 | 243 => 154 | 246 => 191 | 283 => 218 | 284 => 219 | 285 => 220 | 286 => 221 | 129 => 238 | 317 => 237 | 318 => 239 | 319 => 240 | 320 => 241 | 337 => 247 | 338 => 248 | n => n, fun | 9 => 9 | 3 => 3 | 75 => 132 | 76 => 133 | 4 => 4 | 5 => 5 | 167 => 202 | 37 => 128 | 0 => 0 | 85 => 203 | 2 => 2 | 168 => 205 | 53 => 195 | 175 => 222 | 46 => 168 | 210 => 226 | 127 => 173 | 145 => 239 | 143 => 237 | 21 => 21 | 171 => 216 | 173 => 219 | 212 => 233 | 51 => 190 | 20 => 20 | 213 => 234 | 232 => 260 | 233 => 261 | 80 => 54 | n => n, fun | 15 => 1 | 16 => 2 | 17 => 4 | 18 => 8 | 19 => 9 | n => n⟩
theorem Tryz.laysC172 : Go.Proofs.LaysC.n172 Tryz.prog Tryz.laysC172_ren := {
  mixed := by kernel_rfl
  f129 := Tryz.func238.trans (congrArg some (by kernel_rfl))
  f171 := Tryz.func98.trans (congrArg some (by kernel_rfl))
  f172 := Tryz.func116.trans (congrArg some (by kernel_rfl))
  f205 := Tryz.func227.trans (congrArg some (by kernel_rfl))
  f243 := Tryz.func154.trans (congrArg some (by kernel_rfl))
  f244 := Tryz.func160.trans (congrArg some (by kernel_rfl))
  f245 := Tryz.func161.trans (congrArg some (by kernel_rfl))
  f246 := Tryz.func191.trans (congrArg some (by kernel_rfl))
  f247 := Tryz.func196.trans (congrArg some (by kernel_rfl))
  f279 := Tryz.func197.trans (congrArg some (by kernel_rfl))
  f280 := Tryz.func198.trans (congrArg some (by kernel_rfl))
  f281 := Tryz.func199.trans (congrArg some (by kernel_rfl))
  f282 := Tryz.func200.trans (congrArg some (by kernel_rfl))
  f283 := Tryz.func218.trans (congrArg some (by kernel_rfl))
  f284 := Tryz.func219.trans (congrArg some (by kernel_rfl))
  f285 := Tryz.func220.trans (congrArg some (by kernel_rfl))
  f286 := Tryz.func221.trans (congrArg some (by kernel_rfl))
  f287 := Tryz.func225.trans (congrArg some (by kernel_rfl))
  f316 := Tryz.func226.trans (congrArg some (by kernel_rfl))
  f317 := Tryz.func237.trans (congrArg some (by kernel_rfl))
  f318 := Tryz.func239.trans (congrArg some (by kernel_rfl))
  f319 := Tryz.func240.trans (congrArg some (by kernel_rfl))
  f320 := Tryz.func241.trans (congrArg some (by kernel_rfl))
  f321 := Tryz.func242.trans (congrArg some (by kernel_rfl))
  f322 := Tryz.func243.trans (congrArg some (by kernel_rfl))
  f337 := Tryz.func247.trans (congrArg some (by kernel_rfl))
  f338 := Tryz.func248.trans (congrArg some (by kernel_rfl))
  t0 := Tryz.underlying0
  a0 := Tryz.isAgg0
  z0 := Tryz.sizeOf0
  v0 := Tryz.zeroValue0
  t2 := Tryz.underlying2
  a2 := Tryz.isAgg2
  z2 := Tryz.sizeOf2
  v2 := Tryz.zeroValue2
  t3 := Tryz.underlying3
  a3 := Tryz.isAgg3
  z3 := Tryz.sizeOf3
  v3 := Tryz.zeroValue3
  t4 := Tryz.underlying4
  a4 := Tryz.isAgg4
  z4 := Tryz.sizeOf4
  v4 := Tryz.zeroValue4
  t5 := Tryz.underlying5
  a5 := Tryz.isAgg5
  z5 := Tryz.sizeOf5
  v5 := Tryz.zeroValue5
  t9 := Tryz.underlying9
  a9 := Tryz.isAgg9
  z9 := Tryz.sizeOf9
  v9 := Tryz.zeroValue9
  t20 := Tryz.underlying20
  a20 := Tryz.isAgg20
  z20 := Tryz.sizeOf20
  v20 := Tryz.zeroValue20
  t21 := Tryz.underlying21
  a21 := Tryz.isAgg21
  z21 := Tryz.sizeOf21
  v21 := Tryz.zeroValue21
  t37 := Tryz.underlying128
  a37 := Tryz.isAgg128
  z37 := Tryz.sizeOf128
  v37 := Tryz.zeroValue128
  t46 := Tryz.underlying168
  a46 := Tryz.isAgg168
  z46 := Tryz.sizeOf168
  v46 := Tryz.zeroValue168
  t51 := Tryz.underlying190
  a51 := Tryz.isAgg190
  z51 := Tryz.sizeOf190
  v51 := Tryz.zeroValue190
  t53 := Tryz.underlying195
  a53 := Tryz.isAgg195
  z53 := Tryz.sizeOf195
  v53 := Tryz.zeroValue195
  t75 := Tryz.underlying132
  a75 := Tryz.isAgg132
  z75 := Tryz.sizeOf132
  v75 := Tryz.zeroValue132
  t76 := Tryz.underlying133
  a76 := Tryz.isAgg133
  z76 := Tryz.sizeOf133
  v76 := Tryz.zeroValue133
  t85 := Tryz.underlying203
  a85 := Tryz.isAgg203
  z85 := Tryz.sizeOf203
  v85 := Tryz.zeroValue203
  t127 := Tryz.underlying173
  a127 := Tryz.isAgg173
  z127 := Tryz.sizeOf173
  v127 := Tryz.zeroValue173
  t143 := Tryz.underlying237
  a143 := Tryz.isAgg237
  z143 := Tryz.sizeOf237
  v143 := Tryz.zeroValue237
  t145 := Tryz.underlying239
  a145 := Tryz.isAgg239
  z145 := Tryz.sizeOf239
  v145 := Tryz.zeroValue239
  t167 := Tryz.underlying202
  a167 := Tryz.isAgg202
  z167 := Tryz.sizeOf202
  v167 := Tryz.zeroValue202
  t168 := Tryz.underlying205
  a168 := Tryz.isAgg205
  z168 := Tryz.sizeOf205
  v168 := Tryz.zeroValue205
  t171 := Tryz.underlying216
  a171 := Tryz.isAgg216
  z171 := Tryz.sizeOf216
  v171 := Tryz.zeroValue216
  t173 := Tryz.underlying219
  a173 := Tryz.isAgg219
  z173 := Tryz.sizeOf219
  v173 := Tryz.zeroValue219
  t175 := Tryz.underlying222
  a175 := Tryz.isAgg222
  z175 := Tryz.sizeOf222
  v175 := Tryz.zeroValue222
  t210 := Tryz.underlying226
  a210 := Tryz.isAgg226
  z210 := Tryz.sizeOf226
  v210 := Tryz.zeroValue226
  t212 := Tryz.underlying233
  a212 := Tryz.isAgg233
  z212 := Tryz.sizeOf233
  v212 := Tryz.zeroValue233
  t213 := Tryz.underlying234
  a213 := Tryz.isAgg234
  z213 := Tryz.sizeOf234
  t232 := Tryz.underlying260
  a232 := Tryz.isAgg260
  z232 := Tryz.sizeOf260
  v232 := Tryz.zeroValue260
  t233 := Tryz.underlying261
  a233 := Tryz.isAgg261
  z233 := Tryz.sizeOf261
  v233 := Tryz.zeroValue261
  g15 := by kernel_rfl
  g16 := by kernel_rfl
  g17 := by kernel_rfl
  g18 := by kernel_rfl
  g19 := by kernel_rfl
  t80 := Tryz.underlying54
  a80 := Tryz.isAgg54
  z80 := Tryz.sizeOf54
  v80 := Tryz.zeroValue54
  i0 := by kernel_rfl
  i2 := by kernel_rfl
  i3 := by kernel_rfl
  i4 := by kernel_rfl
  i5 := by kernel_rfl
  i9 := by kernel_rfl
  i20 := by kernel_rfl
  i21 := by kernel_rfl
  i37 := by kernel_rfl
  i46 := by kernel_rfl
  i51 := by kernel_rfl
  i53 := by kernel_rfl
  i75 := by kernel_rfl
  i76 := by kernel_rfl
  i80 := by kernel_rfl
  i85 := by kernel_rfl
  i127 := by kernel_rfl
  i143 := by kernel_rfl
  i145 := by kernel_rfl
  i167 := by kernel_rfl
  i168 := by kernel_rfl
  i171 := by kernel_rfl
  i173 := by kernel_rfl
  i175 := by kernel_rfl
  i210 := by kernel_rfl
  i212 := by kernel_rfl
  i232 := by kernel_rfl
  i233 := by kernel_rfl
  m15 := by kernel_rfl
  m16 := by kernel_rfl
  m17 := by kernel_rfl
  m18 := by kernel_rfl
  m19 := by kernel_rfl
  c0 := by kernel_rfl
  c2 := by kernel_rfl
  c3 := by kernel_rfl
  c4 := by kernel_rfl
  c5 := by kernel_rfl
  c9 := by kernel_rfl
  c20 := by kernel_rfl
  c21 := by kernel_rfl
  c37 := by kernel_rfl
  c46 := by kernel_rfl
  c51 := by kernel_rfl
  c53 := by kernel_rfl
  c75 := by kernel_rfl
  c76 := by kernel_rfl
  c80 := by kernel_rfl
  c85 := by kernel_rfl
  c127 := by kernel_rfl
  c143 := by kernel_rfl
  c145 := by kernel_rfl
  c167 := by kernel_rfl
  c168 := by kernel_rfl
  c171 := by kernel_rfl
  c173 := by kernel_rfl
  c175 := by kernel_rfl
  c210 := by kernel_rfl
  c212 := by kernel_rfl
  c213 := by kernel_rfl
  c232 := by kernel_rfl
  c233 := by kernel_rfl }
def Tryz.lays219_ren : Go.Shelf.Ren := ⟨fun | 219 => 177 | 217 => 174 | 225 => 208 | 224 => 209 | 267 => 210 | 266 => 207 | 314 => 232 | n => n, fun | 9 => 9 | 3 => 3 | 4 => 4 | 5 => 5 | 46 => 168 | 146 => 191 | 51 => 190 | n => n, fun | 1 => 0 | n => n⟩
theorem Tryz.lays219 : Go.Proofs.Lays.n219 Tryz.prog Tryz.lays219_ren := {
  mixed := by kernel_rfl
  f217 := Tryz.func174.trans (congrArg some (by kernel_rfl))
  f219 := Tryz.func177.trans (congrArg some (by kernel_rfl))
  f224 := Tryz.func209.trans (congrArg some (by kernel_rfl))
  f225 := Tryz.func208.trans (congrArg some (by kernel_rfl))
  f266 := Tryz.func207.trans (congrArg some (by kernel_rfl))
  f267 := Tryz.func210.trans (congrArg some (by kernel_rfl))
  f314 := Tryz.func232.trans (congrArg some (by kernel_rfl))
  t3 := Tryz.underlying3
  a3 := Tryz.isAgg3
  z3 := Tryz.sizeOf3
  v3 := Tryz.zeroValue3
  t4 := Tryz.underlying4
  a4 := Tryz.isAgg4
  z4 := Tryz.sizeOf4
  v4 := Tryz.zeroValue4
  t5 := Tryz.underlying5
  a5 := Tryz.isAgg5
  z5 := Tryz.sizeOf5
  v5 := Tryz.zeroValue5
  t9 := Tryz.underlying9
  a9 := Tryz.isAgg9
  z9 := Tryz.sizeOf9
  v9 := Tryz.zeroValue9
  t46 := Tryz.underlying168
  a46 := Tryz.isAgg168
  z46 := Tryz.sizeOf168
  v46 := Tryz.zeroValue168
  t51 := Tryz.underlying190
  a51 := Tryz.isAgg190
  z51 := Tryz.sizeOf190
  v51 := Tryz.zeroValue190
  t146 := Tryz.underlying191
  a146 := Tryz.isAgg191
  z146 := Tryz.sizeOf191
  v146 := Tryz.zeroValue191
  g1 := by kernel_rfl }
open Go.RowKit Go.Lib in
theorem Tryz.stringslite_Index_one (s : ByteArray) (c : UInt8) (w : World) :
    Calls Tryz.prog 177 #[.string s, .string ⟨#[c]⟩] w fun e w' => e = .returned (.int .i64 (Lib.indexByte s.data.toList c)) ∧ w' = w := Any.stringslite_Index_one Tryz.lays219 s c w
def Tryz.lays143_ren : Go.Shelf.Ren := ⟨fun | 143 => 180 | 219 => 177 | 217 => 174 | 225 => 208 | 224 => 209 | 267 => 210 | 266 => 207 | 314 => 232 | n => n, fun | 9 => 9 | 3 => 3 | 4 => 4 | 5 => 5 | 46 => 168 | 146 => 191 | 51 => 190 | n => n, fun | 1 => 0 | n => n⟩
theorem Tryz.lays143 : Go.Proofs.Lays.n143 Tryz.prog Tryz.lays143_ren := {
  mixed := by kernel_rfl
  f143 := Tryz.func180.trans (congrArg some (by kernel_rfl))
  f217 := Tryz.func174.trans (congrArg some (by kernel_rfl))
  f219 := Tryz.func177.trans (congrArg some (by kernel_rfl))
  f224 := Tryz.func209.trans (congrArg some (by kernel_rfl))
  f225 := Tryz.func208.trans (congrArg some (by kernel_rfl))
  f266 := Tryz.func207.trans (congrArg some (by kernel_rfl))
  f267 := Tryz.func210.trans (congrArg some (by kernel_rfl))
  f314 := Tryz.func232.trans (congrArg some (by kernel_rfl))
  t3 := Tryz.underlying3
  a3 := Tryz.isAgg3
  z3 := Tryz.sizeOf3
  v3 := Tryz.zeroValue3
  t4 := Tryz.underlying4
  a4 := Tryz.isAgg4
  z4 := Tryz.sizeOf4
  v4 := Tryz.zeroValue4
  t5 := Tryz.underlying5
  a5 := Tryz.isAgg5
  z5 := Tryz.sizeOf5
  v5 := Tryz.zeroValue5
  t9 := Tryz.underlying9
  a9 := Tryz.isAgg9
  z9 := Tryz.sizeOf9
  v9 := Tryz.zeroValue9
  t46 := Tryz.underlying168
  a46 := Tryz.isAgg168
  z46 := Tryz.sizeOf168
  v46 := Tryz.zeroValue168
  t51 := Tryz.underlying190
  a51 := Tryz.isAgg190
  z51 := Tryz.sizeOf190
  v51 := Tryz.zeroValue190
  t146 := Tryz.underlying191
  a146 := Tryz.isAgg191
  z146 := Tryz.sizeOf191
  v146 := Tryz.zeroValue191
  g1 := by kernel_rfl }
open Go.RowKit Go.Lib in
theorem Tryz.strings_Index_one (s : ByteArray) (c : UInt8) (w : World) :
    Calls Tryz.prog 180 #[.string s, .string ⟨#[c]⟩] w fun e w' => e = .returned (.int .i64 (Lib.indexByte s.data.toList c)) ∧ w' = w := Any.strings_Index_one Tryz.lays143 s c w
def Tryz.lays144_ren : Go.Shelf.Ren := ⟨fun | 144 => 142 | 143 => 180 | 219 => 177 | 217 => 174 | 225 => 208 | 224 => 209 | 267 => 210 | 266 => 207 | 314 => 232 | n => n, fun | 9 => 9 | 4 => 4 | 3 => 3 | 5 => 5 | 46 => 168 | 146 => 191 | 51 => 190 | n => n, fun | 1 => 0 | n => n⟩
theorem Tryz.lays144 : Go.Proofs.Lays.n144 Tryz.prog Tryz.lays144_ren := {
  mixed := by kernel_rfl
  f143 := Tryz.func180.trans (congrArg some (by kernel_rfl))
  f144 := Tryz.func142.trans (congrArg some (by kernel_rfl))
  f217 := Tryz.func174.trans (congrArg some (by kernel_rfl))
  f219 := Tryz.func177.trans (congrArg some (by kernel_rfl))
  f224 := Tryz.func209.trans (congrArg some (by kernel_rfl))
  f225 := Tryz.func208.trans (congrArg some (by kernel_rfl))
  f266 := Tryz.func207.trans (congrArg some (by kernel_rfl))
  f267 := Tryz.func210.trans (congrArg some (by kernel_rfl))
  f314 := Tryz.func232.trans (congrArg some (by kernel_rfl))
  t3 := Tryz.underlying3
  a3 := Tryz.isAgg3
  z3 := Tryz.sizeOf3
  v3 := Tryz.zeroValue3
  t4 := Tryz.underlying4
  a4 := Tryz.isAgg4
  z4 := Tryz.sizeOf4
  v4 := Tryz.zeroValue4
  t5 := Tryz.underlying5
  a5 := Tryz.isAgg5
  z5 := Tryz.sizeOf5
  v5 := Tryz.zeroValue5
  t9 := Tryz.underlying9
  a9 := Tryz.isAgg9
  z9 := Tryz.sizeOf9
  v9 := Tryz.zeroValue9
  t46 := Tryz.underlying168
  a46 := Tryz.isAgg168
  z46 := Tryz.sizeOf168
  v46 := Tryz.zeroValue168
  t51 := Tryz.underlying190
  a51 := Tryz.isAgg190
  z51 := Tryz.sizeOf190
  v51 := Tryz.zeroValue190
  t146 := Tryz.underlying191
  a146 := Tryz.isAgg191
  z146 := Tryz.sizeOf191
  v146 := Tryz.zeroValue191
  g1 := by kernel_rfl }
open Go.RowKit Go.Lib in
theorem Tryz.strings_Contains_one (s : ByteArray) (c : UInt8) (w : World) :
    Calls Tryz.prog 142 #[.string s, .string ⟨#[c]⟩] w fun e w' => e = .returned (.bool (decide (0 ≤ Lib.indexByte s.data.toList c))) ∧ w' = w := Any.strings_Contains_one Tryz.lays144 s c w
def Tryz.lays99_ren : Go.Shelf.Ren := ⟨fun | 99 => 150 | 206 => 181 | n => n, fun | 9 => 9 | 4 => 4 | 3 => 3 | n => n, fun | n => n⟩
theorem Tryz.lays99 : Go.Proofs.Lays.n99 Tryz.prog Tryz.lays99_ren := {
  mixed := by kernel_rfl
  f99 := Tryz.func150.trans (congrArg some (by kernel_rfl))
  f206 := Tryz.func181.trans (congrArg some (by kernel_rfl))
  t3 := Tryz.underlying3
  a3 := Tryz.isAgg3
  z3 := Tryz.sizeOf3
  v3 := Tryz.zeroValue3
  t4 := Tryz.underlying4
  a4 := Tryz.isAgg4
  z4 := Tryz.sizeOf4
  v4 := Tryz.zeroValue4
  t9 := Tryz.underlying9
  a9 := Tryz.isAgg9
  z9 := Tryz.sizeOf9
  v9 := Tryz.zeroValue9 }
open Go.RowKit Go.Lib in
theorem Tryz.strings_HasPrefix (s p : ByteArray) (w : World) :
    Calls Tryz.prog 150 #[.string s, .string p] w fun e w' => e = .returned (.bool (Lib.hasPrefix s.data.toList p.data.toList)) ∧ w' = w := Any.strings_HasPrefix Tryz.lays99 s p w
def Tryz.lays100_ren : Go.Shelf.Ren := ⟨fun | 100 => 67 | 207 => 132 | n => n, fun | 9 => 9 | 4 => 4 | 3 => 3 | n => n, fun | n => n⟩
theorem Tryz.lays100 : Go.Proofs.Lays.n100 Tryz.prog Tryz.lays100_ren := {
  mixed := by kernel_rfl
  f100 := Tryz.func67.trans (congrArg some (by kernel_rfl))
  f207 := Tryz.func132.trans (congrArg some (by kernel_rfl))
  t3 := Tryz.underlying3
  a3 := Tryz.isAgg3
  z3 := Tryz.sizeOf3
  v3 := Tryz.zeroValue3
  t4 := Tryz.underlying4
  a4 := Tryz.isAgg4
  z4 := Tryz.sizeOf4
  v4 := Tryz.zeroValue4
  t9 := Tryz.underlying9
  a9 := Tryz.isAgg9
  z9 := Tryz.sizeOf9
  v9 := Tryz.zeroValue9 }
open Go.RowKit Go.Lib in
theorem Tryz.strings_HasSuffix (s p : ByteArray) (w : World) (hs : s.size ≤ 9223372036854775807) :
    Calls Tryz.prog 67 #[.string s, .string p] w fun e w' => e = .returned (.bool (Lib.hasSuffix s.data.toList p.data.toList)) ∧ w' = w := Any.strings_HasSuffix Tryz.lays100 s p w hs
def Tryz.lays101_ren : Go.Shelf.Ren := ⟨fun | 101 => 195 | 208 => 224 | 206 => 181 | n => n, fun | 9 => 9 | 4 => 4 | 3 => 3 | n => n, fun | n => n⟩
theorem Tryz.lays101 : Go.Proofs.Lays.n101 Tryz.prog Tryz.lays101_ren := {
  mixed := by kernel_rfl
  f101 := Tryz.func195.trans (congrArg some (by kernel_rfl))
  f206 := Tryz.func181.trans (congrArg some (by kernel_rfl))
  f208 := Tryz.func224.trans (congrArg some (by kernel_rfl))
  t3 := Tryz.underlying3
  a3 := Tryz.isAgg3
  z3 := Tryz.sizeOf3
  v3 := Tryz.zeroValue3
  t4 := Tryz.underlying4
  a4 := Tryz.isAgg4
  z4 := Tryz.sizeOf4
  v4 := Tryz.zeroValue4
  t9 := Tryz.underlying9
  a9 := Tryz.isAgg9
  z9 := Tryz.sizeOf9
  v9 := Tryz.zeroValue9 }
open Go.RowKit Go.Lib in
theorem Tryz.strings_TrimPrefix (s p : ByteArray) (w : World) :
    Calls Tryz.prog 195 #[.string s, .string p] w fun e w' => e = .returned (.string ⟨(Lib.trimPrefix s.data.toList p.data.toList).toArray⟩) ∧ w' = w := Any.strings_TrimPrefix Tryz.lays101 s p w
def Tryz.lays146_ren : Go.Shelf.Ren := ⟨fun | 146 => 107 | 221 => 155 | 268 => 192 | 138 => 193 | 143 => 180 | 195 => 222 | 197 => 204 | 218 => 223 | 219 => 177 | 260 => 229 | 217 => 174 | 225 => 208 | 224 => 209 | 267 => 210 | 266 => 207 | 314 => 232 | n => n, fun | 9 => 9 | 31 => 100 | 3 => 3 | 4 => 4 | 0 => 0 | 105 => 209 | 21 => 21 | 5 => 5 | 46 => 168 | 119 => 229 | 139 => 242 | 138 => 241 | 146 => 191 | 51 => 190 | n => n, fun | 1 => 0 | 3 => 5 | 4 => 6 | n => n⟩
theorem Tryz.lays146 : Go.Proofs.Lays.n146 Tryz.prog Tryz.lays146_ren := {
  mixed := by kernel_rfl
  f138 := Tryz.func193.trans (congrArg some (by kernel_rfl))
  f143 := Tryz.func180.trans (congrArg some (by kernel_rfl))
  f146 := Tryz.func107.trans (congrArg some (by kernel_rfl))
  f195 := Tryz.func222.trans (congrArg some (by kernel_rfl))
  f197 := Tryz.func204.trans (congrArg some (by kernel_rfl))
  f217 := Tryz.func174.trans (congrArg some (by kernel_rfl))
  f218 := Tryz.func223.trans (congrArg some (by kernel_rfl))
  f219 := Tryz.func177.trans (congrArg some (by kernel_rfl))
  f221 := Tryz.func155.trans (congrArg some (by kernel_rfl))
  f224 := Tryz.func209.trans (congrArg some (by kernel_rfl))
  f225 := Tryz.func208.trans (congrArg some (by kernel_rfl))
  f260 := Tryz.func229.trans (congrArg some (by kernel_rfl))
  f266 := Tryz.func207.trans (congrArg some (by kernel_rfl))
  f267 := Tryz.func210.trans (congrArg some (by kernel_rfl))
  f268 := Tryz.func192.trans (congrArg some (by kernel_rfl))
  f314 := Tryz.func232.trans (congrArg some (by kernel_rfl))
  t0 := Tryz.underlying0
  a0 := Tryz.isAgg0
  z0 := Tryz.sizeOf0
  v0 := Tryz.zeroValue0
  t3 := Tryz.underlying3
  a3 := Tryz.isAgg3
  z3 := Tryz.sizeOf3
  v3 := Tryz.zeroValue3
  t4 := Tryz.underlying4
  a4 := Tryz.isAgg4
  z4 := Tryz.sizeOf4
  v4 := Tryz.zeroValue4
  t5 := Tryz.underlying5
  a5 := Tryz.isAgg5
  z5 := Tryz.sizeOf5
  v5 := Tryz.zeroValue5
  t9 := Tryz.underlying9
  a9 := Tryz.isAgg9
  z9 := Tryz.sizeOf9
  v9 := Tryz.zeroValue9
  t21 := Tryz.underlying21
  a21 := Tryz.isAgg21
  z21 := Tryz.sizeOf21
  v21 := Tryz.zeroValue21
  t31 := Tryz.underlying100
  a31 := Tryz.isAgg100
  z31 := Tryz.sizeOf100
  v31 := Tryz.zeroValue100
  t46 := Tryz.underlying168
  a46 := Tryz.isAgg168
  z46 := Tryz.sizeOf168
  v46 := Tryz.zeroValue168
  t51 := Tryz.underlying190
  a51 := Tryz.isAgg190
  z51 := Tryz.sizeOf190
  v51 := Tryz.zeroValue190
  t105 := Tryz.underlying209
  a105 := Tryz.isAgg209
  z105 := Tryz.sizeOf209
  v105 := Tryz.zeroValue209
  t119 := Tryz.underlying229
  a119 := Tryz.isAgg229
  z119 := Tryz.sizeOf229
  t138 := Tryz.underlying241
  a138 := Tryz.isAgg241
  z138 := Tryz.sizeOf241
  v138 := Tryz.zeroValue241
  t139 := Tryz.underlying242
  a139 := Tryz.isAgg242
  z139 := Tryz.sizeOf242
  v139 := Tryz.zeroValue242
  t146 := Tryz.underlying191
  a146 := Tryz.isAgg191
  z146 := Tryz.sizeOf191
  v146 := Tryz.zeroValue191
  g1 := by kernel_rfl
  g3 := by kernel_rfl
  g4 := by kernel_rfl }
open Go.RowKit Go.Lib in
theorem Tryz.strings_Split (s sep : ByteArray) (m : Int) (w : World) (hs : s.size < 4294967281) (hm : w.cell? ⟨0, 0, none⟩ = some (.int .i64 m)) (h1 : 1 ≤ sep.size) :
    Calls Tryz.prog 107 #[.string s, .string sep] w fun e w' =>
      e = .returned (.slice (some ⟨w.heap.size, 0, none⟩) (Lib.countB s sep + 1) (Lib.countB s sep + 1)) ∧ w' = w.alloc (.cells ((Lib.splitB sep 0 (Lib.countB s sep) s).map Value.string).toArray 9) := Any.strings_Split Tryz.lays146 (by kernel_rfl) s sep m w hs hm h1
def Tryz.laysM157_ren : Go.Shelf.Ren := ⟨fun | 157 => 211 | 229 => 233 | 199 => 234 | 261 => 245 | 311 => 249 | 312 => 250 | n => n, fun | 9 => 9 | 31 => 100 | 3 => 3 | 5 => 5 | 4 => 4 | 119 => 229 | 0 => 0 | 40 => 231 | 152 => 243 | 21 => 21 | 154 => 245 | 51 => 190 | 141 => 247 | 196 => 252 | 193 => 249 | 198 => 255 | 49 => 253 | 194 => 250 | 201 => 258 | 226 => 262 | 46 => 168 | 227 => 263 | n => n, fun | 0 => 3 | 6 => 7 | n => n⟩
theorem Tryz.laysM157 : Go.Proofs.LaysM.n157 Tryz.prog Tryz.laysM157_ren := {
  mixed := by kernel_rfl
  f157 := Tryz.func211.trans (congrArg some (by kernel_rfl))
  f199 := Tryz.func234.trans (congrArg some (by kernel_rfl))
  f229 := Tryz.func233.trans (congrArg some (by kernel_rfl))
  f261 := Tryz.func245.trans (congrArg some (by kernel_rfl))
  f311 := Tryz.func249.trans (congrArg some (by kernel_rfl))
  f312 := Tryz.func250.trans (congrArg some (by kernel_rfl))
  t0 := Tryz.underlying0
  a0 := Tryz.isAgg0
  z0 := Tryz.sizeOf0
  v0 := Tryz.zeroValue0
  t3 := Tryz.underlying3
  a3 := Tryz.isAgg3
  z3 := Tryz.sizeOf3
  v3 := Tryz.zeroValue3
  t4 := Tryz.underlying4
  a4 := Tryz.isAgg4
  z4 := Tryz.sizeOf4
  v4 := Tryz.zeroValue4
  t5 := Tryz.underlying5
  a5 := Tryz.isAgg5
  z5 := Tryz.sizeOf5
  v5 := Tryz.zeroValue5
  t9 := Tryz.underlying9
  a9 := Tryz.isAgg9
  z9 := Tryz.sizeOf9
  v9 := Tryz.zeroValue9
  t21 := Tryz.underlying21
  a21 := Tryz.isAgg21
  z21 := Tryz.sizeOf21
  v21 := Tryz.zeroValue21
  t31 := Tryz.underlying100
  a31 := Tryz.isAgg100
  z31 := Tryz.sizeOf100
  v31 := Tryz.zeroValue100
  t40 := Tryz.underlying231
  a40 := Tryz.isAgg231
  z40 := Tryz.sizeOf231
  v40 := Tryz.zeroValue231
  t46 := Tryz.underlying168
  a46 := Tryz.isAgg168
  z46 := Tryz.sizeOf168
  v46 := Tryz.zeroValue168
  t49 := Tryz.underlying253
  a49 := Tryz.isAgg253
  z49 := Tryz.sizeOf253
  v49 := Tryz.zeroValue253
  t51 := Tryz.underlying190
  a51 := Tryz.isAgg190
  z51 := Tryz.sizeOf190
  v51 := Tryz.zeroValue190
  t119 := Tryz.underlying229
  a119 := Tryz.isAgg229
  z119 := Tryz.sizeOf229
  t141 := Tryz.underlying247
  a141 := Tryz.isAgg247
  z141 := Tryz.sizeOf247
  v141 := Tryz.zeroValue247
  t152 := Tryz.underlying243
  a152 := Tryz.isAgg243
  z152 := Tryz.sizeOf243
  v152 := Tryz.zeroValue243
  t154 := Tryz.underlying245
  a154 := Tryz.isAgg245
  z154 := Tryz.sizeOf245
  v154 := Tryz.zeroValue245
  t193 := Tryz.underlying249
  a193 := Tryz.isAgg249
  z193 := Tryz.sizeOf249
  v193 := Tryz.zeroValue249
  t194 := Tryz.underlying250
  a194 := Tryz.isAgg250
  z194 := Tryz.sizeOf250
  v194 := Tryz.zeroValue250
  t196 := Tryz.underlying252
  a196 := Tryz.isAgg252
  z196 := Tryz.sizeOf252
  v196 := Tryz.zeroValue252
  t198 := Tryz.underlying255
  a198 := Tryz.isAgg255
  z198 := Tryz.sizeOf255
  v198 := Tryz.zeroValue255
  t201 := Tryz.underlying258
  a201 := Tryz.isAgg258
  z201 := Tryz.sizeOf258
  v201 := Tryz.zeroValue258
  t226 := Tryz.underlying262
  a226 := Tryz.isAgg262
  z226 := Tryz.sizeOf262
  v226 := Tryz.zeroValue262
  t227 := Tryz.underlying263
  a227 := Tryz.isAgg263
  z227 := Tryz.sizeOf263
  v227 := Tryz.zeroValue263
  g0 := by kernel_rfl
  g6 := by kernel_rfl
  i0 := by kernel_rfl
  i3 := by kernel_rfl
  i4 := by kernel_rfl
  i5 := by kernel_rfl
  i9 := by kernel_rfl
  i21 := by kernel_rfl
  i31 := by kernel_rfl
  i40 := by kernel_rfl
  i46 := by kernel_rfl
  i49 := by kernel_rfl
  i51 := by kernel_rfl
  i141 := by kernel_rfl
  i152 := by kernel_rfl
  i154 := by kernel_rfl
  i193 := by kernel_rfl
  i194 := by kernel_rfl
  i196 := by kernel_rfl
  i198 := by kernel_rfl
  i201 := by kernel_rfl
  i226 := by kernel_rfl
  i227 := by kernel_rfl
  m0 := by kernel_rfl
  m6 := by kernel_rfl }
open Go.RowKit Go.Lib in
theorem Tryz.strings_Fields_laid (s : ByteArray) (w : World) (hs : s.size < 4294967281) (hascii : ∀ (j : Nat) b, s.data.toList[j]? = some b → b.toNat < 128) (htab : Lib.TabIs Tryz.prog w "strings.asciiSpace" .u8 Lib.asciiSpaceTab) :
    Calls Tryz.prog 211 #[.string s] w fun e w' =>
      e = .returned (.slice (some ⟨w.heap.size, 0, none⟩) (Lib.fields s.data.toList).length (Lib.fields s.data.toList).length) ∧ w' = w.alloc (.cells ((Lib.fields s.data.toList).map fun l => Value.string ⟨l.toArray⟩).toArray 9) := Any.strings_Fields_laid Tryz.laysM157 s w hs hascii htab
def Tryz.lays150_ren : Go.Shelf.Ren := ⟨fun | 150 => 235 | 153 => 246 | 152 => 230 | 226 => 251 | 227 => 168 | 228 => 203 | 137 => 135 | 119 => 244 | 224 => 209 | 225 => 208 | 217 => 174 | 266 => 207 | n => n, fun | 9 => 9 | 4 => 4 | 3 => 3 | 5 => 5 | 21 => 21 | 117 => 186 | 116 => 185 | 0 => 0 | 46 => 168 | 124 => 189 | n => n, fun | n => n⟩
theorem Tryz.lays150 : Go.Proofs.Lays.n150 Tryz.prog Tryz.lays150_ren := {
  mixed := by kernel_rfl
  f119 := Tryz.func244.trans (congrArg some (by kernel_rfl))
  f137 := Tryz.func135.trans (congrArg some (by kernel_rfl))
  f150 := Tryz.func235.trans (congrArg some (by kernel_rfl))
  f152 := Tryz.func230.trans (congrArg some (by kernel_rfl))
  f153 := Tryz.func246.trans (congrArg some (by kernel_rfl))
  f217 := Tryz.func174.trans (congrArg some (by kernel_rfl))
  f224 := Tryz.func209.trans (congrArg some (by kernel_rfl))
  f225 := Tryz.func208.trans (congrArg some (by kernel_rfl))
  f226 := Tryz.func251.trans (congrArg some (by kernel_rfl))
  f227 := Tryz.func168.trans (congrArg some (by kernel_rfl))
  f228 := Tryz.func203.trans (congrArg some (by kernel_rfl))
  f266 := Tryz.func207.trans (congrArg some (by kernel_rfl))
  t0 := Tryz.underlying0
  a0 := Tryz.isAgg0
  z0 := Tryz.sizeOf0
  v0 := Tryz.zeroValue0
  t3 := Tryz.underlying3
  a3 := Tryz.isAgg3
  z3 := Tryz.sizeOf3
  v3 := Tryz.zeroValue3
  t4 := Tryz.underlying4
  a4 := Tryz.isAgg4
  z4 := Tryz.sizeOf4
  v4 := Tryz.zeroValue4
  t5 := Tryz.underlying5
  a5 := Tryz.isAgg5
  z5 := Tryz.sizeOf5
  v5 := Tryz.zeroValue5
  t9 := Tryz.underlying9
  a9 := Tryz.isAgg9
  z9 := Tryz.sizeOf9
  v9 := Tryz.zeroValue9
  t21 := Tryz.underlying21
  a21 := Tryz.isAgg21
  z21 := Tryz.sizeOf21
  v21 := Tryz.zeroValue21
  t46 := Tryz.underlying168
  a46 := Tryz.isAgg168
  z46 := Tryz.sizeOf168
  v46 := Tryz.zeroValue168
  t116 := Tryz.underlying185
  a116 := Tryz.isAgg185
  z116 := Tryz.sizeOf185
  t117 := Tryz.underlying186
  a117 := Tryz.isAgg186
  z117 := Tryz.sizeOf186
  v117 := Tryz.zeroValue186
  t124 := Tryz.underlying189
  a124 := Tryz.isAgg189
  z124 := Tryz.sizeOf189
  v124 := Tryz.zeroValue189 }
open Go.RowKit Go.Lib in
theorem Tryz.strings_ContainsAny_laid (s chars : ByteArray) (w : World) (hs : s.size < 4294967281) (hcs : chars.size < 4294967281) (has : ∀ (j : Nat) b, s.data.toList[j]? = some b → b.toNat < 128) (hac : ∀ (j : Nat) b, chars.data.toList[j]? = some b → b.toNat < 128) :
    Calls Tryz.prog 235 #[.string s, .string chars] w fun e w' => e = .returned (.bool (Lib.containsAny s.data.toList chars.data.toList)) ∧ Below w.heap.size w w' := Any.strings_ContainsAny_laid Tryz.lays150 (by kernel_rfl) s chars w hs hcs has hac
open Go.RowKit Go.Lib in
theorem Tryz.strings_Split_chars (s sep : ByteArray) (w : World) (h0 : sep.size = 0) (hs : s.size < 4294967281) (hascii : ∀ (j : Nat) b, s.data.toList[j]? = some b → b.toNat < 128) :
    Calls Tryz.prog 107 #[.string s, .string sep] w fun e w' =>
      e = .returned (.slice (some ⟨(w.iter s s.size).heap.size, 0, none⟩) s.size s.size) ∧ w' = (w.iter s s.size).alloc (.cells ((Lib.charsB s).map Value.string).toArray 9) := Any.strings_Split_chars Tryz.lays146 (by kernel_rfl) s sep w h0 hs hascii
def Tryz.lays105_ren : Go.Shelf.Ren := ⟨fun | 105 => 91 | 212 => 149 | 99 => 150 | 165 => 151 | 166 => 96 | 170 => 99 | 169 => 100 | 263 => 187 | 264 => 188 | 206 => 181 | 240 => 153 | 241 => 189 | 276 => 190 | 277 => 217 | n => n, fun | 9 => 9 | 3 => 3 | 4 => 4 | 20 => 20 | 0 => 0 | 46 => 168 | 109 => 169 | 5 => 5 | 72 => 130 | 76 => 133 | 51 => 190 | 146 => 191 | 53 => 195 | 148 => 196 | 70 => 127 | 37 => 128 | 75 => 132 | 127 => 173 | 164 => 198 | 80 => 54 | n => n, fun | n => n⟩
theorem Tryz.lays105 : Go.Proofs.Lays.n105 Tryz.prog Tryz.lays105_ren := {
  mixed := by kernel_rfl
  f99 := Tryz.func150.trans (congrArg some (by kernel_rfl))
  f105 := Tryz.func91.trans (congrArg some (by kernel_rfl))
  f165 := Tryz.func151.trans (congrArg some (by kernel_rfl))
  f166 := Tryz.func96.trans (congrArg some (by kernel_rfl))
  f169 := Tryz.func100.trans (congrArg some (by kernel_rfl))
  f170 := Tryz.func99.trans (congrArg some (by kernel_rfl))
  f206 := Tryz.func181.trans (congrArg some (by kernel_rfl))
  f212 := Tryz.func149.trans (congrArg some (by kernel_rfl))
  f240 := Tryz.func153.trans (congrArg some (by kernel_rfl))
  f241 := Tryz.func189.trans (congrArg some (by kernel_rfl))
  f263 := Tryz.func187.trans (congrArg some (by kernel_rfl))
  f264 := Tryz.func188.trans (congrArg some (by kernel_rfl))
  f276 := Tryz.func190.trans (congrArg some (by kernel_rfl))
  f277 := Tryz.func217.trans (congrArg some (by kernel_rfl))
  t0 := Tryz.underlying0
  a0 := Tryz.isAgg0
  z0 := Tryz.sizeOf0
  v0 := Tryz.zeroValue0
  t3 := Tryz.underlying3
  a3 := Tryz.isAgg3
  z3 := Tryz.sizeOf3
  v3 := Tryz.zeroValue3
  t4 := Tryz.underlying4
  a4 := Tryz.isAgg4
  z4 := Tryz.sizeOf4
  v4 := Tryz.zeroValue4
  t5 := Tryz.underlying5
  a5 := Tryz.isAgg5
  z5 := Tryz.sizeOf5
  v5 := Tryz.zeroValue5
  t9 := Tryz.underlying9
  a9 := Tryz.isAgg9
  z9 := Tryz.sizeOf9
  v9 := Tryz.zeroValue9
  t20 := Tryz.underlying20
  a20 := Tryz.isAgg20
  z20 := Tryz.sizeOf20
  v20 := Tryz.zeroValue20
  t37 := Tryz.underlying128
  a37 := Tryz.isAgg128
  z37 := Tryz.sizeOf128
  v37 := Tryz.zeroValue128
  t46 := Tryz.underlying168
  a46 := Tryz.isAgg168
  z46 := Tryz.sizeOf168
  v46 := Tryz.zeroValue168
  t51 := Tryz.underlying190
  a51 := Tryz.isAgg190
  z51 := Tryz.sizeOf190
  v51 := Tryz.zeroValue190
  t53 := Tryz.underlying195
  a53 := Tryz.isAgg195
  z53 := Tryz.sizeOf195
  v53 := Tryz.zeroValue195
  t70 := Tryz.underlying127
  a70 := Tryz.isAgg127
  z70 := Tryz.sizeOf127
  v70 := Tryz.zeroValue127
  t72 := Tryz.underlying130
  a72 := Tryz.isAgg130
  z72 := Tryz.sizeOf130
  v72 := Tryz.zeroValue130
  t75 := Tryz.underlying132
  a75 := Tryz.isAgg132
  z75 := Tryz.sizeOf132
  v75 := Tryz.zeroValue132
  t76 := Tryz.underlying133
  a76 := Tryz.isAgg133
  z76 := Tryz.sizeOf133
  v76 := Tryz.zeroValue133
  t109 := Tryz.underlying169
  a109 := Tryz.isAgg169
  z109 := Tryz.sizeOf169
  v109 := Tryz.zeroValue169
  t127 := Tryz.underlying173
  a127 := Tryz.isAgg173
  z127 := Tryz.sizeOf173
  v127 := Tryz.zeroValue173
  t146 := Tryz.underlying191
  a146 := Tryz.isAgg191
  z146 := Tryz.sizeOf191
  v146 := Tryz.zeroValue191
  t148 := Tryz.underlying196
  a148 := Tryz.isAgg196
  z148 := Tryz.sizeOf196
  v148 := Tryz.zeroValue196
  t164 := Tryz.underlying198
  a164 := Tryz.isAgg198
  z164 := Tryz.sizeOf198
  v164 := Tryz.zeroValue198 }
theorem Tryz.Builder_Extra_105 : Builder.Extra Tryz.prog Tryz.lays105_ren := {
  sizeBuilder := by kernel_rfl
  liesBuilder := by kernel_rfl
  t5 := Tryz.underlying5
  a5 := Tryz.isAgg5
  z5 := Tryz.sizeOf5
  v5 := Tryz.zeroValue5
  infoByte := by kernel_rfl
  cellsByte := by kernel_rfl
  sizeByte := by kernel_rfl
  neB5 := by decide }
open Go.RowKit Go.Lib in
theorem Tryz.strings_Repeat (s : ByteArray) (c : Nat) (w : World) (hc : c ≤ 9223372036854775807) (hlen : s.size * c ≤ 140737488355328) :
    Calls Tryz.prog 91 #[.string s, .int .i64 c] w fun e w' => e = .returned (.string ⟨(Lib.repeatL s.data.toList c).toArray⟩) ∧ Below w.heap.size w w' := Any.strings_Repeat Tryz.lays105 Tryz.Builder_Extra_105 s c w hc hlen
def Tryz.lays229_ren : Go.Shelf.Ren := ⟨fun | 229 => 233 | n => n, fun | 9 => 9 | 40 => 231 | 31 => 100 | 152 => 243 | 3 => 3 | 0 => 0 | 4 => 4 | 21 => 21 | 154 => 245 | n => n, fun | n => n⟩
theorem Tryz.lays229 : Go.Proofs.Lays.n229 Tryz.prog Tryz.lays229_ren := {
  mixed := by kernel_rfl
  f229 := Tryz.func233.trans (congrArg some (by kernel_rfl))
  t0 := Tryz.underlying0
  a0 := Tryz.isAgg0
  z0 := Tryz.sizeOf0
  v0 := Tryz.zeroValue0
  t3 := Tryz.underlying3
  a3 := Tryz.isAgg3
  z3 := Tryz.sizeOf3
  v3 := Tryz.zeroValue3
  t4 := Tryz.underlying4
  a4 := Tryz.isAgg4
  z4 := Tryz.sizeOf4
  v4 := Tryz.zeroValue4
  t9 := Tryz.underlying9
  a9 := Tryz.isAgg9
  z9 := Tryz.sizeOf9
  v9 := Tryz.zeroValue9
  t21 := Tryz.underlying21
  a21 := Tryz.isAgg21
  z21 := Tryz.sizeOf21
  v21 := Tryz.zeroValue21
  t31 := Tryz.underlying100
  a31 := Tryz.isAgg100
  z31 := Tryz.sizeOf100
  v31 := Tryz.zeroValue100
  t40 := Tryz.underlying231
  a40 := Tryz.isAgg231
  z40 := Tryz.sizeOf231
  v40 := Tryz.zeroValue231
  t152 := Tryz.underlying243
  a152 := Tryz.isAgg243
  z152 := Tryz.sizeOf243
  v152 := Tryz.zeroValue243
  t154 := Tryz.underlying245
  a154 := Tryz.isAgg245
  z154 := Tryz.sizeOf245
  v154 := Tryz.zeroValue245 }
open Go.RowKit Go.Lib in
theorem Tryz.strings_FieldsFunc_grows (g : Nat) (lb : Array Value) (eg : ∀ args w, (callFunc g args).run Tryz.prog w = .ok (.enter g args) w) (p : Nat → Bool) (s : ByteArray) (w : World) (hs : s.size ≤ 4294967296) (hp : PredGrows Tryz.prog g lb p w) :
    Calls Tryz.prog 233 #[.string s, .func (.func g) #[] lb] w fun e w' => ∃ A, e = .returned (.slice (some ⟨A, 0, none⟩) (Lib.goFieldsP p s).length (Lib.goFieldsP p s).length) ∧ w.heap.size ≤ A ∧
      w'.ownsRow w.heap.size 9 1 (.slice (some ⟨A, 0, none⟩) (Lib.goFieldsP p s).length (Lib.goFieldsP p s).length) (Lib.goFieldsP p s).length ((Lib.goFieldsP p s).map Value.string) ∧ Below w.heap.size w w' := Any.strings_FieldsFunc_grows Tryz.lays229 g lb eg p s w hs hp (by kernel_rfl) (by kernel_rfl)
def Tryz.lays109_ren : Go.Shelf.Ren := ⟨fun | 109 => 73 | n => n, fun | 31 => 100 | 9 => 9 | 3 => 3 | 0 => 0 | 4 => 4 | n => n, fun | n => n⟩
theorem Tryz.lays109 : Go.Proofs.Lays.n109 Tryz.prog Tryz.lays109_ren := {
  mixed := by kernel_rfl
  f109 := Tryz.func73.trans (congrArg some (by kernel_rfl))
  t0 := Tryz.underlying0
  a0 := Tryz.isAgg0
  z0 := Tryz.sizeOf0
  v0 := Tryz.zeroValue0
  t3 := Tryz.underlying3
  a3 := Tryz.isAgg3
  z3 := Tryz.sizeOf3
  v3 := Tryz.zeroValue3
  t4 := Tryz.underlying4
  a4 := Tryz.isAgg4
  z4 := Tryz.sizeOf4
  v4 := Tryz.zeroValue4
  t9 := Tryz.underlying9
  a9 := Tryz.isAgg9
  z9 := Tryz.sizeOf9
  v9 := Tryz.zeroValue9
  t31 := Tryz.underlying100
  a31 := Tryz.isAgg100
  z31 := Tryz.sizeOf100
  v31 := Tryz.zeroValue100 }
open Go.Lib in
theorem Tryz.slices_Index_string (b off n c : Nat) (zs : List ByteArray) (x : ByteArray) (w : World) (hz : n ≤ zs.length) (hbig : n ≤ 9223372036854775807) (hc : ∀ j, j < zs.length → w.cell? ⟨b, off + j, none⟩ = some (.string (zs.getD j ByteArray.empty))) :
    Calls Tryz.prog 73 #[.slice (some ⟨b, off, none⟩) n c, .string x] w fun e w' => e = .returned (.int .i64 (Lib.idxOfS (zs.take n) x)) ∧ w' = w := Any.slices_Index_string Tryz.lays109 b off n c zs x w hz hbig hc
open Go.Lib in
theorem Tryz.slices_Index_string_empty (a : Option Addr) (c : Nat) (x : ByteArray) (w : World) :
    Calls Tryz.prog 73 #[.slice a 0 c, .string x] w fun e w' => e = .returned (.int .i64 (Lib.idxOfS [] x)) ∧ w' = w := Any.slices_Index_string_empty Tryz.lays109 a c x w
def Tryz.lays110_ren : Go.Shelf.Ren := ⟨fun | 110 => 81 | 109 => 73 | n => n, fun | 31 => 100 | 9 => 9 | 4 => 4 | 3 => 3 | 0 => 0 | n => n, fun | n => n⟩
theorem Tryz.lays110 : Go.Proofs.Lays.n110 Tryz.prog Tryz.lays110_ren := {
  mixed := by kernel_rfl
  f109 := Tryz.func73.trans (congrArg some (by kernel_rfl))
  f110 := Tryz.func81.trans (congrArg some (by kernel_rfl))
  t0 := Tryz.underlying0
  a0 := Tryz.isAgg0
  z0 := Tryz.sizeOf0
  v0 := Tryz.zeroValue0
  t3 := Tryz.underlying3
  a3 := Tryz.isAgg3
  z3 := Tryz.sizeOf3
  v3 := Tryz.zeroValue3
  t4 := Tryz.underlying4
  a4 := Tryz.isAgg4
  z4 := Tryz.sizeOf4
  v4 := Tryz.zeroValue4
  t9 := Tryz.underlying9
  a9 := Tryz.isAgg9
  z9 := Tryz.sizeOf9
  v9 := Tryz.zeroValue9
  t31 := Tryz.underlying100
  a31 := Tryz.isAgg100
  z31 := Tryz.sizeOf100
  v31 := Tryz.zeroValue100 }
open Go.Lib in
theorem Tryz.slices_Contains_string (b off n c : Nat) (zs : List ByteArray) (x : ByteArray) (w : World) (hz : n ≤ zs.length) (hbig : n ≤ 9223372036854775807) (hc : ∀ j, j < zs.length → w.cell? ⟨b, off + j, none⟩ = some (.string (zs.getD j ByteArray.empty))) :
    Calls Tryz.prog 81 #[.slice (some ⟨b, off, none⟩) n c, .string x] w fun e w' => e = .returned (.bool (Lib.containsS (zs.take n) x)) ∧ w' = w := Any.slices_Contains_string Tryz.lays110 b off n c zs x w hz hbig hc
open Go.Lib in
theorem Tryz.slices_Contains_string_empty (a : Option Addr) (c : Nat) (x : ByteArray) (w : World) :
    Calls Tryz.prog 81 #[.slice a 0 c, .string x] w fun e w' => e = .returned (.bool false) ∧ w' = w := Any.slices_Contains_string_empty Tryz.lays110 a c x w
def Tryz.lays113_ren : Go.Shelf.Ren := ⟨fun | 113 => 68 | n => n, fun | 28 => 22 | 3 => 3 | 4 => 4 | 9 => 9 | 20 => 20 | 0 => 0 | n => n, fun | n => n⟩
theorem Tryz.lays113 : Go.Proofs.Lays.n113 Tryz.prog Tryz.lays113_ren := {
  mixed := by kernel_rfl
  f113 := Tryz.func68.trans (congrArg some (by kernel_rfl))
  t0 := Tryz.underlying0
  a0 := Tryz.isAgg0
  z0 := Tryz.sizeOf0
  v0 := Tryz.zeroValue0
  t3 := Tryz.underlying3
  a3 := Tryz.isAgg3
  z3 := Tryz.sizeOf3
  v3 := Tryz.zeroValue3
  t4 := Tryz.underlying4
  a4 := Tryz.isAgg4
  z4 := Tryz.sizeOf4
  v4 := Tryz.zeroValue4
  t9 := Tryz.underlying9
  a9 := Tryz.isAgg9
  z9 := Tryz.sizeOf9
  v9 := Tryz.zeroValue9
  t20 := Tryz.underlying20
  a20 := Tryz.isAgg20
  z20 := Tryz.sizeOf20
  v20 := Tryz.zeroValue20
  t28 := Tryz.underlying22
  a28 := Tryz.isAgg22
  z28 := Tryz.sizeOf22
  v28 := Tryz.zeroValue22 }
open Go.Lib in
theorem Tryz.slices_Max_int (b off n c : Nat) (zs : List Int) (w : World) (hn : 0 < n) (hz : n ≤ zs.length) (hbig : n ≤ 9223372036854775807) (hc : ∀ j, j < zs.length → w.cell? ⟨b, off + j, none⟩ = some (.int .i64 (zs.getD j 0))) :
    Calls Tryz.prog 68 #[.slice (some ⟨b, off, none⟩) n c] w fun e w' => e = .returned (.int .i64 (Lib.maxOf (zs.take n))) ∧ w' = w := Any.slices_Max_int Tryz.lays113 b off n c zs w hn hz hbig hc
end Go.Proofs

/- strconv.Atoi at every string: one contract with its three ends. -/
namespace Go.Proofs.YtodlfdfkhdfblaaGreatDoor
set_option linter.unusedVariables false
open Go.RowKit

/-- The library's two errors lie where they were laid. -/
def ErrsLaid (w : World) : Prop := (∃ t p, w.cell? ⟨1, 0, none⟩ = some (.iface t p)) ∧ (∃ t p, w.cell? ⟨2, 0, none⟩ = some (.iface t p)) ∧ 1 < w.heap.size ∧ 2 < w.heap.size
theorem ErrsLaid.keep {w w' : World} (h : ErrsLaid w) (hs : w.heap.size ≤ w'.heap.size) (h1 : w'.cell? ⟨1, 0, none⟩ = w.cell? ⟨1, 0, none⟩) (h2 : w'.cell? ⟨2, 0, none⟩ = w.cell? ⟨2, 0, none⟩) : ErrsLaid w' :=
  ⟨by rw [h1]; exact h.1, by rw [h2]; exact h.2.1, by have := h.2.2.1; omega, by have := h.2.2.2; omega⟩
theorem ErrsLaid.below {w w' : World} {B : Nat} (h : ErrsLaid w) (hb : Below B w w') (hB : w.heap.size ≤ B) : ErrsLaid w' :=
  h.keep hb.size (hb.cell (Nat.lt_of_lt_of_le h.2.2.1 hB)) (hb.cell (Nat.lt_of_lt_of_le h.2.2.2 hB))

/-- How Atoi ends: the number and the error. -/
def AtoiP (s : ByteArray) (n : Int) (ev : Value) : Prop :=
  (Lib.atoiAll s.data.toList = .ok n ∧ ev = .nilIface) ∨ ((∀ v, Lib.atoiAll s.data.toList ≠ .ok v) ∧ ∃ t N, ev = .iface t (.pointer (some ⟨N, 0, none⟩)))
def AtoiR (s : ByteArray) (w : World) (e : Ending) (w' : World) : Prop := ∃ n ev, AtoiP s n ev ∧ e = .returned (.tuple #[.int .i64 n, ev]) ∧ Below w.heap.size w w'
theorem atoi_c (s : ByteArray) (w : World) (hs : s.size ≤ 140737488355328) (hl : ErrsLaid w) : Calls Tryz.prog 116 #[.string s] w (AtoiR s w) := by
  obtain ⟨⟨t1, p1, h1⟩, ⟨t2, p2, h2⟩, _, _⟩ := hl
  cases h : Lib.atoiAll s.data.toList
  case ok v =>
    refine (Any.strconv_Atoi_ok Tryz.laysC172 s (by omega) v h w).mono ?_
    rintro e w' ⟨he, hw⟩
    refine ⟨v, _, .inl ⟨h, rfl⟩, he, ?_⟩
    rcases hw with rfl | ⟨t, rfl⟩
    · exact Below.refl _ _
    · exact Joins.below_bytesWorld _ _ _ _ (Nat.le_refl _)
  · refine (Any.strconv_Atoi_syntax Tryz.laysC172 s (by omega) h _ w h1 (.inr ⟨_, _, rfl⟩)).mono ?_
    rintro e w' ⟨N, he, _, _, hb⟩
    exact ⟨_, _, .inr ⟨(fun v hv => by rw [h] at hv; cases hv), _, _, rfl⟩, he, hb⟩
  · refine (Any.strconv_Atoi_range Tryz.laysC172 s (by omega) h _ w h2 (.inr ⟨_, _, rfl⟩)).mono ?_
    rintro e w' ⟨N, he, _, _, hb⟩
    exact ⟨_, _, .inr ⟨(fun v hv => by rw [h] at hv; cases hv), _, _, rfl⟩, he, hb⟩
end Go.Proofs.YtodlfdfkhdfblaaGreatDoor

/- What a law's walk ends with. No law in sight. -/
namespace Go.Proofs.YtodlfdfkhdfblaaGreatDoor
set_option linter.unusedVariables false
open Go.RowKit

theorem strNew (w : World) (A : Option Addr) (l : List Int) (c : Nat) (hr : Rs w 0 w.heap.size 1 intc A l) (hl : l.length ≤ 17592186044416) (ho : ∀ x ∈ l, okI x) :
    Str (w.alloc (.cells #[.slice A l.length c, .int .i64 0] 25)) w.heap.size 0 :=
  ⟨A, c, l, heap_alloc_new w _, Int.le_refl _, hr.alloc (Nat.le_refl _) _, hl, ho⟩
theorem gEnd {w w1 : World} {o : Obj} (h : (w.alloc o).grownBy w1 (some w.heap.size)) : Below w.heap.size w w1 :=
  ⟨h.os, h.tape, h.output, by have := h.size; simp at this; omega, fun i hi => (h.block i (by simp; omega) (by simp; omega)).trans (Below.heap_alloc w _ i hi)⟩
theorem gLaid {w w1 : World} {o : Obj} (h : (w.alloc o).grownBy w1 (some w.heap.size)) (hl : ErrsLaid w) : ErrsLaid w1 :=
  hl.below (gEnd h) (Nat.le_refl _)
end Go.Proofs.YtodlfdfkhdfblaaGreatDoor

/- The reference's small words on strings. -/
namespace Go.Proofs.YtodlfdfkhdfblaaGreatDoor
set_option linter.unusedVariables false
open Go.RowKit

theorem trim_c (s cs : ByteArray) (w : World) (hs : s.size ≤ 140737488355328) (hcs : cs.size ≤ 1000) (ha : (cs.data.toList.all fun b => decide (b.toNat < 128)) = true) :
    Calls Tryz.prog 131 #[.string s, .string cs] w fun e w' => e = .returned (.string ⟨(Lib.trimS s.data.toList cs.data.toList).toArray⟩) ∧ Below w.heap.size w w' :=
  Any.strings_Trim_laid Tryz.lays160 (by kernel_rfl) s cs w (by omega) (by omega) (ascii_of_all ha)

theorem dropWhile_nil {p : UInt8 → Bool} {l : List UInt8} : l.dropWhile p = [] ↔ ∀ x ∈ l, p x = true := by
  induction l with
  | nil => simp
  | cons y l ih =>
    cases h : p y with
    | true => simp [h, ih]
    | false => simp [h]

theorem trimS_nil (l cs : List UInt8) : Lib.trimS l cs = [] ↔ l.all (cs.contains ·) = true := by
  unfold Lib.trimS Lib.trimLeftS Lib.trimRightS
  constructor
  · intro h
    have h1 : ∀ x ∈ (l.reverse.dropWhile (cs.contains ·)), cs.contains x = true := by
      have := dropWhile_nil.1 h
      simpa using this
    cases hd : l.reverse.dropWhile (cs.contains ·) with
    | nil =>
      have := dropWhile_nil.1 hd
      rw [List.all_eq_true]
      intro x hx
      exact this x (by simpa using hx)
    | cons y t =>
      have h2 := h1 y (by rw [hd]; simp)
      have h3 := List.head_dropWhile_not (p := (cs.contains ·)) (l := l.reverse) (by rw [hd]; simp)
      simp only [hd, List.head_cons] at h3
      rw [h3] at h2; cases h2
  · intro h
    rw [List.all_eq_true] at h
    have : l.reverse.dropWhile (cs.contains ·) = [] := dropWhile_nil.2 (fun x hx => h x (by simpa using hx))
    rw [this]; rfl

theorem toList_mk (l : List UInt8) : (⟨l.toArray⟩ : ByteArray).toList = l := by rw [ByteArray.toList_eq]

set_option maxHeartbeats 400000 in
theorem made_c (s cs : ByteArray) (w : World) (hs : s.size ≤ 140737488355328) (hcs : cs.size ≤ 1000) (ha : (cs.data.toList.all fun b => decide (b.toNat < 128)) = true) :
    Calls Tryz.prog 66 #[.string s, .string cs] w fun e w' => e = .returned (.bool (allB (cs.data.toList.contains ·) s)) ∧ Below w.heap.size w w' := by
  cases h : allB (cs.data.toList.contains ·) s with
  | true =>
    have h2 : (⟨(Lib.trimS s.data.toList cs.data.toList).toArray⟩ : ByteArray) = ⟨#[]⟩ := by rw [(trimS_nil _ _).2 h]
    have H := Lib.hid h2
    clear h2 h
    go_enter Tryz.func66, Tryz.ntmps66
    go_wp2_with fail
    refine (trim_c s cs _ hs hcs ha).mono ?_
    rintro e w' ⟨rfl, hb⟩
    rw [H.out]
    go_wp2
    go_ret
    exact ⟨rfl, hb⟩
  | false =>
    have h2 : (⟨(Lib.trimS s.data.toList cs.data.toList).toArray⟩ : ByteArray).toList.isEmpty = false := by
      rw [toList_mk]
      cases he : Lib.trimS s.data.toList cs.data.toList with
      | nil => rw [(trimS_nil _ _).1 he |> (show _ → allB (cs.data.toList.contains ·) s = true from id)] at h; cases h
      | cons y t => rfl
    have H := Lib.hid h2
    clear h2 h
    go_enter Tryz.func66, Tryz.ntmps66
    go_wp2_with fail
    refine (trim_c s cs _ hs hcs ha).mono ?_
    rintro e w' ⟨rfl, hb⟩
    generalize (⟨(Lib.trimS s.data.toList cs.data.toList).toArray⟩ : ByteArray) = t at H ⊢
    have h2 := H.out
    go_wp2
    go_ret
    exact ⟨rfl, hb⟩

set_option maxHeartbeats 400000 in
theorem long_c (s : ByteArray) (lo hi : Int) (w : World) (hs : s.size ≤ 140737488355328) :
    Calls Tryz.prog 65 #[.string s, .int .i64 lo, .int .i64 hi] w fun e w' => e = .returned (.bool (decide (lo ≤ s.size) && decide ((s.size : Int) ≤ hi))) ∧ w = w' := by
  by_cases h1 : lo ≤ (s.size : Int)
  all_goals
    go_enter Tryz.func65, Tryz.ntmps65
    go_wp2
    go_ret
    exact ⟨ret_bool (by first | (simp [h1]; done) | (simp; omega)), rfl⟩
end Go.Proofs.YtodlfdfkhdfblaaGreatDoor

/- Small laws on strings and bytes. No program in sight. -/
namespace Go.Proofs.YtodlfdfkhdfblaaGreatDoor
set_option linter.unusedVariables false
open Go.RowKit

/-- 'string([]byte{..})' of a literal that has just been laid. -/
theorem run_bytes_lit {P : Program} (w : World) (src dst e : TypeId) (hs : P.underlying src = some (.slice e)) (he : P.underlying e = some (.int .u8)) (hd : P.underlying dst = some .string) (ns : List Int) (n c : Nat) (hn : n = ns.length) (cs : Array Value) (hcs : cs = (ns.map (Value.int .u8)).toArray) (T : TypeId) :
    (convert src dst (.slice (some ⟨w.heap.size, 0, none⟩) n c)).run P (w.alloc (.cells cs T)) = .ok (.string ⟨(ns.map fun x => UInt8.ofNat x.toNat).toArray⟩) (w.alloc (.cells cs T)) := by
  subst hn; subst hcs
  rw [run_convert_bytes_string _ src dst e _ _ _ hs he hd]
  have hl := run_loadCells_list (P := P) (w.alloc (.cells (ns.map (Value.int .u8)).toArray T)) ⟨w.heap.size, 0, none⟩ (ns.map (Value.int .u8)) (fun j v hj => by
    have : (⟨w.heap.size, 0, none⟩ : Addr).add j = ⟨w.heap.size, j, none⟩ := by unfold Addr.add; split <;> simp [*]
    rw [this]
    rw [World.cell?_alloc_mark]
    simpa using hj)
  simp only [List.length_map] at hl
  rw [run_bytesToString _ _ _ c ns hl]
  have hf : ∀ (l : List Int) (s : ByteArray), l.foldl (fun r x => r.push (UInt8.ofNat x.toNat)) s = ⟨s.data ++ (l.map fun x => UInt8.ofNat x.toNat).toArray⟩ := by
    intro l
    induction l with
    | nil => intro s; simp
    | cons x l ih => intro s; simp only [List.foldl_cons]; rw [ih]; simp [ByteArray.push]
  rw [hf]
  have he0 : ByteArray.empty.data = #[] := rfl
  rw [he0]
  simp

theorem below_of_regrown {w w' : World} (h : ∃ p : Regrown, w' = Sort.grow (redrawn w p.d) p.os) : Below w.heap.size w w' := by
  obtain ⟨p, rfl⟩ := h
  exact below_regrown w p.d p.os
/-- Contracts inside a region that draws its order, the world known up to 'Below'. -/
theorem regL {P : Program} {f : FuncId} {args : Array Value} {w : World} {d : Nat} {os : Array Obj} {v : Value} (h : Calls P f args (Sort.grow (redrawn w d) os) fun e w' => e = .returned v ∧ Sort.grow (redrawn w d) os = w') :
    Calls P f args (Sort.grow (redrawn w d) os) fun e w'' => e = .returned v ∧ ∃ p : Regrown, w'' = Sort.grow (redrawn w p.d) p.os := h.mono fun _ _ ⟨he, hb⟩ => ⟨he, ⟨d, os⟩, hb.symm⟩
theorem regD {P : Program} {f : FuncId} {args : Array Value} {w : World} {d : Nat} {os : Array Obj} {v : Value} (h : Calls P f args (Sort.grow (redrawn w d) os) fun e w' => e = .returned v ∧ ∃ n, w' = (Sort.grow (redrawn w d) os).drewN n) :
    Calls P f args (Sort.grow (redrawn w d) os) fun e w'' => e = .returned v ∧ ∃ p : Regrown, w'' = Sort.grow (redrawn w p.d) p.os := h.mono fun _ _ ⟨he, n, hb⟩ => ⟨he, ⟨d + n, os⟩, hb⟩
end Go.Proofs.YtodlfdfkhdfblaaGreatDoor

/- A text cut at a byte, in plain words. No program in sight. -/
namespace Go.Proofs.YtodlfdfkhdfblaaGreatDoor
set_option linter.unusedVariables false
open Go.RowKit

/-- Where a byte stands first; the length where it does not stand. -/
def cutI (s : ByteArray) (c : UInt8) : Nat := s.data.toList.findIdx (· == c)
def cutF (s : ByteArray) (c : UInt8) : Bool := decide (cutI s c < s.size)
def cutA (s : ByteArray) (c : UInt8) : ByteArray := s.extract 0 (cutI s c)
def cutB (s : ByteArray) (c : UInt8) : ByteArray := s.extract (cutI s c + 1) s.size
theorem cutI_le (s : ByteArray) (c : UInt8) : cutI s c ≤ s.size := by
  have := List.findIdx_le_length (p := (· == c)) (xs := s.data.toList)
  simpa [cutI] using this
theorem cutA_size (s : ByteArray) (c : UInt8) : (cutA s c).size ≤ s.size := by unfold cutA; rw [ByteArray.size_extract]; omega
theorem cutB_size (s : ByteArray) (c : UInt8) : (cutB s c).size ≤ s.size := by unfold cutB; rw [ByteArray.size_extract]; omega
theorem idxB_no {s : ByteArray} {c : UInt8} (h : ¬ cutI s c < s.size) : Lib.indexByte s.data.toList c = -1 := by
  by_cases h1 : Lib.indexByte s.data.toList c = -1
  · exact h1
  · exfalso
    have hg := Lib.indexByte_ge s.data.toList c
    obtain ⟨o, ho⟩ := Int.eq_ofNat_of_zero_le (show 0 ≤ Lib.indexByte s.data.toList c by omega)
    obtain ⟨h2, _⟩ := Lib.indexByte_some ho
    obtain ⟨hlt, h3⟩ := List.getElem?_eq_some_iff.1 h2
    exact h (by
      have h4 : cutI s c < s.data.toList.length := List.findIdx_lt_length_of_exists ⟨c, by rw [← h3]; exact List.getElem_mem hlt, by simp⟩
      simpa using h4)
theorem idxB_yes {s : ByteArray} {c : UInt8} (h : cutI s c < s.size) : Lib.indexByte s.data.toList c = (cutI s c : Int) := by
  have hl : cutI s c < s.data.toList.length := by simpa using h
  have hg := Lib.indexByte_ge s.data.toList c
  have hc : s.data.toList[cutI s c] = c := by have := List.findIdx_getElem (p := (· == c)) (w := hl); exact eq_of_beq this
  have hne : Lib.indexByte s.data.toList c ≠ -1 := fun e => Lib.indexByte_none e (cutI s c) (by rw [List.getElem?_eq_getElem hl, hc])
  obtain ⟨o, ho⟩ := Int.eq_ofNat_of_zero_le (show 0 ≤ Lib.indexByte s.data.toList c by omega)
  obtain ⟨h2, h3⟩ := Lib.indexByte_some ho
  obtain ⟨hlt, h4⟩ := List.getElem?_eq_some_iff.1 h2
  rcases Nat.lt_trichotomy o (cutI s c) with h5 | h5 | h5
  · have := List.not_of_lt_findIdx (p := (· == c)) (xs := s.data.toList) h5
    simp [h4] at this
  · rw [ho, h5]
  · exact absurd (by rw [List.getElem?_eq_getElem hl, hc]) (h3 _ h5)
theorem findIdx_app {l r : List UInt8} {c : UInt8} (h : ∀ x ∈ l, x ≠ c) : (l ++ c :: r).findIdx (· == c) = l.length := by
  induction l with
  | nil => simp [List.findIdx_cons]
  | cons x l ih =>
    have hx : (x == c) = false := by simpa using h x (by simp)
    simp only [List.cons_append, List.findIdx_cons, hx, cond_false, List.length_cons]
    rw [ih (fun y hy => h y (by simp [hy]))]
theorem extract_list' (s : ByteArray) (a b : Nat) : (s.extract a b).data.toList = (s.data.toList.drop a).take (b - a) := by simp
theorem ba_ext {a b : ByteArray} (h : a.data.toList = b.data.toList) : a = b := by
  rcases a with ⟨⟨a⟩⟩; rcases b with ⟨⟨b⟩⟩; simp at h; rw [h]
/-- A text that is put together is cut where it was put together. -/
theorem cut_app {a b : ByteArray} {c : UInt8} (h : ∀ x ∈ a.data.toList, x ≠ c) : cutI (a ++ ⟨#[c]⟩ ++ b) c = a.size ∧ cutF (a ++ ⟨#[c]⟩ ++ b) c = true ∧ cutA (a ++ ⟨#[c]⟩ ++ b) c = a ∧ cutB (a ++ ⟨#[c]⟩ ++ b) c = b := by
  have e : (a ++ ⟨#[c]⟩ ++ b).data.toList = a.data.toList ++ (c :: b.data.toList) := by simp
  have hs : (a ++ ⟨#[c]⟩ ++ b).size = a.size + 1 + b.size := by rw [ByteArray.size_append, ByteArray.size_append]; rfl
  have hl : a.data.toList.length = a.size := by simp
  have hi : cutI (a ++ ⟨#[c]⟩ ++ b) c = a.size := by
    unfold cutI
    rw [e, findIdx_app h, hl]
  refine ⟨hi, by unfold cutF; rw [hi, hs]; simp; omega, ?_, ?_⟩
  · unfold cutA; rw [hi]; apply ba_ext; rw [extract_list', e]; simp [hl]
  · unfold cutB; rw [hi, hs]; apply ba_ext; rw [extract_list', e]
    rw [show a.data.toList ++ c :: b.data.toList = (a.data.toList ++ [c]) ++ b.data.toList by simp, List.drop_left' (by simp), List.take_of_length_le (by simp)]
theorem cut_none {a : ByteArray} {c : UInt8} (h : ∀ x ∈ a.data.toList, x ≠ c) : cutF a c = false ∧ cutA a c = a ∧ cutB a c = ⟨#[]⟩ := by
  have hi : cutI a c = a.size := by
    unfold cutI
    rw [List.findIdx_eq_length_of_false (fun x hx => by simpa using h x hx)]; simp
  refine ⟨by unfold cutF; rw [hi]; simp, ?_, ?_⟩
  · unfold cutA; rw [hi]; apply ba_ext; simp
  · unfold cutB; rw [hi]; apply ba_ext; simp
end Go.Proofs.YtodlfdfkhdfblaaGreatDoor

/- strings.Cut at one byte, for every string. -/
namespace Go.Proofs.YtodlfdfkhdfblaaGreatDoor
set_option linter.unusedVariables false
open Go.RowKit

set_option maxHeartbeats 400000 in
theorem cutL_c (s : ByteArray) (c : UInt8) (w : World) (hs : s.size ≤ 140737488355328) :
    Calls Tryz.prog 138 #[.string s, .string ⟨#[c]⟩] w fun e w' => e = .returned (.tuple #[.string (cutA s c), .string (cutB s c), .bool (cutF s c)]) ∧ ∃ n, w' = w.drewN n := by
  by_cases h : cutI s c < s.size
  · have HI := Lib.hid (idxB_yes h)
    obtain ⟨i, hi⟩ : ∃ i, cutI s c = i := ⟨_, rfl⟩
    have HV := Lib.hid (show cutA s c = s.extract 0 i ∧ cutB s c = s.extract (i + 1) s.size ∧ cutF s c = true by unfold cutA cutB cutF; rw [← hi]; exact ⟨rfl, rfl, decide_eq_true h⟩)
    rw [hi] at h HI
    clear hi
    have p0 : (0 : Int) ≤ (i : Int) := by omega
    have p1 : (i : Int) ≤ (s.size : Int) := by omega
    have p2 : (i : Int) + 1 ≤ (s.size : Int) := by omega
    have p3 : (0 : Int) ≤ (i : Int) + 1 := by omega
    have p4 : ((i : Int) + 1).toNat = i + 1 := by omega
    have p5 : IntKind.i64.wrap ((i : Int) + 1) = (i : Int) + 1 := IntWalk.i64_in _ (by omega)
    have p6 : i ≤ s.size := by omega
    have p7 : i + 1 ≤ s.size := by omega
    go_enter Tryz.func138, Tryz.ntmps138
    go_wp2_with fail
    refine (Tryz.stringslite_Index_one s c _).mono ?_
    rintro e w' ⟨rfl, rfl⟩
    rw [HI.out]
    go_wp2
    go_quiet (fail)
    go_wp2
    refine bodyPost_ret (v := .tuple #[.string (cutA s c), .string (cutB s c), .bool (cutF s c)]) ?_ rfl ⟨rfl, _, rfl⟩
    rw [HV.out.1, HV.out.2.1, HV.out.2.2]
    simp [results, go_sem]
  · have HI := Lib.hid (idxB_no h)
    have hi : cutI s c = s.size := by have := cutI_le s c; omega
    have HV := Lib.hid (show cutA s c = s ∧ cutB s c = ⟨#[]⟩ ∧ cutF s c = false by
      unfold cutA cutB cutF; rw [hi]
      exact ⟨ba_ext (by simp), ba_ext (by simp), by simp⟩)
    clear hi h
    go_enter Tryz.func138, Tryz.ntmps138
    go_wp2_with fail
    refine (Tryz.stringslite_Index_one s c _).mono ?_
    rintro e w' ⟨rfl, rfl⟩
    rw [HI.out]
    go_wp2
    refine bodyPost_ret (v := .tuple #[.string (cutA s c), .string (cutB s c), .bool (cutF s c)]) ?_ rfl ⟨rfl, 0, rfl⟩
    rw [HV.out.1, HV.out.2.1, HV.out.2.2]
    simp [results, go_sem]
set_option maxHeartbeats 400000 in
theorem cut_c (s : ByteArray) (c : UInt8) (w : World) (hs : s.size ≤ 140737488355328) :
    Calls Tryz.prog 76 #[.string s, .string ⟨#[c]⟩] w fun e w' => e = .returned (.tuple #[.string (cutA s c), .string (cutB s c), .bool (cutF s c)]) ∧ ∃ n, w' = w.drewN n := by
  go_enter Tryz.func76, Tryz.ntmps76
  go_wp2_with fail
  refine (cutL_c s c _ hs).mono ?_
  rintro e w' ⟨rfl, ⟨n, rfl⟩⟩
  go_wp2
  exact bodyPost_ret (v := .tuple #[.string (cutA s c), .string (cutB s c), .bool (cutF s c)]) (by simp [results, go_sem]) rfl ⟨rfl, _, rfl⟩
end Go.Proofs.YtodlfdfkhdfblaaGreatDoor

/- Numerals read by the program and by the reference. -/
namespace Go.Proofs.YtodlfdfkhdfblaaGreatDoor
set_option linter.unusedVariables false
open Go.RowKit Go.Sort

/-- The table of powers of ten lies where it was laid. -/
def PowLaid (w : World) : Prop := Lib.TabIs Tryz.prog w "internal/strconv.uint64pow10" .u64 Lib.pow10Tab
theorem pow_below {w w' : World} {B : Nat} (h : PowLaid w) (hb : Below B w w') (hB : w.heap.size ≤ B) : PowLaid w' :=
  Joins.tab_stays (g := 4) (by kernel_rfl) h hb hB
theorem below_grow {w w' : World} {k : Nat} {os : Array Obj} (h : w' = grow (w.drewN k) os) : Below w.heap.size w w' := by
  subst h
  exact below_regrown w (w.drawn + k) os
theorem itoa_c (n : Int) (w : World) (hn : okI n) (hp : PowLaid w) : Calls Tryz.prog 98 #[.int .i64 n] w fun e w' => e = .returned (.string ⟨(Lib.itoa n).toArray⟩) ∧ Below w.heap.size w w' :=
  (Any.strconv_Itoa Tryz.laysM171 n hn.1 hn.2 w hp).mono fun _ _ ⟨he, k, os, hw⟩ => ⟨he, below_grow hw⟩

/-- strings.Trim at the figures: empty just where all bytes are figures. -/
def TrimF (s : ByteArray) (w : World) (e : Ending) (w' : World) : Prop := ∃ t : ByteArray, e = .returned (.string t) ∧ (allB figC s = true → t = ⟨#[]⟩) ∧ (allB figC s = false → t.toList.isEmpty = false) ∧ Below w.heap.size w w'
theorem figC_eq (s : ByteArray) : allB (([48, 49, 50, 51, 52, 53, 54, 55, 56, 57] : List UInt8).contains ·) s = allB figC s := allB_congr (by decide +kernel) s
theorem trimF_c (s : ByteArray) (w : World) (hs : s.size ≤ 140737488355328) : Calls Tryz.prog 131 #[.string s, .string ⟨#[48, 49, 50, 51, 52, 53, 54, 55, 56, 57]⟩] w (TrimF s w) := by
  refine (trim_c s _ w hs (by decide) (by decide)).mono ?_
  rintro e w' ⟨he, hb⟩
  refine ⟨_, he, fun h => ?_, fun h => ?_, hb⟩
  · rw [← figC_eq] at h
    rw [(trimS_nil _ _).2 h]
  · rw [toList_mk]
    rw [← figC_eq] at h
    cases hd : Lib.trimS s.data.toList (ByteArray.mk #[48, 49, 50, 51, 52, 53, 54, 55, 56, 57]).data.toList with
    | nil => have := (trimS_nil _ _).1 hd; rw [show s.data.toList.all _ = allB _ s from rfl] at this; rw [this] at h; cases h
    | cons y t => rfl

def decA (s : ByteArray) (most : Int) : Int := bif decB s most then decV s else 0
set_option maxRecDepth 100000 in
set_option maxHeartbeats 800000 in
theorem decimal_c (s : ByteArray) (most : Int) (w : World) (hs : s.size ≤ 140737488355328) (h0 : 1 ≤ most) (h1 : most ≤ 18) (hl : ErrsLaid w) :
    Calls Tryz.prog 194 #[.string s, .int .i64 most] w fun e w' => e = .returned (.tuple #[.int .i64 (decA s most), .bool (decB s most)]) ∧ Below w.heap.size w w' := by
  have HL := Lib.hid hl; clear hl
  by_cases c1 : s.size < 1
  · have HV := Lib.hid (show decB s most = false by simp [decB]; omega)
    have HA := Lib.hid (show decA s most = 0 by unfold decA; rw [HV.out]; rfl)
    go_enter Tryz.func194, Tryz.ntmps194
    go_wp2
    go_ret2
    exact ⟨by rw [HV.out, HA.out]; rfl, Below.refl _ _⟩
  · by_cases c2 : most < (s.size : Int)
    · have HV := Lib.hid (show decB s most = false by simp [decB]; omega)
      have HA := Lib.hid (show decA s most = 0 by unfold decA; rw [HV.out]; rfl)
      have c1' : 1 ≤ s.size := by omega
      go_enter Tryz.func194, Tryz.ntmps194
      go_wp2
      go_ret2
      exact ⟨by rw [HV.out, HA.out]; rfl, Below.refl _ _⟩
    · have hsz : 0 < s.size := by omega
      have c1' : 1 ≤ s.size := by omega
      have c2' : (s.size : Int) ≤ most := by omega
      have hu := s[0].toNat_lt
      have hhd : s.data.toList.head?.map (·.toNat) = some s[0].toNat := by
        rw [List.head?_eq_getElem?, List.getElem?_eq_getElem (by simpa using hsz)]; rfl
      have HH := Lib.hid hhd; clear hhd
      by_cases c3 : 1 < s.size ∧ s[0].toNat = 48
      · have HV := Lib.hid (show decB s most = false by
          unfold decB; rw [HH.out, c3.2]; simp; intros; omega)
        have HA := Lib.hid (show decA s most = 0 by unfold decA; rw [HV.out]; rfl)
        obtain ⟨c3, c4⟩ := c3
        have c4' : ((s[0].toNat : Int) == 48) = true := by rw [c4]; rfl
        clear c4
        go_enter Tryz.func194, Tryz.ntmps194
        go_wp2
        go_ret2
        exact ⟨by rw [HV.out, HA.out]; rfl, Below.refl _ _⟩
      · have HC := Lib.hid (show decB s most = allB figC s by
          unfold decB; rw [HH.out]; simp; intros; omega)
        have c4' : s.size ≤ 1 ∨ (1 < s.size ∧ ((s[0].toNat : Int) == 48) = false) := by
          by_cases h : 1 < s.size
          · right; exact ⟨h, by rw [beq_eq_false_iff_ne]; omega⟩
          · exact .inl (by omega)
        clear c3
        cases hf : allB figC s with
        | false =>
          have HF := Lib.hid hf
          have HV := Lib.hid (show decB s most = false by rw [HC.out, hf])
          have HA := Lib.hid (show decA s most = 0 by unfold decA; rw [HV.out]; rfl)
          clear hf
          rcases c4' with c4 | ⟨c40, c4⟩
          all_goals
            go_enter Tryz.func194, Tryz.ntmps194
            go_wp2_with fail
            refine (trimF_c s _ hs).mono ?_
            rintro e w' ⟨t, rfl, _, ht, hb⟩
            have ht' := ht HF.out
            clear ht
            go_wp2
            go_ret2
            exact ⟨by rw [HV.out, HA.out]; rfl, hb⟩
        | true =>
          have HF := Lib.hid hf
          have HV := Lib.hid (show decB s most = true by rw [HC.out, hf])
          have HA := Lib.hid (show decA s most = decV s by unfold decA; rw [HV.out]; rfl)
          have hlt : decV s < 10 ^ 18 := decV_lt (most := 18) (decB_iff.2 ⟨(decB_iff.1 HV.out).1, by omega⟩)
          have HN := Lib.hid (show Lib.atoiAll s.data.toList = .ok (decV s : Int) from atoi_digits (decB_iff.1 HV.out).1.1 (decB_iff.1 HV.out).1.2.1 (by unfold decV at hlt; omega))
          clear hf hlt
          rcases c4' with c4 | ⟨c40, c4⟩
          all_goals
            go_enter Tryz.func194, Tryz.ntmps194
            go_wp2_with fail
            refine (trimF_c s _ hs).mono ?_
            rintro e w' ⟨t, rfl, ht, _, hb⟩
            obtain rfl := ht HF.out
            clear ht
            have HB := Lib.hid hb; clear hb
            go_wp2_with fail
            refine (atoi_c s _ hs (HL.out.below HB.out (Nat.le_refl _))).mono ?_
            rintro e w2 ⟨n, ev, hP, rfl, hb2⟩
            obtain ⟨rfl, rfl⟩ : n = decV s ∧ ev = .nilIface := by
              rcases hP with ⟨h, he⟩ | ⟨h, _⟩
              · rw [HN.out] at h; injection h with h; exact ⟨h.symm, he⟩
              · exact absurd HN.out (h _)
            have HB2 := Lib.hid (HB.out.trans (hb2.mono HB.out.size))
            clear hP hb2
            go_wp2
            go_ret2
            exact ⟨by rw [HV.out, HA.out]; rfl, HB2.out⟩

/-- How the reference reads a number of at most so many digits. -/
def NumP (s : ByteArray) (most n : Int) (ok : Bool) : Prop :=
  (ok = true → Lib.itoa n = s.data.toList ∧ okI n ∧ ((Lib.trimPrefix s.data.toList [45]).length : Int) ≤ most) ∧ (ok = false → ∀ m, okI m → Lib.itoa m = s.data.toList → ¬ ((Lib.trimPrefix s.data.toList [45]).length : Int) ≤ most)
def NumR (s : ByteArray) (most : Int) (w : World) (e : Ending) (w' : World) : Prop := ∃ n ok, NumP s most n ok ∧ e = .returned (.tuple #[.int .i64 n, .bool ok]) ∧ Below w.heap.size w w'
theorem mk_size (l : List UInt8) : (⟨l.toArray⟩ : ByteArray).size = l.length := rfl
theorem trimPrefix_len (l p : List UInt8) : (Lib.trimPrefix l p).length ≤ l.length := by
  unfold Lib.trimPrefix; split
  · simp
  · exact Nat.le_refl _
theorem itoa_ok {s : ByteArray} {n m : Int} (h : Lib.atoiAll s.data.toList = .ok n) (hm : okI m) (e : Lib.itoa m = s.data.toList) : n = m := by
  rw [← e, atoi_itoa m hm] at h
  injection h with h; exact h.symm
set_option maxHeartbeats 800000 in
theorem number_c (s : ByteArray) (most : Int) (w : World) (hs : s.size ≤ 140737488355328) (h0 : 0 ≤ most) (h1 : most ≤ 1000) (hl : ErrsLaid w) (hp : PowLaid w) :
    Calls Tryz.prog 159 #[.string s, .int .i64 most] w (NumR s most w) := by
  have HP := Lib.hid hp; clear hp
  have HL := Lib.hid hl; clear hl
  go_enter Tryz.func159, Tryz.ntmps159
  go_wp2_with fail
  refine (atoi_c s _ hs HL.out).mono ?_
  rintro e w1 ⟨n, ev, hP, rfl, hb1⟩
  have HB1 := Lib.hid hb1; clear hb1
  rcases hP with ⟨ha, rfl⟩ | ⟨ha, t, N, rfl⟩
  · have hn := atoi_bd ha
    have HA := Lib.hid ha; clear ha
    go_wp2_with fail
    refine (itoa_c n _ hn (pow_below HP.out HB1.out (Nat.le_refl _))).mono ?_
    rintro e w2 ⟨rfl, hb2⟩
    have HB2 := Lib.hid (HB1.out.trans (hb2.mono HB1.out.size)); clear hb2
    by_cases he : Lib.itoa n = s.data.toList
    · have e1 : ((⟨(Lib.itoa n).toArray⟩ : ByteArray).toList == s.toList) = true := by rw [beqS, decide_eq_true_iff]; exact ba_ext (by simpa using he)
      have HE := Lib.hid he; clear he
      have hsz : ((Lib.trimPrefix s.data.toList [45]).length : Int) ≤ s.size := by
        have h2 := trimPrefix_len s.data.toList [45]
        have h3 : s.data.toList.length = s.size := by simp
        omega
      generalize (⟨(Lib.itoa n).toArray⟩ : ByteArray) = T1 at e1 ⊢
      go_wp2_with fail
      refine (Tryz.strings_TrimPrefix s ⟨#[45]⟩ _).mono ?_
      rintro e w' ⟨rfl, rfl⟩
      generalize hT : (⟨(Lib.trimPrefix s.data.toList (ByteArray.mk #[45]).data.toList).toArray⟩ : ByteArray) = T
      have hTl : ((Lib.trimPrefix s.data.toList [45]).length : Int) = (T.size : Int) := by rw [← hT, mk_size]
      have hTb : T.size ≤ 140737488355328 := by omega
      clear hT
      by_cases hm : (T.size : Int) ≤ most
      · have HV := Lib.hid (show NumP s most n true from ⟨fun _ => ⟨HE.out, hn, by omega⟩, fun h => by cases h⟩)
        have hd : decide ((T.size : Int) ≤ most) = true := decide_eq_true hm
        clear hTl hsz
        go_wp2
        go_ret2
        exact ⟨n, true, HV.out, rfl, HB2.out⟩
      · have HV := Lib.hid (show NumP s most n false from ⟨(fun h => by cases h), fun _ m hm' e => by omega⟩)
        have hd : decide ((T.size : Int) ≤ most) = false := decide_eq_false hm
        clear hTl hsz
        go_wp2
        go_ret2
        exact ⟨n, false, HV.out, rfl, HB2.out⟩
    · have e1 : ((⟨(Lib.itoa n).toArray⟩ : ByteArray).toList == s.toList) = false := by
        rw [beqS, decide_eq_false_iff_not]; intro h; exact he (congrArg (fun x : ByteArray => x.data.toList) h)
      have HV := Lib.hid (show NumP s most n false from ⟨(fun h => by cases h), fun _ m hm e => absurd (by rw [itoa_ok HA.out hm e]; exact e) he⟩)
      clear he
      generalize (⟨(Lib.itoa n).toArray⟩ : ByteArray) = T1 at e1 ⊢
      go_wp2
      go_ret2
      exact ⟨n, false, HV.out, rfl, HB2.out⟩
  · have HV := Lib.hid (show NumP s most n false from ⟨(fun h => by cases h), fun _ m hm e => absurd (by rw [← e]; exact atoi_itoa m hm) (ha m)⟩)
    clear ha
    go_wp2
    go_ret2
    exact ⟨n, false, HV.out, rfl, HB1.out⟩
end Go.Proofs.YtodlfdfkhdfblaaGreatDoor

/- The generator's changed texts and frames. -/
namespace Go.Proofs.YtodlfdfkhdfblaaGreatDoor
set_option linter.unusedVariables false
open Go.RowKit Go.Sort

theorem enc_size {n : Nat} (h : n < 256) : (Utf8.encode (n : Int)).size ≤ 4 := by
  have : ((List.range 256).all fun n => decide ((Utf8.encode (n : Int)).size ≤ 4)) = true := by decide +kernel
  rw [List.all_eq_true] at this
  simpa using this n (List.mem_range.2 h)
set_option maxHeartbeats 1000000 in
theorem Changed_c (sb : Nat) (k : Int) (t u : ByteArray) (w : World) (hs : Str w sb k) (hk : k ≤ 4000000000000000000) (ht : t.size ≤ 1000000000) (hu : u.size ≤ 1000000000) :
    Calls Tryz.prog 75 #[.pointer (some ⟨sb, 0, none⟩), .string t, .string u] w (Took sb k 3 (isStr (fun x => x.size ≤ t.size + u.size + 8)) w) := by
  have h0 := hs.nonneg
  have S0 := Lib.hid hs; clear hs
  cases he : t.toList.isEmpty with
  | true =>
    go_enter Tryz.func75, Tryz.ntmps75
    go_wp2
    go_ret
    exact ⟨_, k, rfl, ⟨u, by omega, rfl⟩, by omega, S0.out, gRefl _ _⟩
  | false =>
    have hts : 0 < t.size := by
      rw [ByteArray.toList_eq] at he
      cases hd : t.data.toList with
      | nil => rw [hd] at he; cases he
      | cons y l => show 0 < t.data.size; rw [← Array.length_toList, hd]; simp
    cases he2 : u.toList.isEmpty with
    | true =>
      go_enter Tryz.func75, Tryz.ntmps75
      go_wp2
      go_ret
      exact ⟨_, k, rfl, ⟨u, by omega, rfl⟩, by omega, S0.out, gRefl _ _⟩
    | false =>
      have hus : 0 < u.size := by
        rw [ByteArray.toList_eq] at he2
        cases hd : u.data.toList with
        | nil => rw [hd] at he2; cases he2
        | cons y l => show 0 < u.data.size; rw [← Array.length_toList, hd]; simp
      go_enter Tryz.func75, Tryz.ntmps75
      go_wp2_with fail
      refine (next_c sb k t.size _ S0.out (by omega) (by omega) (by omega)).mono ?_
      rintro e w1 ⟨v1, k1, rfl, ⟨x1, hx10, hx11, rfl⟩, hk1, hs1, hg1⟩
      have S1 := Lib.hid hs1; have G1 := Lib.hid hg1; clear hs1 hg1
      obtain ⟨i, rfl⟩ := Int.eq_ofNat_of_zero_le hx10
      go_wp2_with fail
      refine (next_c sb k1 u.size _ S1.out (by omega) (by omega) (by omega)).mono ?_
      rintro e w2 ⟨v2, k2, rfl, ⟨x2, hx20, hx21, rfl⟩, hk2, hs2, hg2⟩
      have S2 := Lib.hid hs2; have G2 := Lib.hid (gTrans G1.out hg2); clear hs2 hg2
      obtain ⟨j, rfl⟩ := Int.eq_ofNat_of_zero_le hx20
      have hi : i < t.size := by omega
      have hj : j < u.size := by omega
      clear hx10 hx11 hx20 hx21
      go_wp2_with fail
      refine (next_c sb k2 3 _ S2.out (by omega) (by omega) (by omega)).mono ?_
      rintro e w3 ⟨v3, k3, rfl, ⟨x3, hx30, hx31, rfl⟩, hk3, hs3, hg3⟩
      have S3 := Lib.hid hs3; have G3 := Lib.hid (gTrans G2.out hg3); clear hs3 hg3
      have q1 : IntKind.i64.wrap ((i : Int) + 1) = (i : Int) + 1 := IntWalk.i64_in _ (by omega)
      have hi1 : (i : Int) + 1 ≤ (t.size : Int) := by omega
      have hn1 : ((i : Int) + 1).toNat = i + 1 := by omega
      have hle : i + 1 ≤ t.size := by omega
      have hle0 : i ≤ t.size := by omega
      have hu8 : u[j].toNat < 256 := u[j].toNat_lt
      generalize u[j].toNat = n8 at hu8 ⊢
      have hz := enc_size hu8
      generalize hE : Utf8.encode (n8 : Int) = E at hz
      have HE := Lib.hid hE
      have hcv : ∀ W, (convert 21 9 (.int .i32 (n8 : Int))).run Tryz.prog W = .ok (.string E) W := fun W => by
        rw [run_convert_int_string W _ _ _ _ (by kernel_rfl) Tryz.underlying9, hE]
      clear hE
      rcases (show x3 = 0 ∨ x3 = 1 ∨ x3 = 2 by omega) with rfl | rfl | rfl
      · go_wp2
        go_quiet (fail)
        go_wp2
        go_ret
        refine ⟨_, k3, rfl, ⟨_, ?_, rfl⟩, by omega, S3.out.drewN _, grown_drewN G3.out _⟩
        show _ ≤ _
        simp; omega
      · go_wp2
        go_quiet (fail)
        go_wp2
        go_ret
        refine ⟨_, k3, rfl, ⟨_, ?_, rfl⟩, by omega, S3.out.drewN _, grown_drewN G3.out _⟩
        show _ ≤ _
        simp; omega
      · go_wp2
        go_quiet (fail)
        go_wp2
        go_ret
        refine ⟨_, k3, rfl, ⟨_, ?_, rfl⟩, by omega, S3.out.drewN _, grown_drewN G3.out _⟩
        show _ ≤ _
        simp; omega
end Go.Proofs.YtodlfdfkhdfblaaGreatDoor

/- The generator's numbers of scenes and setups. -/
namespace Go.Proofs.YtodlfdfkhdfblaaGreatDoor
set_option linter.unusedVariables false
open Go.RowKit Go.Sort

theorem oneOf {l : List ByteArray} {x : ByteArray} {n : Nat} (h : (l.all fun x => decide (x.size ≤ n)) = true) (hx : x ∈ l) : x.size ≤ n := by
  rw [List.all_eq_true] at h; simpa using h x hx
set_option maxHeartbeats 800000 in
theorem Setup_c (sb : Nat) (k : Int) (w : World) (hs : Str w sb k) (hk : k ≤ 4000000000000000000) :
    Calls Tryz.prog 23 #[.pointer (some ⟨sb, 0, none⟩)] w (Took sb k 1 (isStr (fun x => x.size ≤ 100)) w) := by
  have S0 := Lib.hid hs; clear hs
  go_enter Tryz.func23, Tryz.ntmps23
  go_wp2_with fail
  refine (oneL w [⟨#[]⟩, ⟨#[65]⟩, ⟨#[66]⟩, ⟨#[65, 65]⟩, ⟨#[90, 90]⟩, ⟨#[73]⟩, ⟨#[79]⟩, ⟨#[65, 65, 65]⟩, ⟨#[97]⟩, ⟨#[72]⟩] _ _ _ _ rfl rfl (by decide) (by decide) S0.out (by omega)).mono ?_
  rintro e w1 ⟨v1, k1, rfl, ⟨x1, hx1, rfl⟩, hk1, hs1, hg1⟩
  have b1 : x1.size ≤ 100 := oneOf (by decide +kernel) hx1
  have S1 := Lib.hid hs1; have G1 := Lib.hid (gTrans (gAlloc (gRefl w sb) _) hg1); clear hs1 hg1 hx1
  go_wp2
  go_ret
  exact ⟨_, k1, rfl, ⟨x1, b1, rfl⟩, hk1, S1.out, G1.out⟩
set_option maxHeartbeats 800000 in
theorem No_c (sb : Nat) (k : Int) (w : World) (hs : Str w sb k) (hk : k ≤ 4000000000000000000) :
    Calls Tryz.prog 61 #[.pointer (some ⟨sb, 0, none⟩)] w (Took sb k 1 (isStr (fun x => x.size ≤ 100)) w) := by
  have S0 := Lib.hid hs; clear hs
  go_enter Tryz.func61, Tryz.ntmps61
  go_wp2_with fail
  refine (oneL w [⟨#[]⟩, ⟨#[49]⟩, ⟨#[50]⟩, ⟨#[57]⟩, ⟨#[49, 50]⟩, ⟨#[49, 50, 66]⟩, ⟨#[49, 50, 65, 66]⟩, ⟨#[49, 50, 66, 66]⟩, ⟨#[49, 50, 90, 90, 90, 90, 90]⟩, ⟨#[49, 51]⟩, ⟨#[48, 66]⟩, ⟨#[48, 65, 66]⟩, ⟨#[48, 65, 65, 65, 65, 66]⟩, ⟨#[57, 57, 57]⟩, ⟨#[57, 57, 57, 66]⟩, ⟨#[57, 57, 57, 90, 90, 90, 90, 90]⟩, ⟨#[57, 57, 56, 90, 90, 90, 90, 90]⟩, ⟨#[49, 65]⟩, ⟨#[48]⟩, ⟨#[48, 49]⟩, ⟨#[49, 98]⟩, ⟨#[49, 48, 48, 48]⟩] _ _ _ _ rfl rfl (by decide) (by decide) S0.out (by omega)).mono ?_
  rintro e w1 ⟨v1, k1, rfl, ⟨x1, hx1, rfl⟩, hk1, hs1, hg1⟩
  have b1 : x1.size ≤ 100 := oneOf (by decide +kernel) hx1
  have S1 := Lib.hid hs1; have G1 := Lib.hid (gTrans (gAlloc (gRefl w sb) _) hg1); clear hs1 hg1 hx1
  go_wp2
  go_ret
  exact ⟨_, k1, rfl, ⟨x1, b1, rfl⟩, hk1, S1.out, G1.out⟩
end Go.Proofs.YtodlfdfkhdfblaaGreatDoor

/- What the library has laid, kept beside a stream; Atoi and Itoa there. -/
namespace Go.Proofs.YtodlfdfkhdfblaaGreatDoor
set_option linter.unusedVariables false
open Go.RowKit Go.Sort

theorem pow_block {w w' : World} (h : PowLaid w) (hk : w'.heap[4]? = w.heap[4]?) : PowLaid w' := by
  unfold PowLaid Lib.TabIs World.var? at *
  rw [show Tryz.prog.globalNamed "internal/strconv.uint64pow10" = some 4 by kernel_rfl] at *
  simp only [Option.bind_some] at *
  rw [hk]; exact h
theorem pow_lt {w : World} (h : PowLaid w) : 4 < w.heap.size := by
  unfold PowLaid Lib.TabIs World.var? at h
  rw [show Tryz.prog.globalNamed "internal/strconv.uint64pow10" = some 4 by kernel_rfl] at h
  simp only [Option.bind_some] at h
  rcases Nat.lt_or_ge 4 w.heap.size with h' | h'
  · exact h'
  · simp [Array.getElem?_eq_none h'] at h
/-- The library's errors and its table of powers lie as they were laid, below the stream's block. -/
def LaidS (sb : Nat) (w : World) : Prop := ErrsLaid w ∧ PowLaid w ∧ 1 < sb ∧ 2 < sb ∧ 4 < sb
section
variable {w w' : World} {sb : Nat}
theorem LaidS.start (he : ErrsLaid w) (hp : PowLaid w) : LaidS w.heap.size w := ⟨he, hp, he.2.2.1, he.2.2.2, pow_lt hp⟩
theorem LaidS.keep (h : LaidS sb w) (hs : w.heap.size ≤ w'.heap.size) (hk : ∀ b, b < sb → w'.heap[b]? = w.heap[b]?) : LaidS sb w' :=
  ⟨h.1.keep hs (World.cell?_of_block (hk _ h.2.2.1)) (World.cell?_of_block (hk _ h.2.2.2.1)), pow_block h.2.1 (hk _ h.2.2.2.2), h.2.2⟩
theorem LaidS.grown (h : LaidS sb w) (hlt : sb < w.heap.size) (hg : w.grownBy w' (some sb)) : LaidS sb w' := h.keep hg.size fun b hb => hg.block b (by omega) (by simp; omega)
theorem LaidS.below {B : Nat} (h : LaidS sb w) (hb : Below B w w') (hB : sb ≤ B) : LaidS sb w' := h.keep hb.size fun b hlt => hb.block b (by omega)
theorem LaidS.alloc (h : LaidS sb w) (hlt : sb ≤ w.heap.size) (o : Obj) : LaidS sb (w.alloc o) := h.keep (by simp) fun b hb => Below.heap_alloc w o b (by omega)
theorem LaidS.errs (h : LaidS sb w) : ErrsLaid w := h.1
theorem LaidS.pow (h : LaidS sb w) : PowLaid w := h.2.1
end
theorem okI_wrap (n : Int) : okI (IntKind.i64.wrap n) := by rw [IntKind.wrap_i64]; unfold okI; omega
def AtoiO (s : ByteArray) (w : World) (e : Ending) (w' : World) : Prop := ∃ n ev, okI n ∧ AtoiP s n ev ∧ e = .returned (.tuple #[.int .i64 n, ev]) ∧ Below w.heap.size w w'
theorem atoi_o (s : ByteArray) (w : World) (hs : s.size ≤ 140737488355328) (hl : ErrsLaid w) : Calls Tryz.prog 116 #[.string s] w (AtoiO s w) := by
  obtain ⟨⟨t1, p1, h1⟩, ⟨t2, p2, h2⟩, _, _⟩ := hl
  cases h : Lib.atoiAll s.data.toList
  case ok v =>
    refine (Any.strconv_Atoi_ok Tryz.laysC172 s (by omega) v h w).mono ?_
    rintro e w' ⟨he, hw⟩
    refine ⟨v, _, atoi_bd h, .inl ⟨h, rfl⟩, he, ?_⟩
    rcases hw with rfl | ⟨t, rfl⟩
    · exact Below.refl _ _
    · exact Joins.below_bytesWorld _ _ _ _ (Nat.le_refl _)
  · refine (Any.strconv_Atoi_syntax Tryz.laysC172 s (by omega) h _ w h1 (.inr ⟨_, _, rfl⟩)).mono ?_
    rintro e w' ⟨N, he, _, _, hb⟩
    exact ⟨_, _, by unfold okI; omega, .inr ⟨(fun v hv => by rw [h] at hv; cases hv), _, _, rfl⟩, he, hb⟩
  · refine (Any.strconv_Atoi_range Tryz.laysC172 s (by omega) h _ w h2 (.inr ⟨_, _, rfl⟩)).mono ?_
    rintro e w' ⟨N, he, _, _, hb⟩
    exact ⟨_, _, by unfold okI Lib.atoiSat; split <;> omega, .inr ⟨(fun v hv => by rw [h] at hv; cases hv), _, _, rfl⟩, he, hb⟩
theorem itoa_sz (n : Int) (h : okI n) : (⟨(Lib.itoa n).toArray⟩ : ByteArray).size ≤ 21 := by
  have := Lib.itoa_length_le n h.1 h.2
  show (Lib.itoa n).toArray.size ≤ 21
  simpa using this
end Go.Proofs.YtodlfdfkhdfblaaGreatDoor

/- The number of a scene, and a setup, in plain words. -/
namespace Go.Proofs.YtodlfdfkhdfblaaGreatDoor
set_option linter.unusedVariables false
open Go.RowKit

def digB (c : UInt8) : Bool := decide (48 ≤ c.toNat) && decide (c.toNat ≤ 57)
def capB (c : UInt8) : Bool := decide (65 ≤ c.toNat) && decide (c.toNat ≤ 90)
def numK (s : ByteArray) : Nat := (s.data.toList.takeWhile digB).length
def numB (s : ByteArray) : Bool :=
  (s.data.toList.drop (numK s)).all capB && decide (s.size - numK s ≤ 5) && !Lib.hasSuffix (s.data.toList.drop (numK s)) [65]
    && (if s.data.toList.take (numK s) = [48] then decide (numK s < s.size) else decide (1 ≤ numK s) && decide (numK s ≤ 3) && decide (s.data.toList.head? ≠ some 48))

theorem takeWhile_len {p : UInt8 → Bool} {l : List UInt8} {k : Nat} (h : ∀ x ∈ l.take k, p x = true) (hk : k ≤ l.length) (he : ∀ hlt : k < l.length, p l[k] = false) : (l.takeWhile p).length = k := by
  induction l generalizing k with
  | nil => simp at hk; simp [hk]
  | cons y l ih =>
    cases k with
    | zero => have := he (by simp); simp at this; simp [this]
    | succ k =>
      have h0 : p y = true := h y (by simp)
      have := ih (k := k) (fun x hx => h x (by simp [hx])) (by simpa using hk) (fun hlt => he (Nat.succ_lt_succ hlt))
      simp [h0, this]
theorem numK_eq {s : ByteArray} {k : Nat} (h : ∀ x ∈ s.data.toList.take k, digB x = true) (hk : k ≤ s.size) (he : ∀ hlt : k < s.size, digB s[k] = false) : numK s = k :=
  takeWhile_len h (by simpa using hk) (fun hlt => he (by simpa using hlt))
theorem extract_list (s : ByteArray) (a b : Nat) : (s.extract a b).data.toList = (s.data.toList.drop a).take (b - a) := by
  simp
theorem extract_end (s : ByteArray) (k : Nat) : (s.extract k s.size).data.toList = s.data.toList.drop k := by
  rw [extract_list, List.take_of_length_le]
  simp

theorem numB_size {s : ByteArray} (h : numB s = true) : s.size ≤ 8 := by
  simp only [numB, Bool.and_eq_true, decide_eq_true_eq] at h
  obtain ⟨⟨⟨_, h1⟩, _⟩, h2⟩ := h
  split at h2
  · rename_i h3
    have := congrArg List.length h3
    simp at this; omega
  · simp only [Bool.and_eq_true, decide_eq_true_eq] at h2; omega

def setC (c : UInt8) : Bool := capB c && decide (c.toNat ≠ 73) && decide (c.toNat ≠ 79)
def setupB (s : ByteArray) : Bool := allB setC s && decide (s.size ≤ 2)
theorem setupB_size {s : ByteArray} (h : setupB s = true) : s.size ≤ 2 := by
  simp only [setupB, Bool.and_eq_true, decide_eq_true_eq] at h; exact h.2
def slateE (scene setup : ByteArray) (n : Int) : Int := if numB scene = false then 5 else if setupB setup = false then 5 else if n < 1 ∨ 99 < n then 1 else 0
def slateS (scene setup : ByteArray) (n : Nat) : ByteArray := (if setup.toList.isEmpty = true then scene else scene ++ (⟨#[47]⟩ ++ setup)) ++ ⟨#[45]⟩ ++ ⟨(Lib.decDigits n).toArray⟩
def slateA (scene setup : ByteArray) (n : Int) : ByteArray := if slateE scene setup n = 0 then slateS scene setup n.toNat else ⟨#[]⟩
end Go.Proofs.YtodlfdfkhdfblaaGreatDoor

/- Reading slates, in plain words. No program in sight. -/
namespace Go.Proofs.YtodlfdfkhdfblaaGreatDoor
set_option linter.unusedVariables false
open Go.RowKit

theorem numB_bytes {s : ByteArray} (h : numB s = true) : ∀ c ∈ s.data.toList, digB c = true ∨ capB c = true := by
  simp only [numB, Bool.and_eq_true] at h
  obtain ⟨⟨⟨h1, _⟩, _⟩, _⟩ := h
  intro c hc
  rw [← List.take_append_drop (numK s) s.data.toList, List.mem_append] at hc
  rcases hc with hc | hc
  · left
    have ht : s.data.toList.take (numK s) = s.data.toList.takeWhile digB := by
      unfold numK
      conv => lhs; rw [← List.takeWhile_append_dropWhile (p := digB) (l := s.data.toList)]
      rw [List.takeWhile_append_dropWhile, ← List.prefix_iff_eq_take.1 (List.takeWhile_prefix digB)]
    rw [ht] at hc
    exact (List.all_eq_true.1 (List.all_takeWhile (p := digB) (l := s.data.toList))) c hc
  · right; exact (List.all_eq_true.1 h1) c hc
theorem setupB_bytes {s : ByteArray} (h : setupB s = true) : ∀ c ∈ s.data.toList, capB c = true := by
  simp only [setupB, Bool.and_eq_true] at h
  intro c hc
  have := (List.all_eq_true.1 (show s.data.toList.all setC = true from h.1)) c hc
  simp only [setC, Bool.and_eq_true] at this
  exact this.1.1
theorem dig_ne {c : UInt8} (h : digB c = true ∨ capB c = true) : c ≠ 45 ∧ c ≠ 47 := by
  simp only [digB, capB, Bool.and_eq_true, decide_eq_true_eq] at h
  constructor <;> (rintro rfl; revert h; decide)
theorem slateE_ok {sc se : ByteArray} {n : Int} (h : slateE sc se n = 0) : numB sc = true ∧ setupB se = true ∧ 1 ≤ n ∧ n ≤ 99 := by
  unfold slateE at h
  split at h
  · cases h
  · split at h
    · cases h
    · split at h
      · cases h
      · rename_i h1 h2 h3
        exact ⟨by simpa using h1, by simpa using h2, by omega, by omega⟩
theorem slateE_mk {sc se : ByteArray} {n : Int} (h1 : numB sc = true) (h2 : setupB se = true) (h3 : 1 ≤ n) (h4 : n ≤ 99) : slateE sc se n = 0 := by
  unfold slateE; rw [if_neg (by rw [h1]; simp), if_neg (by rw [h2]; simp), if_neg (by omega)]
def whatS (sc se : ByteArray) : ByteArray := if se.toList.isEmpty = true then sc else sc ++ ⟨#[47]⟩ ++ se
theorem slateS_eq (sc se : ByteArray) (n : Nat) : slateS sc se n = whatS sc se ++ ⟨#[45]⟩ ++ ⟨(Lib.decDigits n).toArray⟩ := by
  unfold slateS whatS
  split
  · rfl
  · simp only [ByteArray.append_assoc]
theorem empty_iff (s : ByteArray) : s.toList.isEmpty = true ↔ s = ⟨#[]⟩ := by
  rw [ByteArray.toList_eq]
  constructor
  · intro h; exact ba_ext (by simpa using h)
  · rintro rfl; rfl
/-- A right slate is cut into its parts. -/
theorem slate_read {sc se : ByteArray} {n : Int} (h : slateE sc se n = 0) :
    cutB (slateS sc se n.toNat) 45 = ⟨(Lib.decDigits n.toNat).toArray⟩ ∧ cutA (cutA (slateS sc se n.toNat) 45) 47 = sc ∧ cutB (cutA (slateS sc se n.toNat) 45) 47 = se := by
  obtain ⟨h1, h2, _, _⟩ := slateE_ok h
  have b1 : ∀ c ∈ sc.data.toList, c ≠ 45 ∧ c ≠ 47 := fun c hc => dig_ne (numB_bytes h1 c hc)
  have b2 : ∀ c ∈ se.data.toList, c ≠ 45 ∧ c ≠ 47 := fun c hc => dig_ne (.inr (setupB_bytes h2 c hc))
  have b3 : ∀ c ∈ (whatS sc se).data.toList, c ≠ 45 := by
    intro c hc
    unfold whatS at hc
    split at hc
    · exact (b1 c hc).1
    · simp at hc
      rcases hc with hc | rfl | hc
      · exact (b1 c (by simpa using hc)).1
      · decide
      · exact (b2 c (by simpa using hc)).1
  rw [slateS_eq]
  obtain ⟨_, _, e1, e2⟩ := cut_app (b := ⟨(Lib.decDigits n.toNat).toArray⟩) b3
  rw [e1, e2]
  refine ⟨rfl, ?_⟩
  unfold whatS
  by_cases he : se.toList.isEmpty = true
  · rw [if_pos he]
    obtain ⟨_, e3, e4⟩ := cut_none (a := sc) (c := 47) (fun x hx => (b1 x hx).2)
    rw [e3, e4]
    exact ⟨rfl, ((empty_iff se).1 he).symm⟩
  · rw [if_neg he]
    obtain ⟨_, _, e3, e4⟩ := cut_app (a := sc) (b := se) (c := 47) (fun x hx => (b1 x hx).2)
    exact ⟨e3, e4⟩
/-- What a reader of slates must say. -/
def slP (t sc se : ByteArray) (n : Int) (ok : Bool) : Prop :=
  (ok = true → slateE sc se n = 0 ∧ slateS sc se n.toNat = t) ∧ (ok = false → ∀ (a b : ByteArray) (m : Int), slateE a b m = 0 → slateS a b m.toNat ≠ t)
theorem slP_same {t sc se a b : ByteArray} {n m : Int} {ok ok' : Bool} (h : slP t sc se n ok) (h' : slP t a b m ok') : ok = ok' ∧ (ok = true → sc = a ∧ se = b ∧ n = m) := by
  cases ok <;> cases ok'
  · exact ⟨rfl, fun h => by cases h⟩
  · obtain ⟨x, y⟩ := h'.1 rfl
    exact absurd y (h.2 rfl _ _ _ x)
  · obtain ⟨x, y⟩ := h.1 rfl
    exact absurd y (h'.2 rfl _ _ _ x)
  · obtain ⟨x, y⟩ := h.1 rfl
    obtain ⟨x', y'⟩ := h'.1 rfl
    refine ⟨rfl, fun _ => ?_⟩
    obtain ⟨r1, r2, r3⟩ := slate_read x
    obtain ⟨q1, q2, q3⟩ := slate_read x'
    rw [y] at r1 r2 r3
    rw [y'] at q1 q2 q3
    refine ⟨by rw [← r2, q2], by rw [← r3, q3], ?_⟩
    rw [q1] at r1
    have h1 : Lib.decDigits m.toNat = Lib.decDigits n.toNat := by
      have := congrArg (fun x : ByteArray => x.data.toList) r1
      simpa using this
    have h2 := congrArg (dval 0) h1
    rw [dec_val, dec_val] at h2
    obtain ⟨_, _, x1, x2⟩ := slateE_ok x
    obtain ⟨_, _, x3, x4⟩ := slateE_ok x'
    omega
/-- A reader that cuts the text, reads the number and writes the slate anew. -/
theorem slP_of {t : ByteArray} {n : Int} {ok okn : Bool} (hn : okn = true → (⟨(Lib.decDigits n.toNat).toArray⟩ : ByteArray) = cutB t 45 ∧ (0 ≤ n ∨ True))
    (hf : okn = false → ∀ m : Nat, 1 ≤ m → m ≤ 99 → (⟨(Lib.decDigits m).toArray⟩ : ByteArray) ≠ cutB t 45)
    (hv : okn = true → ∀ m : Nat, 1 ≤ m → m ≤ 99 → (⟨(Lib.decDigits m).toArray⟩ : ByteArray) = cutB t 45 → n = m)
    (h : ok = true ↔ okn = true ∧ slateE (cutA (cutA t 45) 47) (cutB (cutA t 45) 47) n = 0 ∧ slateS (cutA (cutA t 45) 47) (cutB (cutA t 45) 47) n.toNat = t) :
    slP t (cutA (cutA t 45) 47) (cutB (cutA t 45) 47) n ok := by
  refine ⟨fun hh => (h.1 hh).2, fun hh a b m hm ht => ?_⟩
  obtain ⟨r1, r2, r3⟩ := slate_read hm
  rw [ht] at r1 r2 r3
  obtain ⟨_, _, m1, m2⟩ := slateE_ok hm
  cases hk : okn with
  | false => exact hf hk m.toNat (by omega) (by omega) r1.symm
  | true =>
    have e := hv hk m.toNat (by omega) (by omega) r1.symm
    have e' : n = m := by omega
    have := h.2 ⟨hk, by rw [r2, r3, e']; exact hm, by rw [r2, r3, e']; exact ht⟩
    rw [hh] at this; cases this
end Go.Proofs.YtodlfdfkhdfblaaGreatDoor

/- Takes as they lie in memory. No program in sight. -/
namespace Go.Proofs.YtodlfdfkhdfblaaGreatDoor
set_option linter.unusedVariables false
open Go.RowKit

structure Cov where
  para : Int
  tin : Int
  tout : Int
  on : Bool
structure Tk where
  scene : ByteArray
  setup : ByteArray
  number : Int
  roll : ByteArray
  sound : ByteArray
  tin : Int
  tout : Int
  good : Bool
  covers : List Cov
def Cov.cells (c : Cov) : List Value := [.int .i64 c.para, .int .i64 c.tin, .int .i64 c.tout, .bool c.on]
abbrev covR : Rep Cov := Rep.flat 4 Cov.cells (fun _ => rfl)
def Tk.cells (t : Tk) (v : Value) : List Value := [.string t.scene, .string t.setup, .int .i64 t.number, .string t.roll, .string t.sound, .int .i64 t.tin, .int .i64 t.tout, .bool t.good, v]
abbrev tvR : Rep (Tk × Value) := Rep.flat 9 (fun x => x.1.cells x.2) (fun _ => rfl)
theorem tvFlat {w w' : World} {F F' : Nat → Prop} {x : Tk × Value} {cs : List Value} (h : tvR.rel w F x cs) : tvR.rel w' F' x cs := h
theorem covFlat {w w' : World} {F F' : Nat → Prop} {x : Cov} {cs : List Value} (h : covR.rel w F x cs) : covR.rel w' F' x cs := h
/-- What made takes stay within. -/
def covB (B : Int) (c : Cov) : Prop := -B ≤ c.para ∧ c.para ≤ B ∧ -B ≤ c.tin ∧ c.tin ≤ B ∧ -B ≤ c.tout ∧ c.tout ≤ B
def tkB (B : Int) (t : Tk) : Prop := t.scene.size ≤ 1000 ∧ t.setup.size ≤ 1000 ∧ -1000 ≤ t.number ∧ t.number ≤ 10000 ∧ t.roll.size ≤ 1000 ∧ t.sound.size ≤ 1000 ∧ -B ≤ t.tin ∧ t.tin ≤ B ∧ -B ≤ t.tout ∧ t.tout ≤ B ∧ t.covers.length ≤ 10000 ∧ ∀ c ∈ t.covers, covB B c
abbrev covBd (c : Cov) : Prop := covB 200000000 c
abbrev tkBd (t : Tk) : Prop := tkB 200000000 t
theorem covB.more {B B' : Int} {c : Cov} (h : covB B c) (hB : B ≤ B') : covB B' c := ⟨by have := h.1; omega, by have := h.2.1; omega, by have := h.2.2.1; omega, by have := h.2.2.2.1; omega, by have := h.2.2.2.2.1; omega, by have := h.2.2.2.2.2; omega⟩
theorem tkB.more {B B' : Int} {t : Tk} (h : tkB B t) (hB : B ≤ B') : tkB B' t := by
  obtain ⟨h1, h2, h3, h4, h5, h6, h7, h8, h9, h10, h11, h12⟩ := h
  exact ⟨h1, h2, h3, h4, h5, h6, by omega, by omega, by omega, by omega, h11, fun c hc => (h12 c hc).more hB⟩
end Go.Proofs.YtodlfdfkhdfblaaGreatDoor

/- The next number and the next setup in plain words. No program in sight. -/
namespace Go.Proofs.YtodlfdfkhdfblaaGreatDoor
set_option linter.unusedVariables false
open Go.RowKit

def letL : List UInt8 := [65, 66, 67, 68, 69, 70, 71, 72, 74, 75, 76, 77, 78, 80, 81, 82, 83, 84, 85, 86, 87, 88, 89, 90]
/-- All setups in order. -/
def allSetups : List ByteArray := ⟨#[]⟩ :: (letL.map fun c => ⟨#[c]⟩) ++ letL.flatMap fun c => letL.map fun d => ⟨#[c, d]⟩
theorem allSetups_len : allSetups.length = 601 := by decide +kernel
def ltI (c : UInt8) : Nat := letL.idxOf c
/-- The place of a setup among all. -/
def suK (s : ByteArray) : Nat := match s.data.toList with
  | [] => 0
  | [c] => 1 + ltI c
  | c :: d :: _ => 25 + 24 * ltI c + ltI d
theorem setC_mem (c : UInt8) : setC c = letL.contains c := u8_eq (by decide +kernel) c
theorem ltI_lt {c : UInt8} (h : setC c = true) : ltI c < 24 := by
  rw [setC_mem] at h
  exact List.idxOf_lt_length_of_mem (by simpa using h)
def ltAt (i : Nat) : UInt8 := (letL[i]?).getD 0
theorem ltAt_ltI {c : UInt8} (h : setC c = true) : ltAt (ltI c) = c := by
  have hh : ∀ c, (!setC c || (ltAt (ltI c) == c)) = true := u8_eq (q := fun _ => true) (by decide +kernel)
  have := hh c
  rw [h] at this
  simpa using this
theorem ltI_cmp {c d : UInt8} (hc : setC c = true) (hd : setC d = true) : (ltI c < ltI d ↔ c.toNat < d.toNat) ∧ (ltI c = ltI d ↔ c = d) := by
  have h : ∀ i : Fin 24, ∀ j : Fin 24, (i.val < j.val ↔ (ltAt i.val).toNat < (ltAt j.val).toNat) ∧ (i.val = j.val ↔ ltAt i.val = ltAt j.val) := by decide +kernel
  have h1 := h ⟨ltI c, ltI_lt hc⟩ ⟨ltI d, ltI_lt hd⟩
  dsimp only at h1
  rw [ltAt_ltI hc, ltAt_ltI hd] at h1
  exact h1
/-- The three forms of a setup. -/
theorem setup_form {s : ByteArray} (h : setupB s = true) : s = ⟨#[]⟩ ∨ (∃ c, setC c = true ∧ s = ⟨#[c]⟩) ∨ ∃ c d, setC c = true ∧ setC d = true ∧ s = ⟨#[c, d]⟩ := by
  simp only [setupB, Bool.and_eq_true, decide_eq_true_eq, allB, List.all_eq_true] at h
  obtain ⟨h1, h2⟩ := h
  rcases s with ⟨⟨l⟩⟩
  have h3 : l.length ≤ 2 := h2
  have h4 : ∀ x ∈ l, setC x = true := h1
  match l, h3, h4 with
  | [], _, _ => exact .inl rfl
  | [c], _, h => exact .inr (.inl ⟨c, h c (by simp), rfl⟩)
  | [c, d], _, h => exact .inr (.inr ⟨c, d, h c (by simp), h d (by simp), rfl⟩)
theorem suK_lt {s : ByteArray} (h : setupB s = true) : suK s < 601 := by
  rcases setup_form h with rfl | ⟨c, hc, rfl⟩ | ⟨c, d, hc, hd, rfl⟩
  · decide
  · have := ltI_lt hc; show 1 + ltI c < 601; omega
  · have := ltI_lt hc; have := ltI_lt hd; show 25 + 24 * ltI c + ltI d < 601; omega
theorem all_one : ∀ i : Fin 24, allSetups[1 + i.val]? = some ⟨#[ltAt i.val]⟩ := by decide +kernel
theorem all_two : ∀ i j : Fin 24, allSetups[25 + 24 * i.val + j.val]? = some ⟨#[ltAt i.val, ltAt j.val]⟩ := by decide +kernel
theorem suK_at {s : ByteArray} (h : setupB s = true) : allSetups[suK s]? = some s := by
  rcases setup_form h with rfl | ⟨c, hc, rfl⟩ | ⟨c, d, hc, hd, rfl⟩
  · rfl
  · have := all_one ⟨ltI c, ltI_lt hc⟩
    dsimp only at this
    rw [ltAt_ltI hc] at this
    exact this
  · have := all_two ⟨ltI c, ltI_lt hc⟩ ⟨ltI d, ltI_lt hd⟩
    dsimp only at this
    rw [ltAt_ltI hc, ltAt_ltI hd] at this
    exact this
theorem ltI_inv : ∀ i : Fin 24, setC (ltAt i.val) = true ∧ ltI (ltAt i.val) = i.val := by decide +kernel
theorem mem_letL {c : UInt8} (h : c ∈ letL) : setC c = true := by rw [setC_mem]; simpa using h
theorem all_setup : ∀ s ∈ allSetups, setupB s = true := by
  intro s hs
  simp only [allSetups, List.cons_append, List.mem_cons, List.mem_append, List.mem_map, List.mem_flatMap] at hs
  rcases hs with rfl | ⟨c, hc, rfl⟩ | ⟨c, hc, d, hd, rfl⟩
  · rfl
  · simp [setupB, allB, mem_letL hc]; show 1 ≤ 2; omega
  · simp [setupB, allB, mem_letL hc, mem_letL hd]; show 2 ≤ 2; omega
theorem suK_all (i : Nat) (s : ByteArray) (h : allSetups[i]? = some s) : suK s = i := by
  have hi : i < 601 := by rw [← allSetups_len]; exact (List.getElem?_eq_some_iff.1 h).1
  rcases Nat.lt_or_ge i 1 with h1 | h1
  · obtain rfl : i = 0 := by omega
    injection h with h; subst h; rfl
  · rcases Nat.lt_or_ge i 25 with h2 | h2
    · have e := all_one ⟨i - 1, by omega⟩
      have hv := ltI_inv ⟨i - 1, by omega⟩
      dsimp only at e hv
      rw [show 1 + (i - 1) = i by omega, h] at e
      injection e with e
      subst e
      show 1 + ltI _ = i
      rw [hv.2]; omega
    · have e := all_two ⟨(i - 25) / 24, by omega⟩ ⟨(i - 25) % 24, Nat.mod_lt _ (by decide)⟩
      have hv := ltI_inv ⟨(i - 25) / 24, by omega⟩
      have hv2 := ltI_inv ⟨(i - 25) % 24, Nat.mod_lt _ (by decide)⟩
      dsimp only at e hv hv2
      rw [show 25 + 24 * ((i - 25) / 24) + (i - 25) % 24 = i by omega, h] at e
      injection e with e
      subst e
      show 25 + 24 * ltI _ + ltI _ = i
      rw [hv.2, hv2.2]; omega
theorem suK_inj {a b : ByteArray} (ha : setupB a = true) (hb : setupB b = true) (h : suK a = suK b) : a = b := by
  have h1 := suK_at ha
  rw [h, suK_at hb] at h1
  injection h1 with h1
  exact h1.symm
/-- The place that the reference's search finds. -/
theorem find_setup (s : ByteArray) : allSetups.findIdx? (fun y => decide (y = s)) = if setupB s = true then some (suK s) else none := by
  cases h : setupB s with
  | false =>
    rw [if_neg (by simp)]
    rw [List.findIdx?_eq_none_iff]
    intro x hx
    have := all_setup x hx
    exact decide_eq_false (fun e => by rw [e, h] at this; cases this)
  | true =>
    rw [if_pos rfl]
    have hat := suK_at h
    obtain ⟨hk, he⟩ := List.getElem?_eq_some_iff.1 hat
    refine findIdx_at (fun x hx => ?_) hk (by simp [he])
    obtain ⟨i, hi⟩ := List.mem_iff_getElem?.1 hx
    rw [List.getElem?_take] at hi
    split at hi
    · rename_i hlt
      refine decide_eq_false (fun e => ?_)
      subst e
      have h1 := suK_all i x (by rw [← hi])
      omega
    · cases hi

/-- The next setup's place: behind all of the scene's. -/
def nextK (scene : ByteArray) : List Tk → Nat
  | [] => 0
  | t :: r => max (if t.scene = scene ∧ setupB t.setup = true then suK t.setup + 1 else 0) (nextK scene r)
theorem nextK_snoc (scene : ByteArray) (l : List Tk) (t : Tk) : nextK scene (l ++ [t]) = max (nextK scene l) (if t.scene = scene ∧ setupB t.setup = true then suK t.setup + 1 else 0) := by
  induction l with
  | nil => simp [nextK]
  | cons y l ih => rw [List.cons_append, nextK, ih, nextK]; omega
theorem nextK_le (scene : ByteArray) (l : List Tk) : nextK scene l ≤ 601 := by
  induction l with
  | nil => simp [nextK]
  | cons y l ih =>
    rw [nextK]
    split
    · rename_i h; have := suK_lt h.2; omega
    · omega
def nextS (scene : ByteArray) (l : List Tk) : ByteArray := if nextK scene l < 601 then allSetups.getD (nextK scene l) ⟨#[]⟩ else ⟨#[]⟩
def nextSE (scene : ByteArray) (l : List Tk) : Int := if nextK scene l < 601 then 0 else 11

/-- The numbers of a slate's takes. -/
def numsOf (scene setup : ByteArray) (l : List Tk) : List Int := (l.filter fun t => decide (t.scene = scene) && decide (t.setup = setup)).map (·.number)
/-- The greatest number of a slate's takes; 0 if there is none. -/
def topN (scene setup : ByteArray) (l : List Tk) : Int := Lib.maxOf (numsOf scene setup l)
theorem maxOf_snoc (l : List Int) (x : Int) : Lib.maxOf (l ++ [x]) = if l = [] then x else max (Lib.maxOf l) x := by
  unfold Lib.maxOf
  cases l with
  | nil => simp
  | cons y r => simp [List.foldl_append]
theorem numsOf_snoc (scene setup : ByteArray) (l : List Tk) (t : Tk) : numsOf scene setup (l ++ [t]) = if t.scene = scene ∧ t.setup = setup then numsOf scene setup l ++ [t.number] else numsOf scene setup l := by
  unfold numsOf
  by_cases h : t.scene = scene ∧ t.setup = setup
  · rw [if_pos h, List.filter_append, List.map_append]
    simp [h.1, h.2]
  · rw [if_neg h, List.filter_append]
    have : (decide (t.scene = scene) && decide (t.setup = setup)) = false := by
      rw [Bool.and_eq_false_iff, decide_eq_false_iff_not, decide_eq_false_iff_not]
      by_cases h1 : t.scene = scene
      · exact .inr fun h2 => h ⟨h1, h2⟩
      · exact .inl h1
    simp [this]
def nextN (scene setup : ByteArray) (l : List Tk) : Int := if numsOf scene setup l = [] then 1 else min (topN scene setup l) 99 + 1
def nnE (bad : Int) (top : Int) : Int := if bad = 0 then (if 99 ≤ top then 11 else 0) else bad
def nnV (bad : Int) (top : Int) : Int := if bad = 0 then (if 99 ≤ top then 0 else top + 1) else 0
theorem nextN_top (scene setup : ByteArray) (l : List Tk) : nextN scene setup l = min (topN scene setup l) 99 + 1 := by
  unfold nextN
  by_cases h : numsOf scene setup l = []
  · rw [if_pos h]
    unfold topN
    rw [h]
    rfl
  · rw [if_neg h]
end Go.Proofs.YtodlfdfkhdfblaaGreatDoor

/- The cells of a take in a list of takes; the greater and the lesser of two numbers. No program in sight. -/
namespace Go.Proofs.YtodlfdfkhdfblaaGreatDoor
set_option linter.unusedVariables false
open Go.RowKit

theorem tkAt {w : World} {F : Nat → Prop} {l : List (Tk × Value)} {A : Option Addr} {n c : Nat} (h : Sli tvR w F l (.slice A n c)) (k : Nat) (hk : k < l.length) : ∃ b off, A = some ⟨b, off, none⟩ ∧ F b ∧ w.cell? ⟨b, off + k * 9, none⟩ = some (.string l[k].1.scene) ∧ w.cell? ⟨b, off + k * 9 + 1, none⟩ = some (.string l[k].1.setup) ∧ w.cell? ⟨b, off + k * 9 + 2, none⟩ = some (.int .i64 l[k].1.number) ∧ w.cell? ⟨b, off + k * 9 + 3, none⟩ = some (.string l[k].1.roll) ∧ w.cell? ⟨b, off + k * 9 + 4, none⟩ = some (.string l[k].1.sound) ∧ w.cell? ⟨b, off + k * 9 + 5, none⟩ = some (.int .i64 l[k].1.tin) ∧ w.cell? ⟨b, off + k * 9 + 6, none⟩ = some (.int .i64 l[k].1.tout) ∧ w.cell? ⟨b, off + k * 9 + 7, none⟩ = some (.bool l[k].1.good) ∧ w.cell? ⟨b, off + k * 9 + 8, none⟩ = some l[k].2 := by
  obtain ⟨b, off, a, e, hb, hr, hc⟩ := h.at_ k hk
  have ha : a = (l[k]).1.cells l[k].2 := hr
  subst ha
  exact ⟨b, off, e, hb, hc 0 _ rfl, hc 1 _ rfl, hc 2 _ rfl, hc 3 _ rfl, hc 4 _ rfl, hc 5 _ rfl, hc 6 _ rfl, hc 7 _ rfl, hc 8 _ rfl⟩
def maxI (x y : Int) : Int := if y > x then y else x
def minI (x y : Int) : Int := if y < x then y else x
theorem run_max {P : Program} (ats : Array TypeId) (ty : TypeId) (x y : Int) (w : World) : (Builtin.max_ ats ty #[.int .i64 x, .int .i64 y]).run P w = .ok (.int .i64 (maxI x y)) w := rfl
theorem run_min {P : Program} (ats : Array TypeId) (ty : TypeId) (x y : Int) (w : World) : (Builtin.min_ ats ty #[.int .i64 x, .int .i64 y]).run P w = .ok (.int .i64 (minI x y)) w := rfl
theorem maxI_eq (x y : Int) : maxI x y = max x y := by unfold maxI; split <;> omega
theorem minI_eq (x y : Int) : minI x y = min x y := by unfold minI; split <;> omega
end Go.Proofs.YtodlfdfkhdfblaaGreatDoor

