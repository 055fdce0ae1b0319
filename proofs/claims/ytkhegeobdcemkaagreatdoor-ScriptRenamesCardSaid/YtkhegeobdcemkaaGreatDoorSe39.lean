/- Texts packed: SdY, SoA. -/
import Derived.Test.YtkhegeobdcemkaaGreatDoorSe30
import Derived.Test.YtkhegeobdcemkaaGreatDoorSe01
import Derived.Test.YtkhegeobdcemkaaGreatDoorSe09
import Derived.Test.YtkhegeobdcemkaaGreatDoorSe34
import Derived.Test.YtkhegeobdcemkaaGreatDoorSe06
import Derived.Deep.DeepCutAuto
import Derived.Test.YtkhegeobdcemkaaGreatDoorSe22
import Derived.Test.YtkhegeobdcemkaaGreatDoorSe36
/- script.part, walked. -/
namespace Go.Proofs.YtkhegeobdcemkaaGreatDoor
set_option linter.unusedVariables false
open Go.RowKit Go.Sort

abbrev PaG (w : World) (l : List Para) (v : Value) (P : List Pb) (wx : World) : Prop := BM paraR 78 w l v P wx
end Go.Proofs.YtkhegeobdcemkaaGreatDoor

/- Searching the groups of a scene; rows that are only read beside scenes of one's own. -/
namespace Go.Proofs.YtkhegeobdcemkaaGreatDoor
set_option linter.unusedVariables false
open Go.RowKit Go.Sort

/-- A row that a call has made and that is only read from now on takes its place among the private blocks. -/
theorem BI.keepNew {β : Type} {m : Nat} {enc2 : β → List Value} {hm : ∀ x, (enc2 x).length = m} {w wx wy : World} {v v2 : Value} {l2 : List β} {P : List (Nat × Array Value × TypeId)} {lo : Nat} {e2 : TypeId} (h : BI w [] v P wx) (hb : Below wx.heap.size wx wy) (ho : Own (Rep.flat m enc2 hm) wy wx.heap.size lo e2 l2 v2) :
    ∃ PT : List (Nat × Array Value × TypeId), BI w [] v (PT ++ P) wy ∧ (∀ p ∈ PT, wx.heap.size ≤ p.1) ∧ ∀ (W : World) l v' P', BI w l v' P' W → (∀ p ∈ PT, p ∈ P') → Sli (Rep.flat m enc2 hm) W (fun q => v2.ownBlock = some q) l2 v2 ∧ ∀ q, v2.ownBlock = some q → q < W.heap.size := by
  obtain ⟨xs, hor, hl⟩ := ho
  rcases hor.2 with ⟨rfl, h0⟩ | ⟨g, cap, cur, hv, hbg, hg, h1, h2, h3, h4⟩
  · obtain rfl : l2 = [] := List.length_eq_zero_iff.1 h0
    exact ⟨[], h.below hb, fun p hp => (by cases hp), fun W l v' P' _ _ => ⟨Sli.nil_, fun q hq => (by cases hq)⟩⟩
  · have hB := h.below hb
    refine ⟨[(g, cur, e2)], ⟨⟨hB.bo.bel, hB.bo.own, fun p hp => ?_⟩, fun y hy => (by cases hy)⟩, fun p hp => (by rw [List.mem_singleton] at hp; subst hp; exact hbg), fun W l v' P' hW hP => ?_⟩
    · rcases List.mem_cons.1 hp with rfl | hp
      · exact ⟨hg, Nat.le_trans h.bo.size hbg, fun e => by have := (h.bo.own.block g e).2; omega⟩
      · exact hB.bo.prv p hp
    · have hw := (hW.bo.prv (g, cur, e2) (hP _ (by simp))).1
      dsimp only at hw
      subst hv
      have hs : Own (Rep.flat m enc2 hm) wy wx.heap.size lo e2 l2 (.slice (some ⟨g, 0, none⟩) l2.length cap) := ⟨xs, hor, hl⟩
      refine ⟨Sli.keep (hs.sliF (F := fun q => (Value.slice (some ⟨g, 0, none⟩) l2.length cap).ownBlock = some q) (fun q hq => hq)) fun q hq => ?_, fun q hq => ?_⟩
      · obtain rfl : g = q := by injection hq
        rw [hw, hg]
      · obtain rfl : g = q := by injection hq
        exact heap_lt hw
/-- A block that has been laid since takes its place among the private ones. -/
theorem BI.blk {w wx wy : World} {l : List (Scene × Value)} {v : Value} {P : List (Nat × Array Value × TypeId)} (h : BI w l v P wx) (hb : Below wx.heap.size wx wy) {B : Nat} {cs : Array Value} {T : TypeId} (hB : wx.heap.size ≤ B) (hc : wy.heap[B]? = some (.cells cs T (0, 0))) : BI w l v ((B, cs, T) :: P) wy := by
  have h2 := h.below hb
  refine ⟨⟨h2.bo.bel, h2.bo.own, fun p hp => ?_⟩, fun y hy => ?_⟩
  · rcases List.mem_cons.1 hp with rfl | hp
    · exact ⟨hc, Nat.le_trans h.bo.size hB, fun e => by have := (h.bo.own.block B e).2; omega⟩
    · exact h2.bo.prv p hp
  · refine ((h.inn y hy).below hb (fun q hq => hq.2.1)).more fun q hq => ⟨hq.1, Nat.lt_of_lt_of_le hq.2.1 hb.size, fun p hp => ?_, hq.2.2.2⟩
    rcases List.mem_cons.1 hp with rfl | hp
    · have := hq.2.1; dsimp only; omega
    · exact hq.2.2.1 p hp
def Grp.val (g : Grp) : Value := .agg #[.int .i64 (g.1 : Int), .int .i64 (g.2.1 : Int), .string g.2.2]
end Go.Proofs.YtkhegeobdcemkaaGreatDoor

