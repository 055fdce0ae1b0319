/- Texts packed: StoryA. -/
import Derived.Test.YtnnnmbipmfopmaaGreatDoorSc01
import Derived.Test.YtnnnmbipmfopmaaGreatDoorSc02
import Derived.RegionTactic
import Derived.Deep.RegionHeld3
import Derived.Deep.DeepCutAuto
/- The generator's words and paragraphs. -/
namespace Go.Proofs.YtnnnmbipmfopmaaGreatDoor
set_option linter.unusedVariables false
open Go.RowKit Go.Sort

/-- A list that begins as a literal of one element. -/
theorem GS.lit {α : Type} {R : Rep α} {e : TypeId} {w wx : World} {sb : Nat} {n : Int} (x : α) (cs : List Value) (hn : cs.length = R.n) (hx : ∀ w F, R.rel w F x cs) (hs : Str wx sb n) (hg : w.grownBy wx (some sb)) (hl : sb < w.heap.size) : GS R e w sb [x] (.slice (some ⟨wx.heap.size, 0, none⟩) 1 1) [] n (wx.alloc (.cells cs.toArray e)) :=
  ⟨hs.alloc _, gAlloc hg _, ⟨cs, ⟨by simp [hn], .inr ⟨wx.heap.size, 1, cs.toArray, rfl, hg.size, heap_alloc_new wx _, Nat.le_refl _, by decide, by simp [hn], by simp [← hn]⟩⟩, Lay.one (hx _ _)⟩, hl, fun p hp => by cases hp⟩

end Go.Proofs.YtnnnmbipmfopmaaGreatDoor

