/- Texts packed: TkB, TkA. -/
import Derived.Test.YtlfnmmnbfoimeaaGreatDoorSc01
import Derived.Test.YtlfnmmnbfoimeaaGreatDoorSc02
import Derived.Test.YtlfnmmnbfoimeaaGreatDoorSc19
import Derived.Deep.QuietTactic
import Derived.BigQuiet
import Derived.Deep.RegionHeld3
import Derived.Deep.DeepCutAuto
import Derived.RegionTactic
import Derived.Test.YtlfnmmnbfoimeaaGreatDoorSc18
import Derived.Test.YtlfnmmnbfoimeaaGreatDoorSc03
/- The generator's takes with a change. -/
namespace Go.Proofs.YtlfnmmnbfoimeaaGreatDoor
set_option linter.unusedVariables false
open Go.RowKit Go.Sort

theorem GS.far {α : Type} {n : Nat} {enc : α → List Value} {hn : ∀ x, (enc x).length = n} {w wx : World} {sb : Nat} {e : TypeId} {l : List α} {v : Value} {k : Int} (h : GS (Rep.flat n enc hn) e w sb l v [] k wx) {b : Nat} (i : Nat) (u : Value) (hb : w.heap.size ≤ b) (hne : v.ownBlock ≠ some b) : GS (Rep.flat n enc hn) e w sb l v [] k (wx.setCell ⟨b, i, none⟩ u) :=
  ⟨h.str.setCell (by have := h.lt; show sb < b; omega) _, gSet h.gr hb _, h.own.fkeep (fun q e _ => Below.heap_setCell wx _ _ q (fun e2 => hne (by rw [e, e2]))), h.lt, fun p hp => by cases hp⟩
end Go.Proofs.YtlfnmmnbfoimeaaGreatDoor

/- The generator's takes. -/
namespace Go.Proofs.YtlfnmmnbfoimeaaGreatDoor
set_option linter.unusedVariables false
open Go.RowKit Go.Sort

end Go.Proofs.YtlfnmmnbfoimeaaGreatDoor

