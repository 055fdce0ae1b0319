/- Texts packed: GenJ. -/
import Derived.Test.YtodlfdfkhdfblaaGreatDoorEm19
import Derived.Test.YtodlfdfkhdfblaaGreatDoorEm18
import Derived.Test.YtodlfdfkhdfblaaGreatDoorEm16
/- The generator's texts of events. -/
namespace Go.Proofs.YtodlfdfkhdfblaaGreatDoor
set_option linter.unusedVariables false
open Go.RowKit Go.Sort

theorem rolls_sz {a b c : Roll} (ha : rollBd a) (hb : rollBd b) (hc : rollBd c) : ∀ r ∈ ([a, b, c] : List Roll), r.name.size ≤ 140737488355328 := by
  intro r hr
  simp at hr
  rcases hr with rfl | rfl | rfl
  · have := ha.1; omega
  · have := hb.1; omega
  · have := hc.1; omega
end Go.Proofs.YtodlfdfkhdfblaaGreatDoor

