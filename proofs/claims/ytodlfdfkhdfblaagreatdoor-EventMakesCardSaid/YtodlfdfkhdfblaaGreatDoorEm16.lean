/- Texts packed: EvX. -/
import Derived.Test.YtodlfdfkhdfblaaGreatDoorRows
import Derived.Test.YtodlfdfkhdfblaaGreatDoorEm13
import Derived.Test.YtodlfdfkhdfblaaGreatDoorEm15
/- The reference's error of events, walked. -/
namespace Go.Proofs.YtodlfdfkhdfblaaGreatDoor
set_option linter.unusedVariables false
open Go.RowKit

theorem rollNames {l : List Roll} (h0 : rollsFault l = 0) : ∀ r ∈ l, rollNameB r.name = true := fun r hr => (rollsFault_ok l h0 r hr).2.2
theorem rateK_end (l : List Roll) (es : List Ev) : rateK l es es.length = evRate l es := by
  unfold rateK
  cases es with
  | nil => rfl
  | cons x r => rw [if_neg (by simp)]
end Go.Proofs.YtodlfdfkhdfblaaGreatDoor

