/- Texts packed: WpA. -/
import Derived.Test.YtndillbimibecaaGreatDoorSc30
import Derived.Test.YtndillbimibecaaGreatDoorSc28
import Derived.Test.YtndillbimibecaaGreatDoorSc08
/- script.Wrap and R.Plain, walked. -/
namespace Go.Proofs.YtndillbimibecaaGreatDoor
set_option linter.unusedVariables false
open Go.RowKit

theorem plain_pr {s : ByteArray} (h : plainB s = true) : ∀ x ∈ s.data.toList, prB x = true := by
  have h2 : (allB prB s && plainL s.data.toList) = true := h
  rw [Bool.and_eq_true] at h2
  have h3 := h2.1
  unfold allB at h3
  rw [List.all_eq_true] at h3
  exact h3
end Go.Proofs.YtndillbimibecaaGreatDoor

