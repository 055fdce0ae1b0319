/- Texts packed: WpA, WrA. -/
import Derived.Test.YtnclmcjanolebaaGreatDoorNo32
import Derived.Test.YtnclmcjanolebaaGreatDoorNo30
import Derived.Test.YtnclmcjanolebaaGreatDoorNo12
import Derived.Test.YtnclmcjanolebaaGreatDoorNo02
import Derived.Test.YtnclmcjanolebaaGreatDoorNo15
import Derived.Test.YtnclmcjanolebaaGreatDoorNo21
/- script.Wrap and R.Plain, walked. -/
namespace Go.Proofs.YtnclmcjanolebaaGreatDoor
set_option linter.unusedVariables false
open Go.RowKit

theorem plain_pr {s : ByteArray} (h : plainB s = true) : ∀ x ∈ s.data.toList, prB x = true := by
  have h2 : (allB prB s && plainL s.data.toList) = true := h
  rw [Bool.and_eq_true] at h2
  have h3 := h2.1
  unfold allB at h3
  rw [List.all_eq_true] at h3
  exact h3
end Go.Proofs.YtnclmcjanolebaaGreatDoor

/- A script written: the program's, walked. -/
namespace Go.Proofs.YtnclmcjanolebaaGreatDoor
set_option linter.unusedVariables false
open Go.RowKit Go.Sort

end Go.Proofs.YtnclmcjanolebaaGreatDoor

