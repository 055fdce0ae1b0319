/- Texts packed: WpA, WrA, RlA, TxA, RdE. -/
import Derived.Test.YtlmfpaincgkpeaaGreatDoorSc31
import Derived.Test.YtlmfpaincgkpeaaGreatDoorSc29
import Derived.Test.YtlmfpaincgkpeaaGreatDoorSc10
import Derived.Test.YtlmfpaincgkpeaaGreatDoorSc02
import Derived.Test.YtlmfpaincgkpeaaGreatDoorSc13
import Derived.Test.YtlmfpaincgkpeaaGreatDoorSc19
import Derived.Test.YtlmfpaincgkpeaaGreatDoorSc11
import Derived.Test.YtlmfpaincgkpeaaGreatDoorSc25
/- script.Wrap and R.Plain, walked. -/
namespace Go.Proofs.YtlmfpaincgkpeaaGreatDoor
set_option linter.unusedVariables false
open Go.RowKit

theorem plain_pr {s : ByteArray} (h : plainB s = true) : ∀ x ∈ s.data.toList, prB x = true := by
  have h2 : (allB prB s && plainL s.data.toList) = true := h
  rw [Bool.and_eq_true] at h2
  have h3 := h2.1
  unfold allB at h3
  rw [List.all_eq_true] at h3
  exact h3
end Go.Proofs.YtlmfpaincgkpeaaGreatDoor

/- A script written: the program's, walked. -/
namespace Go.Proofs.YtlmfpaincgkpeaaGreatDoor
set_option linter.unusedVariables false
open Go.RowKit Go.Sort

end Go.Proofs.YtlmfpaincgkpeaaGreatDoor

/- The reference's line of a paragraph, walked. -/
namespace Go.Proofs.YtlmfpaincgkpeaaGreatDoor
set_option linter.unusedVariables false
open Go.RowKit

end Go.Proofs.YtlmfpaincgkpeaaGreatDoor

/- script.Text, walked. -/
namespace Go.Proofs.YtlmfpaincgkpeaaGreatDoor
set_option linter.unusedVariables false
open Go.RowKit Go.Sort

end Go.Proofs.YtlmfpaincgkpeaaGreatDoor

/- script.Read, walked. -/
namespace Go.Proofs.YtlmfpaincgkpeaaGreatDoor
set_option linter.unusedVariables false
open Go.RowKit Go.Sort

end Go.Proofs.YtlmfpaincgkpeaaGreatDoor

