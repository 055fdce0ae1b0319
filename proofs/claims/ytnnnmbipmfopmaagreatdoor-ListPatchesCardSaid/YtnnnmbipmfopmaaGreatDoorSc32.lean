/- Texts packed: WpA, WrA, RlA, TxA, RdE. -/
import Derived.Test.YtnnnmbipmfopmaaGreatDoorSc31
import Derived.Test.YtnnnmbipmfopmaaGreatDoorSc29
import Derived.Test.YtnnnmbipmfopmaaGreatDoorSc10
import Derived.Test.YtnnnmbipmfopmaaGreatDoorSc02
import Derived.Test.YtnnnmbipmfopmaaGreatDoorSc13
import Derived.Test.YtnnnmbipmfopmaaGreatDoorSc19
import Derived.Test.YtnnnmbipmfopmaaGreatDoorSc11
import Derived.Test.YtnnnmbipmfopmaaGreatDoorSc25
/- script.Wrap and R.Plain, walked. -/
namespace Go.Proofs.YtnnnmbipmfopmaaGreatDoor
set_option linter.unusedVariables false
open Go.RowKit

theorem plain_pr {s : ByteArray} (h : plainB s = true) : ∀ x ∈ s.data.toList, prB x = true := by
  have h2 : (allB prB s && plainL s.data.toList) = true := h
  rw [Bool.and_eq_true] at h2
  have h3 := h2.1
  unfold allB at h3
  rw [List.all_eq_true] at h3
  exact h3
end Go.Proofs.YtnnnmbipmfopmaaGreatDoor

/- A script written: the program's, walked. -/
namespace Go.Proofs.YtnnnmbipmfopmaaGreatDoor
set_option linter.unusedVariables false
open Go.RowKit Go.Sort

end Go.Proofs.YtnnnmbipmfopmaaGreatDoor

/- The reference's line of a paragraph, walked. -/
namespace Go.Proofs.YtnnnmbipmfopmaaGreatDoor
set_option linter.unusedVariables false
open Go.RowKit

end Go.Proofs.YtnnnmbipmfopmaaGreatDoor

/- script.Text, walked. -/
namespace Go.Proofs.YtnnnmbipmfopmaaGreatDoor
set_option linter.unusedVariables false
open Go.RowKit Go.Sort

end Go.Proofs.YtnnnmbipmfopmaaGreatDoor

/- script.Read, walked. -/
namespace Go.Proofs.YtnnnmbipmfopmaaGreatDoor
set_option linter.unusedVariables false
open Go.RowKit Go.Sort

end Go.Proofs.YtnnnmbipmfopmaaGreatDoor

