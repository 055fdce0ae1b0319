/- Texts packed: ChkE. -/
import Derived.Test.YtnnnmbipmfopmaaGreatDoorSc11
/- The reference's error of a paragraph. -/
namespace Go.Proofs.YtnnnmbipmfopmaaGreatDoor
set_option linter.unusedVariables false
open Go.RowKit

end Go.Proofs.YtnnnmbipmfopmaaGreatDoor

