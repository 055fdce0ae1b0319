/- Texts packed: ChkE. -/
import Derived.Test.YtnclmcjanolebaaGreatDoorNo13
/- The reference's error of a paragraph. -/
namespace Go.Proofs.YtnclmcjanolebaaGreatDoor
set_option linter.unusedVariables false
open Go.RowKit

end Go.Proofs.YtnclmcjanolebaaGreatDoor

