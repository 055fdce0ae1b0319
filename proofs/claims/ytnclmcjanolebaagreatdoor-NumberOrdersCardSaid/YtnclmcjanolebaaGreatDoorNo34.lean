/- Texts packed: RlA, TxA, RdE. -/
import Derived.Test.YtnclmcjanolebaaGreatDoorNo33
import Derived.Test.YtnclmcjanolebaaGreatDoorNo13
import Derived.Test.YtnclmcjanolebaaGreatDoorNo26
/- The reference's line of a paragraph, walked. -/
namespace Go.Proofs.YtnclmcjanolebaaGreatDoor
set_option linter.unusedVariables false
open Go.RowKit

end Go.Proofs.YtnclmcjanolebaaGreatDoor

/- script.Text, walked. -/
namespace Go.Proofs.YtnclmcjanolebaaGreatDoor
set_option linter.unusedVariables false
open Go.RowKit Go.Sort

end Go.Proofs.YtnclmcjanolebaaGreatDoor

/- script.Read, walked. -/
namespace Go.Proofs.YtnclmcjanolebaaGreatDoor
set_option linter.unusedVariables false
open Go.RowKit Go.Sort

end Go.Proofs.YtnclmcjanolebaaGreatDoor

