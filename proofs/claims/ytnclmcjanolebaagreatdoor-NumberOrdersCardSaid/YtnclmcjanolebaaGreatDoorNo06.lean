/- Texts packed: EvW, RefB, CodeR, GenD. -/
import Derived.Test.YtnclmcjanolebaaGreatDoorRows
import Derived.Test.YtnclmcjanolebaaGreatDoorNo01
import Derived.Test.YtnclmcjanolebaaGreatDoorNo05
import Derived.Test.YtnclmcjanolebaaGreatDoorNo02
/- The program's error of events, walked. -/
namespace Go.Proofs.YtnclmcjanolebaaGreatDoor
set_option linter.unusedVariables false
open Go.RowKit

end Go.Proofs.YtnclmcjanolebaaGreatDoor

/- The reference's functions on rolls and rates. -/
namespace Go.Proofs.YtnclmcjanolebaaGreatDoor
set_option linter.unusedVariables false
open Go.RowKit

end Go.Proofs.YtnclmcjanolebaaGreatDoor

/- The reference's codes. -/
namespace Go.Proofs.YtnclmcjanolebaaGreatDoor
set_option linter.unusedVariables false
open Go.RowKit Go.Sort

end Go.Proofs.YtnclmcjanolebaaGreatDoor

/- The generator's codes. -/
namespace Go.Proofs.YtnclmcjanolebaaGreatDoor
set_option linter.unusedVariables false
open Go.RowKit Go.Sort

end Go.Proofs.YtnclmcjanolebaaGreatDoor

