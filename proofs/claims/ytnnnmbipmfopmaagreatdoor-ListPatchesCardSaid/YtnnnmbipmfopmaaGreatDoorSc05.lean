/- Texts packed: BetwX, RollY, EvW, RefB, CodeR, GenD. -/
import Derived.Test.YtnnnmbipmfopmaaGreatDoorSc04
import Derived.Test.YtnnnmbipmfopmaaGreatDoorSc02
import Derived.Test.YtnnnmbipmfopmaaGreatDoorSc01
import Derived.Test.YtnnnmbipmfopmaaGreatDoorRows
/- The reference's number between two others: that it ends, and how long it is. -/
namespace Go.Proofs.YtnnnmbipmfopmaaGreatDoor
set_option linter.unusedVariables false
open Go.RowKit Go.Sort

end Go.Proofs.YtnnnmbipmfopmaaGreatDoor

/- The program's checks of rolls. -/
namespace Go.Proofs.YtnnnmbipmfopmaaGreatDoor
set_option linter.unusedVariables false
open Go.RowKit

end Go.Proofs.YtnnnmbipmfopmaaGreatDoor

/- The program's error of events, walked. -/
namespace Go.Proofs.YtnnnmbipmfopmaaGreatDoor
set_option linter.unusedVariables false
open Go.RowKit

end Go.Proofs.YtnnnmbipmfopmaaGreatDoor

/- The reference's functions on rolls and rates. -/
namespace Go.Proofs.YtnnnmbipmfopmaaGreatDoor
set_option linter.unusedVariables false
open Go.RowKit

end Go.Proofs.YtnnnmbipmfopmaaGreatDoor

/- The reference's codes. -/
namespace Go.Proofs.YtnnnmbipmfopmaaGreatDoor
set_option linter.unusedVariables false
open Go.RowKit Go.Sort

end Go.Proofs.YtnnnmbipmfopmaaGreatDoor

/- The generator's codes. -/
namespace Go.Proofs.YtnnnmbipmfopmaaGreatDoor
set_option linter.unusedVariables false
open Go.RowKit Go.Sort

end Go.Proofs.YtnnnmbipmfopmaaGreatDoor

