/- Texts packed: EvW, RefB, CodeR, GenD, NextA. -/
import Derived.Test.YtnnnmbipmfopmaaGreatDoorRows
import Derived.Test.YtnnnmbipmfopmaaGreatDoorSc01
import Derived.Test.YtnnnmbipmfopmaaGreatDoorSc05
import Derived.Test.YtnnnmbipmfopmaaGreatDoorSc02
import Derived.Lib.LazyBuf
import Derived.RegionTactic
/- The program's error of events, walked. -/
namespace Go.Proofs.YtnnnmbipmfopmaaGreatDoor
set_option linter.unusedVariables false
open Go.RowKit

end Go.Proofs.YtnnnmbipmfopmaaGreatDoor

/- The reference's functions on rolls and rates. -/
namespace Go.Proofs.YtnnnmbipmfopmaaGreatDoor
set_option linter.unusedVariables false
open Go.RowKit

end Go.Proofs.YtnnnmbipmfopmaaGreatDoor

/- The reference's codes. -/
namespace Go.Proofs.YtnnnmbipmfopmaaGreatDoor
set_option linter.unusedVariables false
open Go.RowKit Go.Sort

end Go.Proofs.YtnnnmbipmfopmaaGreatDoor

/- The generator's codes. -/
namespace Go.Proofs.YtnnnmbipmfopmaaGreatDoor
set_option linter.unusedVariables false
open Go.RowKit Go.Sort

end Go.Proofs.YtnnnmbipmfopmaaGreatDoor

/- The setup that comes after another one: the program's, walked. -/
namespace Go.Proofs.YtnnnmbipmfopmaaGreatDoor
set_option linter.unusedVariables false
open Go.RowKit

section
variable {w wx wy : World} {B : Nat} {l : List UInt8}
end

end Go.Proofs.YtnnnmbipmfopmaaGreatDoor

