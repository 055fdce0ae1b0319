/- Texts packed: NextA. -/
import Derived.Test.YtnclmcjanolebaaGreatDoorRows
import Derived.Test.YtnclmcjanolebaaGreatDoorNo02
import Derived.Test.YtnclmcjanolebaaGreatDoorNo01
import Derived.Test.YtnclmcjanolebaaGreatDoorNo06
import Derived.Lib.LazyBuf
import Derived.RegionTactic
/- The setup that comes after another one: the program's, walked. -/
namespace Go.Proofs.YtnclmcjanolebaaGreatDoor
set_option linter.unusedVariables false
open Go.RowKit

section
variable {w wx wy : World} {B : Nat} {l : List UInt8}
end

end Go.Proofs.YtnclmcjanolebaaGreatDoor

