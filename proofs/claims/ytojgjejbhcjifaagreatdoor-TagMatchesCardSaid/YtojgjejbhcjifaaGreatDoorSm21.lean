/- Texts packed: ChkF. -/
import Derived.Test.YtojgjejbhcjifaaGreatDoorSm14
import Derived.Test.YtojgjejbhcjifaaGreatDoorSm20
import Derived.Deep.DeepCutAuto
/- The reference's error of a script. -/
namespace Go.Proofs.YtojgjejbhcjifaaGreatDoor
set_option linter.unusedVariables false
open Go.RowKit Go.Sort

end Go.Proofs.YtojgjejbhcjifaaGreatDoor

