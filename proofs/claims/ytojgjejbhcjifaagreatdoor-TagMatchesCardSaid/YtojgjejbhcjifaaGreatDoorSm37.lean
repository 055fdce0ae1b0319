/- Texts packed: RdE. -/
import Derived.Test.YtojgjejbhcjifaaGreatDoorSm36
import Derived.Test.YtojgjejbhcjifaaGreatDoorSm26
/- script.Read, walked. -/
namespace Go.Proofs.YtojgjejbhcjifaaGreatDoor
set_option linter.unusedVariables false
open Go.RowKit Go.Sort

end Go.Proofs.YtojgjejbhcjifaaGreatDoor

