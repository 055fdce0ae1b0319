/- Texts packed: HdA. -/
import Derived.Test.YtojgjejbhcjifaaGreatDoorSm13
import Derived.Test.YtojgjejbhcjifaaGreatDoorSm01
import Derived.Deep.QuietTactic
import Derived.BigQuiet
import Derived.Deep.DeepCutAuto
import Derived.RegionTactic
/- Headings of scenes: the program's and the reference's, walked. -/
namespace Go.Proofs.YtojgjejbhcjifaaGreatDoor
set_option linter.unusedVariables false
open Go.RowKit Go.Sort

end Go.Proofs.YtojgjejbhcjifaaGreatDoor

