/- Texts packed: HdA. -/
import Derived.Test.YtojgjejbhcjifaaGreatDoorSc14
import Derived.Test.YtojgjejbhcjifaaGreatDoorSc01
import Derived.Deep.QuietTactic
import Derived.BigQuiet
import Derived.Deep.DeepCutAuto
import Derived.RegionTactic
/- Headings of scenes: the program's and the reference's, walked. -/
namespace Go.Proofs.YtojgjejbhcjifaaGreatDoor
set_option linter.unusedVariables false
open Go.RowKit Go.Sort

end Go.Proofs.YtojgjejbhcjifaaGreatDoor

