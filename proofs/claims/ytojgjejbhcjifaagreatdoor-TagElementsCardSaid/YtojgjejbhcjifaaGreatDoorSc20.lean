/- Texts packed: RdA. -/
import Derived.Test.YtojgjejbhcjifaaGreatDoorSc14
import Derived.Test.YtojgjejbhcjifaaGreatDoorSc01
import Derived.Test.YtojgjejbhcjifaaGreatDoorSc19
import Derived.Test.YtojgjejbhcjifaaGreatDoorSc15
import Derived.Deep.QuietTactic
import Derived.BigQuiet
import Derived.Deep.DeepCutAuto
import Derived.RegionTactic
/- The reader of scripts: how it lies in memory, and a paragraph added. -/
namespace Go.Proofs.YtojgjejbhcjifaaGreatDoor
set_option linter.unusedVariables false
open Go.RowKit Go.Sort

end Go.Proofs.YtojgjejbhcjifaaGreatDoor

