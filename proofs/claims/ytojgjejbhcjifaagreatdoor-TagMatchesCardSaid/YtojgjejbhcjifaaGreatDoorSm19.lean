/- Texts packed: RdA. -/
import Derived.Test.YtojgjejbhcjifaaGreatDoorSm13
import Derived.Test.YtojgjejbhcjifaaGreatDoorSm01
import Derived.Test.YtojgjejbhcjifaaGreatDoorSm18
import Derived.Test.YtojgjejbhcjifaaGreatDoorSm14
import Derived.Deep.QuietTactic
import Derived.BigQuiet
import Derived.Deep.DeepCutAuto
import Derived.RegionTactic
/- The reader of scripts: how it lies in memory, and a paragraph added. -/
namespace Go.Proofs.YtojgjejbhcjifaaGreatDoor
set_option linter.unusedVariables false
open Go.RowKit Go.Sort

end Go.Proofs.YtojgjejbhcjifaaGreatDoor

