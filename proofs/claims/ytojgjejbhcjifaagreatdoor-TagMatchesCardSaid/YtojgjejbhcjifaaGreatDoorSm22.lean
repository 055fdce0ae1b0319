/- Texts packed: ChkG. -/
import Derived.Test.YtojgjejbhcjifaaGreatDoorSm21
/- The reference's error of a script, whole. -/
namespace Go.Proofs.YtojgjejbhcjifaaGreatDoor
set_option linter.unusedVariables false
open Go.RowKit Go.Sort

end Go.Proofs.YtojgjejbhcjifaaGreatDoor

