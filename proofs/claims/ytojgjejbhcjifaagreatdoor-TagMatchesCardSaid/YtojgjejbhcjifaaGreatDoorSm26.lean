/- Texts packed: RdD. -/
import Derived.Test.YtojgjejbhcjifaaGreatDoorSm25
import Derived.Test.YtojgjejbhcjifaaGreatDoorSm13
/- The reader of scripts: paragraphs behind an empty line; any line. -/
namespace Go.Proofs.YtojgjejbhcjifaaGreatDoor
set_option linter.unusedVariables false
open Go.RowKit Go.Sort

end Go.Proofs.YtojgjejbhcjifaaGreatDoor

