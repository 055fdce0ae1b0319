/- Texts packed: RollY. -/
import Derived.Test.YtnemcnpilngblaaDoorRows
import Derived.Test.YtnemcnpilngblaaDoorSc01
/- The program's checks of rolls. -/
namespace Go.Proofs.YtnemcnpilngblaaDoor
set_option linter.unusedVariables false
open Go.RowKit

end Go.Proofs.YtnemcnpilngblaaDoor

