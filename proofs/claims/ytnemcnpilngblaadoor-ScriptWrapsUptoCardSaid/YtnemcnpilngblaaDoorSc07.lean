/- Texts packed: RefC. -/
import Derived.Test.YtnemcnpilngblaaDoorRows
import Derived.Test.YtnemcnpilngblaaDoorSc06
/- The reference's checks of rolls. -/
namespace Go.Proofs.YtnemcnpilngblaaDoor
set_option linter.unusedVariables false
open Go.RowKit

end Go.Proofs.YtnemcnpilngblaaDoor

