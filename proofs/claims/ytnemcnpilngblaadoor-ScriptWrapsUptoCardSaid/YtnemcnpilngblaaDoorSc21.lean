/- Texts packed: ChkG. -/
import Derived.Test.YtnemcnpilngblaaDoorSc20
/- The reference's error of a script, whole. -/
namespace Go.Proofs.YtnemcnpilngblaaDoor
set_option linter.unusedVariables false
open Go.RowKit Go.Sort

end Go.Proofs.YtnemcnpilngblaaDoor

