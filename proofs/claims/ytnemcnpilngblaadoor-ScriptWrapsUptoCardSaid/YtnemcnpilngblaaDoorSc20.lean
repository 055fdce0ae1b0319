/- Texts packed: ChkF. -/
import Derived.Test.YtnemcnpilngblaaDoorSc13
import Derived.Test.YtnemcnpilngblaaDoorSc19
import Derived.Deep.DeepCutAuto
/- The reference's error of a script. -/
namespace Go.Proofs.YtnemcnpilngblaaDoor
set_option linter.unusedVariables false
open Go.RowKit Go.Sort

end Go.Proofs.YtnemcnpilngblaaDoor

