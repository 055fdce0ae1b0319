/- Texts packed: EvW, RefB, CodeR, GenD. -/
import Derived.Test.YtnemcnpilngblaaDoorRows
import Derived.Test.YtnemcnpilngblaaDoorSc01
import Derived.Test.YtnemcnpilngblaaDoorSc05
/- The program's error of events, walked. -/
namespace Go.Proofs.YtnemcnpilngblaaDoor
set_option linter.unusedVariables false
open Go.RowKit

end Go.Proofs.YtnemcnpilngblaaDoor

/- The reference's functions on rolls and rates. -/
namespace Go.Proofs.YtnemcnpilngblaaDoor
set_option linter.unusedVariables false
open Go.RowKit

end Go.Proofs.YtnemcnpilngblaaDoor

/- The reference's codes. -/
namespace Go.Proofs.YtnemcnpilngblaaDoor
set_option linter.unusedVariables false
open Go.RowKit Go.Sort

end Go.Proofs.YtnemcnpilngblaaDoor

/- The generator's codes. -/
namespace Go.Proofs.YtnemcnpilngblaaDoor
set_option linter.unusedVariables false
open Go.RowKit Go.Sort

end Go.Proofs.YtnemcnpilngblaaDoor

