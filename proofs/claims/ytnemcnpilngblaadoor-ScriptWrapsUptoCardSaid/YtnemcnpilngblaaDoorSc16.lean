/- Texts packed: StoryB. -/
import Derived.Test.YtnemcnpilngblaaDoorSc15
import Derived.Test.YtnemcnpilngblaaDoorSc01
import Derived.Deep.RegionLaw
/- The generator's scenes. -/
namespace Go.Proofs.YtnemcnpilngblaaDoor
set_option linter.unusedVariables false
open Go.RowKit Go.Sort

end Go.Proofs.YtnemcnpilngblaaDoor

