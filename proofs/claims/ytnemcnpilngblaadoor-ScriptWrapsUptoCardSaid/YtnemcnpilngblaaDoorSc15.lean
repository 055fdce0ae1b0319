/- Texts packed: StoryA. -/
import Derived.Test.YtnemcnpilngblaaDoorSc01
import Derived.RegionTactic
import Derived.Deep.RegionHeld3
import Derived.Deep.DeepCutAuto
/- The generator's words and paragraphs. -/
namespace Go.Proofs.YtnemcnpilngblaaDoor
set_option linter.unusedVariables false
open Go.RowKit Go.Sort

end Go.Proofs.YtnemcnpilngblaaDoor

