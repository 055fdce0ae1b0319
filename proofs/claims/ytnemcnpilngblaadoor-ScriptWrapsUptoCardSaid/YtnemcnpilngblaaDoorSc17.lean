/- Texts packed: StoryC. -/
import Derived.Test.YtnemcnpilngblaaDoorSc16
import Derived.Test.YtnemcnpilngblaaDoorSc01
/- The generator's scripts without numbers. -/
namespace Go.Proofs.YtnemcnpilngblaaDoor
set_option linter.unusedVariables false
open Go.RowKit Go.Sort

abbrev svR : Rep (Scene × Value) := Rep.flat 5 (fun x => x.1.cells x.2) (fun _ => rfl)
end Go.Proofs.YtnemcnpilngblaaDoor

