/- Texts packed: SlateW, NumO. -/
import Derived.Test.YtnemcnpilngblaaDoorRows
import Derived.Test.YtnemcnpilngblaaDoorSc03
import Derived.Test.YtnemcnpilngblaaDoorSc01
/- The program's slates. -/
namespace Go.Proofs.YtnemcnpilngblaaDoor
set_option linter.unusedVariables false
open Go.RowKit

end Go.Proofs.YtnemcnpilngblaaDoor

/- The reference's numbers of scenes, setups and slates. -/
namespace Go.Proofs.YtnemcnpilngblaaDoor
set_option linter.unusedVariables false
open Go.RowKit Go.Sort

theorem isEmpty_size (s : ByteArray) : s.toList.isEmpty = decide (s.size = 0) := by
  rw [ByteArray.toList_eq]
  rcases s with ⟨⟨l⟩⟩
  cases l with
  | nil => rfl
  | cons x l =>
    show false = decide ((x :: l).length = 0)
    simp
end Go.Proofs.YtnemcnpilngblaaDoor

