/- Texts packed: WpA, WrA, RlA, TxA, RdE. -/
import Derived.Test.YtaoobkgepcikiaaGreatDoorSc27
import Derived.Test.YtaoobkgepcikiaaGreatDoorSc25
import Derived.Test.YtaoobkgepcikiaaGreatDoorSc07
import Derived.Test.YtaoobkgepcikiaaGreatDoorSc02
import Derived.Test.YtaoobkgepcikiaaGreatDoorSc10
import Derived.Test.YtaoobkgepcikiaaGreatDoorSc16
import Derived.Test.YtaoobkgepcikiaaGreatDoorSc08
import Derived.Test.YtaoobkgepcikiaaGreatDoorSc20
namespace Go.Proofs.YtaoobkgepcikiaaGreatDoor
set_option linter.unusedVariables false
section
open Go.RowKit
theorem plain_pr {s:ByteArray} (h:plainB s = true):∀ x ∈ s.data.toList,prB x = true:=by
 have h2:(allB prB s && plainL s.data.toList) = true:=h
 rw [Bool.and_eq_true] at h2
 have h3:=h2.1
 unfold allB at h3
 rw [List.all_eq_true] at h3
 exact h3
end
section
open Go.RowKit Go.Sort
end
section
open Go.RowKit
end
section
open Go.RowKit Go.Sort
end
section
open Go.RowKit Go.Sort
end
end Go.Proofs.YtaoobkgepcikiaaGreatDoor
