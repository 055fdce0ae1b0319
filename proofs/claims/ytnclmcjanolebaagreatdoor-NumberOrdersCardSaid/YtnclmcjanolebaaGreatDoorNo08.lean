/- Texts packed: GrowT, WdW, RefC. -/
import Derived.Test.YtnclmcjanolebaaGreatDoorNo01
import Derived.Test.YtnclmcjanolebaaGreatDoorNo07
import Derived.Test.YtnclmcjanolebaaGreatDoorRows
import Derived.Test.YtnclmcjanolebaaGreatDoorNo02
import Derived.Test.YtnclmcjanolebaaGreatDoorNo03
import Derived.Deep.DeepCutAuto
import Derived.Test.YtnclmcjanolebaaGreatDoorNo06
/- Two flat lists of one's own under way, one of which may begin anew in its row. No program in sight. -/
namespace Go.Proofs.YtnclmcjanolebaaGreatDoor
set_option linter.unusedVariables false
open Go.RowKit

section
variable {α β : Type} {n k : Nat} {enc : α → List Value} {hn : ∀ x, (enc x).length = n} {encI : β → List Value} {hk : ∀ x, (encI x).length = k} {e eI : TypeId} {w wx wy : World} {l l' : List α} {v v' : Value} {m m' : List β} {u u' : Value}
end
end Go.Proofs.YtnclmcjanolebaaGreatDoor

/- script.Words, walked. -/
namespace Go.Proofs.YtnclmcjanolebaaGreatDoor
set_option linter.unusedVariables false
open Go.RowKit

end Go.Proofs.YtnclmcjanolebaaGreatDoor

/- The reference's checks of rolls. -/
namespace Go.Proofs.YtnclmcjanolebaaGreatDoor
set_option linter.unusedVariables false
open Go.RowKit

end Go.Proofs.YtnclmcjanolebaaGreatDoor

