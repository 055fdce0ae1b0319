/- Texts packed: StoryD. -/
import Derived.Test.YtnnnmbipmfopmaaGreatDoorSc17
import Derived.Test.YtnnnmbipmfopmaaGreatDoorSc01
import Derived.Test.YtnnnmbipmfopmaaGreatDoorSc02
import Derived.Deep.RegionWith
import Derived.Deep.DeepCutAuto
import Derived.StillTailTactics
import Derived.Lib.Itoa
import Derived.Lib.ItoaNum
/- A script whose scenes have got their numbers. -/
namespace Go.Proofs.YtnnnmbipmfopmaaGreatDoor
set_option linter.unusedVariables false
open Go.RowKit Go.Sort

def noOf (k : Nat) : ByteArray := ⟨(Lib.decDigits (k + 1)).toArray⟩
def setNo (z : ByteArray) (x : Scene × Value) : Scene × Value := ({ x.1 with no := z }, x.2)
/-- The first k scenes have their numbers. -/
def numbTo : Nat → List (Scene × Value) → List (Scene × Value)
  | 0, l => l
  | k + 1, l => (numbTo k l).modify k (setNo (noOf k))
theorem numbTo_len (k : Nat) (l : List (Scene × Value)) : (numbTo k l).length = l.length := by
  induction k with
  | zero => rfl
  | succ k ih => rw [numbTo, List.length_modify, ih]

end Go.Proofs.YtnnnmbipmfopmaaGreatDoor

