/- Texts packed: EvQ. -/
import Derived.Test.YtodlfdfkhdfblaaGreatDoorEm17
import Derived.Test.YtodlfdfkhdfblaaGreatDoorEm01
import Derived.Test.YtodlfdfkhdfblaaGreatDoorEm11
import Derived.BigQuiet
import Derived.Deep.QuietTactic
/- The reference's printing of events, walked. -/
namespace Go.Proofs.YtodlfdfkhdfblaaGreatDoor
set_option linter.unusedVariables false
open Go.RowKit Go.Sort

def padS (j : Nat) (n : Int) : ByteArray := ⟨(Lib.repeatL [48] j ++ Lib.itoa n).toArray⟩
theorem padS_size (j : Nat) (n : Int) : (padS j n).size = j + (Lib.itoa n).length := by
  show (Lib.repeatL [48] j ++ Lib.itoa n).toArray.size = _
  rw [List.size_toArray, List.length_append, Lib.repeatL_length]; simp
theorem padS_zero (n : Int) : padS 0 n = ⟨(Lib.itoa n).toArray⟩ := rfl
theorem padS_succ (j : Nat) (n : Int) : (⟨#[48]⟩ ++ padS j n : ByteArray) = padS (j + 1) n := by
  apply ByteArray.ext
  simp [padS, Lib.repeatL]
theorem padS_end (j : Nat) (n : Int) (h : j = 3 - (Lib.itoa n).length) : padS j n = num3 n := by subst h; rfl

end Go.Proofs.YtodlfdfkhdfblaaGreatDoor

