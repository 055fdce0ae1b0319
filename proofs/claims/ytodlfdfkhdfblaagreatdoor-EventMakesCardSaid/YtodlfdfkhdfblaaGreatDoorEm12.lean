/- Texts packed: GenD. -/
import Derived.Test.YtodlfdfkhdfblaaGreatDoorRows
import Derived.Test.YtodlfdfkhdfblaaGreatDoorEm02
import Derived.Test.YtodlfdfkhdfblaaGreatDoorEm11
/- The generator's codes. -/
namespace Go.Proofs.YtodlfdfkhdfblaaGreatDoor
set_option linter.unusedVariables false
open Go.RowKit Go.Sort

theorem codeS_len (r x : Int) : (codeS r x).size = 11 := by
  have h : ∀ n, (twoS n).size = 2 := fun _ => rfl
  have h1 : (⟨#[58]⟩ : ByteArray).size = 1 := rfl
  have h2 : (colonS r).size = 1 := by unfold colonS; split <;> rfl
  unfold codeS fmtS
  simp only [ByteArray.size_append, h, h1, h2]

end Go.Proofs.YtodlfdfkhdfblaaGreatDoor

