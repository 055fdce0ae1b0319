/- Texts packed: TlW, TlX, GrW, SdW, SdX. -/
import Derived.Test.YtmefjkfjpgblcaaGreatDoorSc02
import Derived.Test.YtmefjkfjpgblcaaGreatDoorSc28
import Derived.Test.YtmefjkfjpgblcaaGreatDoorSc31
import Derived.Test.YtmefjkfjpgblcaaGreatDoorSc10
import Derived.Test.YtmefjkfjpgblcaaGreatDoorSc13
import Derived.Test.YtmefjkfjpgblcaaGreatDoorSc23
/- script.Sets, walked. -/
namespace Go.Proofs.YtmefjkfjpgblcaaGreatDoor
set_option linter.unusedVariables false
open Go.RowKit Go.Sort

end Go.Proofs.YtmefjkfjpgblcaaGreatDoor

/- R.SetsOf, walked. -/
namespace Go.Proofs.YtmefjkfjpgblcaaGreatDoor
set_option linter.unusedVariables false
open Go.RowKit Go.Sort

end Go.Proofs.YtmefjkfjpgblcaaGreatDoor

/- R.groupsOf, walked. -/
namespace Go.Proofs.YtmefjkfjpgblcaaGreatDoor
set_option linter.unusedVariables false
open Go.RowKit Go.Sort

end Go.Proofs.YtmefjkfjpgblcaaGreatDoor

/- script.groups, walked. -/
namespace Go.Proofs.YtmefjkfjpgblcaaGreatDoor
set_option linter.unusedVariables false
open Go.RowKit Go.Sort

end Go.Proofs.YtmefjkfjpgblcaaGreatDoor

/- Whether a scene has a cue of somebody: the library's search, script.hasCue. -/
namespace Go.Proofs.YtmefjkfjpgblcaaGreatDoor
set_option linter.unusedVariables false
open Go.RowKit Go.Sort

theorem idx_any {α : Type} (l : List α) (p : α → Bool) : decide (0 ≤ idxV (l.findIdx? p)) = l.any p := by
  cases h : l.findIdx? p with
  | none =>
    rw [List.findIdx?_eq_none_iff] at h
    rw [decide_eq_false (show ¬ 0 ≤ idxV none from fun e => absurd e (by decide))]
    symm
    rw [List.any_eq_false]
    simpa using h
  | some n =>
    obtain ⟨h1, h2, _⟩ := List.findIdx?_eq_some_iff_getElem.1 h
    rw [decide_eq_true (show 0 ≤ idxV (some n) from Int.natCast_nonneg n)]
    symm
    exact List.any_eq_true.2 ⟨_, List.getElem_mem h1, h2⟩
end Go.Proofs.YtmefjkfjpgblcaaGreatDoor

