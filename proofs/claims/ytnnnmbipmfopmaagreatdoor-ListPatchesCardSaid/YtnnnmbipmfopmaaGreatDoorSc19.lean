/- Texts packed: ChkF, ChkG. -/
import Derived.Test.YtnnnmbipmfopmaaGreatDoorSc12
import Derived.Test.YtnnnmbipmfopmaaGreatDoorSc18
import Derived.Deep.DeepCutAuto
/- The reference's error of a script. -/
namespace Go.Proofs.YtnnnmbipmfopmaaGreatDoor
set_option linter.unusedVariables false
open Go.RowKit Go.Sort

theorem sli_forms {w : World} {F : Nat → Prop} {ls : List (Scene × Value)} (h : ∀ y ∈ ls, Sli paraR w F y.1.paras y.2) : ∀ x ∈ ls, ∃ A n c, x.2 = .slice A n c := fun x hx => by
  obtain ⟨A, c, e, _⟩ := (h x hx).form
  exact ⟨A, _, c, e⟩

end Go.Proofs.YtnnnmbipmfopmaaGreatDoor

/- The reference's error of a script, whole. -/
namespace Go.Proofs.YtnnnmbipmfopmaaGreatDoor
set_option linter.unusedVariables false
open Go.RowKit Go.Sort

end Go.Proofs.YtnnnmbipmfopmaaGreatDoor

