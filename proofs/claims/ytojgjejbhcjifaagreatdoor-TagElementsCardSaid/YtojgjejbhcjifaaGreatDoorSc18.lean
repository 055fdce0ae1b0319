/- Texts packed: StoryB. -/
import Derived.Test.YtojgjejbhcjifaaGreatDoorSc17
import Derived.Test.YtojgjejbhcjifaaGreatDoorSc01
import Derived.Deep.RegionLaw
/- The generator's scenes. -/
namespace Go.Proofs.YtojgjejbhcjifaaGreatDoor
set_option linter.unusedVariables false
open Go.RowKit Go.Sort

theorem results_cell1 {fn : Func} {p : Tmp} {ty : TypeId} (h : fn.results = #[.cell p ty]) (tmps : Array Value) (P : Program) (w : World) : (results fn tmps).run P w = ((asAddr (tmps.getD p undef)).run P w).andThen fun a w₁ => (loadVar ty a).run P w₁ := by
  simp only [results, h]
  simp [Sem.run_bind, Result.andThen]
end Go.Proofs.YtojgjejbhcjifaaGreatDoor

