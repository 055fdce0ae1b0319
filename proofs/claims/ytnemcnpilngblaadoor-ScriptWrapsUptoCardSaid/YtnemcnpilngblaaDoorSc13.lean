/- Texts packed: ChkE. -/
import Derived.Test.YtnemcnpilngblaaDoorSc12
/- The reference's error of a paragraph. -/
namespace Go.Proofs.YtnemcnpilngblaaDoor
set_option linter.unusedVariables false
open Go.RowKit

/-- A test of two numbers in the spellings of the walk. -/
theorem eqF (a c : Int) : (a = c ∧ (a == c) = true ∧ (a != c) = false) ∨ (¬ a = c ∧ (a == c) = false ∧ (a != c) = true) := by
  by_cases h : a = c
  · exact .inl ⟨h, beq_iff_eq.2 h, by rw [bne, beq_iff_eq.2 h]; rfl⟩
  · exact .inr ⟨h, beq_eq_false_iff_ne.2 h, by rw [bne_iff_ne]; exact h⟩
end Go.Proofs.YtnemcnpilngblaaDoor

