/- Texts packed: KpW, KpX, KpY, LmW. -/
import Derived.Test.YtnnnmbipmfopmaaGreatDoorSc01
import Derived.Test.YtnnnmbipmfopmaaGreatDoorSc20
import Derived.Test.YtnnnmbipmfopmaaGreatDoorSc02
import Derived.BigRegion
import Derived.Laws.CopyRow
import Derived.Laws.CopyOwn
import Derived.Laws.IdiomCopy
/- The order of two texts, and of two lists of texts: cmp.Compare, slices.Compare, walked. -/
namespace Go.Proofs.YtnnnmbipmfopmaaGreatDoor
set_option linter.unusedVariables false
open Go.RowKit Go.Sort

end Go.Proofs.YtnnnmbipmfopmaaGreatDoor

/- revise.kept, walked. -/
namespace Go.Proofs.YtnnnmbipmfopmaaGreatDoor
set_option linter.unusedVariables false
open Go.RowKit Go.Sort

end Go.Proofs.YtnnnmbipmfopmaaGreatDoor

/- revise.pairs, Pairs, walked. -/
namespace Go.Proofs.YtnnnmbipmfopmaaGreatDoor
set_option linter.unusedVariables false
open Go.RowKit Go.Sort

theorem large_c {F : Nat → Prop} (a : List ByteArray) (va : Value) (w : World) (ha : Sli strR w F a va) : Calls Tryz.prog 21 #[va] w fun e w' => e = .returned (.bool (decide (3000 < a.length))) ∧ w' = w := by
  obtain ⟨A, ca, rfl, hlca, hca⟩ := ha.form
  obtain ⟨n, hn⟩ : ∃ n, a.length = n := ⟨_, rfl⟩
  rw [hn] at hlca ⊢
  clear ha hn
  go_enter Tryz.func21, Tryz.ntmps21
  go_wp2
  go_ret
  exact ⟨by congr 2; simp; omega, rfl⟩
end Go.Proofs.YtnnnmbipmfopmaaGreatDoor

/- slices.Repeat of one number, walked. -/
namespace Go.Proofs.YtnnnmbipmfopmaaGreatDoor
set_option linter.unusedVariables false
open Go.RowKit Go.Sort

end Go.Proofs.YtnnnmbipmfopmaaGreatDoor

