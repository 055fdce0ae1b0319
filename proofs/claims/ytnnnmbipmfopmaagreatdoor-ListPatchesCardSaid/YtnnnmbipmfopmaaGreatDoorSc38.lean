/- Texts packed: RbX. -/
import Derived.Test.YtnnnmbipmfopmaaGreatDoorSc35
import Derived.Test.YtnnnmbipmfopmaaGreatDoorSc13
import Derived.Test.YtnnnmbipmfopmaaGreatDoorSc01
/- R.blocksOf, walked. -/
namespace Go.Proofs.YtnnnmbipmfopmaaGreatDoor
set_option linter.unusedVariables false
open Go.RowKit Go.Sort

theorem LnOk.words {x : Scene} (h : LnOk x) {p : Para} (hp : p ∈ x.paras) : wordsA p.text.data.toList [] ≠ [] := by
  have h1 := paraE_sz (parasE_ok x.paras 0 h.ok.2.2.2.2 p hp)
  exact plain_words h1.2.2.1 h1.1
end Go.Proofs.YtnnnmbipmfopmaaGreatDoor

