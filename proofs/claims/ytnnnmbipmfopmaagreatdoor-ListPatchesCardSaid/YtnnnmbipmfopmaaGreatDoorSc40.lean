/- Texts packed: PaM. -/
import Derived.Test.YtnnnmbipmfopmaaGreatDoorSc39
/- paper.Lay, walked. -/
namespace Go.Proofs.YtnnnmbipmfopmaaGreatDoor
set_option linter.unusedVariables false
open Go.RowKit Go.Sort

/-- The pages of blocks. -/
def pagesB (l : List Blk) : List (List ByteArray) := (layB l [] [] []).1 ++ (if (layB l [] [] []).2.1 = [] then [] else [(layB l [] [] []).2.1])
theorem need_le {b : Blk} {r : List Blk} {M : Nat} (hb : b.lines.length ≤ M) (hr : ∀ y ∈ r, y.lines.length ≤ M) : needB b r ≤ 2 * M + 8 := by
  have h1 := leastB_le (b := b)
  unfold needB
  split
  · cases r with
    | nil => dsimp only; omega
    | cons y t =>
      have h2 := leastB_le (b := y)
      have h3 := hr y (by simp)
      dsimp only
      split <;> omega
  · omega
end Go.Proofs.YtnnnmbipmfopmaaGreatDoor

