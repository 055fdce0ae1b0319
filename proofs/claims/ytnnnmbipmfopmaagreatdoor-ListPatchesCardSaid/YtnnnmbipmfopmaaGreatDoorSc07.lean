/- Texts packed: RefD, EvX, EvN, EvT, EvE. -/
import Derived.Test.YtnnnmbipmfopmaaGreatDoorRows
import Derived.Test.YtnnnmbipmfopmaaGreatDoorSc06
import Derived.Test.YtnnnmbipmfopmaaGreatDoorSc05
import Derived.Test.YtnnnmbipmfopmaaGreatDoorSc02
import Derived.Test.YtnnnmbipmfopmaaGreatDoorSc01
import Derived.Lib.ItoaLen
/- The reference's look-up of a roll, and its Sync. -/
namespace Go.Proofs.YtnnnmbipmfopmaaGreatDoor
set_option linter.unusedVariables false
open Go.RowKit

end Go.Proofs.YtnnnmbipmfopmaaGreatDoor

/- The reference's error of events, walked. -/
namespace Go.Proofs.YtnnnmbipmfopmaaGreatDoor
set_option linter.unusedVariables false
open Go.RowKit

end Go.Proofs.YtnnnmbipmfopmaaGreatDoor

/- The program's numbers of three figures; the reference's joined lines. -/
namespace Go.Proofs.YtnnnmbipmfopmaaGreatDoor
set_option linter.unusedVariables false
open Go.RowKit

end Go.Proofs.YtnnnmbipmfopmaaGreatDoor

/- Texts of events: their sizes. No program in sight. -/
namespace Go.Proofs.YtnnnmbipmfopmaaGreatDoor
set_option linter.unusedVariables false
open Go.RowKit

end Go.Proofs.YtnnnmbipmfopmaaGreatDoor

/- Lists of events compared; lines cut into words. -/
namespace Go.Proofs.YtnnnmbipmfopmaaGreatDoor
set_option linter.unusedVariables false
open Go.RowKit

instance : DecidableEq Ev := fun a b => decidable_of_iff (a.eqB b = true) Ev.eqB_iff
/-- The library's word for the longest text that its search by heart serves lies where it was laid. -/
def MaxLaid (w : World) : Prop := (∃ m, w.cell? ⟨0, 0, none⟩ = some (.int .i64 m)) ∧ 0 < w.heap.size
theorem max_below {w w' : World} {B : Nat} (h : MaxLaid w) (hb : Below B w w') (hB : w.heap.size ≤ B) : MaxLaid w' := by
  obtain ⟨⟨m, hm⟩, hl⟩ := h
  exact ⟨⟨m, (hb.cell (p := ⟨0, 0, none⟩) (by show 0 < B; omega)).trans hm⟩, Nat.lt_of_lt_of_le hl hb.size⟩
end Go.Proofs.YtnnnmbipmfopmaaGreatDoor

