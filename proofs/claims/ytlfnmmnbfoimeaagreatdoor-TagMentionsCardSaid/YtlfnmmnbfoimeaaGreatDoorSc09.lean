/- Texts packed: RefC, RefD, EvX, EvN, EvT, EvE, TpS, EvL, EvM, PtS, PtA. -/
import Derived.Test.YtlfnmmnbfoimeaaGreatDoorRows
import Derived.Test.YtlfnmmnbfoimeaaGreatDoorSc07
import Derived.Test.YtlfnmmnbfoimeaaGreatDoorSc02
import Derived.Test.YtlfnmmnbfoimeaaGreatDoorSc01
import Derived.Lib.ItoaLen
import Derived.Test.YtlfnmmnbfoimeaaGreatDoorSc03
import Derived.BigQuiet
import Derived.Deep.QuietTactic
import Derived.Deep.RegionHeld3
import Derived.Test.YtlfnmmnbfoimeaaGreatDoorSc05
/- The reference's checks of rolls. -/
namespace Go.Proofs.YtlfnmmnbfoimeaaGreatDoor
set_option linter.unusedVariables false
open Go.RowKit

end Go.Proofs.YtlfnmmnbfoimeaaGreatDoor

/- The reference's look-up of a roll, and its Sync. -/
namespace Go.Proofs.YtlfnmmnbfoimeaaGreatDoor
set_option linter.unusedVariables false
open Go.RowKit

end Go.Proofs.YtlfnmmnbfoimeaaGreatDoor

/- The reference's error of events, walked. -/
namespace Go.Proofs.YtlfnmmnbfoimeaaGreatDoor
set_option linter.unusedVariables false
open Go.RowKit

end Go.Proofs.YtlfnmmnbfoimeaaGreatDoor

/- The program's numbers of three figures; the reference's joined lines. -/
namespace Go.Proofs.YtlfnmmnbfoimeaaGreatDoor
set_option linter.unusedVariables false
open Go.RowKit

end Go.Proofs.YtlfnmmnbfoimeaaGreatDoor

/- Texts of events: their sizes. No program in sight. -/
namespace Go.Proofs.YtlfnmmnbfoimeaaGreatDoor
set_option linter.unusedVariables false
open Go.RowKit

end Go.Proofs.YtlfnmmnbfoimeaaGreatDoor

/- Lists of events compared; lines cut into words. -/
namespace Go.Proofs.YtlfnmmnbfoimeaaGreatDoor
set_option linter.unusedVariables false
open Go.RowKit

instance : DecidableEq Ev := fun a b => decidable_of_iff (a.eqB b = true) Ev.eqB_iff
/-- The library's word for the longest text that its search by heart serves lies where it was laid. -/
def MaxLaid (w : World) : Prop := (∃ m, w.cell? ⟨2, 0, none⟩ = some (.int .i64 m)) ∧ 2 < w.heap.size
theorem max_below {w w' : World} {B : Nat} (h : MaxLaid w) (hb : Below B w w') (hB : w.heap.size ≤ B) : MaxLaid w' := by
  obtain ⟨⟨m, hm⟩, hl⟩ := h
  exact ⟨⟨m, (hb.cell (p := ⟨2, 0, none⟩) (by show 2 < B; omega)).trans hm⟩, Nat.lt_of_lt_of_le hl hb.size⟩
/-- Words of a text in memory. -/
def WordsP (s : ByteArray) (c : UInt8) (w : World) (e : Ending) (w' : World) : Prop :=
  e = .returned (.slice (some ⟨w.heap.size, 0, none⟩) (words s c).length (words s c).length) ∧ Sli strR w' (fun b => b = w.heap.size) (words s c) (.slice (some ⟨w.heap.size, 0, none⟩) (words s c).length (words s c).length) ∧ Below w.heap.size w w' ∧ w'.heap.size = w.heap.size + 1
theorem words_c (s : ByteArray) (c : UInt8) (w : World) (hs : s.size ≤ 4000000000) (hm : MaxLaid w) : Calls Tryz.prog 47 #[.string s, .string ⟨#[c]⟩] w (WordsP s c w) := by
  obtain ⟨⟨m, hm⟩, _⟩ := hm
  refine (Tryz.strings_Split s ⟨#[c]⟩ m w (by omega) hm (Nat.le_refl 1)).mono ?_
  rintro e w' ⟨rfl, rfl⟩
  have hl := words_le s c
  unfold WordsP
  rw [words_len]
  refine ⟨rfl, ?_, (Below.refl _ _).alloc (Nat.le_refl _) _, by simp⟩
  rw [← words_len]
  refine Sli.new _ _ ⟨by rw [List.length_map]; show _ = _ * 1; rw [Nat.mul_one]; rfl, fun k x hx => ?_⟩ rfl (Nat.le_refl _) (by omega)
  show (((words s c).map Value.string).drop (k * 1)).take 1 = [.string x]
  obtain ⟨hk, rfl⟩ := List.getElem?_eq_some_iff.1 hx
  rw [Nat.mul_one, List.drop_eq_getElem_cons (by rw [List.length_map]; exact hk), List.take_succ_cons, List.take_zero, List.getElem_map]
end Go.Proofs.YtlfnmmnbfoimeaaGreatDoor

/- Takes as a text, in plain words. No program in sight. -/
namespace Go.Proofs.YtlfnmmnbfoimeaaGreatDoor
set_option linter.unusedVariables false
open Go.RowKit

end Go.Proofs.YtlfnmmnbfoimeaaGreatDoor

/- The program's reader of an event's line, walked. -/
namespace Go.Proofs.YtlfnmmnbfoimeaaGreatDoor
set_option linter.unusedVariables false
open Go.RowKit Go.Sort

end Go.Proofs.YtlfnmmnbfoimeaaGreatDoor

/- The program's reader of events, walked. -/
namespace Go.Proofs.YtlfnmmnbfoimeaaGreatDoor
set_option linter.unusedVariables false
open Go.RowKit Go.Sort

section
variable {l : List Roll} {t : ByteArray}
end
end Go.Proofs.YtlfnmmnbfoimeaaGreatDoor

/- Takes read from a text, in plain words. No program in sight. -/
namespace Go.Proofs.YtlfnmmnbfoimeaaGreatDoor
set_option linter.unusedVariables false
open Go.RowKit

end Go.Proofs.YtlfnmmnbfoimeaaGreatDoor

/- The program's readers of the lines of takes, walked. -/
namespace Go.Proofs.YtlfnmmnbfoimeaaGreatDoor
set_option linter.unusedVariables false
open Go.RowKit Go.Sort

end Go.Proofs.YtlfnmmnbfoimeaaGreatDoor

