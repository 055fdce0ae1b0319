/- Texts packed: BetwX, RollY, EvW, RefB, CodeR, GenD, NextA, GrowT, WdW, RefC, RefD, EvX, EvN, EvT, EvE. -/
import Derived.Test.YtndillbimibecaaGreatDoorSc04
import Derived.Test.YtndillbimibecaaGreatDoorSc02
import Derived.Test.YtndillbimibecaaGreatDoorSc01
import Derived.Test.YtndillbimibecaaGreatDoorRows
import Derived.Lib.LazyBuf
import Derived.RegionTactic
import Derived.Test.YtndillbimibecaaGreatDoorSc03
import Derived.Deep.DeepCutAuto
import Derived.Lib.ItoaLen
/- The reference's number between two others: that it ends, and how long it is. -/
namespace Go.Proofs.YtndillbimibecaaGreatDoor
set_option linter.unusedVariables false
open Go.RowKit Go.Sort

end Go.Proofs.YtndillbimibecaaGreatDoor

/- The program's checks of rolls. -/
namespace Go.Proofs.YtndillbimibecaaGreatDoor
set_option linter.unusedVariables false
open Go.RowKit

end Go.Proofs.YtndillbimibecaaGreatDoor

/- The program's error of events, walked. -/
namespace Go.Proofs.YtndillbimibecaaGreatDoor
set_option linter.unusedVariables false
open Go.RowKit

end Go.Proofs.YtndillbimibecaaGreatDoor

/- The reference's functions on rolls and rates. -/
namespace Go.Proofs.YtndillbimibecaaGreatDoor
set_option linter.unusedVariables false
open Go.RowKit

end Go.Proofs.YtndillbimibecaaGreatDoor

/- The reference's codes. -/
namespace Go.Proofs.YtndillbimibecaaGreatDoor
set_option linter.unusedVariables false
open Go.RowKit Go.Sort

end Go.Proofs.YtndillbimibecaaGreatDoor

/- The generator's codes. -/
namespace Go.Proofs.YtndillbimibecaaGreatDoor
set_option linter.unusedVariables false
open Go.RowKit Go.Sort

end Go.Proofs.YtndillbimibecaaGreatDoor

/- The setup that comes after another one: the program's, walked. -/
namespace Go.Proofs.YtndillbimibecaaGreatDoor
set_option linter.unusedVariables false
open Go.RowKit

section
variable {w wx wy : World} {B : Nat} {l : List UInt8}
end

end Go.Proofs.YtndillbimibecaaGreatDoor

/- Two flat lists of one's own under way, one of which may begin anew in its row. No program in sight. -/
namespace Go.Proofs.YtndillbimibecaaGreatDoor
set_option linter.unusedVariables false
open Go.RowKit

section
variable {α β : Type} {n k : Nat} {enc : α → List Value} {hn : ∀ x, (enc x).length = n} {encI : β → List Value} {hk : ∀ x, (encI x).length = k} {e eI : TypeId} {w wx wy : World} {l l' : List α} {v v' : Value} {m m' : List β} {u u' : Value}
end
end Go.Proofs.YtndillbimibecaaGreatDoor

/- script.Words, walked. -/
namespace Go.Proofs.YtndillbimibecaaGreatDoor
set_option linter.unusedVariables false
open Go.RowKit

end Go.Proofs.YtndillbimibecaaGreatDoor

/- The reference's checks of rolls. -/
namespace Go.Proofs.YtndillbimibecaaGreatDoor
set_option linter.unusedVariables false
open Go.RowKit

end Go.Proofs.YtndillbimibecaaGreatDoor

/- The reference's look-up of a roll, and its Sync. -/
namespace Go.Proofs.YtndillbimibecaaGreatDoor
set_option linter.unusedVariables false
open Go.RowKit

end Go.Proofs.YtndillbimibecaaGreatDoor

/- The reference's error of events, walked. -/
namespace Go.Proofs.YtndillbimibecaaGreatDoor
set_option linter.unusedVariables false
open Go.RowKit

end Go.Proofs.YtndillbimibecaaGreatDoor

/- The program's numbers of three figures; the reference's joined lines. -/
namespace Go.Proofs.YtndillbimibecaaGreatDoor
set_option linter.unusedVariables false
open Go.RowKit

end Go.Proofs.YtndillbimibecaaGreatDoor

/- Texts of events: their sizes. No program in sight. -/
namespace Go.Proofs.YtndillbimibecaaGreatDoor
set_option linter.unusedVariables false
open Go.RowKit

end Go.Proofs.YtndillbimibecaaGreatDoor

/- Lists of events compared; lines cut into words. -/
namespace Go.Proofs.YtndillbimibecaaGreatDoor
set_option linter.unusedVariables false
open Go.RowKit

instance : DecidableEq Ev := fun a b => decidable_of_iff (a.eqB b = true) Ev.eqB_iff
/-- The library's word for the longest text that its search by heart serves lies where it was laid. -/
def MaxLaid (w : World) : Prop := (∃ m, w.cell? ⟨3, 0, none⟩ = some (.int .i64 m)) ∧ 3 < w.heap.size
theorem max_below {w w' : World} {B : Nat} (h : MaxLaid w) (hb : Below B w w') (hB : w.heap.size ≤ B) : MaxLaid w' := by
  obtain ⟨⟨m, hm⟩, hl⟩ := h
  exact ⟨⟨m, (hb.cell (p := ⟨3, 0, none⟩) (by show 3 < B; omega)).trans hm⟩, Nat.lt_of_lt_of_le hl hb.size⟩
/-- Words of a text in memory. -/
def WordsP (s : ByteArray) (c : UInt8) (w : World) (e : Ending) (w' : World) : Prop :=
  e = .returned (.slice (some ⟨w.heap.size, 0, none⟩) (words s c).length (words s c).length) ∧ Sli strR w' (fun b => b = w.heap.size) (words s c) (.slice (some ⟨w.heap.size, 0, none⟩) (words s c).length (words s c).length) ∧ Below w.heap.size w w' ∧ w'.heap.size = w.heap.size + 1
theorem words_c (s : ByteArray) (c : UInt8) (w : World) (hs : s.size ≤ 4000000000) (hm : MaxLaid w) : Calls Tryz.prog 51 #[.string s, .string ⟨#[c]⟩] w (WordsP s c w) := by
  obtain ⟨⟨m, hm⟩, _⟩ := hm
  refine (Tryz.strings_Split s ⟨#[c]⟩ m w (by omega) hm (Nat.le_refl 1)).mono ?_
  rintro e w' ⟨rfl, rfl⟩
  have hl := words_le s c
  unfold WordsP
  rw [words_len]
  refine ⟨rfl, ?_, (Below.refl _ _).alloc (Nat.le_refl _) _, by simp⟩
  rw [← words_len]
  refine Sli.new _ _ ⟨by rw [List.length_map]; show _ = _ * 1; rw [Nat.mul_one]; rfl, fun k x hx => ?_⟩ rfl (Nat.le_refl _) (by omega)
  show (((words s c).map Value.string).drop (k * 1)).take 1 = [.string x]
  obtain ⟨hk, rfl⟩ := List.getElem?_eq_some_iff.1 hx
  rw [Nat.mul_one, List.drop_eq_getElem_cons (by rw [List.length_map]; exact hk), List.take_succ_cons, List.take_zero, List.getElem_map]
end Go.Proofs.YtndillbimibecaaGreatDoor

