/- Texts packed: EqW, EqX, TmW, CopW, SdS, CutP, RdB, RdC, RdD. -/
import Derived.Test.YtlfnmmnbfoimeaaGreatDoorSc09
import Derived.Test.YtlfnmmnbfoimeaaGreatDoorSc01
import Derived.Test.YtlfnmmnbfoimeaaGreatDoorSc23
import Derived.Deep.QuietTactic
import Derived.BigQuiet
import Derived.Test.YtlfnmmnbfoimeaaGreatDoorSc21
import Derived.Test.YtlfnmmnbfoimeaaGreatDoorSc18
import Derived.Test.YtlfnmmnbfoimeaaGreatDoorSc19
import Derived.Test.YtlfnmmnbfoimeaaGreatDoorSc22
import Derived.Test.YtlfnmmnbfoimeaaGreatDoorSc13
import Derived.Test.YtlfnmmnbfoimeaaGreatDoorSc02
import Derived.Test.YtlfnmmnbfoimeaaGreatDoorSc20
/- Lists of paragraphs, scenes, scripts compared. -/
namespace Go.Proofs.YtlfnmmnbfoimeaaGreatDoor
set_option linter.unusedVariables false
open Go.RowKit

instance : DecidableEq Para := fun a b => decidable_of_iff (a.kind = b.kind ∧ a.text = b.text) (by cases a; cases b; simp)
instance : DecidableEq Scene := fun a b => decidable_of_iff (a.no = b.no ∧ a.place = b.place ∧ a.set = b.set ∧ a.time = b.time ∧ a.paras = b.paras) (by cases a; cases b; simp)
instance : DecidableEq Script := fun a b => decidable_of_iff (a.title = b.title ∧ a.scenes = b.scenes) (by cases a; cases b; simp)
theorem beq_ne {a b : ByteArray} (h : ¬ a = b) : (a.toList == b.toList) = false := by
  have := beqS a b
  rw [this]; simpa using h
theorem paraAt {w : World} {F : Nat → Prop} {l : List Para} {A : Option Addr} {n c : Nat} (h : Sli paraR w F l (.slice A n c)) (k : Nat) (hk : k < l.length) : ∃ b off, A = some ⟨b, off, none⟩ ∧ F b ∧ w.cell? ⟨b, off + k * 2, none⟩ = some (.int .i64 l[k].kind) ∧ w.cell? ⟨b, off + k * 2 + 1, none⟩ = some (.string l[k].text) := by
  obtain ⟨b, off, a, e, hb, hr, hc⟩ := h.at_ k hk
  have ha : a = (l[k]).cells := hr
  subst ha
  exact ⟨b, off, e, hb, hc 0 _ rfl, hc 1 _ rfl⟩
end Go.Proofs.YtlfnmmnbfoimeaaGreatDoor

/- Lists of scenes compared by a function. -/
namespace Go.Proofs.YtlfnmmnbfoimeaaGreatDoor
set_option linter.unusedVariables false
open Go.RowKit Go.Sort

end Go.Proofs.YtlfnmmnbfoimeaaGreatDoor

/- The times of day of a script's scenes. -/
namespace Go.Proofs.YtlfnmmnbfoimeaaGreatDoor
set_option linter.unusedVariables false
open Go.RowKit Go.Sort

end Go.Proofs.YtlfnmmnbfoimeaaGreatDoor

/- A copy of a script, with memory of its own. -/
namespace Go.Proofs.YtlfnmmnbfoimeaaGreatDoor
set_option linter.unusedVariables false
open Go.RowKit Go.Sort

section
variable {w wx wy : World} {l : List (Scene × Value)} {v : Value} {P Q : List (Nat × Array Value × TypeId)}
end
end Go.Proofs.YtlfnmmnbfoimeaaGreatDoor

/- The part of one who speaks, in plain words. No program in sight. -/
namespace Go.Proofs.YtlfnmmnbfoimeaaGreatDoor
set_option linter.unusedVariables false
open Go.RowKit

end Go.Proofs.YtlfnmmnbfoimeaaGreatDoor

/- script.Cut walked. -/
namespace Go.Proofs.YtlfnmmnbfoimeaaGreatDoor
set_option linter.unusedVariables false
open Go.RowKit Go.Sort

end Go.Proofs.YtlfnmmnbfoimeaaGreatDoor

/- The reader of scripts: a line of a speech group. -/
namespace Go.Proofs.YtlfnmmnbfoimeaaGreatDoor
set_option linter.unusedVariables false
open Go.RowKit Go.Sort

end Go.Proofs.YtlfnmmnbfoimeaaGreatDoor

/- The reader of scripts: a line behind an empty one. -/
namespace Go.Proofs.YtlfnmmnbfoimeaaGreatDoor
set_option linter.unusedVariables false
open Go.RowKit Go.Sort

end Go.Proofs.YtlfnmmnbfoimeaaGreatDoor

/- The reader of scripts: paragraphs behind an empty line; any line. -/
namespace Go.Proofs.YtlfnmmnbfoimeaaGreatDoor
set_option linter.unusedVariables false
open Go.RowKit Go.Sort

end Go.Proofs.YtlfnmmnbfoimeaaGreatDoor

