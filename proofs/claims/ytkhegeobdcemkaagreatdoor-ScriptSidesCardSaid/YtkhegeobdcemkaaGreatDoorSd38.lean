/- Texts packed: CsW, CoW, CoX. -/
import Derived.Test.YtkhegeobdcemkaaGreatDoorSd33
import Derived.Test.YtkhegeobdcemkaaGreatDoorSd11
import Derived.Test.YtkhegeobdcemkaaGreatDoorSd01
import Derived.Test.YtkhegeobdcemkaaGreatDoorSd37
import Derived.Deep.DeepCutAuto
import Derived.Test.YtkhegeobdcemkaaGreatDoorSd02
/- script.Cast, walked. -/
namespace Go.Proofs.YtkhegeobdcemkaaGreatDoor
set_option linter.unusedVariables false
open Go.RowKit Go.Sort

end Go.Proofs.YtkhegeobdcemkaaGreatDoor

/- slices.IndexFunc over roles; R.CastOf's question, walked. -/
namespace Go.Proofs.YtkhegeobdcemkaaGreatDoor
set_option linter.unusedVariables false
open Go.RowKit Go.Sort

end Go.Proofs.YtkhegeobdcemkaaGreatDoor

/- R.CastOf, walked. -/
namespace Go.Proofs.YtkhegeobdcemkaaGreatDoor
set_option linter.unusedVariables false
open Go.RowKit Go.Sort

theorem gp_at {w : World} {F : Nat → Prop} {l : List Grp} {A : Option Addr} {n c : Nat} (h : Sli gpR w F l (.slice A n c)) (k : Nat) (hk : k < l.length) :
    ∃ b off, A = some ⟨b, off, none⟩ ∧ F b ∧ w.cell? ⟨b, off + k * 3, none⟩ = some (.int .i64 (l[k].1 : Int)) ∧ w.cell? ⟨b, off + k * 3 + 1, none⟩ = some (.int .i64 (l[k].2.1 : Int)) ∧ w.cell? ⟨b, off + k * 3 + 2, none⟩ = some (.string l[k].2.2) := by
  obtain ⟨b, off, a, ea, hb, e, hc⟩ := h.at_ k hk
  have e' : a = [.int .i64 (l[k].1 : Int), .int .i64 (l[k].2.1 : Int), .string l[k].2.2] := e
  subst e'
  exact ⟨b, off, ea, hb, hc 0 _ rfl, hc 1 _ rfl, hc 2 _ rfl⟩
end Go.Proofs.YtkhegeobdcemkaaGreatDoor

