/- Texts packed: EvW. -/
import Derived.Test.YtodlfdfkhdfblaaGreatDoorRows
import Derived.Test.YtodlfdfkhdfblaaGreatDoorTn01
import Derived.Test.YtodlfdfkhdfblaaGreatDoorTn09
/- The program's error of events, walked. -/
namespace Go.Proofs.YtodlfdfkhdfblaaGreatDoor
set_option linter.unusedVariables false
open Go.RowKit

theorem evAt {w : World} {F : Nat → Prop} {l : List Ev} {A : Option Addr} {n c : Nat} (h : Sli evR w F l (.slice A n c)) (k : Nat) (hk : k < l.length) : ∃ b off, A = some ⟨b, off, none⟩ ∧ F b ∧ w.cell? ⟨b, off + k * 3, none⟩ = some (.string l[k].roll) ∧ w.cell? ⟨b, off + k * 3 + 1, none⟩ = some (.int .i64 l[k].tin) ∧ w.cell? ⟨b, off + k * 3 + 2, none⟩ = some (.int .i64 l[k].tout) := by
  obtain ⟨b, off, a, e, hb, hr, hc⟩ := h.at_ k hk
  have ha : a = (l[k]).cells := hr
  subst ha
  exact ⟨b, off, e, hb, hc 0 _ rfl, hc 1 _ rfl, hc 2 _ rfl⟩

/-- The rate that a walk over events knows after k of them. -/
def rateK (rolls : List Roll) (l : List Ev) (k : Nat) : Int := if k = 0 then 0 else evRate rolls l
theorem rate_bd {l : List Roll} {s : ByteArray} (h0 : rollsFault l = 0) (hh : rollHas l s = true) : isRateB (rollGet l s).rate = true ∧ 0 ≤ (rollGet l s).start ∧ (rollGet l s).start ≤ 2592000 ∧ 0 ≤ (rollGet l s).long ∧ (rollGet l s).long ≤ 2592000 := by
  have hm := rollsFault_ok l h0 _ (rollGet_mem hh)
  have hbad := hm.2.1
  have hf := frames_bd hm.1
  simp only [rollBadB, decide_eq_false_iff_not] at hbad
  exact ⟨hm.1, by omega, by omega, by omega, by omega⟩
theorem evF_no {l : List Roll} {q : Int} {x : Ev} (h : rollHas l x.roll = false) : evF l q x = 8 := if_pos h
theorem evF_rate {l : List Roll} {q : Int} {x : Ev} (h : rollHas l x.roll = true) (h2 : ¬ (rollGet l x.roll).rate = q) : evF l q x = 4 := by unfold evF; rw [if_neg (by rw [h]; decide), if_pos h2]
theorem evF_in {l : List Roll} {q : Int} {x : Ev} (h : rollHas l x.roll = true) (h2 : (rollGet l x.roll).rate = q) : evF l q x = if withinB (rollGet l x.roll) x.tin x.tout = false then 1 else 0 := by unfold evF; rw [if_neg (by rw [h]; decide), if_neg (by omega)]
theorem evErr_at {l : List Roll} {es : List Ev} {k : Nat} {q : Int} (g1 : ¬ 999 < es.length) (h : ∀ x ∈ es.take k, evF l (evRate l es) x = 0) (hk : k < es.length) (hf : evF l (evRate l es) es[k] = q) (h0 : ¬ q = 0) : evErr l es = q := by
  unfold evErr
  have h1 := firstE_at h hk (by rw [hf]; exact h0)
  rw [if_neg g1, if_pos (by rw [h1, hf]; exact h0), h1, hf]
theorem evErr_end {l : List Roll} {es : List Ev} (g1 : ¬ 999 < es.length) (h : ∀ x ∈ es, evF l (evRate l es) x = 0) : evErr l es = if framesN (evRate l es) < evSum es then 2 else 0 := by
  unfold evErr
  have h1 := firstE_all h
  rw [if_neg g1, if_neg (by rw [h1]; simp)]

end Go.Proofs.YtodlfdfkhdfblaaGreatDoor

