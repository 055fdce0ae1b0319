/- Texts packed: TgP, WpR. -/
import Derived.Test.YtnnnmbipmfopmaaGreatDoorSc14
import Derived.Test.YtnnnmbipmfopmaaGreatDoorSc02
import Derived.Test.YtnnnmbipmfopmaaGreatDoorSc01
import Derived.Test.YtnnnmbipmfopmaaGreatDoorSc25
import Derived.Lib.Join
import Derived.Test.YtnnnmbipmfopmaaGreatDoorSc11
/- The generator's patterns and the texts in which they are looked for. -/
namespace Go.Proofs.YtnnnmbipmfopmaaGreatDoor
set_option linter.unusedVariables false
open Go.RowKit Go.Sort

end Go.Proofs.YtnnnmbipmfopmaaGreatDoor

/- R.WrapOf, walked. -/
namespace Go.Proofs.YtnnnmbipmfopmaaGreatDoor
set_option linter.unusedVariables false
open Go.RowKit Go.Sort

theorem chopZ_le {wd : Nat} (h0 : 0 < wd) : ∀ (n : Nat) (w : List UInt8), w.length ≤ n → (chopZ wd w).length ≤ wd
  | 0, w, hl => by rw [chopZ_done (by omega)]; omega
  | n + 1, w, hl => by
    by_cases h : wd < w.length
    · rw [chopZ_more h0 h]
      exact chopZ_le h0 n _ (by rw [List.length_drop]; omega)
    · rw [chopZ_done h]; omega
theorem wrapL_cur {wd : Nat} (h0 : 0 < wd) (ws : List (List UInt8)) : (wrapL wd ws).cur.length ≤ wd := by
  have key : ∀ (ws : List (List UInt8)) (st : Wst), st.cur.length ≤ wd → (ws.foldl (wrapW wd) st).cur.length ≤ wd := by
    intro ws
    induction ws with
    | nil => intro st h; exact h
    | cons w r ih =>
      intro st h
      refine ih _ ?_
      unfold wrapW
      split
      · exact h
      · split
        · rename_i h2
          have := h2.2
          simp
          omega
        · exact chopZ_le h0 w.length w (Nat.le_refl _)
  exact key ws _ (Nat.zero_le _)
end Go.Proofs.YtnnnmbipmfopmaaGreatDoor

