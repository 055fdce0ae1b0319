/- Texts packed: HeadB. -/
import Derived.Test.YtojgjejbhcjifaaGreatDoorSm10
import Derived.Test.YtojgjejbhcjifaaGreatDoorSm01
import Derived.Lib.Join
import Derived.RegionTactic
/- Plain texts and sets of scenes: the reference's tests, and the program's set. -/
namespace Go.Proofs.YtojgjejbhcjifaaGreatDoor
set_option linter.unusedVariables false
open Go.RowKit

/-- The library's table of white space lies as it was laid. -/
def SpLaid (w : World) : Prop := Lib.TabIs Tryz.prog w "strings.asciiSpace" .u8 Lib.asciiSpaceTab
theorem sp_is {b : UInt8} (h : prB b = true) : Lib.isSp b = decide (b = 32) := by
  have hh : ∀ b, (!prB b || (Lib.isSp b == decide (b = 32))) = true := u8_eq (q := fun _ => true) (by decide +kernel)
  have := hh b
  rw [h] at this
  simpa using this
theorem fields_words : ∀ (l cur : List UInt8), (∀ x ∈ l, prB x = true) → Lib.fieldsGo cur l = wordsA l cur := by
  intro l
  induction l with
  | nil => intro cur _; cases cur <;> simp [Lib.fieldsGo, wordsA]
  | cons c l ih =>
    intro cur h
    have hl : ∀ x ∈ l, prB x = true := fun x hx => h x (by simp [hx])
    unfold Lib.fieldsGo wordsA
    rw [sp_is (h c (by simp))]
    by_cases hc : c = 32
    · rw [if_pos hc, if_pos (by simp [hc]), ih [] hl]
      cases cur <;> simp
    · rw [if_neg hc, if_neg (by simp [hc]), ih _ hl]
theorem wordsA_len : ∀ (l cur : List UInt8), (wordsA l cur).length ≤ l.length + (if cur = [] then 0 else 1) := by
  intro l
  induction l with
  | nil => intro cur; unfold wordsA; split <;> simp
  | cons c l ih =>
    intro cur
    unfold wordsA
    by_cases hc : c = 32
    · rw [if_pos hc]
      have h := ih []
      simp at h
      by_cases h0 : cur = []
      · rw [if_pos h0, if_pos h0]; simp; omega
      · rw [if_neg h0, if_neg h0]; simp; omega
    · rw [if_neg hc]
      have h := ih (cur ++ [c])
      rw [if_neg (by simp)] at h
      simp
      split <;> omega
end Go.Proofs.YtojgjejbhcjifaaGreatDoor

