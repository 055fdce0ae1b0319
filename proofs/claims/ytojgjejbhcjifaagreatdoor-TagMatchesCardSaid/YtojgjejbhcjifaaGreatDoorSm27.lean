/- Texts packed: SpA. -/
import Derived.Test.YtojgjejbhcjifaaGreatDoorSm01
import Derived.Test.YtojgjejbhcjifaaGreatDoorSm17
import Derived.Test.YtojgjejbhcjifaaGreatDoorSm23
/- The generator's paragraphs with a change. -/
namespace Go.Proofs.YtojgjejbhcjifaaGreatDoor
set_option linter.unusedVariables false
open Go.RowKit Go.Sort

/-- Private blocks beside a stream. -/
abbrev PvS (w : World) (sb : Nat) (P : List (Nat × Array Value × TypeId)) (n : Int) (wx : World) : Prop := GS dumR 3 w sb [] (.slice none 0 0) P n wx
theorem rep_sz (s : ByteArray) (c : Nat) (n : Nat) (h : c * s.size ≤ n) : (⟨(Lib.repeatL s.data.toList c).toArray⟩ : ByteArray).size ≤ n := by
  have := Lib.repeatL_length s.data.toList c
  show (Lib.repeatL s.data.toList c).toArray.size ≤ n
  rw [List.size_toArray, this]
  simpa using h
end Go.Proofs.YtojgjejbhcjifaaGreatDoor

