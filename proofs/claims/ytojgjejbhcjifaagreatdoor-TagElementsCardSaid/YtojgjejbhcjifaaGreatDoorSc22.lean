/- Texts packed: SpA. -/
import Derived.Test.YtojgjejbhcjifaaGreatDoorSc01
import Derived.Test.YtojgjejbhcjifaaGreatDoorSc18
import Derived.Test.YtojgjejbhcjifaaGreatDoorSc21
/- The generator's paragraphs with a change. -/
namespace Go.Proofs.YtojgjejbhcjifaaGreatDoor
set_option linter.unusedVariables false
open Go.RowKit Go.Sort

/-- Private blocks beside a stream. -/
abbrev PvS (w : World) (sb : Nat) (P : List (Nat × Array Value × TypeId)) (n : Int) (wx : World) : Prop := GS dumR 3 w sb [] (.slice none 0 0) P n wx
def pCs (k : Int) (s : ByteArray) : Array Value := #[.int .i64 k, .string s]
theorem rep_sz (s : ByteArray) (c : Nat) (n : Nat) (h : c * s.size ≤ n) : (⟨(Lib.repeatL s.data.toList c).toArray⟩ : ByteArray).size ≤ n := by
  have := Lib.repeatL_length s.data.toList c
  show (Lib.repeatL s.data.toList c).toArray.size ≤ n
  rw [List.size_toArray, this]
  simpa using h
end Go.Proofs.YtojgjejbhcjifaaGreatDoor

