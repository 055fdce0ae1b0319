/- Texts packed: HdB. -/
import Derived.Test.YtnnnmbipmfopmaaGreatDoorSc13
import Derived.Test.YtnnnmbipmfopmaaGreatDoorSc11
import Derived.Test.YtnnnmbipmfopmaaGreatDoorSc02
import Derived.Test.YtnnnmbipmfopmaaGreatDoorSc03
import Derived.Test.YtnnnmbipmfopmaaGreatDoorSc01
import Derived.Test.YtnnnmbipmfopmaaGreatDoorSc17
import Derived.Deep.RegionWith
/- A heading read: the program's, walked. -/
namespace Go.Proofs.YtnnnmbipmfopmaaGreatDoor
set_option linter.unusedVariables false
open Go.RowKit Go.Sort

abbrev dumR : Rep Int := intR
/-- Private blocks of a call, and nothing below it turned. -/
abbrev PvG (w : World) (P : List (Nat × Array Value × TypeId)) (wx : World) : Prop := BO dumR 3 w [] (.slice none 0 0) P wx
def scC (no : ByteArray) (place : Int) (set : ByteArray) (time : Int) (v : Value) : Array Value := #[.string no, .int .i64 place, .string set, .int .i64 time, v]
/-- The cells of a scene that lies in a block. -/
theorem sc_cells {wx : World} {b : Nat} {no set : ByteArray} {place time : Int} {v : Value} (h : (∀ i, wx.cell? ⟨b, i, none⟩ = (scC no place set time v)[i]?) ∧ (∀ i, wx.frozen? ⟨b, i, none⟩ = false)) :
    wx.cell? ⟨b, 0, none⟩ = some (.string no) ∧ wx.cell? ⟨b, 1, none⟩ = some (.int .i64 place) ∧ wx.cell? ⟨b, 2, none⟩ = some (.string set) ∧ wx.cell? ⟨b, 3, none⟩ = some (.int .i64 time) ∧ wx.cell? ⟨b, 4, none⟩ = some v := ⟨h.1 0, h.1 1, h.1 2, h.1 3, h.1 4⟩
end Go.Proofs.YtnnnmbipmfopmaaGreatDoor

