/- Texts packed: HdB, HdC. -/
import Derived.Test.YtlfnmmnbfoimeaaGreatDoorSc15
import Derived.Test.YtlfnmmnbfoimeaaGreatDoorSc13
import Derived.Test.YtlfnmmnbfoimeaaGreatDoorSc02
import Derived.Test.YtlfnmmnbfoimeaaGreatDoorSc04
import Derived.Test.YtlfnmmnbfoimeaaGreatDoorSc01
import Derived.Test.YtlfnmmnbfoimeaaGreatDoorSc19
import Derived.Deep.RegionWith
/- A heading read: the program's, walked. -/
namespace Go.Proofs.YtlfnmmnbfoimeaaGreatDoor
set_option linter.unusedVariables false
open Go.RowKit Go.Sort

abbrev dumR : Rep Int := intR
/-- Private blocks of a call, and nothing below it turned. -/
abbrev PvG (w : World) (P : List (Nat × Array Value × TypeId)) (wx : World) : Prop := BO dumR 3 w [] (.slice none 0 0) P wx
theorem pvStart (w : World) : PvG w [] w := BO.start w
def scC (no : ByteArray) (place : Int) (set : ByteArray) (time : Int) (v : Value) : Array Value := #[.string no, .int .i64 place, .string set, .int .i64 time, v]
/-- The cells of a scene that lies in a block. -/
theorem sc_cells {wx : World} {b : Nat} {no set : ByteArray} {place time : Int} {v : Value} (h : (∀ i, wx.cell? ⟨b, i, none⟩ = (scC no place set time v)[i]?) ∧ (∀ i, wx.frozen? ⟨b, i, none⟩ = false)) :
    wx.cell? ⟨b, 0, none⟩ = some (.string no) ∧ wx.cell? ⟨b, 1, none⟩ = some (.int .i64 place) ∧ wx.cell? ⟨b, 2, none⟩ = some (.string set) ∧ wx.cell? ⟨b, 3, none⟩ = some (.int .i64 time) ∧ wx.cell? ⟨b, 4, none⟩ = some v := ⟨h.1 0, h.1 1, h.1 2, h.1 3, h.1 4⟩
end Go.Proofs.YtlfnmmnbfoimeaaGreatDoor

/- script.Heading, walked. -/
namespace Go.Proofs.YtlfnmmnbfoimeaaGreatDoor
set_option linter.unusedVariables false
open Go.RowKit Go.Sort

def hdV (x : Scene) : ByteArray := if headE x = 0 then headS x else ⟨#[]⟩
def HgP (x : Scene) (w : World) (e : Ending) (w' : World) : Prop := e = .returned (.tuple #[.string (hdV x), .int .i64 (headE x)]) ∧ Below w.heap.size w w'
theorem HgP.bad {x : Scene} {q : Int} {w w' : World} (h : headE x = q) (hq : ¬ q = 0) (hb : Below w.heap.size w w') : HgP x w (.returned (.tuple #[.string ⟨#[]⟩, .int .i64 q])) w' :=
  ⟨by rw [h, show hdV x = ⟨#[]⟩ from if_neg (by rw [h]; exact hq)], hb⟩
theorem HgP.good {x : Scene} {w w' : World} (h : headE x = 0) (hb : Below w.heap.size w w') : HgP x w (.returned (.tuple #[.string (headS x), .int .i64 0])) w' :=
  ⟨by rw [h, show hdV x = headS x from if_pos h], hb⟩
set_option maxRecDepth 100000 in
set_option maxHeartbeats 4000000 in
theorem Heading_c (x : Scene) (A : Option Addr) (n c : Nat) (w : World) (hn : x.no.size ≤ 1000000) (hs : x.set.size ≤ 1000000) (hm : MaxLaid w) :
    Calls Tryz.prog 90 #[.agg #[.string x.no, .int .i64 x.place, .string x.set, .int .i64 x.time, .slice A n c]] w (HgP x w) := by
  have HB := Lib.hid ((Below.refl w.heap.size w).alloc (Nat.le_refl _) (.cells #[.string x.no, .int .i64 x.place, .string x.set, .int .i64 x.time, .slice A n c] 66))
  have HY := Lib.hid (heap_alloc_new w (.cells #[.string x.no, .int .i64 x.place, .string x.set, .int .i64 x.time, .slice A n c] 66))
  have HM := Lib.hid (max_alloc hm (.cells #[.string x.no, .int .i64 x.place, .string x.set, .int .i64 x.time, .slice A n c] 66))
  clear hm
  go_enter Tryz.func90, Tryz.ntmps90
  go_upto_region 1 with (fail)
  generalize w.alloc (.cells #[.string x.no, .int .i64 x.place, .string x.set, .int .i64 x.time, .slice A n c] 66) = w1 at *
  obtain ⟨y, _⟩ := str_cells HY.out
  have y0 : w1.cell? ⟨w.heap.size, 0, none⟩ = some (.string x.no) := y 0
  have y1 : w1.cell? ⟨w.heap.size, 1, none⟩ = some (.int .i64 x.place) := y 1
  have y2 : w1.cell? ⟨w.heap.size, 2, none⟩ = some (.string x.set) := y 2
  have y3 : w1.cell? ⟨w.heap.size, 3, none⟩ = some (.int .i64 x.time) := y 3
  have y4 : w1.cell? ⟨w.heap.size, 4, none⟩ = some (.slice A n c) := y 4
  have HNU := Lib.hid (IsNumber_c x.no w1 (by omega))
  have HSE := Lib.hid (isSet_c x.set w1 (by omega) HM.out)
  obtain ⟨b5, hb5⟩ : ∃ b5, (!x.no.toList.isEmpty && !numB x.no) = b5 := ⟨_, rfl⟩
  have HB5 := Lib.hid hb5
  clear y hb5
  go_cut [4] (fun b wx => b = .bool b5 ∧ wx = w1)
  case first =>
    cases he : x.no.toList.isEmpty with
    | true =>
      have hb := HB5.out
      rw [he] at hb
      subst hb
      go_wp2
      go_meet
      exact ⟨rfl, rfl⟩
    | false =>
      have hb := HB5.out
      rw [he] at hb
      cases hnb : numB x.no with
      | false =>
        rw [hnb] at hb
        subst hb
        go_wp2_with (first | (go_at_call 96; with_reducible refine HNU.out.mono ?_; rintro e w' ⟨rfl, rfl⟩; rw [hnb]) | fail)
        go_meet
        exact ⟨rfl, rfl⟩
      | true =>
        rw [hnb] at hb
        subst hb
        go_wp2_with (first | (go_at_call 96; with_reducible refine HNU.out.mono ?_; rintro e w' ⟨rfl, rfl⟩; rw [hnb]) | fail)
        go_meet
        exact ⟨rfl, rfl⟩
  case rest =>
  obtain ⟨rfl, rfl⟩ := hcut
  have HIF := Lib.hid (show (¬ x.no = ⟨#[]⟩ ∧ numB x.no = false) ↔ b5 = true by
    rw [← HB5.out]
    cases he : x.no.toList.isEmpty with
    | true =>
      have h0 := (empty_iff x.no).1 he
      exact ⟨fun h => absurd h0 h.1, fun h => (by cases h)⟩
    | false =>
      have hno : ¬ x.no = ⟨#[]⟩ := fun h => by rw [(empty_iff x.no).2 h] at he; cases he
      cases numB x.no with
      | true => exact ⟨fun h => (by cases h.2), fun h => (by cases h)⟩
      | false => exact ⟨fun _ => rfl, fun _ => ⟨hno, rfl⟩⟩)
  clear HNU HB5
  cases b5 with
  | true =>
    have HR := Lib.hid (show headE x = 5 from if_pos (HIF.out.2 rfl))
    go_wp2
    go_ret2
    exact HgP.bad HR.out (by decide) HB.out
  | false =>
  have HST := Lib.hid (show headE x = if x.place < 1 ∨ 3 < x.place ∨ x.time < 1 ∨ 5 < x.time then 4 else if setB x.set = false then 3 else 0 from if_neg (fun h => by have := HIF.out.1 h; cases this))
  clear HIF
  by_cases q1 : x.place < 1
  · have HR := Lib.hid (HST.out.trans (if_pos (.inl q1)))
    go_wp2
    go_ret2
    exact HgP.bad HR.out (by decide) HB.out
  have g1 : 1 ≤ x.place := by omega
  by_cases q2 : 3 < x.place
  · have HR := Lib.hid (HST.out.trans (if_pos (.inr (.inl q2))))
    go_wp2
    go_ret2
    exact HgP.bad HR.out (by decide) HB.out
  have g2 : x.place ≤ 3 := by omega
  by_cases q3 : x.time < 1
  · have HR := Lib.hid (HST.out.trans (if_pos (.inr (.inr (.inl q3)))))
    go_wp2
    go_ret2
    exact HgP.bad HR.out (by decide) HB.out
  have g3 : 1 ≤ x.time := by omega
  by_cases q4 : 5 < x.time
  · have HR := Lib.hid (HST.out.trans (if_pos (.inr (.inr (.inr q4)))))
    go_wp2
    go_ret2
    exact HgP.bad HR.out (by decide) HB.out
  have g4 : x.time ≤ 5 := by omega
  have HS3 := Lib.hid (HST.out.trans (if_neg (by rintro (h | h | h | h) <;> omega)))
  clear q1 q2 q3 q4
  have HHD := Lib.hid (heading_c x A n c wc hn hs ⟨by omega, by omega⟩ ⟨by omega, by omega⟩)
  cases hsb : setB x.set with
  | false =>
    have HR := Lib.hid (HS3.out.trans (if_pos hsb))
    go_wp2_with (first | (go_at_call 126; with_reducible refine HSE.out.mono ?_; rintro e w' ⟨rfl, rfl⟩; rw [hsb]) | fail)
    go_ret2
    exact HgP.bad HR.out (by decide) HB.out
  | true =>
    have HR := Lib.hid (HS3.out.trans (if_neg (by rw [hsb]; decide)))
    go_wp2_with (first | (go_at_call 126; with_reducible refine HSE.out.mono ?_; rintro e w' ⟨rfl, rfl⟩; rw [hsb]) | fail)
    refine HHD.out.mono ?_
    rintro e w5 ⟨rfl, hb5⟩
    have HG := Lib.hid (HgP.good HR.out (HB.out.trans (hb5.mono HB.out.size)))
    clear hb5
    generalize headS x = hd at *
    go_wp2
    go_ret2
    exact HG.out
end Go.Proofs.YtlfnmmnbfoimeaaGreatDoor

