/- Texts packed: GenB. -/
import Derived.Test.YtkhegeobdcemkaaGreatDoorRows
import Derived.Test.YtkhegeobdcemkaaGreatDoorSc02
/- The generator's rolls. -/
namespace Go.Proofs.YtkhegeobdcemkaaGreatDoor
set_option linter.unusedVariables false
open Go.RowKit

theorem setBlk {w : World} {B i : Nat} {cs : Array Value} {t : TypeId} (v : Value) (h : w.heap[B]? = some (.cells cs t (0, 0))) : (w.setCell ⟨B, i, none⟩ v).heap[B]? = some (.cells (cs.setIfInBounds i v) t (0, 0)) := by
  simp [World.setCell, Array.getElem?_modify, h]

theorem mem_bd {l : List Int} (h : (l.all fun x => decide (-10000000 ≤ x ∧ x ≤ 10000000)) = true) {x : Int} (hx : x ∈ l) : -10000000 ≤ x ∧ x ≤ 10000000 := by
  rw [List.all_eq_true] at h; simpa using h x hx
theorem mem_sz {l : List ByteArray} (h : (l.all fun x => decide (x.size ≤ 1000)) = true) {x : ByteArray} (hx : x ∈ l) : x.size ≤ 1000 := by
  rw [List.all_eq_true] at h; simpa using h x hx

theorem bdMk {n : ByteArray} {a b c d : Int} (h : n.size ≤ 1000) (ha : -10000000 ≤ a ∧ a ≤ 10000000) (hb : -10000000 ≤ b ∧ b ≤ 10000000) (hc : -10000000 ≤ c ∧ c ≤ 10000000) (hd : -10000000 ≤ d ∧ d ≤ 10000000) : rollBd ⟨n, a, b, c, d⟩ :=
  ⟨h, ha.1, ha.2, hb.1, hb.2, hc.1, hc.2, hd.1, hd.2⟩

def Roll.put (r : Roll) (j : Nat) (x : Int) : Roll := if j = 1 then { r with rate := x } else if j = 2 then { r with start := x } else if j = 3 then { r with long := x } else { r with drift := x }
theorem put_bd {r : Roll} (h : rollBd r) (j : Nat) {x : Int} (hx : -10000000 ≤ x ∧ x ≤ 10000000) : rollBd (r.put j x) := by
  unfold Roll.put rollBd at *
  split
  · exact ⟨h.1, hx.1, hx.2, h.2.2.2⟩
  · split
    · exact ⟨h.1, h.2.1, h.2.2.1, hx.1, hx.2, h.2.2.2.2.2⟩
    · split
      · exact ⟨h.1, h.2.1, h.2.2.1, h.2.2.2.1, h.2.2.2.2.1, hx.1, hx.2, h.2.2.2.2.2.2.2⟩
      · exact ⟨h.1, h.2.1, h.2.2.1, h.2.2.2.1, h.2.2.2.2.1, h.2.2.2.2.2.1, h.2.2.2.2.2.2.1, hx.1, hx.2⟩
end Go.Proofs.YtkhegeobdcemkaaGreatDoor

