/- Texts packed: TkA. -/
import Derived.Test.YtkhegeobdcemkaaGreatDoorSc02
import Derived.Test.YtkhegeobdcemkaaGreatDoorSc42
import Derived.Test.YtkhegeobdcemkaaGreatDoorSc25
import Derived.Test.YtkhegeobdcemkaaGreatDoorSc04
import Derived.Deep.RegionHeld3
import Derived.Deep.DeepCutAuto
import Derived.RegionTactic
/- The generator's takes. -/
namespace Go.Proofs.YtkhegeobdcemkaaGreatDoor
set_option linter.unusedVariables false
open Go.RowKit Go.Sort

/-- The generator's own blocks beside a take: the numbers by slate, where the two rolls stand, the script. -/
abbrev tkP (At XB : Nat) (xs : Array Value) (a0 a1 : Int) (mp : List (ByteArray × Value)) : List Pb := [(At + 1, mapP Value.string mp), (At, cellsP #[.int .i64 a0, .int .i64 a1] 3), (XB, cellsP xs 28)]
abbrev sceneCs (s : Scene) (v : Value) : Array Value := #[.string s.no, .int .i64 s.place, .string s.set, .int .i64 s.time, v]
abbrev takeCs (t : Tk) (v : Value) : Array Value := #[.string t.scene, .string t.setup, .int .i64 t.number, .string t.roll, .string t.sound, .int .i64 t.tin, .int .i64 t.tout, .bool t.good, v]
theorem keyS2 : PlainKey Tryz.prog 9 Value.string := plainKey_string Tryz.underlying9
theorem zeroI (w : World) : (zeroValue 3).run Tryz.prog w = .ok (.int .i64 0) w := by kernel_rfl
theorem lkInt {mp : List (ByteArray × Value)} {k : Nat} (h : ∀ s u, lk mp s = some u → ∃ z : Int, u = .int .i64 z ∧ 0 ≤ z ∧ z ≤ k) (s : ByteArray) : ∃ z : Int, (lk mp s).getD (.int .i64 0) = .int .i64 z ∧ 0 ≤ z ∧ z ≤ k := by
  cases hl : lk mp s with
  | none => exact ⟨0, rfl, by omega, by omega⟩
  | some u =>
    obtain ⟨z, rfl, h1, h2⟩ := h s u hl
    exact ⟨z, rfl, h1, h2⟩
theorem lkUp {mp : List (ByteArray × Value)} {k : Nat} (h : ∀ s u, lk mp s = some u → ∃ z : Int, u = .int .i64 z ∧ 0 ≤ z ∧ z ≤ k) (s : ByteArray) (z : Int) (h0 : 0 ≤ z) (h1 : z ≤ (k : Int) + 1) : ∀ s' u, lk (up mp s (.int .i64 z)) s' = some u → ∃ z : Int, u = .int .i64 z ∧ 0 ≤ z ∧ z ≤ (k + 1 : Nat) := by
  intro s' u hu
  rw [lk_up] at hu
  by_cases e : s' = s
  · rw [if_pos e] at hu
    injection hu with hu
    exact ⟨z, hu.symm, h0, by omega⟩
  · rw [if_neg e] at hu
    obtain ⟨z', hz, a, b⟩ := h s' u hu
    exact ⟨z', hz, a, by omega⟩
/-- A literal list, by the block that holds it. -/
theorem Rs.ofHeap {α : Type} {W : World} {l : List α} {enc1 : α → Value} {cs : Array Value} {T : TypeId} {B lo : Nat} (h : W.heap[B]? = some (.cells cs T (0, 0))) (hcs : cs = (l.map enc1).toArray) (hlo : lo ≤ B) : Rs W lo W.heap.size 1 (fun x => [enc1 x]) (some ⟨B, 0, none⟩) l := by
  intro _
  refine ⟨_, _, rfl, hlo, heap_lt h, fun j x hx i u hu => ?_⟩
  rw [(str_cells h).1, hcs]
  cases i with
  | zero => simp at hu; simp [hx, hu]
  | succ i => simp at hu

end Go.Proofs.YtkhegeobdcemkaaGreatDoor

