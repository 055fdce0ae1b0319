/- Texts packed: CodeT. -/
import Derived.Test.YtkhegeobdcemkaaGreatDoorRows
import Derived.Test.YtkhegeobdcemkaaGreatDoorSc03
import Derived.Test.YtkhegeobdcemkaaGreatDoorSc01
import Derived.Test.YtkhegeobdcemkaaGreatDoorSc04
/- The program's reader of codes. -/
namespace Go.Proofs.YtkhegeobdcemkaaGreatDoor
set_option linter.unusedVariables false
open Go.RowKit Go.Sort

def FourL (w : World) (B : Nat) (l : List Int) : Prop := l.length = 4 ∧ ∃ T, w.heap[B]? = some (.cells (l.map (Value.int .i64)).toArray T (0, 0))
theorem FourL.cell {w : World} {B : Nat} {l : List Int} (h : FourL w B l) (k : Nat) (hk : k < l.length) : w.cell? ⟨B, k, none⟩ = some (.int .i64 l[k]) ∧ w.frozen? ⟨B, k, none⟩ = false := by
  obtain ⟨_, T, h⟩ := h
  obtain ⟨hc, hf⟩ := str_cells h
  exact ⟨by rw [hc]; simp [hk], hf _⟩
theorem FourL.set {w : World} {B : Nat} {l : List Int} (h : FourL w B l) (k : Nat) (v : Int) : FourL (w.setCell ⟨B, k, none⟩ (.int .i64 v)) B (l.set k v) := by
  obtain ⟨h4, T, h⟩ := h
  refine ⟨by simpa using h4, T, ?_⟩
  rw [setBlk _ h]
  simp [List.map_set]
theorem FourL.drewN {w : World} {B : Nat} {l : List Int} (h : FourL w B l) (n : Nat) : FourL (w.drewN n) B l := h
theorem four_eq {l : List Int} (h : l.length = 4) : ∃ a b c d, l = [a, b, c, d] := by
  match l, h with
  | [a, b, c, d], _ => exact ⟨a, b, c, d, rfl⟩
def fourOk (s : ByteArray) (k : Nat) (l : List Int) : Prop := ∀ j, j < k → okPair s j ∧ l[j]? = some (nAt s j)
theorem fourOk.next {s : ByteArray} {k : Nat} {l : List Int} (h : fourOk s k l) (hk : k < l.length) (hp : okPair s k) : fourOk s (k + 1) (l.set k (nAt s k)) := by
  intro j hj
  by_cases e : j = k
  · subst e; exact ⟨hp, by simp [hk]⟩
  · obtain ⟨a, b⟩ := h j (by omega)
    exact ⟨a, by rw [List.getElem?_set_ne (by omega)]; exact b⟩

def readR (r : Int) (s : ByteArray) (e : Ending) : Prop := ∃ v ok, e = .returned (.tuple #[.int .i64 v, .bool ok]) ∧ readP r s v ok
theorem readR.of {r v : Int} {s : ByteArray} {ok : Bool} {e : Ending} (h : readP r s v ok) (he : e = .returned (.tuple #[.int .i64 v, .bool ok])) : readR r s e := ⟨v, ok, he, h⟩
end Go.Proofs.YtkhegeobdcemkaaGreatDoor

