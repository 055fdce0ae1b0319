/- Texts packed: EvL. -/
import Derived.Test.YtkhegeobdcemkaaGreatDoorSc14
import Derived.Test.YtkhegeobdcemkaaGreatDoorSc01
import Derived.Test.YtkhegeobdcemkaaGreatDoorSc05
import Derived.BigQuiet
import Derived.Deep.QuietTactic
import Derived.Deep.RegionHeld3
/- The program's reader of an event's line, walked. -/
namespace Go.Proofs.YtkhegeobdcemkaaGreatDoor
set_option linter.unusedVariables false
open Go.RowKit Go.Sort

/-- A line read: the event where it is right. -/
def LineP (rolls : List Roll) (line : ByteArray) (no at_ : Int) (w : World) (e : Ending) (w' : World) : Prop :=
  ∃ (x : Ev) (ok : Bool), e = .returned (.tuple #[x.val, .bool ok]) ∧ evRead rolls line no at_ = (bif ok then some x else none) ∧ Below w.heap.size w w'
theorem LineP.no {rolls : List Roll} {line : ByteArray} {no at_ : Int} {w w' : World} {e : Ending} (h : evRead rolls line no at_ = none) (x : Ev) (he : e = .returned (.tuple #[x.val, .bool false])) (hb : Below w.heap.size w w') : LineP rolls line no at_ w e w' := ⟨x, false, he, h, hb⟩
theorem six_eq {α : Type} {l : List α} (h : l.length = 6) : ∃ a b c d e f, l = [a, b, c, d, e, f] := by
  match l, h with
  | [a, b, c, d, e, f], _ => exact ⟨a, b, c, d, e, f, rfl⟩
def fourR (q : Int) (cs : List ByteArray) (k : Nat) (l : List Int) : Prop := ∀ j s, j < k → cs[j]? = some s → codeRd q s = l[j]?
theorem fourR.next {q v : Int} {cs : List ByteArray} {k : Nat} {l : List Int} {s : ByteArray} (h : fourR q cs k l) (hk : k < l.length) (hs : cs[k]? = some s) (hv : codeRd q s = some v) : fourR q cs (k + 1) (l.set k v) := by
  intro j t hj ht
  by_cases e : j = k
  · subst e
    rw [hs] at ht; injection ht with ht; subst ht
    rw [hv]; simp [hk]
  · rw [List.getElem?_set_ne (by omega)]; exact h j t (by omega) ht

theorem strAtB {w : World} {F : Nat → Prop} {l : List ByteArray} {B n c : Nat} (h : Sli strR w F l (.slice (some ⟨B, 0, none⟩) n c)) (k : Nat) (hk : k < l.length) : w.cell? ⟨B, k, none⟩ = some (.string l[k]) := by
  obtain ⟨b, off, e, _, hc⟩ := strAt h k hk
  injection e with e
  injection e with e1 e2
  subst e1; subst e2
  rwa [Nat.zero_add] at hc
def zeroEv : Ev := ⟨⟨#[]⟩, 0, 0⟩
end Go.Proofs.YtkhegeobdcemkaaGreatDoor

