/- A store into a slice of strings. No program in sight. -/
import Derived.Test.YtnjbbkocobegiaaDoorOwn3
namespace Go.Proofs.YtnjbbkocobegiaaDoor
set_option linter.unusedVariables false
open Go.RowKit

theorem Sli.strSet {w : World} {F : Nat → Prop} {l : List ByteArray} {g n c : Nat} (h : Sli strR w F l (.slice (some ⟨g, 0, none⟩) n c)) (i : Nat) (hi : i < l.length) (y : ByteArray) : Sli strR (w.setCell ⟨g, i, none⟩ (.string y)) F (l.set i y) (.slice (some ⟨g, 0, none⟩) n c) := by
  obtain ⟨A, c', e, h1, h2, h3⟩ := h
  injection e with e1 e2 e3
  subst e1; subst e2; subst e3
  refine ⟨_, _, by rw [List.length_set], by rw [List.length_set]; exact h1, h2, fun h0 => ?_⟩
  obtain ⟨b, off, cs, ea, hb, hl, hc⟩ := h3 (by omega)
  injection ea with ea
  injection ea with e1 e2 _
  subst e1; subst e2
  refine ⟨g, 0, cs.set i (.string y), rfl, hb, ⟨by rw [List.length_set, List.length_set]; exact hl.1, fun k x hx => ?_⟩, fun j u hj => ?_⟩
  · have hlen : cs.length = l.length := by have := hl.1; rw [this]; show l.length * 1 = _; omega
    show ((cs.set i (.string y)).drop (k * 1)).take 1 = [.string x]
    rw [Nat.mul_one]
    rw [List.getElem?_set] at hx
    by_cases e : i = k
    · subst e
      rw [if_pos rfl, if_pos hi] at hx
      injection hx with hx
      subst hx
      rw [List.drop_eq_getElem_cons (by rw [List.length_set]; omega), List.take_succ_cons, List.take_zero, List.getElem_set_self]
    · rw [if_neg e] at hx
      have h4 : (cs.drop (k * 1)).take 1 = [.string x] := hl.2 k x hx
      rw [Nat.mul_one] at h4
      have hk := (List.getElem?_eq_some_iff.1 hx).1
      rw [List.drop_eq_getElem_cons (by omega), List.take_succ_cons, List.take_zero] at h4
      rw [List.drop_eq_getElem_cons (by rw [List.length_set]; omega), List.take_succ_cons, List.take_zero, List.getElem_set_ne e]
      exact h4
  · have hlen : cs.length = l.length := by have := hl.1; rw [this]; show l.length * 1 = _; omega
    have hci := hc i _ (List.getElem?_eq_getElem (by omega : i < cs.length))
    rw [List.getElem?_set] at hj
    rw [Nat.zero_add] at hci ⊢
    by_cases e : i = j
    · subst e
      rw [if_pos rfl, if_pos (by omega)] at hj
      injection hj with hj
      subst hj
      exact World.cell?_setCell_same w _ _ hci
    · rw [if_neg e] at hj
      have h5 := hc j u hj
      rw [Nat.zero_add] at h5
      rw [← h5]
      exact World.cell?_setCell_other w _ _ _ (fun h => e (by injection h))
end Go.Proofs.YtnjbbkocobegiaaDoor
