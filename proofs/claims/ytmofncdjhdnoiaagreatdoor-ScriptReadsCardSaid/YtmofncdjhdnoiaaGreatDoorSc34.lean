/- Texts packed: TgP. -/
import Derived.Test.YtmofncdjhdnoiaaGreatDoorSc16
import Derived.Test.YtmofncdjhdnoiaaGreatDoorSc02
import Derived.Test.YtmofncdjhdnoiaaGreatDoorSc01
import Derived.Test.YtmofncdjhdnoiaaGreatDoorSc30
import Derived.Lib.Join
/- The generator's patterns and the texts in which they are looked for. -/
namespace Go.Proofs.YtmofncdjhdnoiaaGreatDoor
set_option linter.unusedVariables false
open Go.RowKit Go.Sort

theorem pat_join (sep : List UInt8) (n : Nat) (l : List ByteArray) (h : ∀ x ∈ l, x.size ≤ n) : (Lib.join (l.map (·.data.toList)) sep).length ≤ (n + sep.length) * l.length := by
  cases l with
  | nil => exact Nat.zero_le _
  | cons x r =>
    rw [List.map_cons, Lib.join_cons, List.length_append, Lib.joinTail_length, List.length_map]
    have h1 := h x (by simp)
    have hx : x.data.toList.length = x.size := by simp
    have h2 : ∀ (r : List ByteArray), (∀ y ∈ r, y.size ≤ n) → Lib.lens (r.map (·.data.toList)) ≤ n * r.length := by
      intro r
      induction r with
      | nil => intro _; exact Nat.zero_le _
      | cons y r ih =>
        intro hr
        have a := ih (fun z hz => hr z (by simp [hz]))
        have b := hr y (by simp)
        have hy : y.data.toList.length = y.size := by simp
        simp only [Lib.lens, List.map_cons, List.sum_cons, List.length_cons, Nat.mul_add, Nat.mul_one] at a ⊢
        omega
    have h3 := h2 r (fun y hy => h y (by simp [hy]))
    rw [List.length_cons, Nat.mul_add, Nat.mul_one, Nat.add_mul]
    omega
end Go.Proofs.YtmofncdjhdnoiaaGreatDoor

