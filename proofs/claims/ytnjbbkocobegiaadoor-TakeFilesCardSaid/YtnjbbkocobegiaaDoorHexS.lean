/- Digests and their sixteen figures, in plain words. No program in sight. -/
import Derived.Test.YtnjbbkocobegiaaDoorMem
namespace Go.Proofs.YtnjbbkocobegiaaDoor
set_option linter.unusedVariables false
open Go.RowKit

def hexd (d : Nat) : UInt8 := UInt8.ofNat (if d < 10 then 48 + d else 87 + d)
def hexL (u : Nat) : List UInt8 := if h : u < 16 then [hexd u] else hexL (u / 16) ++ [hexd (u % 16)]
termination_by u
decreasing_by omega
theorem hexL_lt {u : Nat} (h : u < 16) : hexL u = [hexd u] := by rw [hexL, dif_pos h]
theorem hexL_ge {u : Nat} (h : ¬ u < 16) : hexL u = hexL (u / 16) ++ [hexd (u % 16)] := by rw [hexL, dif_neg h]
def padk : Nat → Nat → List UInt8
  | 0, _ => []
  | k + 1, u => padk k (u / 16) ++ [hexd (u % 16)]
theorem padk_len (k : Nat) : ∀ u, (padk k u).length = k := by
  induction k with
  | zero => intro u; rfl
  | succ k ih => intro u; simp [padk, ih]
theorem padk_zero (k : Nat) : padk k 0 = List.replicate k 48 := by
  induction k with
  | zero => rfl
  | succ k ih =>
    show padk k (0 / 16) ++ [hexd (0 % 16)] = _
    rw [show (0 : Nat) / 16 = 0 from rfl, ih, List.replicate_succ', show hexd (0 % 16) = 48 from rfl]
theorem hexL_len (k : Nat) : ∀ u, u < 16 ^ k → 1 ≤ k → (hexL u).length ≤ k := by
  induction k with
  | zero => intro u _ h; omega
  | succ k ih =>
    intro u hu _
    by_cases h : u < 16
    · rw [hexL_lt h]; simp
    · rw [hexL_ge h]
      rw [Nat.pow_succ] at hu
      have hk : 1 ≤ k := by
        rcases Nat.eq_zero_or_pos k with rfl | hk
        · simp at hu; omega
        · exact hk
      have := ih (u / 16) (by omega) hk
      simp; omega
theorem pad_eq (k : Nat) : ∀ u, u < 16 ^ k → 1 ≤ k → List.replicate (k - (hexL u).length) 48 ++ hexL u = padk k u := by
  induction k with
  | zero => intro u _ h; omega
  | succ k ih =>
    intro u hu _
    by_cases h : u < 16
    · rw [hexL_lt h]
      show List.replicate (k + 1 - 1) 48 ++ [hexd u] = padk k (u / 16) ++ [hexd (u % 16)]
      rw [show u / 16 = 0 by omega, show u % 16 = u by omega, padk_zero, Nat.add_sub_cancel]
    · rw [Nat.pow_succ] at hu
      have hk : 1 ≤ k := by
        rcases Nat.eq_zero_or_pos k with rfl | hk
        · simp at hu; omega
        · exact hk
      have hi := ih (u / 16) (by omega) hk
      rw [hexL_ge h]
      show List.replicate (k + 1 - (hexL (u / 16) ++ [hexd (u % 16)]).length) 48 ++ (hexL (u / 16) ++ [hexd (u % 16)]) = padk k (u / 16) ++ [hexd (u % 16)]
      rw [List.length_append, List.length_singleton, Nat.add_sub_add_right, ← List.append_assoc, hi]
/-- Figure number j from behind. -/
theorem padk_at (k : Nat) : ∀ u j, j < k → (padk k u)[k - 1 - j]? = some (hexd (u / 16 ^ j % 16)) := by
  induction k with
  | zero => intro u j h; omega
  | succ k ih =>
    intro u j hj
    show (padk k (u / 16) ++ [hexd (u % 16)])[k + 1 - 1 - j]? = _
    cases j with
    | zero =>
      rw [List.getElem?_append_right (by rw [padk_len]; omega), padk_len]
      simp
    | succ j =>
      rw [List.getElem?_append_left (by rw [padk_len]; omega)]
      have := ih (u / 16) j (by omega)
      rw [show k + 1 - 1 - (j + 1) = k - 1 - j by omega, this, Nat.div_div_eq_div_mul, Nat.pow_succ, Nat.mul_comm]

/-- One round of the digest. -/
def hashStep (h : Nat) (c : UInt8) : Nat := ((h ^^^ c.toNat) * 1099511628211) % 18446744073709551616
def hashN (l : List UInt8) : Nat := l.foldl hashStep 14695981039346656037
theorem hashN_snoc (l : List UInt8) (c : UInt8) : hashN (l ++ [c]) = hashStep (hashN l) c := by unfold hashN; rw [List.foldl_append, List.foldl_cons, List.foldl_nil]
theorem hashStep_lt (h : Nat) (c : UInt8) : hashStep h c < 18446744073709551616 := Nat.mod_lt _ (by decide)
theorem fold_lt (l : List UInt8) : ∀ h, h < 18446744073709551616 → l.foldl hashStep h < 18446744073709551616 := by
  induction l with
  | nil => intro h hh; exact hh
  | cons c l ih => intro h _; rw [List.foldl_cons]; exact ih _ (hashStep_lt _ _)
theorem seed_lt : 14695981039346656037 < 18446744073709551616 := by decide
theorem hashN_lt (l : List UInt8) : hashN l < 18446744073709551616 := by
  unfold hashN
  exact fold_lt l 14695981039346656037 seed_lt
def digestB (s : ByteArray) : ByteArray := ⟨(padk 16 (hashN s.data.toList)).toArray⟩
end Go.Proofs.YtnjbbkocobegiaaDoor
