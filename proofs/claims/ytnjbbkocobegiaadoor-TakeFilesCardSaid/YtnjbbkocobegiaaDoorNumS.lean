/- The number of a scene, and a setup, in plain words. -/
import Derived.Test.YtnjbbkocobegiaaDoorStr
import Derived.Lib.Strings
import Derived.Lib.ItoaNum
namespace Go.Proofs.YtnjbbkocobegiaaDoor
set_option linter.unusedVariables false
open Go.RowKit

def digB (c : UInt8) : Bool := decide (48 ≤ c.toNat) && decide (c.toNat ≤ 57)
def capB (c : UInt8) : Bool := decide (65 ≤ c.toNat) && decide (c.toNat ≤ 90)
def numK (s : ByteArray) : Nat := (s.data.toList.takeWhile digB).length
def numB (s : ByteArray) : Bool :=
  (s.data.toList.drop (numK s)).all capB && decide (s.size - numK s ≤ 5) && !Lib.hasSuffix (s.data.toList.drop (numK s)) [65]
    && (if s.data.toList.take (numK s) = [48] then decide (numK s < s.size) else decide (1 ≤ numK s) && decide (numK s ≤ 3) && decide (s.data.toList.head? ≠ some 48))

theorem takeWhile_len {p : UInt8 → Bool} {l : List UInt8} {k : Nat} (h : ∀ x ∈ l.take k, p x = true) (hk : k ≤ l.length) (he : ∀ hlt : k < l.length, p l[k] = false) : (l.takeWhile p).length = k := by
  induction l generalizing k with
  | nil => simp at hk; simp [hk]
  | cons y l ih =>
    cases k with
    | zero => have := he (by simp); simp at this; simp [this]
    | succ k =>
      have h0 : p y = true := h y (by simp)
      have := ih (k := k) (fun x hx => h x (by simp [hx])) (by simpa using hk) (fun hlt => he (Nat.succ_lt_succ hlt))
      simp [h0, this]
theorem numK_eq {s : ByteArray} {k : Nat} (h : ∀ x ∈ s.data.toList.take k, digB x = true) (hk : k ≤ s.size) (he : ∀ hlt : k < s.size, digB s[k] = false) : numK s = k :=
  takeWhile_len h (by simpa using hk) (fun hlt => he (by simpa using hlt))
theorem extract_list (s : ByteArray) (a b : Nat) : (s.extract a b).data.toList = (s.data.toList.drop a).take (b - a) := by
  simp
theorem extract_end (s : ByteArray) (k : Nat) : (s.extract k s.size).data.toList = s.data.toList.drop k := by
  rw [extract_list, List.take_of_length_le]
  simp

theorem numB_size {s : ByteArray} (h : numB s = true) : s.size ≤ 8 := by
  simp only [numB, Bool.and_eq_true, decide_eq_true_eq] at h
  obtain ⟨⟨⟨_, h1⟩, _⟩, h2⟩ := h
  split at h2
  · rename_i h3
    have := congrArg List.length h3
    simp at this; omega
  · simp only [Bool.and_eq_true, decide_eq_true_eq] at h2; omega

def setC (c : UInt8) : Bool := capB c && decide (c.toNat ≠ 73) && decide (c.toNat ≠ 79)
def setupB (s : ByteArray) : Bool := allB setC s && decide (s.size ≤ 2)
theorem setupB_size {s : ByteArray} (h : setupB s = true) : s.size ≤ 2 := by
  simp only [setupB, Bool.and_eq_true, decide_eq_true_eq] at h; exact h.2
def slateE (scene setup : ByteArray) (n : Int) : Int := if numB scene = false then 5 else if setupB setup = false then 5 else if n < 1 ∨ 99 < n then 1 else 0
def slateS (scene setup : ByteArray) (n : Nat) : ByteArray := (if setup.toList.isEmpty = true then scene else scene ++ (⟨#[47]⟩ ++ setup)) ++ ⟨#[45]⟩ ++ ⟨(Lib.decDigits n).toArray⟩
def slateA (scene setup : ByteArray) (n : Int) : ByteArray := if slateE scene setup n = 0 then slateS scene setup n.toNat else ⟨#[]⟩
end Go.Proofs.YtnjbbkocobegiaaDoor
