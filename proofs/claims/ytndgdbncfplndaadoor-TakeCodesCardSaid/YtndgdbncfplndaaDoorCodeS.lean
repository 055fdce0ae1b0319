/- Reading codes, in plain words. No program in sight. -/
import Derived.Test.YtndgdbncfplndaaDoorRollS
namespace Go.Proofs.YtndgdbncfplndaaDoor
set_option linter.unusedVariables false
open Go.RowKit

def bt (s : ByteArray) (i : Nat) : Int := if h : i < s.size then (s[i].toNat : Int) else 0
theorem bt_of {s : ByteArray} {i : Nat} (h : i < s.size) : bt s i = s[i].toNat := dif_pos h
def isDg (x : Int) : Prop := 48 ≤ x ∧ x ≤ 57
def okPair (s : ByteArray) (i : Nat) : Prop := isDg (bt s (3 * i)) ∧ isDg (bt s (3 * i + 1))
def nAt (s : ByteArray) (i : Nat) : Int := 10 * (bt s (3 * i) - 48) + (bt s (3 * i + 1) - 48)
def dropN (r m : Int) : Int := if r = 4 then 2 * (m - m / 10) else 0
def frameOf (r a b c d : Int) : Int := (60 * (60 * a + b) + c) * countedN r + d - dropN r (60 * a + b)
theorem nAt_bd {s : ByteArray} {i : Nat} (h : okPair s i) : 0 ≤ nAt s i ∧ nAt s i ≤ 99 := by
  obtain ⟨⟨a, b⟩, c, d⟩ := h
  unfold nAt
  omega
/-- What a reader of codes must say. -/
def readP (r : Int) (s : ByteArray) (v : Int) (ok : Bool) : Prop :=
  (ok = true → 0 ≤ v ∧ v < framesN r ∧ codeS r v = s) ∧ (ok = false → ∀ x, 0 ≤ x → x < framesN r → codeS r x ≠ s)

theorem u8of {x : Int} (h0 : 0 ≤ x) (h1 : x ≤ 207) : ((UInt8.ofNat (48 + x).toNat).toNat : Int) = 48 + x := by
  rw [UInt8.toNat_ofNat']
  omega
theorem fields {r n c : Int} (hc : c = 24 ∨ c = 25 ∨ c = 30) (h0 : 0 ≤ n) (h1 : n < 86400 * c) :
    ∃ H M S F : Int, H = n / c / 3600 ∧ M = n / c / 60 % 60 ∧ S = n / c % 60 ∧ F = n % c ∧ 0 ≤ H ∧ H < 24 ∧ 0 ≤ M ∧ M < 60 ∧ 0 ≤ S ∧ S < 60 ∧ 0 ≤ F ∧ F < 30 ∧ n = (60 * (60 * H + M) + S) * c + F ∧ 60 * H + M = n / (60 * c) := by
  refine ⟨_, _, _, _, rfl, rfl, rfl, rfl, ?_⟩
  rcases hc with rfl | rfl | rfl <;> omega
theorem fmt_read (q : ByteArray) (hq : ∃ z, q = ⟨#[z]⟩) {H M S F : Int} (hH : 0 ≤ H ∧ H < 100) (hM : 0 ≤ M ∧ M < 100) (hS : 0 ≤ S ∧ S < 100) (hF : 0 ≤ F ∧ F < 100) {s : ByteArray}
    (h : s = twoS H ++ ⟨#[58]⟩ ++ twoS M ++ ⟨#[58]⟩ ++ twoS S ++ q ++ twoS F) :
    s.size = 11 ∧ (∀ i, i < 4 → okPair s i) ∧ nAt s 0 = H ∧ nAt s 1 = M ∧ nAt s 2 = S ∧ nAt s 3 = F := by
  obtain ⟨z, rfl⟩ := hq
  rw [twoS_eq hH.1 hH.2, twoS_eq hM.1 hM.2, twoS_eq hS.1 hS.2, twoS_eq hF.1 hF.2] at h
  have h' : s = ⟨#[UInt8.ofNat (48 + H / 10).toNat, UInt8.ofNat (48 + H % 10).toNat, 58, UInt8.ofNat (48 + M / 10).toNat, UInt8.ofNat (48 + M % 10).toNat, 58, UInt8.ofNat (48 + S / 10).toNat, UInt8.ofNat (48 + S % 10).toNat, z, UInt8.ofNat (48 + F / 10).toNat, UInt8.ofNat (48 + F % 10).toNat]⟩ := by
    rw [h]; rfl
  subst h'
  have a0 := u8of (x := H / 10) (by omega) (by omega)
  have a1 := u8of (x := H % 10) (by omega) (by omega)
  have a2 := u8of (x := M / 10) (by omega) (by omega)
  have a3 := u8of (x := M % 10) (by omega) (by omega)
  have a4 := u8of (x := S / 10) (by omega) (by omega)
  have a5 := u8of (x := S % 10) (by omega) (by omega)
  have a6 := u8of (x := F / 10) (by omega) (by omega)
  have a7 := u8of (x := F % 10) (by omega) (by omega)
  generalize UInt8.ofNat (48 + H / 10).toNat = c0 at *
  generalize UInt8.ofNat (48 + H % 10).toNat = c1 at *
  generalize UInt8.ofNat (48 + M / 10).toNat = c2 at *
  generalize UInt8.ofNat (48 + M % 10).toNat = c3 at *
  generalize UInt8.ofNat (48 + S / 10).toNat = c4 at *
  generalize UInt8.ofNat (48 + S % 10).toNat = c5 at *
  generalize UInt8.ofNat (48 + F / 10).toNat = c6 at *
  generalize UInt8.ofNat (48 + F % 10).toNat = c7 at *
  clear h
  have e0 : bt ⟨#[c0, c1, 58, c2, c3, 58, c4, c5, z, c6, c7]⟩ 0 = c0.toNat := rfl
  have e1 : bt ⟨#[c0, c1, 58, c2, c3, 58, c4, c5, z, c6, c7]⟩ 1 = c1.toNat := rfl
  have e3 : bt ⟨#[c0, c1, 58, c2, c3, 58, c4, c5, z, c6, c7]⟩ 3 = c2.toNat := rfl
  have e4 : bt ⟨#[c0, c1, 58, c2, c3, 58, c4, c5, z, c6, c7]⟩ 4 = c3.toNat := rfl
  have e6 : bt ⟨#[c0, c1, 58, c2, c3, 58, c4, c5, z, c6, c7]⟩ 6 = c4.toNat := rfl
  have e7 : bt ⟨#[c0, c1, 58, c2, c3, 58, c4, c5, z, c6, c7]⟩ 7 = c5.toNat := rfl
  have e9 : bt ⟨#[c0, c1, 58, c2, c3, 58, c4, c5, z, c6, c7]⟩ 9 = c6.toNat := rfl
  have e10 : bt ⟨#[c0, c1, 58, c2, c3, 58, c4, c5, z, c6, c7]⟩ 10 = c7.toNat := rfl
  refine ⟨rfl, fun i hi => ?_, ?_, ?_, ?_, ?_⟩
  · unfold okPair isDg
    match i, hi with
    | 0, _ => rw [e0, e1]; omega
    | 1, _ => rw [e3, e4]; omega
    | 2, _ => rw [e6, e7]; omega
    | 3, _ => rw [e9, e10]; omega
  · unfold nAt; rw [e0, e1]; omega
  · unfold nAt; rw [e3, e4]; omega
  · unfold nAt; rw [e6, e7]; omega
  · unfold nAt; rw [e9, e10]; omega

theorem codeS_read {r x : Int} (hr : isRateB r = true) (h0 : 0 ≤ x) (h1 : x < framesN r) :
    (codeS r x).size = 11 ∧ (∀ i, i < 4 → okPair (codeS r x) i) ∧ frameOf r (nAt (codeS r x) 0) (nAt (codeS r x) 1) (nAt (codeS r x) 2) (nAt (codeS r x) 3) = x := by
  have hq : ∃ z, colonS r = ⟨#[z]⟩ := by unfold colonS; split <;> exact ⟨_, rfl⟩
  have hn : countedN r = 24 ∨ countedN r = 25 ∨ countedN r = 30 := by rcases rate_cases hr with rfl | rfl | rfl | rfl <;> decide
  have ha : 0 ≤ adjN r x ∧ adjN r x < 86400 * countedN r ∧ adjN r x - dropN r (adjN r x / (60 * countedN r)) = x := by
    unfold adjN dropN
    rcases rate_cases hr with rfl | rfl | rfl | rfl
    · rw [if_neg (by decide), if_neg (by decide)]; change x < 2073600 at h1; change 0 ≤ x ∧ x < 86400 * 24 ∧ _; omega
    · rw [if_neg (by decide), if_neg (by decide)]; change x < 2160000 at h1; change 0 ≤ x ∧ x < 86400 * 25 ∧ _; omega
    · rw [if_neg (by decide), if_neg (by decide)]; change x < 2592000 at h1; change 0 ≤ x ∧ x < 86400 * 30 ∧ _; omega
    · rw [if_pos rfl, if_pos rfl, show countedN 4 = 30 from rfl]
      change x < 2589408 at h1
      by_cases hh : 1800 ≤ x % 17982
      · rw [if_pos hh]; omega
      · rw [if_neg hh]; omega
  obtain ⟨H, M, S, F, eH, eM, eS, eF, b1, b2, b3, b4, b5, b6, b7, b8, hN, hm⟩ := fields (r := r) hn ha.1 ha.2.1
  have hs : codeS r x = twoS H ++ ⟨#[58]⟩ ++ twoS M ++ ⟨#[58]⟩ ++ twoS S ++ colonS r ++ twoS F := by
    unfold codeS fmtS; rw [eH, eM, eS, eF]
  obtain ⟨z0, z1, z2, z3, z4, z5⟩ := fmt_read (colonS r) hq ⟨b1, by omega⟩ ⟨b3, by omega⟩ ⟨b5, by omega⟩ ⟨b7, by omega⟩ hs
  refine ⟨z0, z1, ?_⟩
  rw [z2, z3, z4, z5]
  unfold frameOf
  rw [hm] at hN ⊢
  rw [← hN]
  exact ha.2.2
/-- The reader's two ways. -/
theorem readP_none {r : Int} {s : ByteArray} (hr : isRateB r = true) (h : s.size ≠ 11 ∨ ∃ i, i < 4 ∧ ¬ okPair s i) (v : Int) : readP r s v false := by
  refine ⟨fun h => by simp at h, fun _ x h0 h1 hx => ?_⟩
  obtain ⟨a, b, _⟩ := codeS_read hr h0 h1
  rw [hx] at a b
  rcases h with h | ⟨i, hi, h⟩
  · exact h a
  · exact h (b i hi)
theorem readP_some {r : Int} {s : ByteArray} {v : Int} {ok : Bool} (hr : isRateB r = true) (hv : v = frameOf r (nAt s 0) (nAt s 1) (nAt s 2) (nAt s 3)) (h : ok = true ↔ 0 ≤ v ∧ v < framesN r ∧ codeS r v = s) : readP r s v ok := by
  refine ⟨fun hh => h.1 hh, fun hh x h0 h1 hx => ?_⟩
  obtain ⟨_, _, b⟩ := codeS_read hr h0 h1
  rw [hx] at b
  rw [← hv] at b
  have := h.2 ⟨by omega, by omega, by rw [b]; exact hx⟩
  simp [hh] at this
theorem readP_same {r : Int} {s : ByteArray} {v v' : Int} {ok ok' : Bool} (hr : isRateB r = true) (h : readP r s v ok) (h' : readP r s v' ok') : ok = ok' ∧ (ok = true → v = v') := by
  cases ok <;> cases ok'
  · exact ⟨rfl, fun h => by simp at h⟩
  · obtain ⟨a, b, c⟩ := h'.1 rfl
    exact absurd c (h.2 rfl _ a b)
  · obtain ⟨a, b, c⟩ := h.1 rfl
    exact absurd c (h'.2 rfl _ a b)
  · obtain ⟨a, b, c⟩ := h.1 rfl
    obtain ⟨a', b', c'⟩ := h'.1 rfl
    refine ⟨rfl, fun _ => ?_⟩
    obtain ⟨_, _, e⟩ := codeS_read hr a b
    obtain ⟨_, _, e'⟩ := codeS_read hr a' b'
    rw [c] at e; rw [c'] at e'
    exact e.symm.trans e'
end Go.Proofs.YtndgdbncfplndaaDoor
