/- Texts packed: CodeR. -/
import Derived.Test.YtodlfdfkhdfblaaGreatDoorRows
import Derived.Test.YtodlfdfkhdfblaaGreatDoorEm03
import Derived.Test.YtodlfdfkhdfblaaGreatDoorEm10
/- The reference's codes. -/
namespace Go.Proofs.YtodlfdfkhdfblaaGreatDoor
set_option linter.unusedVariables false
open Go.RowKit Go.Sort

def twoR (n : Int) : ByteArray := ⟨#[UInt8.ofNat ((48 + (wrap64 (n.tdiv 10)).tmod 10) % 256).toNat, UInt8.ofNat ((48 + n.tmod 10) % 256).toNat]⟩
theorem twoR_eq {n : Int} (h0 : 0 ≤ n) (h1 : n < 100) : twoR n = twoS n := by
  rw [twoS_eq h0 h1]
  unfold twoR
  rw [Int.tdiv_eq_ediv_of_nonneg h0, Int.tmod_eq_emod_of_nonneg h0, IntWalk.wrap64_in (n / 10) (by omega), Int.tmod_eq_emod_of_nonneg (by omega : 0 ≤ n / 10)]
  rw [show (48 + n / 10 % 10) % 256 = 48 + n / 10 by omega, show (48 + n % 10) % 256 = 48 + n % 10 by omega]

theorem twoR_len (n : Int) : (twoR n).size = 2 := rfl

/-- The frames before a minute. -/
def minFr (r m : Int) : Int := if r = 4 then 1798 * m + 2 * ((m + 9) / 10) else 60 * countedN r * m
def minLen (r m : Int) : Int := if r = 4 ∧ m % 10 ≠ 0 then 1798 else 60 * countedN r
theorem minFr_step (r m : Int) : minFr r (m + 1) = minFr r m + minLen r m := by
  unfold minFr minLen
  by_cases h : r = 4
  · subst h
    rw [if_pos rfl, if_pos rfl, show countedN 4 = 30 from rfl]
    by_cases h0 : m % 10 = 0
    · rw [if_neg (by simp [h0])]; omega
    · rw [if_pos ⟨rfl, h0⟩]; omega
  · rw [if_neg h, if_neg h, if_neg (fun hh => h hh.1), Int.mul_add]; omega

theorem fmt_eqs (r c m z : Int) (hc : c = 24 ∨ c = 25 ∨ c = 30) (hm : 0 ≤ m) (hm2 : m < 1440) (h0 : 0 ≤ z) (h1 : z < 60 * c) :
    twoS ((60 * c * m + z) / c / 3600) ++ ⟨#[58]⟩ ++ twoS ((60 * c * m + z) / c / 60 % 60) ++ ⟨#[58]⟩ ++ twoS ((60 * c * m + z) / c % 60) ++ colonS r ++ twoS ((60 * c * m + z) % c)
      = twoS (m / 60) ++ ⟨#[58]⟩ ++ twoS (m % 60) ++ ⟨#[58]⟩ ++ twoS (z / c) ++ colonS r ++ twoS (z % c) ∧ m < 1440 ∧ z / c < 60 := by
  have a1 : (60 * c * m + z) / c / 3600 = m / 60 := by rcases hc with rfl | rfl | rfl <;> omega
  have a2 : (60 * c * m + z) / c / 60 % 60 = m % 60 := by rcases hc with rfl | rfl | rfl <;> omega
  have a3 : (60 * c * m + z) / c % 60 = z / c := by rcases hc with rfl | rfl | rfl <;> omega
  have a4 : (60 * c * m + z) % c = z % c := by rcases hc with rfl | rfl | rfl <;> omega
  rw [a1, a2, a3, a4]
  exact ⟨rfl, hm2, by rcases hc with rfl | rfl | rfl <;> omega⟩
theorem drop_eqs {x m y : Int} (hm : 0 ≤ m) (h : m % 10 ≠ 0) (hx : x = 1798 * m + 2 * ((m + 9) / 10) + y) (hy : 0 ≤ y) (hl : y < 1798) :
    1800 ≤ x % 17982 ∧ x + 18 * (x / 17982) + (2 + 2 * ((x % 17982 - 1800) / 1798)) = 60 * 30 * m + (y + 2) := by
  obtain ⟨q, s, h1, h2, h3⟩ : ∃ q s : Int, m = 10 * q + s ∧ 1 ≤ s ∧ s ≤ 9 := ⟨m / 10, m % 10, by omega, by omega, by omega⟩
  have e1 : (m + 9) / 10 = q + 1 := by omega
  rw [e1] at hx
  have e2 : x / 17982 = q := by omega
  have e3 : x % 17982 = 1798 * s + 2 + y := by omega
  have e4 : (x % 17982 - 1800) / 1798 = s - 1 := by omega
  rw [e2, e4, e3]
  omega
/-- The code, counted by minutes, is that of the program. -/
theorem codeS_min {r x m y : Int} (hr : isRateB r = true) (h0 : 0 ≤ x) (h1 : x < framesN r) (hm : 0 ≤ m) (hx : x = minFr r m + y) (hy : 0 ≤ y) (hl : y < minLen r m) :
    codeS r x = twoS (m / 60) ++ ⟨#[58]⟩ ++ twoS (m % 60) ++ ⟨#[58]⟩ ++ twoS ((y + (60 * countedN r - minLen r m)) / countedN r) ++ colonS r ++ twoS ((y + (60 * countedN r - minLen r m)) % countedN r)
    ∧ m < 1440 ∧ (y + (60 * countedN r - minLen r m)) / countedN r < 60 := by
  have key : ∀ z, adjN r x = 60 * countedN r * m + z → 0 ≤ z → z < 60 * countedN r → z = y + (60 * countedN r - minLen r m) → m < 1440 →
      codeS r x = twoS (m / 60) ++ ⟨#[58]⟩ ++ twoS (m % 60) ++ ⟨#[58]⟩ ++ twoS (z / countedN r) ++ colonS r ++ twoS (z % countedN r) ∧ m < 1440 ∧ z / countedN r < 60 := by
    intro z hz hz0 hz1 _ hm2
    unfold codeS fmtS
    rw [hz]
    rcases rate_cases hr with rfl | rfl | rfl | rfl
    · exact fmt_eqs 1 24 m z (.inl rfl) hm hm2 hz0 hz1
    · exact fmt_eqs 2 25 m z (.inr (.inl rfl)) hm hm2 hz0 hz1
    · exact fmt_eqs 3 30 m z (.inr (.inr rfl)) hm hm2 hz0 hz1
    · exact fmt_eqs 4 30 m z (.inr (.inr rfl)) hm hm2 hz0 hz1
  unfold minFr minLen at *
  rcases rate_cases hr with rfl | rfl | rfl | rfl
  · simp only [show countedN 1 = 24 from rfl, show framesN 1 = 2073600 from rfl] at *
    simp at hx hl ⊢
    have := key y (by show x = _; omega) (by omega) (by omega) (by simp) (by omega)
    simpa using this
  · simp only [show countedN 2 = 25 from rfl, show framesN 2 = 2160000 from rfl] at *
    simp at hx hl ⊢
    have := key y (by show x = _; omega) (by omega) (by omega) (by simp) (by omega)
    simpa using this
  · simp only [show countedN 3 = 30 from rfl, show framesN 3 = 2592000 from rfl] at *
    simp at hx hl ⊢
    have := key y (by show x = _; omega) (by omega) (by omega) (by simp) (by omega)
    simpa using this
  · simp only [show countedN 4 = 30 from rfl, show framesN 4 = 2589408 from rfl] at *
    have ha : adjN 4 x = x + 18 * (x / 17982) + (if 1800 ≤ x % 17982 then 2 + 2 * ((x % 17982 - 1800) / 1798) else 0) := by unfold adjN; rw [if_pos rfl]
    by_cases h10 : m % 10 = 0
    · simp [h10] at hx hl ⊢
      have := key y (by rw [ha, if_neg (by omega)]; omega) (by omega) (by omega) (by simp [h10]) (by omega)
      simpa [h10] using this
    · simp [h10] at hx hl ⊢
      have := key (y + 2) (by rw [ha, if_pos (drop_eqs hm h10 hx hy hl).1]; exact (drop_eqs hm h10 hx hy hl).2) (by omega) (by omega) (by simp [h10]) (by omega)
      simpa [h10] using this

theorem codeR_min {r x m y z : Int} (hr : isRateB r = true) (h0 : 0 ≤ x) (h1 : x < framesN r) (hm : 0 ≤ m) (hx : x = minFr r m + y) (hy : 0 ≤ y) (hl : y < minLen r m) (hz : z = y + (60 * countedN r - minLen r m)) :
    codeS r x = twoR (m / 60) ++ ⟨#[58]⟩ ++ twoR (m % 60) ++ ⟨#[58]⟩ ++ twoR (z / countedN r) ++ colonS r ++ twoR (z % countedN r) ∧ m < 1440 ∧ 0 ≤ z ∧ z < 60 * countedN r := by
  obtain ⟨a, b, c⟩ := codeS_min hr h0 h1 hm hx hy hl
  subst hz
  have hc : countedN r = 24 ∨ countedN r = 25 ∨ countedN r = 30 := by rcases rate_cases hr with rfl | rfl | rfl | rfl <;> decide
  have hll : minLen r m ≤ 60 * countedN r := by
    unfold minLen
    split
    · rename_i h; rw [h.1, show countedN 4 = 30 from rfl]; omega
    · omega
  have hz0 : 0 ≤ y + (60 * countedN r - minLen r m) := by omega
  generalize y + (60 * countedN r - minLen r m) = z at *
  generalize minLen r m = q at *
  refine ⟨?_, b, hz0, by rcases hc with h | h | h <;> rw [h] at c ⊢ <;> omega⟩
  rw [twoR_eq (by omega) (by omega), twoR_eq (by omega) (by omega)]
  rw [twoR_eq (by rcases hc with h | h | h <;> rw [h] <;> omega) (by rcases hc with h | h | h <;> rw [h] at c ⊢ <;> omega), twoR_eq (by rcases hc with h | h | h <;> rw [h] <;> omega) (by rcases hc with h | h | h <;> rw [h] <;> omega)]
  exact a
theorem minFr_bd (r m : Int) (hm : 0 ≤ m) (hr : isRateB r = true) (hx : minFr r m < framesN r) : m < 1440 := by
  unfold minFr at hx
  rcases rate_cases hr with rfl | rfl | rfl | rfl
  all_goals simp only [show countedN 1 = 24 from rfl, show countedN 2 = 25 from rfl, show countedN 3 = 30 from rfl, show framesN 1 = 2073600 from rfl, show framesN 2 = 2160000 from rfl, show framesN 3 = 2592000 from rfl, show framesN 4 = 2589408 from rfl] at hx; simp at hx; omega
end Go.Proofs.YtodlfdfkhdfblaaGreatDoor

