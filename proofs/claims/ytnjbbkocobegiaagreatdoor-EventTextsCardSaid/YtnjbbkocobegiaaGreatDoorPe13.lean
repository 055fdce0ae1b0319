/- Texts packed: CodeR. -/
import Derived.Test.YtnjbbkocobegiaaGreatDoorRows
import Derived.Test.YtnjbbkocobegiaaGreatDoorPe04
import Derived.Test.YtnjbbkocobegiaaGreatDoorPe12
/- The reference's codes. -/
namespace Go.Proofs.YtnjbbkocobegiaaGreatDoor
set_option linter.unusedVariables false
open Go.RowKit Go.Sort

def twoR (n : Int) : ByteArray := ⟨#[UInt8.ofNat ((48 + (wrap64 (n.tdiv 10)).tmod 10) % 256).toNat, UInt8.ofNat ((48 + n.tmod 10) % 256).toNat]⟩
theorem twoR_eq {n : Int} (h0 : 0 ≤ n) (h1 : n < 100) : twoR n = twoS n := by
  rw [twoS_eq h0 h1]
  unfold twoR
  rw [Int.tdiv_eq_ediv_of_nonneg h0, Int.tmod_eq_emod_of_nonneg h0, IntWalk.wrap64_in (n / 10) (by omega), Int.tmod_eq_emod_of_nonneg (by omega : 0 ≤ n / 10)]
  rw [show (48 + n / 10 % 10) % 256 = 48 + n / 10 by omega, show (48 + n % 10) % 256 = 48 + n % 10 by omega]

theorem twoR_c (n : Int) (w : World) : Calls Tryz.prog 111 #[.int .i64 n] w fun e w' => e = .returned (.string (twoR n)) ∧ Below w.heap.size w w' := by
  have hcv := fun (a b : Int) => run_bytes_lit (P := Tryz.prog) w 96 9 5 Tryz.underlying96 Tryz.underlying5 Tryz.underlying9 [a, b] 2 2 rfl _ rfl 5
  simp only [List.map_cons, List.map_nil] at hcv
  go_enter Tryz.func111, Tryz.ntmps111
  go_wp2
  go_ret
  exact ⟨rfl, (Below.refl _ _).alloc (Nat.le_refl _) _⟩

theorem twoR_len (n : Int) : (twoR n).size = 2 := rfl

/-- The frames before a minute. -/
def minFr (r m : Int) : Int := if r = 4 then 1798 * m + 2 * ((m + 9) / 10) else 60 * countedN r * m
def minLen (r m : Int) : Int := if r = 4 ∧ m % 10 ≠ 0 then 1798 else 60 * countedN r
theorem minFr_step (r m : Int) : minFr r (m + 1) = minFr r m + minLen r m := by
  unfold minFr minLen
  by_cases h : r = 4
  · subst h
    rw [if_pos rfl, if_pos rfl, show countedN 4 = 30 from rfl]
    by_cases h0 : m % 10 = 0
    · rw [if_neg (by simp [h0])]; omega
    · rw [if_pos ⟨rfl, h0⟩]; omega
  · rw [if_neg h, if_neg h, if_neg (fun hh => h hh.1), Int.mul_add]; omega

theorem fmt_eqs (r c m z : Int) (hc : c = 24 ∨ c = 25 ∨ c = 30) (hm : 0 ≤ m) (hm2 : m < 1440) (h0 : 0 ≤ z) (h1 : z < 60 * c) :
    twoS ((60 * c * m + z) / c / 3600) ++ ⟨#[58]⟩ ++ twoS ((60 * c * m + z) / c / 60 % 60) ++ ⟨#[58]⟩ ++ twoS ((60 * c * m + z) / c % 60) ++ colonS r ++ twoS ((60 * c * m + z) % c)
      = twoS (m / 60) ++ ⟨#[58]⟩ ++ twoS (m % 60) ++ ⟨#[58]⟩ ++ twoS (z / c) ++ colonS r ++ twoS (z % c) ∧ m < 1440 ∧ z / c < 60 := by
  have a1 : (60 * c * m + z) / c / 3600 = m / 60 := by rcases hc with rfl | rfl | rfl <;> omega
  have a2 : (60 * c * m + z) / c / 60 % 60 = m % 60 := by rcases hc with rfl | rfl | rfl <;> omega
  have a3 : (60 * c * m + z) / c % 60 = z / c := by rcases hc with rfl | rfl | rfl <;> omega
  have a4 : (60 * c * m + z) % c = z % c := by rcases hc with rfl | rfl | rfl <;> omega
  rw [a1, a2, a3, a4]
  exact ⟨rfl, hm2, by rcases hc with rfl | rfl | rfl <;> omega⟩
theorem drop_eqs {x m y : Int} (hm : 0 ≤ m) (h : m % 10 ≠ 0) (hx : x = 1798 * m + 2 * ((m + 9) / 10) + y) (hy : 0 ≤ y) (hl : y < 1798) :
    1800 ≤ x % 17982 ∧ x + 18 * (x / 17982) + (2 + 2 * ((x % 17982 - 1800) / 1798)) = 60 * 30 * m + (y + 2) := by
  obtain ⟨q, s, h1, h2, h3⟩ : ∃ q s : Int, m = 10 * q + s ∧ 1 ≤ s ∧ s ≤ 9 := ⟨m / 10, m % 10, by omega, by omega, by omega⟩
  have e1 : (m + 9) / 10 = q + 1 := by omega
  rw [e1] at hx
  have e2 : x / 17982 = q := by omega
  have e3 : x % 17982 = 1798 * s + 2 + y := by omega
  have e4 : (x % 17982 - 1800) / 1798 = s - 1 := by omega
  rw [e2, e4, e3]
  omega
/-- The code, counted by minutes, is that of the program. -/
theorem codeS_min {r x m y : Int} (hr : isRateB r = true) (h0 : 0 ≤ x) (h1 : x < framesN r) (hm : 0 ≤ m) (hx : x = minFr r m + y) (hy : 0 ≤ y) (hl : y < minLen r m) :
    codeS r x = twoS (m / 60) ++ ⟨#[58]⟩ ++ twoS (m % 60) ++ ⟨#[58]⟩ ++ twoS ((y + (60 * countedN r - minLen r m)) / countedN r) ++ colonS r ++ twoS ((y + (60 * countedN r - minLen r m)) % countedN r)
    ∧ m < 1440 ∧ (y + (60 * countedN r - minLen r m)) / countedN r < 60 := by
  have key : ∀ z, adjN r x = 60 * countedN r * m + z → 0 ≤ z → z < 60 * countedN r → z = y + (60 * countedN r - minLen r m) → m < 1440 →
      codeS r x = twoS (m / 60) ++ ⟨#[58]⟩ ++ twoS (m % 60) ++ ⟨#[58]⟩ ++ twoS (z / countedN r) ++ colonS r ++ twoS (z % countedN r) ∧ m < 1440 ∧ z / countedN r < 60 := by
    intro z hz hz0 hz1 _ hm2
    unfold codeS fmtS
    rw [hz]
    rcases rate_cases hr with rfl | rfl | rfl | rfl
    · exact fmt_eqs 1 24 m z (.inl rfl) hm hm2 hz0 hz1
    · exact fmt_eqs 2 25 m z (.inr (.inl rfl)) hm hm2 hz0 hz1
    · exact fmt_eqs 3 30 m z (.inr (.inr rfl)) hm hm2 hz0 hz1
    · exact fmt_eqs 4 30 m z (.inr (.inr rfl)) hm hm2 hz0 hz1
  unfold minFr minLen at *
  rcases rate_cases hr with rfl | rfl | rfl | rfl
  · simp only [show countedN 1 = 24 from rfl, show framesN 1 = 2073600 from rfl] at *
    simp at hx hl ⊢
    have := key y (by show x = _; omega) (by omega) (by omega) (by simp) (by omega)
    simpa using this
  · simp only [show countedN 2 = 25 from rfl, show framesN 2 = 2160000 from rfl] at *
    simp at hx hl ⊢
    have := key y (by show x = _; omega) (by omega) (by omega) (by simp) (by omega)
    simpa using this
  · simp only [show countedN 3 = 30 from rfl, show framesN 3 = 2592000 from rfl] at *
    simp at hx hl ⊢
    have := key y (by show x = _; omega) (by omega) (by omega) (by simp) (by omega)
    simpa using this
  · simp only [show countedN 4 = 30 from rfl, show framesN 4 = 2589408 from rfl] at *
    have ha : adjN 4 x = x + 18 * (x / 17982) + (if 1800 ≤ x % 17982 then 2 + 2 * ((x % 17982 - 1800) / 1798) else 0) := by unfold adjN; rw [if_pos rfl]
    by_cases h10 : m % 10 = 0
    · simp [h10] at hx hl ⊢
      have := key y (by rw [ha, if_neg (by omega)]; omega) (by omega) (by omega) (by simp [h10]) (by omega)
      simpa [h10] using this
    · simp [h10] at hx hl ⊢
      have := key (y + 2) (by rw [ha, if_pos (drop_eqs hm h10 hx hy hl).1]; exact (drop_eqs hm h10 hx hy hl).2) (by omega) (by omega) (by simp [h10]) (by omega)
      simpa [h10] using this

theorem codeR_min {r x m y z : Int} (hr : isRateB r = true) (h0 : 0 ≤ x) (h1 : x < framesN r) (hm : 0 ≤ m) (hx : x = minFr r m + y) (hy : 0 ≤ y) (hl : y < minLen r m) (hz : z = y + (60 * countedN r - minLen r m)) :
    codeS r x = twoR (m / 60) ++ ⟨#[58]⟩ ++ twoR (m % 60) ++ ⟨#[58]⟩ ++ twoR (z / countedN r) ++ colonS r ++ twoR (z % countedN r) ∧ m < 1440 ∧ 0 ≤ z ∧ z < 60 * countedN r := by
  obtain ⟨a, b, c⟩ := codeS_min hr h0 h1 hm hx hy hl
  subst hz
  have hc : countedN r = 24 ∨ countedN r = 25 ∨ countedN r = 30 := by rcases rate_cases hr with rfl | rfl | rfl | rfl <;> decide
  have hll : minLen r m ≤ 60 * countedN r := by
    unfold minLen
    split
    · rename_i h; rw [h.1, show countedN 4 = 30 from rfl]; omega
    · omega
  have hz0 : 0 ≤ y + (60 * countedN r - minLen r m) := by omega
  generalize y + (60 * countedN r - minLen r m) = z at *
  generalize minLen r m = q at *
  refine ⟨?_, b, hz0, by rcases hc with h | h | h <;> rw [h] at c ⊢ <;> omega⟩
  rw [twoR_eq (by omega) (by omega), twoR_eq (by omega) (by omega)]
  rw [twoR_eq (by rcases hc with h | h | h <;> rw [h] <;> omega) (by rcases hc with h | h | h <;> rw [h] at c ⊢ <;> omega), twoR_eq (by rcases hc with h | h | h <;> rw [h] <;> omega) (by rcases hc with h | h | h <;> rw [h] <;> omega)]
  exact a
theorem minFr_bd (r m : Int) (hm : 0 ≤ m) (hr : isRateB r = true) (hx : minFr r m < framesN r) : m < 1440 := by
  unfold minFr at hx
  rcases rate_cases hr with rfl | rfl | rfl | rfl
  all_goals simp only [show countedN 1 = 24 from rfl, show countedN 2 = 25 from rfl, show countedN 3 = 30 from rfl, show framesN 1 = 2073600 from rfl, show framesN 2 = 2160000 from rfl, show framesN 3 = 2592000 from rfl, show framesN 4 = 2589408 from rfl] at hx; simp at hx; omega
set_option maxHeartbeats 2000000 in
theorem CodeOf_c (r x : Int) (w : World) (hr : isRateB r = true) (h0 : 0 ≤ x) (h1 : x < framesN r) : Calls Tryz.prog 61 #[.int .i64 r, .int .i64 x] w fun e w' => e = .returned (.string (codeS r x)) ∧ Below w.heap.size w w' := by
  rcases rate_cases hr with rfl | rfl | rfl | rfl
  ·
    have e1 : countedN 1 = 24 := rfl
    have e2 : framesN 1 = 2073600 := rfl
    go_enter Tryz.func61, Tryz.ntmps61
    go_wp2_with fail
    refine (rateOf_c 1 _).mono ?_
    rintro e w' ⟨rfl, rfl⟩
    go_wp2
    go_loopw [1, 10] (fun fr mi wr => ∃ m y : Int, 0 ≤ m ∧ m ≤ 1440 ∧ 0 ≤ y ∧ y ≤ 2600000 ∧ x = minFr 1 m + y ∧ fr = .int .i64 y ∧ mi = .int .i64 m ∧ wr = w) (fun fr _ _ => (intOf fr).toNat)
    case atStart => exact ⟨0, x, by omega, by omega, h0, by omega, by rw [show minFr 1 0 = 0 from rfl]; omega, rfl, rfl, rfl⟩
    case round =>
      obtain ⟨m, y, hm, hm2, hy, hy2, hxx, rfl, rfl, rfl⟩ := hrel
      have hlen : minLen 1 m = 1440 := if_neg (fun h => absurd h.1 (by decide))
      by_cases hl : y < 1440
      ·
        have HE := Lib.hid (codeR_min (z := y) hr h0 h1 hm hxx hy (by rw [hlen]; exact hl) (by rw [hlen, e1]; omega))
        obtain ⟨_, hmm, hz0, hz1⟩ := HE.out
        rw [e1] at hz1
        have q1 : IntKind.i64.wrap (m.tdiv 60) = m / 60 := by rw [Int.tdiv_eq_ediv_of_nonneg hm]; exact IntWalk.i64_in _ (by omega)
        have q2 : m.tmod 60 = m % 60 := Int.tmod_eq_emod_of_nonneg hm
        have q3 : IntKind.i64.wrap ((y).tdiv 24) = (y) / 24 := by rw [Int.tdiv_eq_ediv_of_nonneg (by omega)]; exact IntWalk.i64_in _ (by omega)
        have q4 : (y).tmod 24 = (y) % 24 := Int.tmod_eq_emod_of_nonneg (by omega)
        go_wp2
        have hz : ∀ n, (twoR n).size = 2 := fun _ => rfl
        refine wp_region_quiet_below (by kernel_rfl) (by kernel_rfl) ?_
        repeat (first | go_big_quiet_step ((go_at_call 111; exact Calls.regrown_of (twoR_c _ _))) | quiet_step ((go_at_call 111; exact Calls.regrown_of (twoR_c _ _))))
        refine wpQuiet_nil ?_
        intro wq hwq
        have hbq := below_of_regrown hwq
        clear hwq
        go_wp2
        go_ret
        exact ⟨by rw [HE.out.1, e1]; rfl, hbq⟩
      ·
        have hmm : m + 1 ≤ 1440 := by have h9 := minFr_bd 1 m hm rfl (by omega); omega
        have HS := Lib.hid (minFr_step 1 m)
        have qs : IntKind.i64.wrap (y - 1440) = y - 1440 := IntWalk.i64_in _ (by omega)
        go_wp2
        go_roundw
        case rel => exact ⟨m + 1, y - 1440, by omega, by omega, by omega, by omega, by rw [HS.out, hlen]; omega, by simp⟩
        case measure => simp [intOf]; omega
  ·
    have e1 : countedN 2 = 25 := rfl
    have e2 : framesN 2 = 2160000 := rfl
    go_enter Tryz.func61, Tryz.ntmps61
    go_wp2_with fail
    refine (rateOf_c 2 _).mono ?_
    rintro e w' ⟨rfl, rfl⟩
    go_wp2
    go_loopw [1, 10] (fun fr mi wr => ∃ m y : Int, 0 ≤ m ∧ m ≤ 1440 ∧ 0 ≤ y ∧ y ≤ 2600000 ∧ x = minFr 2 m + y ∧ fr = .int .i64 y ∧ mi = .int .i64 m ∧ wr = w) (fun fr _ _ => (intOf fr).toNat)
    case atStart => exact ⟨0, x, by omega, by omega, h0, by omega, by rw [show minFr 2 0 = 0 from rfl]; omega, rfl, rfl, rfl⟩
    case round =>
      obtain ⟨m, y, hm, hm2, hy, hy2, hxx, rfl, rfl, rfl⟩ := hrel
      have hlen : minLen 2 m = 1500 := if_neg (fun h => absurd h.1 (by decide))
      by_cases hl : y < 1500
      ·
        have HE := Lib.hid (codeR_min (z := y) hr h0 h1 hm hxx hy (by rw [hlen]; exact hl) (by rw [hlen, e1]; omega))
        obtain ⟨_, hmm, hz0, hz1⟩ := HE.out
        rw [e1] at hz1
        have q1 : IntKind.i64.wrap (m.tdiv 60) = m / 60 := by rw [Int.tdiv_eq_ediv_of_nonneg hm]; exact IntWalk.i64_in _ (by omega)
        have q2 : m.tmod 60 = m % 60 := Int.tmod_eq_emod_of_nonneg hm
        have q3 : IntKind.i64.wrap ((y).tdiv 25) = (y) / 25 := by rw [Int.tdiv_eq_ediv_of_nonneg (by omega)]; exact IntWalk.i64_in _ (by omega)
        have q4 : (y).tmod 25 = (y) % 25 := Int.tmod_eq_emod_of_nonneg (by omega)
        go_wp2
        have hz : ∀ n, (twoR n).size = 2 := fun _ => rfl
        refine wp_region_quiet_below (by kernel_rfl) (by kernel_rfl) ?_
        repeat (first | go_big_quiet_step ((go_at_call 111; exact Calls.regrown_of (twoR_c _ _))) | quiet_step ((go_at_call 111; exact Calls.regrown_of (twoR_c _ _))))
        refine wpQuiet_nil ?_
        intro wq hwq
        have hbq := below_of_regrown hwq
        clear hwq
        go_wp2
        go_ret
        exact ⟨by rw [HE.out.1, e1]; rfl, hbq⟩
      ·
        have hmm : m + 1 ≤ 1440 := by have h9 := minFr_bd 2 m hm rfl (by omega); omega
        have HS := Lib.hid (minFr_step 2 m)
        have qs : IntKind.i64.wrap (y - 1500) = y - 1500 := IntWalk.i64_in _ (by omega)
        go_wp2
        go_roundw
        case rel => exact ⟨m + 1, y - 1500, by omega, by omega, by omega, by omega, by rw [HS.out, hlen]; omega, by simp⟩
        case measure => simp [intOf]; omega
  ·
    have e1 : countedN 3 = 30 := rfl
    have e2 : framesN 3 = 2592000 := rfl
    go_enter Tryz.func61, Tryz.ntmps61
    go_wp2_with fail
    refine (rateOf_c 3 _).mono ?_
    rintro e w' ⟨rfl, rfl⟩
    go_wp2
    go_loopw [1, 10] (fun fr mi wr => ∃ m y : Int, 0 ≤ m ∧ m ≤ 1440 ∧ 0 ≤ y ∧ y ≤ 2600000 ∧ x = minFr 3 m + y ∧ fr = .int .i64 y ∧ mi = .int .i64 m ∧ wr = w) (fun fr _ _ => (intOf fr).toNat)
    case atStart => exact ⟨0, x, by omega, by omega, h0, by omega, by rw [show minFr 3 0 = 0 from rfl]; omega, rfl, rfl, rfl⟩
    case round =>
      obtain ⟨m, y, hm, hm2, hy, hy2, hxx, rfl, rfl, rfl⟩ := hrel
      have hlen : minLen 3 m = 1800 := if_neg (fun h => absurd h.1 (by decide))
      by_cases hl : y < 1800
      ·
        have HE := Lib.hid (codeR_min (z := y) hr h0 h1 hm hxx hy (by rw [hlen]; exact hl) (by rw [hlen, e1]; omega))
        obtain ⟨_, hmm, hz0, hz1⟩ := HE.out
        rw [e1] at hz1
        have q1 : IntKind.i64.wrap (m.tdiv 60) = m / 60 := by rw [Int.tdiv_eq_ediv_of_nonneg hm]; exact IntWalk.i64_in _ (by omega)
        have q2 : m.tmod 60 = m % 60 := Int.tmod_eq_emod_of_nonneg hm
        have q3 : IntKind.i64.wrap ((y).tdiv 30) = (y) / 30 := by rw [Int.tdiv_eq_ediv_of_nonneg (by omega)]; exact IntWalk.i64_in _ (by omega)
        have q4 : (y).tmod 30 = (y) % 30 := Int.tmod_eq_emod_of_nonneg (by omega)
        go_wp2
        have hz : ∀ n, (twoR n).size = 2 := fun _ => rfl
        refine wp_region_quiet_below (by kernel_rfl) (by kernel_rfl) ?_
        repeat (first | go_big_quiet_step ((go_at_call 111; exact Calls.regrown_of (twoR_c _ _))) | quiet_step ((go_at_call 111; exact Calls.regrown_of (twoR_c _ _))))
        refine wpQuiet_nil ?_
        intro wq hwq
        have hbq := below_of_regrown hwq
        clear hwq
        go_wp2
        go_ret
        exact ⟨by rw [HE.out.1, e1]; rfl, hbq⟩
      ·
        have hmm : m + 1 ≤ 1440 := by have h9 := minFr_bd 3 m hm rfl (by omega); omega
        have HS := Lib.hid (minFr_step 3 m)
        have qs : IntKind.i64.wrap (y - 1800) = y - 1800 := IntWalk.i64_in _ (by omega)
        go_wp2
        go_roundw
        case rel => exact ⟨m + 1, y - 1800, by omega, by omega, by omega, by omega, by rw [HS.out, hlen]; omega, by simp⟩
        case measure => simp [intOf]; omega
  ·
    have e1 : countedN 4 = 30 := rfl
    have e2 : framesN 4 = 2589408 := rfl
    go_enter Tryz.func61, Tryz.ntmps61
    go_wp2_with fail
    refine (rateOf_c 4 _).mono ?_
    rintro e w' ⟨rfl, rfl⟩
    go_wp2
    go_loopw [1, 10] (fun fr mi wr => ∃ m y : Int, 0 ≤ m ∧ m ≤ 1440 ∧ 0 ≤ y ∧ y ≤ 2600000 ∧ x = minFr 4 m + y ∧ fr = .int .i64 y ∧ mi = .int .i64 m ∧ wr = w) (fun fr _ _ => (intOf fr).toNat)
    case atStart => exact ⟨0, x, by omega, by omega, h0, by omega, by rw [show minFr 4 0 = 0 from rfl]; omega, rfl, rfl, rfl⟩
    case round =>
      obtain ⟨m, y, hm, hm2, hy, hy2, hxx, rfl, rfl, rfl⟩ := hrel
      have hq : m.tmod 10 = m % 10 := Int.tmod_eq_emod_of_nonneg hm
      by_cases h10 : m % 10 = 0
      ·
        have hlen : minLen 4 m = 1800 := if_neg (fun h => h.2 h10)
        by_cases hl : y < 1800
        ·
          have HE := Lib.hid (codeR_min (z := y) hr h0 h1 hm hxx hy (by rw [hlen]; exact hl) (by rw [hlen, e1]; omega))
          obtain ⟨_, hmm, hz0, hz1⟩ := HE.out
          rw [e1] at hz1
          have q1 : IntKind.i64.wrap (m.tdiv 60) = m / 60 := by rw [Int.tdiv_eq_ediv_of_nonneg hm]; exact IntWalk.i64_in _ (by omega)
          have q2 : m.tmod 60 = m % 60 := Int.tmod_eq_emod_of_nonneg hm
          have q3 : IntKind.i64.wrap ((y).tdiv 30) = (y) / 30 := by rw [Int.tdiv_eq_ediv_of_nonneg (by omega)]; exact IntWalk.i64_in _ (by omega)
          have q4 : (y).tmod 30 = (y) % 30 := Int.tmod_eq_emod_of_nonneg (by omega)
          go_wp2
          have hz : ∀ n, (twoR n).size = 2 := fun _ => rfl
          refine wp_region_quiet_below (by kernel_rfl) (by kernel_rfl) ?_
          repeat (first | go_big_quiet_step ((go_at_call 111; exact Calls.regrown_of (twoR_c _ _))) | quiet_step ((go_at_call 111; exact Calls.regrown_of (twoR_c _ _))))
          refine wpQuiet_nil ?_
          intro wq hwq
          have hbq := below_of_regrown hwq
          clear hwq
          go_wp2
          go_ret
          exact ⟨by rw [HE.out.1, e1]; rfl, hbq⟩
        ·
          have hmm : m + 1 ≤ 1440 := by have h9 := minFr_bd 4 m hm rfl (by omega); omega
          have HS := Lib.hid (minFr_step 4 m)
          have qs : IntKind.i64.wrap (y - 1800) = y - 1800 := IntWalk.i64_in _ (by omega)
          go_wp2
          go_roundw
          case rel => exact ⟨m + 1, y - 1800, by omega, by omega, by omega, by omega, by rw [HS.out, hlen]; omega, by simp⟩
          case measure => simp [intOf]; omega
      ·
        have hlen : minLen 4 m = 1798 := if_pos ⟨rfl, h10⟩
        by_cases hl : y < 1798
        ·
          have HE := Lib.hid (codeR_min (z := y + 2) hr h0 h1 hm hxx hy (by rw [hlen]; exact hl) (by rw [hlen, e1]; omega))
          obtain ⟨_, hmm, hz0, hz1⟩ := HE.out
          rw [e1] at hz1
          have q1 : IntKind.i64.wrap (m.tdiv 60) = m / 60 := by rw [Int.tdiv_eq_ediv_of_nonneg hm]; exact IntWalk.i64_in _ (by omega)
          have q2 : m.tmod 60 = m % 60 := Int.tmod_eq_emod_of_nonneg hm
          have q3 : IntKind.i64.wrap ((y + 2).tdiv 30) = (y + 2) / 30 := by rw [Int.tdiv_eq_ediv_of_nonneg (by omega)]; exact IntWalk.i64_in _ (by omega)
          have q4 : (y + 2).tmod 30 = (y + 2) % 30 := Int.tmod_eq_emod_of_nonneg (by omega)
          go_wp2
          have hz : ∀ n, (twoR n).size = 2 := fun _ => rfl
          refine wp_region_quiet_below (by kernel_rfl) (by kernel_rfl) ?_
          repeat (first | go_big_quiet_step ((go_at_call 111; exact Calls.regrown_of (twoR_c _ _))) | quiet_step ((go_at_call 111; exact Calls.regrown_of (twoR_c _ _))))
          refine wpQuiet_nil ?_
          intro wq hwq
          have hbq := below_of_regrown hwq
          clear hwq
          go_wp2
          go_ret
          exact ⟨by rw [HE.out.1, e1]; rfl, hbq⟩
        ·
          have hmm : m + 1 ≤ 1440 := by have h9 := minFr_bd 4 m hm rfl (by omega); omega
          have HS := Lib.hid (minFr_step 4 m)
          have qs : IntKind.i64.wrap (y - 1798) = y - 1798 := IntWalk.i64_in _ (by omega)
          go_wp2
          go_roundw
          case rel => exact ⟨m + 1, y - 1798, by omega, by omega, by omega, by omega, by rw [HS.out, hlen]; omega, by simp⟩
          case measure => simp [intOf]; omega
end Go.Proofs.YtnjbbkocobegiaaGreatDoor

