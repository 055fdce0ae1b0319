/- Texts packed: CodeW. -/
import Derived.Test.YtodlfdfkhdfblaaGreatDoorRows
import Derived.Test.YtodlfdfkhdfblaaGreatDoorTn02
import Derived.Deep.RegionWith
/- The program's codes. -/
namespace Go.Proofs.YtodlfdfkhdfblaaGreatDoor
set_option linter.unusedVariables false
open Go.RowKit Go.Sort

set_option maxHeartbeats 400000 in
theorem two_any (n : Int) (w : World) : Calls Tryz.prog 166 #[.int .i64 n] w fun e w' => e = .returned (.string (twoS n)) ∧ Below w.heap.size w w' := by
  have hcv := fun (a b : Int) => run_bytes_lit (P := Tryz.prog) w 128 9 5 Tryz.underlying128 Tryz.underlying5 Tryz.underlying9 [a, b] 2 2 rfl _ rfl 5
  simp only [List.map_cons, List.map_nil] at hcv
  go_enter Tryz.func166, Tryz.ntmps166
  go_wp2
  go_ret
  exact ⟨rfl, (Below.refl _ _).alloc (Nat.le_refl _) _⟩

theorem code_eqs {s : Int} (h0 : 0 ≤ s) (h1 : s < 1000000000) : IntKind.i64.wrap (s.tdiv 3600) = s / 3600 ∧ IntKind.i64.wrap (s.tdiv 60) = s / 60 ∧ (s / 60).tmod 60 = s / 60 % 60 ∧ s.tmod 60 = s % 60 := by
  refine ⟨?_, ?_, Int.tmod_eq_emod_of_nonneg (by omega), Int.tmod_eq_emod_of_nonneg h0⟩
  · rw [Int.tdiv_eq_ediv_of_nonneg h0]; exact IntWalk.i64_in _ (by omega)
  · rw [Int.tdiv_eq_ediv_of_nonneg h0]; exact IntWalk.i64_in _ (by omega)

set_option maxHeartbeats 1000000 in
theorem code_c (r x : Int) (w : World) (hr : isRateB r = true) (h0 : 0 ≤ x) (h1 : x < framesN r) : Calls Tryz.prog 129 #[.int .i64 r, .int .i64 x] w fun e w' => e = .returned (.string (codeS r x)) ∧ Below w.heap.size w w' := by
  rcases rate_cases hr with rfl | rfl | rfl | rfl
  ·
    have e1 : countedN 1 = 24 := rfl
    have h2 : x < 2073600 := h1
    have HE := Lib.hid (show codeS 1 x = fmtS 1 (x / 24) (x % 24) from rfl)
    clear h1 hr
    go_enter Tryz.func129, Tryz.ntmps129
    go_wp2_with fail
    refine (counted_c _ _ rfl).mono ?_
    rintro e w' ⟨rfl, rfl⟩
    go_wp2
    obtain ⟨q1, q2, q3, q4⟩ := code_eqs (s := x / 24) (by omega) (by omega)
    have q5 : x.tmod 24 = x % 24 := Int.tmod_eq_emod_of_nonneg h0
    generalize x / 24 = s at *
    generalize x % 24 = n at *
    clear h0 h2
    have hz : ∀ n, (twoS n).size = 2 := fun _ => rfl
    refine wp_region_quiet_below (by kernel_rfl) (by kernel_rfl) ?_
    repeat (first | go_big_quiet_step ((go_at_call 166; exact Calls.regrown_of (two_any _ _))) | quiet_step ((go_at_call 166; exact Calls.regrown_of (two_any _ _))))
    refine wpQuiet_nil ?_
    intro wq hwq
    have hbq := below_of_regrown hwq
    clear hwq
    go_wp2
    go_ret
    exact ⟨by rw [HE.out]; rfl, hbq⟩
  ·
    have e1 : countedN 2 = 25 := rfl
    have h2 : x < 2160000 := h1
    have HE := Lib.hid (show codeS 2 x = fmtS 2 (x / 25) (x % 25) from rfl)
    clear h1 hr
    go_enter Tryz.func129, Tryz.ntmps129
    go_wp2_with fail
    refine (counted_c _ _ rfl).mono ?_
    rintro e w' ⟨rfl, rfl⟩
    go_wp2
    obtain ⟨q1, q2, q3, q4⟩ := code_eqs (s := x / 25) (by omega) (by omega)
    have q5 : x.tmod 25 = x % 25 := Int.tmod_eq_emod_of_nonneg h0
    generalize x / 25 = s at *
    generalize x % 25 = n at *
    clear h0 h2
    have hz : ∀ n, (twoS n).size = 2 := fun _ => rfl
    refine wp_region_quiet_below (by kernel_rfl) (by kernel_rfl) ?_
    repeat (first | go_big_quiet_step ((go_at_call 166; exact Calls.regrown_of (two_any _ _))) | quiet_step ((go_at_call 166; exact Calls.regrown_of (two_any _ _))))
    refine wpQuiet_nil ?_
    intro wq hwq
    have hbq := below_of_regrown hwq
    clear hwq
    go_wp2
    go_ret
    exact ⟨by rw [HE.out]; rfl, hbq⟩
  ·
    have e1 : countedN 3 = 30 := rfl
    have h2 : x < 2592000 := h1
    have HE := Lib.hid (show codeS 3 x = fmtS 3 (x / 30) (x % 30) from rfl)
    clear h1 hr
    go_enter Tryz.func129, Tryz.ntmps129
    go_wp2_with fail
    refine (counted_c _ _ rfl).mono ?_
    rintro e w' ⟨rfl, rfl⟩
    go_wp2
    obtain ⟨q1, q2, q3, q4⟩ := code_eqs (s := x / 30) (by omega) (by omega)
    have q5 : x.tmod 30 = x % 30 := Int.tmod_eq_emod_of_nonneg h0
    generalize x / 30 = s at *
    generalize x % 30 = n at *
    clear h0 h2
    have hz : ∀ n, (twoS n).size = 2 := fun _ => rfl
    refine wp_region_quiet_below (by kernel_rfl) (by kernel_rfl) ?_
    repeat (first | go_big_quiet_step ((go_at_call 166; exact Calls.regrown_of (two_any _ _))) | quiet_step ((go_at_call 166; exact Calls.regrown_of (two_any _ _))))
    refine wpQuiet_nil ?_
    intro wq hwq
    have hbq := below_of_regrown hwq
    clear hwq
    go_wp2
    go_ret
    exact ⟨by rw [HE.out]; rfl, hbq⟩
  ·
    have e1 : countedN 4 = 30 := rfl
    have h2 : x < 2589408 := h1
    clear h1 hr
    by_cases hc : 1800 ≤ x % 17982
    ·
      have HE := Lib.hid (show codeS 4 x = fmtS 4 ((x + 18 * (x / 17982) + (2 + 2 * ((x % 17982 - 1800) / 1798))) / 30) ((x + 18 * (x / 17982) + (2 + 2 * ((x % 17982 - 1800) / 1798))) % 30) by unfold codeS; rw [show adjN 4 x = x + 18 * (x / 17982) + (2 + 2 * ((x % 17982 - 1800) / 1798)) by unfold adjN; rw [if_pos rfl]; rw [if_pos hc]]; rfl)
      have HY := Lib.hid (show 0 ≤ x + 18 * (x / 17982) + (2 + 2 * ((x % 17982 - 1800) / 1798)) ∧ x + 18 * (x / 17982) + (2 + 2 * ((x % 17982 - 1800) / 1798)) ≤ 2700000 by omega)
      go_enter Tryz.func129, Tryz.ntmps129
      go_wp2_with fail
      refine (counted_c _ _ rfl).mono ?_
      rintro e w' ⟨rfl, rfl⟩
      go_wp2
      have hy := HY.out
      clear HY
      generalize x + 18 * (x / 17982) + (2 + 2 * ((x % 17982 - 1800) / 1798)) = y at *
      obtain ⟨q1, q2, q3, q4⟩ := code_eqs (s := y / 30) (by omega) (by omega)
      have q5 : y.tmod 30 = y % 30 := Int.tmod_eq_emod_of_nonneg hy.1
      generalize y / 30 = s at *
      generalize y % 30 = n at *
      clear h0 h2 hy hc
      have hz : ∀ n, (twoS n).size = 2 := fun _ => rfl
      refine wp_region_quiet_below (by kernel_rfl) (by kernel_rfl) ?_
      repeat (first | go_big_quiet_step ((go_at_call 166; exact Calls.regrown_of (two_any _ _))) | quiet_step ((go_at_call 166; exact Calls.regrown_of (two_any _ _))))
      refine wpQuiet_nil ?_
      intro wq hwq
      have hbq := below_of_regrown hwq
      clear hwq
      go_wp2
      go_ret
      exact ⟨by rw [HE.out]; rfl, hbq⟩
    ·
      have HE := Lib.hid (show codeS 4 x = fmtS 4 ((x + 18 * (x / 17982)) / 30) ((x + 18 * (x / 17982)) % 30) by unfold codeS; rw [show adjN 4 x = x + 18 * (x / 17982) by unfold adjN; rw [if_pos rfl]; rw [if_neg hc]; omega]; rfl)
      have HY := Lib.hid (show 0 ≤ x + 18 * (x / 17982) ∧ x + 18 * (x / 17982) ≤ 2700000 by omega)
      go_enter Tryz.func129, Tryz.ntmps129
      go_wp2_with fail
      refine (counted_c _ _ rfl).mono ?_
      rintro e w' ⟨rfl, rfl⟩
      go_wp2
      have hy := HY.out
      clear HY
      generalize x + 18 * (x / 17982) = y at *
      obtain ⟨q1, q2, q3, q4⟩ := code_eqs (s := y / 30) (by omega) (by omega)
      have q5 : y.tmod 30 = y % 30 := Int.tmod_eq_emod_of_nonneg hy.1
      generalize y / 30 = s at *
      generalize y % 30 = n at *
      clear h0 h2 hy hc
      have hz : ∀ n, (twoS n).size = 2 := fun _ => rfl
      refine wp_region_quiet_below (by kernel_rfl) (by kernel_rfl) ?_
      repeat (first | go_big_quiet_step ((go_at_call 166; exact Calls.regrown_of (two_any _ _))) | quiet_step ((go_at_call 166; exact Calls.regrown_of (two_any _ _))))
      refine wpQuiet_nil ?_
      intro wq hwq
      have hbq := below_of_regrown hwq
      clear hwq
      go_wp2
      go_ret
      exact ⟨by rw [HE.out]; rfl, hbq⟩

def codeE (r x : Int) : Int := if isRateB r = false then 4 else if x < 0 ∨ framesN r ≤ x then 1 else 0
def codeA (r x : Int) : ByteArray := if codeE r x = 0 then codeS r x else ⟨#[]⟩
set_option maxHeartbeats 400000 in
theorem Code_c (r x : Int) (w : World) : Calls Tryz.prog 57 #[.int .i64 r, .int .i64 x] w fun e w' => e = .returned (.tuple #[.string (codeA r x), .int .i64 (codeE r x)]) ∧ Below w.heap.size w w' := by
  cases hr : isRateB r with
  | false =>
    have E1 := Lib.hid (show codeE r x = 4 from if_pos hr)
    have E2 := Lib.hid (show codeA r x = ⟨#[]⟩ by unfold codeA; rw [E1.out]; rfl)
    go_enter Tryz.func57, Tryz.ntmps57
    go_wp2_with fail
    refine (isRate_c _ _).mono ?_
    rintro e w' ⟨rfl, rfl⟩
    go_wp2
    go_ret2
    exact ⟨by rw [E1.out, E2.out]; rfl, Below.refl _ _⟩
  | true =>
    have HR := Lib.hid hr
    by_cases h0 : x < 0
    · have E1 := Lib.hid (show codeE r x = 1 by unfold codeE; rw [if_neg (by rw [hr]; simp), if_pos (.inl h0)])
      have E2 := Lib.hid (show codeA r x = ⟨#[]⟩ by unfold codeA; rw [E1.out]; rfl)
      go_enter Tryz.func57, Tryz.ntmps57
      go_wp2_with fail
      refine (isRate_c _ _).mono ?_
      rintro e w' ⟨rfl, rfl⟩
      go_wp2
      go_ret2
      exact ⟨by rw [E1.out, E2.out]; rfl, Below.refl _ _⟩
    · by_cases h1 : framesN r ≤ x
      · have E1 := Lib.hid (show codeE r x = 1 by unfold codeE; rw [if_neg (by rw [hr]; simp), if_pos (.inr h1)])
        have E2 := Lib.hid (show codeA r x = ⟨#[]⟩ by unfold codeA; rw [E1.out]; rfl)
        go_enter Tryz.func57, Tryz.ntmps57
        go_wp2_with fail
        refine (isRate_c _ _).mono ?_
        rintro e w' ⟨rfl, rfl⟩
        go_wp2_with fail
        refine (frames_c _ _ HR.out).mono ?_
        rintro e w' ⟨rfl, rfl⟩
        go_wp2
        go_ret2
        exact ⟨by rw [E1.out, E2.out]; rfl, Below.refl _ _⟩
      · have E1 := Lib.hid (show codeE r x = 0 by unfold codeE; rw [if_neg (by rw [hr]; simp), if_neg (by omega)])
        have E2 := Lib.hid (show codeA r x = codeS r x by unfold codeA; rw [E1.out]; rfl)
        go_enter Tryz.func57, Tryz.ntmps57
        go_wp2_with fail
        refine (isRate_c _ _).mono ?_
        rintro e w' ⟨rfl, rfl⟩
        go_wp2_with fail
        refine (frames_c _ _ HR.out).mono ?_
        rintro e w' ⟨rfl, rfl⟩
        go_wp2_with fail
        refine (code_c _ _ _ HR.out (by omega) (by omega)).mono ?_
        rintro e w' ⟨rfl, hb⟩
        go_wp2
        go_ret2
        exact ⟨by rw [E1.out, E2.out]; rfl, hb⟩
end Go.Proofs.YtodlfdfkhdfblaaGreatDoor

