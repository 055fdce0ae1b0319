/- Texts packed: EvW, RefB, CodeR, GenD, TtA, TpA. -/
import Derived.Test.YtmefjkfjpgblcaaGreatDoorRows
import Derived.Test.YtmefjkfjpgblcaaGreatDoorSc01
import Derived.Test.YtmefjkfjpgblcaaGreatDoorSc07
import Derived.Test.YtmefjkfjpgblcaaGreatDoorSc02
import Derived.Test.YtmefjkfjpgblcaaGreatDoorSc05
import Derived.RegionTactic
/- The program's error of events, walked. -/
namespace Go.Proofs.YtmefjkfjpgblcaaGreatDoor
set_option linter.unusedVariables false
open Go.RowKit

set_option maxHeartbeats 800000 in
theorem within_c (nm : ByteArray) (rate start long drift a b : Int) (w : World) (h1 : -10000000 ≤ start) (h2 : start ≤ 10000000) (h3 : -10000000 ≤ long) (h4 : long ≤ 10000000) :
    Calls Tryz.prog 95 #[.agg #[.string nm, .int .i64 rate, .int .i64 start, .int .i64 long, .int .i64 drift], .int .i64 a, .int .i64 b] w fun e w' => e = .returned (.bool (withinB ⟨nm, rate, start, long, drift⟩ a b)) ∧ Below w.heap.size w w' := by
  by_cases ha : start ≤ a
  · by_cases hb : a < b
    all_goals
      go_enter Tryz.func95, Tryz.ntmps95
      go_wp2
      go_ret
      exact ⟨ret_bool (by first | (simp [withinB, ha, hb]; done) | (simp [withinB]; intros; omega)), (Below.refl _ _).alloc (Nat.le_refl _) _⟩
  · go_enter Tryz.func95, Tryz.ntmps95
    go_wp2
    go_ret
    exact ⟨ret_bool (by simp [withinB]; intros; omega), (Below.refl _ _).alloc (Nat.le_refl _) _⟩
set_option maxHeartbeats 800000 in
theorem holds_c (nm : ByteArray) (rate start long drift a b : Int) (w : World) (h1 : -10000000 ≤ start) (h2 : start ≤ 10000000) (h3 : -10000000 ≤ long) (h4 : long ≤ 10000000) :
    Calls Tryz.prog 179 #[.agg #[.string nm, .int .i64 rate, .int .i64 start, .int .i64 long, .int .i64 drift], .int .i64 a, .int .i64 b] w fun e w' => e = .returned (.bool (withinB ⟨nm, rate, start, long, drift⟩ a b)) ∧ Below w.heap.size w w' := by
  by_cases ha : start ≤ a
  · by_cases hb : a < b
    all_goals
      go_enter Tryz.func179, Tryz.ntmps179
      go_wp2
      go_ret
      exact ⟨ret_bool (by first | (simp [withinB, ha, hb]; done) | (simp [withinB]; intros; omega)), (Below.refl _ _).alloc (Nat.le_refl _) _⟩
  · go_enter Tryz.func179, Tryz.ntmps179
    go_wp2
    go_ret
    exact ⟨ret_bool (by simp [withinB]; intros; omega), (Below.refl _ _).alloc (Nat.le_refl _) _⟩

theorem rate_bd {l : List Roll} {s : ByteArray} (h0 : rollsFault l = 0) (hh : rollHas l s = true) : isRateB (rollGet l s).rate = true ∧ 0 ≤ (rollGet l s).start ∧ (rollGet l s).start ≤ 2592000 ∧ 0 ≤ (rollGet l s).long ∧ (rollGet l s).long ≤ 2592000 := by
  have hm := rollsFault_ok l h0 _ (rollGet_mem hh)
  have hbad := hm.2.1
  have hf := frames_bd hm.1
  simp only [rollBadB, decide_eq_false_iff_not] at hbad
  exact ⟨hm.1, by omega, by omega, by omega, by omega⟩
end Go.Proofs.YtmefjkfjpgblcaaGreatDoor

/- The reference's functions on rolls and rates. -/
namespace Go.Proofs.YtmefjkfjpgblcaaGreatDoor
set_option linter.unusedVariables false
open Go.RowKit

theorem capDig_eq (s : ByteArray) : allB (([65, 66, 67, 68, 69, 70, 71, 72, 73, 74, 75, 76, 77, 78, 79, 80, 81, 82, 83, 84, 85, 86, 87, 88, 89, 90, 48, 49, 50, 51, 52, 53, 54, 55, 56, 57] : List UInt8).contains ·) s = allB capDig s := allB_congr (by decide +kernel) s

set_option maxHeartbeats 400000 in
theorem rollName_c (s : ByteArray) (w : World) (hs : s.size ≤ 140737488355328) : Calls Tryz.prog 87 #[.string s] w fun e w' => e = .returned (.bool (rollNameB s)) ∧ Below w.heap.size w w' := by
  cases h : (decide ((1 : Int) ≤ s.size) && decide ((s.size : Int) ≤ 8)) with
  | true =>
    have H := Lib.hid h
    have HN := Lib.hid (show rollNameB s = allB capDig s by simp at h; simp [rollNameB]; omega)
    clear h
    go_enter Tryz.func87, Tryz.ntmps87
    go_wp2_with fail
    refine (long_c s 1 8 _ hs).mono ?_
    rintro e w' ⟨rfl, rfl⟩
    rw [H.out]
    go_wp2_with fail
    refine (made_c s _ _ hs (by decide) (by decide)).mono ?_
    rintro e w' ⟨rfl, hb⟩
    rw [capDig_eq]
    go_wp2
    go_ret
    exact ⟨ret_bool (by rw [HN.out]), hb⟩
  | false =>
    have H := Lib.hid h
    have HN := Lib.hid (show rollNameB s = false by simp at h; simp [rollNameB]; omega)
    clear h
    go_enter Tryz.func87, Tryz.ntmps87
    go_wp2_with fail
    refine (long_c s 1 8 _ hs).mono ?_
    rintro e w' ⟨rfl, rfl⟩
    rw [H.out]
    go_wp2
    go_ret
    exact ⟨ret_bool (by rw [HN.out]), Below.refl _ _⟩

theorem results_tmp5 {fn : Func} {t u v x y : Tmp} (h : fn.results = #[.tmp t, .tmp u, .tmp v, .tmp x, .tmp y]) (tmps : Array Value) (P : Program) (w : World) :
    (results fn tmps).run P w = .ok (.tuple #[tmps.getD t undef, tmps.getD u undef, tmps.getD v undef, tmps.getD x undef, tmps.getD y undef]) w := by simp [results, h]

set_option maxHeartbeats 400000 in
theorem rateOf_c (r : Int) (w : World) : Calls Tryz.prog 86 #[.int .i64 r] w fun e w' => e = .returned (.tuple #[.int .i64 (countedN r), .int .i64 (framesN r), .int .i64 (numN r), .int .i64 (denN r), .bool (isRateB r)]) ∧ w = w' := by
  cases h : isRateB r with
  | true =>
    rcases rate_cases h with rfl | rfl | rfl | rfl
    all_goals
      clear h
      go_enter Tryz.func86, Tryz.ntmps86
      go_wp2
      refine bodyPost_ret (results_tmp5 rfl _ _ _) rfl ?_
      exact ⟨rfl, rfl⟩
  | false =>
    have h1 : r ≠ 1 := by rintro rfl; cases h
    have h2 : r ≠ 2 := by rintro rfl; cases h
    have h3 : r ≠ 3 := by rintro rfl; cases h
    have h4 : r ≠ 4 := by rintro rfl; cases h
    have e1 := Lib.hid (show countedN r = 0 by simp [countedN, h1, h2, h3, h4])
    have e2 := Lib.hid (show framesN r = 0 by simp [framesN, h1, h2, h3, h4])
    have e3 := Lib.hid (show numN r = 0 by simp [numN, h1, h2, h3, h4])
    have e4 := Lib.hid (show denN r = 0 by simp [denN, h1, h2, h3, h4])
    clear h
    go_enter Tryz.func86, Tryz.ntmps86
    go_wp2
    refine bodyPost_ret (results_tmp5 rfl _ _ _) rfl ?_
    exact ⟨by rw [e1.out, e2.out, e3.out, e4.out]; rfl, rfl⟩

def rightB (r x : Int) : Bool := isRateB r && decide (0 ≤ x) && decide (x < framesN r)
set_option maxHeartbeats 400000 in
theorem RightFrame_c (r x : Int) (w : World) : Calls Tryz.prog 90 #[.int .i64 r, .int .i64 x] w fun e w' => e = .returned (.bool (rightB r x)) ∧ w = w' := by
  cases h : isRateB r with
  | true =>
    by_cases h0 : 0 ≤ x
    all_goals
      go_enter Tryz.func90, Tryz.ntmps90
      go_wp2_with fail
      refine (rateOf_c r _).mono ?_
      rintro e w' ⟨rfl, rfl⟩
      go_wp2
      go_ret
      exact ⟨ret_bool (by first | (simp [rightB, h, h0]; done) | (simp [rightB, h]; omega)), rfl⟩
  | false =>
    go_enter Tryz.func90, Tryz.ntmps90
    go_wp2_with fail
    refine (rateOf_c r _).mono ?_
    rintro e w' ⟨rfl, rfl⟩
    go_wp2
    go_ret
    exact ⟨ret_bool (by simp [rightB, h]), rfl⟩

end Go.Proofs.YtmefjkfjpgblcaaGreatDoor

/- The reference's codes. -/
namespace Go.Proofs.YtmefjkfjpgblcaaGreatDoor
set_option linter.unusedVariables false
open Go.RowKit Go.Sort

end Go.Proofs.YtmefjkfjpgblcaaGreatDoor

/- The generator's codes. -/
namespace Go.Proofs.YtmefjkfjpgblcaaGreatDoor
set_option linter.unusedVariables false
open Go.RowKit Go.Sort

end Go.Proofs.YtmefjkfjpgblcaaGreatDoor

/- The program's error of a take that is written. -/
namespace Go.Proofs.YtmefjkfjpgblcaaGreatDoor
set_option linter.unusedVariables false
open Go.RowKit Go.Sort

theorem covAt {w : World} {F : Nat → Prop} {l : List Cov} {A : Option Addr} {n c : Nat} (h : Sli covR w F l (.slice A n c)) (k : Nat) (hk : k < l.length) : ∃ b off, A = some ⟨b, off, none⟩ ∧ F b ∧ w.cell? ⟨b, off + k * 4, none⟩ = some (.int .i64 l[k].para) ∧ w.cell? ⟨b, off + k * 4 + 1, none⟩ = some (.int .i64 l[k].tin) ∧ w.cell? ⟨b, off + k * 4 + 2, none⟩ = some (.int .i64 l[k].tout) ∧ w.cell? ⟨b, off + k * 4 + 3, none⟩ = some (.bool l[k].on) := by
  obtain ⟨b, off, a, e, hb, hr, hc⟩ := h.at_ k hk
  have ha : a = (l[k]).cells := hr
  subst ha
  exact ⟨b, off, e, hb, hc 0 _ rfl, hc 1 _ rfl, hc 2 _ rfl, hc 3 _ rfl⟩
end Go.Proofs.YtmefjkfjpgblcaaGreatDoor

/- The program's error of takes that are written. -/
namespace Go.Proofs.YtmefjkfjpgblcaaGreatDoor
set_option linter.unusedVariables false
open Go.RowKit Go.Sort

/-- Takes in memory. -/
structure TkW (w : World) (F : Nat → Prop) (tl : List (Tk × Value)) (v : Value) : Prop where
  sli : Sli tvR w F tl v
  cov : ∀ x ∈ tl, Sli covR w F x.1.covers x.2
  lt : ∀ b, F b → b < w.heap.size
  len : tl.length ≤ 1000000
  bd : ∀ x ∈ tl, x.1.scene.size ≤ 1000000 ∧ x.1.setup.size ≤ 1000000 ∧ x.1.roll.size ≤ 1000000 ∧ x.1.sound.size ≤ 1000000 ∧ x.1.covers.length ≤ 300000
theorem TkW.below {w w' : World} {F : Nat → Prop} {tl : List (Tk × Value)} {v : Value} (h : TkW w F tl v) (hb : Below w.heap.size w w') : TkW w' F tl v :=
  ⟨h.sli.below hb h.lt, fun y hy => (h.cov y hy).below hb h.lt, fun b hF => Nat.lt_of_lt_of_le (h.lt b hF) hb.size, h.len, h.bd⟩
end Go.Proofs.YtmefjkfjpgblcaaGreatDoor

