/- Texts packed: EvW, RefB, CodeR, GenD, TtA, TpA, TpB. -/
import Derived.Test.YtihkkaeoijheoaaGreatDoorRows
import Derived.Test.YtihkkaeoijheoaaGreatDoorTt02
import Derived.Test.YtihkkaeoijheoaaGreatDoorTt09
import Derived.Test.YtihkkaeoijheoaaGreatDoorTt03
import Derived.Test.YtihkkaeoijheoaaGreatDoorTt01
import Derived.Test.YtihkkaeoijheoaaGreatDoorTt07
import Derived.RegionTactic
import Derived.Deep.DeepCutAuto
/- The program's error of events, walked. -/
namespace Go.Proofs.YtihkkaeoijheoaaGreatDoor
set_option linter.unusedVariables false
open Go.RowKit

theorem evAt {w : World} {F : Nat → Prop} {l : List Ev} {A : Option Addr} {n c : Nat} (h : Sli evR w F l (.slice A n c)) (k : Nat) (hk : k < l.length) : ∃ b off, A = some ⟨b, off, none⟩ ∧ F b ∧ w.cell? ⟨b, off + k * 3, none⟩ = some (.string l[k].roll) ∧ w.cell? ⟨b, off + k * 3 + 1, none⟩ = some (.int .i64 l[k].tin) ∧ w.cell? ⟨b, off + k * 3 + 2, none⟩ = some (.int .i64 l[k].tout) := by
  obtain ⟨b, off, a, e, hb, hr, hc⟩ := h.at_ k hk
  have ha : a = (l[k]).cells := hr
  subst ha
  exact ⟨b, off, e, hb, hc 0 _ rfl, hc 1 _ rfl, hc 2 _ rfl⟩

/-- The rate that a walk over events knows after k of them. -/
def rateK (rolls : List Roll) (l : List Ev) (k : Nat) : Int := if k = 0 then 0 else evRate rolls l
theorem rate_bd {l : List Roll} {s : ByteArray} (h0 : rollsFault l = 0) (hh : rollHas l s = true) : isRateB (rollGet l s).rate = true ∧ 0 ≤ (rollGet l s).start ∧ (rollGet l s).start ≤ 2592000 ∧ 0 ≤ (rollGet l s).long ∧ (rollGet l s).long ≤ 2592000 := by
  have hm := rollsFault_ok l h0 _ (rollGet_mem hh)
  have hbad := hm.2.1
  have hf := frames_bd hm.1
  simp only [rollBadB, decide_eq_false_iff_not] at hbad
  exact ⟨hm.1, by omega, by omega, by omega, by omega⟩
theorem evF_no {l : List Roll} {q : Int} {x : Ev} (h : rollHas l x.roll = false) : evF l q x = 8 := if_pos h
theorem evF_rate {l : List Roll} {q : Int} {x : Ev} (h : rollHas l x.roll = true) (h2 : ¬ (rollGet l x.roll).rate = q) : evF l q x = 4 := by unfold evF; rw [if_neg (by rw [h]; decide), if_pos h2]
theorem evF_in {l : List Roll} {q : Int} {x : Ev} (h : rollHas l x.roll = true) (h2 : (rollGet l x.roll).rate = q) : evF l q x = if withinB (rollGet l x.roll) x.tin x.tout = false then 1 else 0 := by unfold evF; rw [if_neg (by rw [h]; decide), if_neg (by omega)]
theorem evErr_at {l : List Roll} {es : List Ev} {k : Nat} {q : Int} (g1 : ¬ 999 < es.length) (h : ∀ x ∈ es.take k, evF l (evRate l es) x = 0) (hk : k < es.length) (hf : evF l (evRate l es) es[k] = q) (h0 : ¬ q = 0) : evErr l es = q := by
  unfold evErr
  have h1 := firstE_at h hk (by rw [hf]; exact h0)
  rw [if_neg g1, if_pos (by rw [h1, hf]; exact h0), h1, hf]
theorem evErr_end {l : List Roll} {es : List Ev} (g1 : ¬ 999 < es.length) (h : ∀ x ∈ es, evF l (evRate l es) x = 0) : evErr l es = if framesN (evRate l es) < evSum es then 2 else 0 := by
  unfold evErr
  have h1 := firstE_all h
  rw [if_neg g1, if_neg (by rw [h1]; simp)]

end Go.Proofs.YtihkkaeoijheoaaGreatDoor

/- The reference's functions on rolls and rates. -/
namespace Go.Proofs.YtihkkaeoijheoaaGreatDoor
set_option linter.unusedVariables false
open Go.RowKit

theorem capDig_eq (s : ByteArray) : allB (([65, 66, 67, 68, 69, 70, 71, 72, 73, 74, 75, 76, 77, 78, 79, 80, 81, 82, 83, 84, 85, 86, 87, 88, 89, 90, 48, 49, 50, 51, 52, 53, 54, 55, 56, 57] : List UInt8).contains ·) s = allB capDig s := allB_congr (by decide +kernel) s

set_option maxHeartbeats 400000 in
theorem rollName_c (s : ByteArray) (w : World) (hs : s.size ≤ 140737488355328) : Calls Tryz.prog 100 #[.string s] w fun e w' => e = .returned (.bool (rollNameB s)) ∧ Below w.heap.size w w' := by
  cases h : (decide ((1 : Int) ≤ s.size) && decide ((s.size : Int) ≤ 8)) with
  | true =>
    have H := Lib.hid h
    have HN := Lib.hid (show rollNameB s = allB capDig s by simp at h; simp [rollNameB]; omega)
    clear h
    go_enter Tryz.func100, Tryz.ntmps100
    go_wp2_with fail
    refine (long_c s 1 8 _ hs).mono ?_
    rintro e w' ⟨rfl, rfl⟩
    rw [H.out]
    go_wp2_with fail
    refine (made_c s _ _ hs (by decide) (by decide)).mono ?_
    rintro e w' ⟨rfl, hb⟩
    rw [capDig_eq]
    go_wp2
    go_ret
    exact ⟨ret_bool (by rw [HN.out]), hb⟩
  | false =>
    have H := Lib.hid h
    have HN := Lib.hid (show rollNameB s = false by simp at h; simp [rollNameB]; omega)
    clear h
    go_enter Tryz.func100, Tryz.ntmps100
    go_wp2_with fail
    refine (long_c s 1 8 _ hs).mono ?_
    rintro e w' ⟨rfl, rfl⟩
    rw [H.out]
    go_wp2
    go_ret
    exact ⟨ret_bool (by rw [HN.out]), Below.refl _ _⟩

/-- The numbers of a rate, as the reference has them. -/
def rateV (r : Int) : Value := .tuple #[.int .i64 (countedN r), .int .i64 (framesN r), .int .i64 (numN r), .int .i64 (denN r), .bool (isRateB r)]

theorem results_tmp5 {fn : Func} {t u v x y : Tmp} (h : fn.results = #[.tmp t, .tmp u, .tmp v, .tmp x, .tmp y]) (tmps : Array Value) (P : Program) (w : World) :
    (results fn tmps).run P w = .ok (.tuple #[tmps.getD t undef, tmps.getD u undef, tmps.getD v undef, tmps.getD x undef, tmps.getD y undef]) w := by simp [results, h]

set_option maxHeartbeats 400000 in
theorem rateOf_c (r : Int) (w : World) : Calls Tryz.prog 224 #[.int .i64 r] w fun e w' => e = .returned (.tuple #[.int .i64 (countedN r), .int .i64 (framesN r), .int .i64 (numN r), .int .i64 (denN r), .bool (isRateB r)]) ∧ w = w' := by
  cases h : isRateB r with
  | true =>
    rcases rate_cases h with rfl | rfl | rfl | rfl
    all_goals
      clear h
      go_enter Tryz.func224, Tryz.ntmps224
      go_wp2
      refine bodyPost_ret (results_tmp5 rfl _ _ _) rfl ?_
      exact ⟨rfl, rfl⟩
  | false =>
    have h1 : r ≠ 1 := by rintro rfl; cases h
    have h2 : r ≠ 2 := by rintro rfl; cases h
    have h3 : r ≠ 3 := by rintro rfl; cases h
    have h4 : r ≠ 4 := by rintro rfl; cases h
    have e1 := Lib.hid (show countedN r = 0 by simp [countedN, h1, h2, h3, h4])
    have e2 := Lib.hid (show framesN r = 0 by simp [framesN, h1, h2, h3, h4])
    have e3 := Lib.hid (show numN r = 0 by simp [numN, h1, h2, h3, h4])
    have e4 := Lib.hid (show denN r = 0 by simp [denN, h1, h2, h3, h4])
    clear h
    go_enter Tryz.func224, Tryz.ntmps224
    go_wp2
    refine bodyPost_ret (results_tmp5 rfl _ _ _) rfl ?_
    exact ⟨by rw [e1.out, e2.out, e3.out, e4.out]; rfl, rfl⟩

def rightB (r x : Int) : Bool := isRateB r && decide (0 ≤ x) && decide (x < framesN r)
set_option maxHeartbeats 400000 in
theorem RightFrame_c (r x : Int) (w : World) : Calls Tryz.prog 227 #[.int .i64 r, .int .i64 x] w fun e w' => e = .returned (.bool (rightB r x)) ∧ w = w' := by
  cases h : isRateB r with
  | true =>
    by_cases h0 : 0 ≤ x
    all_goals
      go_enter Tryz.func227, Tryz.ntmps227
      go_wp2_with fail
      refine (rateOf_c r _).mono ?_
      rintro e w' ⟨rfl, rfl⟩
      go_wp2
      go_ret
      exact ⟨ret_bool (by first | (simp [rightB, h, h0]; done) | (simp [rightB, h]; omega)), rfl⟩
  | false =>
    go_enter Tryz.func227, Tryz.ntmps227
    go_wp2_with fail
    refine (rateOf_c r _).mono ?_
    rintro e w' ⟨rfl, rfl⟩
    go_wp2
    go_ret
    exact ⟨ret_bool (by simp [rightB, h]), rfl⟩

end Go.Proofs.YtihkkaeoijheoaaGreatDoor

/- The reference's codes. -/
namespace Go.Proofs.YtihkkaeoijheoaaGreatDoor
set_option linter.unusedVariables false
open Go.RowKit Go.Sort

def twoR (n : Int) : ByteArray := ⟨#[UInt8.ofNat ((48 + (wrap64 (n.tdiv 10)).tmod 10) % 256).toNat, UInt8.ofNat ((48 + n.tmod 10) % 256).toNat]⟩
theorem twoR_eq {n : Int} (h0 : 0 ≤ n) (h1 : n < 100) : twoR n = twoS n := by
  rw [twoS_eq h0 h1]
  unfold twoR
  rw [Int.tdiv_eq_ediv_of_nonneg h0, Int.tmod_eq_emod_of_nonneg h0, IntWalk.wrap64_in (n / 10) (by omega), Int.tmod_eq_emod_of_nonneg (by omega : 0 ≤ n / 10)]
  rw [show (48 + n / 10 % 10) % 256 = 48 + n / 10 by omega, show (48 + n % 10) % 256 = 48 + n % 10 by omega]

theorem twoR_len (n : Int) : (twoR n).size = 2 := rfl

/-- The frames before a minute. -/
def minFr (r m : Int) : Int := if r = 4 then 1798 * m + 2 * ((m + 9) / 10) else 60 * countedN r * m
def minLen (r m : Int) : Int := if r = 4 ∧ m % 10 ≠ 0 then 1798 else 60 * countedN r
theorem minFr_step (r m : Int) : minFr r (m + 1) = minFr r m + minLen r m := by
  unfold minFr minLen
  by_cases h : r = 4
  · subst h
    rw [if_pos rfl, if_pos rfl, show countedN 4 = 30 from rfl]
    by_cases h0 : m % 10 = 0
    · rw [if_neg (by simp [h0])]; omega
    · rw [if_pos ⟨rfl, h0⟩]; omega
  · rw [if_neg h, if_neg h, if_neg (fun hh => h hh.1), Int.mul_add]; omega

theorem fmt_eqs (r c m z : Int) (hc : c = 24 ∨ c = 25 ∨ c = 30) (hm : 0 ≤ m) (hm2 : m < 1440) (h0 : 0 ≤ z) (h1 : z < 60 * c) :
    twoS ((60 * c * m + z) / c / 3600) ++ ⟨#[58]⟩ ++ twoS ((60 * c * m + z) / c / 60 % 60) ++ ⟨#[58]⟩ ++ twoS ((60 * c * m + z) / c % 60) ++ colonS r ++ twoS ((60 * c * m + z) % c)
      = twoS (m / 60) ++ ⟨#[58]⟩ ++ twoS (m % 60) ++ ⟨#[58]⟩ ++ twoS (z / c) ++ colonS r ++ twoS (z % c) ∧ m < 1440 ∧ z / c < 60 := by
  have a1 : (60 * c * m + z) / c / 3600 = m / 60 := by rcases hc with rfl | rfl | rfl <;> omega
  have a2 : (60 * c * m + z) / c / 60 % 60 = m % 60 := by rcases hc with rfl | rfl | rfl <;> omega
  have a3 : (60 * c * m + z) / c % 60 = z / c := by rcases hc with rfl | rfl | rfl <;> omega
  have a4 : (60 * c * m + z) % c = z % c := by rcases hc with rfl | rfl | rfl <;> omega
  rw [a1, a2, a3, a4]
  exact ⟨rfl, hm2, by rcases hc with rfl | rfl | rfl <;> omega⟩
theorem drop_eqs {x m y : Int} (hm : 0 ≤ m) (h : m % 10 ≠ 0) (hx : x = 1798 * m + 2 * ((m + 9) / 10) + y) (hy : 0 ≤ y) (hl : y < 1798) :
    1800 ≤ x % 17982 ∧ x + 18 * (x / 17982) + (2 + 2 * ((x % 17982 - 1800) / 1798)) = 60 * 30 * m + (y + 2) := by
  obtain ⟨q, s, h1, h2, h3⟩ : ∃ q s : Int, m = 10 * q + s ∧ 1 ≤ s ∧ s ≤ 9 := ⟨m / 10, m % 10, by omega, by omega, by omega⟩
  have e1 : (m + 9) / 10 = q + 1 := by omega
  rw [e1] at hx
  have e2 : x / 17982 = q := by omega
  have e3 : x % 17982 = 1798 * s + 2 + y := by omega
  have e4 : (x % 17982 - 1800) / 1798 = s - 1 := by omega
  rw [e2, e4, e3]
  omega
/-- The code, counted by minutes, is that of the program. -/
theorem codeS_min {r x m y : Int} (hr : isRateB r = true) (h0 : 0 ≤ x) (h1 : x < framesN r) (hm : 0 ≤ m) (hx : x = minFr r m + y) (hy : 0 ≤ y) (hl : y < minLen r m) :
    codeS r x = twoS (m / 60) ++ ⟨#[58]⟩ ++ twoS (m % 60) ++ ⟨#[58]⟩ ++ twoS ((y + (60 * countedN r - minLen r m)) / countedN r) ++ colonS r ++ twoS ((y + (60 * countedN r - minLen r m)) % countedN r)
    ∧ m < 1440 ∧ (y + (60 * countedN r - minLen r m)) / countedN r < 60 := by
  have key : ∀ z, adjN r x = 60 * countedN r * m + z → 0 ≤ z → z < 60 * countedN r → z = y + (60 * countedN r - minLen r m) → m < 1440 →
      codeS r x = twoS (m / 60) ++ ⟨#[58]⟩ ++ twoS (m % 60) ++ ⟨#[58]⟩ ++ twoS (z / countedN r) ++ colonS r ++ twoS (z % countedN r) ∧ m < 1440 ∧ z / countedN r < 60 := by
    intro z hz hz0 hz1 _ hm2
    unfold codeS fmtS
    rw [hz]
    rcases rate_cases hr with rfl | rfl | rfl | rfl
    · exact fmt_eqs 1 24 m z (.inl rfl) hm hm2 hz0 hz1
    · exact fmt_eqs 2 25 m z (.inr (.inl rfl)) hm hm2 hz0 hz1
    · exact fmt_eqs 3 30 m z (.inr (.inr rfl)) hm hm2 hz0 hz1
    · exact fmt_eqs 4 30 m z (.inr (.inr rfl)) hm hm2 hz0 hz1
  unfold minFr minLen at *
  rcases rate_cases hr with rfl | rfl | rfl | rfl
  · simp only [show countedN 1 = 24 from rfl, show framesN 1 = 2073600 from rfl] at *
    simp at hx hl ⊢
    have := key y (by show x = _; omega) (by omega) (by omega) (by simp) (by omega)
    simpa using this
  · simp only [show countedN 2 = 25 from rfl, show framesN 2 = 2160000 from rfl] at *
    simp at hx hl ⊢
    have := key y (by show x = _; omega) (by omega) (by omega) (by simp) (by omega)
    simpa using this
  · simp only [show countedN 3 = 30 from rfl, show framesN 3 = 2592000 from rfl] at *
    simp at hx hl ⊢
    have := key y (by show x = _; omega) (by omega) (by omega) (by simp) (by omega)
    simpa using this
  · simp only [show countedN 4 = 30 from rfl, show framesN 4 = 2589408 from rfl] at *
    have ha : adjN 4 x = x + 18 * (x / 17982) + (if 1800 ≤ x % 17982 then 2 + 2 * ((x % 17982 - 1800) / 1798) else 0) := by unfold adjN; rw [if_pos rfl]
    by_cases h10 : m % 10 = 0
    · simp [h10] at hx hl ⊢
      have := key y (by rw [ha, if_neg (by omega)]; omega) (by omega) (by omega) (by simp [h10]) (by omega)
      simpa [h10] using this
    · simp [h10] at hx hl ⊢
      have := key (y + 2) (by rw [ha, if_pos (drop_eqs hm h10 hx hy hl).1]; exact (drop_eqs hm h10 hx hy hl).2) (by omega) (by omega) (by simp [h10]) (by omega)
      simpa [h10] using this

theorem codeR_min {r x m y z : Int} (hr : isRateB r = true) (h0 : 0 ≤ x) (h1 : x < framesN r) (hm : 0 ≤ m) (hx : x = minFr r m + y) (hy : 0 ≤ y) (hl : y < minLen r m) (hz : z = y + (60 * countedN r - minLen r m)) :
    codeS r x = twoR (m / 60) ++ ⟨#[58]⟩ ++ twoR (m % 60) ++ ⟨#[58]⟩ ++ twoR (z / countedN r) ++ colonS r ++ twoR (z % countedN r) ∧ m < 1440 ∧ 0 ≤ z ∧ z < 60 * countedN r := by
  obtain ⟨a, b, c⟩ := codeS_min hr h0 h1 hm hx hy hl
  subst hz
  have hc : countedN r = 24 ∨ countedN r = 25 ∨ countedN r = 30 := by rcases rate_cases hr with rfl | rfl | rfl | rfl <;> decide
  have hll : minLen r m ≤ 60 * countedN r := by
    unfold minLen
    split
    · rename_i h; rw [h.1, show countedN 4 = 30 from rfl]; omega
    · omega
  have hz0 : 0 ≤ y + (60 * countedN r - minLen r m) := by omega
  generalize y + (60 * countedN r - minLen r m) = z at *
  generalize minLen r m = q at *
  refine ⟨?_, b, hz0, by rcases hc with h | h | h <;> rw [h] at c ⊢ <;> omega⟩
  rw [twoR_eq (by omega) (by omega), twoR_eq (by omega) (by omega)]
  rw [twoR_eq (by rcases hc with h | h | h <;> rw [h] <;> omega) (by rcases hc with h | h | h <;> rw [h] at c ⊢ <;> omega), twoR_eq (by rcases hc with h | h | h <;> rw [h] <;> omega) (by rcases hc with h | h | h <;> rw [h] <;> omega)]
  exact a
theorem minFr_bd (r m : Int) (hm : 0 ≤ m) (hr : isRateB r = true) (hx : minFr r m < framesN r) : m < 1440 := by
  unfold minFr at hx
  rcases rate_cases hr with rfl | rfl | rfl | rfl
  all_goals simp only [show countedN 1 = 24 from rfl, show countedN 2 = 25 from rfl, show countedN 3 = 30 from rfl, show framesN 1 = 2073600 from rfl, show framesN 2 = 2160000 from rfl, show framesN 3 = 2592000 from rfl, show framesN 4 = 2589408 from rfl] at hx; simp at hx; omega
end Go.Proofs.YtihkkaeoijheoaaGreatDoor

/- The generator's codes. -/
namespace Go.Proofs.YtihkkaeoijheoaaGreatDoor
set_option linter.unusedVariables false
open Go.RowKit Go.Sort

theorem codeS_len (r x : Int) : (codeS r x).size = 11 := by
  have h : ∀ n, (twoS n).size = 2 := fun _ => rfl
  have h1 : (⟨#[58]⟩ : ByteArray).size = 1 := rfl
  have h2 : (colonS r).size = 1 := by unfold colonS; split <;> rfl
  unfold codeS fmtS
  simp only [ByteArray.size_append, h, h1, h2]

end Go.Proofs.YtihkkaeoijheoaaGreatDoor

/- The program's error of a take that is written. -/
namespace Go.Proofs.YtihkkaeoijheoaaGreatDoor
set_option linter.unusedVariables false
open Go.RowKit Go.Sort

def TfP (t : Tk) (w : World) (e : Ending) (w' : World) : Prop := e = .returned (.int .i64 (tkFE t)) ∧ Below w.heap.size w w'
theorem TfP.mk {t : Tk} {q : Int} {w w' : World} (h : tkFE t = q) (hb : Below w.heap.size w w') : TfP t w (.returned (.int .i64 q)) w' := ⟨by rw [h], hb⟩
theorem covAt {w : World} {F : Nat → Prop} {l : List Cov} {A : Option Addr} {n c : Nat} (h : Sli covR w F l (.slice A n c)) (k : Nat) (hk : k < l.length) : ∃ b off, A = some ⟨b, off, none⟩ ∧ F b ∧ w.cell? ⟨b, off + k * 4, none⟩ = some (.int .i64 l[k].para) ∧ w.cell? ⟨b, off + k * 4 + 1, none⟩ = some (.int .i64 l[k].tin) ∧ w.cell? ⟨b, off + k * 4 + 2, none⟩ = some (.int .i64 l[k].tout) ∧ w.cell? ⟨b, off + k * 4 + 3, none⟩ = some (.bool l[k].on) := by
  obtain ⟨b, off, a, e, hb, hr, hc⟩ := h.at_ k hk
  have ha : a = (l[k]).cells := hr
  subst ha
  exact ⟨b, off, e, hb, hc 0 _ rfl, hc 1 _ rfl, hc 2 _ rfl, hc 3 _ rfl⟩
theorem Own.less' {w : World} {base lo base' : Nat} {e : TypeId} {l : List Int} {v : Value} (h : Own intR w base lo e l v) (hb : base' ≤ base) : Own intR w base' base' e l v := Own.less (n := 1) (enc := fun x => [.int .i64 x]) (hn := fun _ => rfl) h hb
theorem Own.lit2 (w : World) (e : TypeId) (x y : Int) : Own intR (w.alloc (.cells #[.int .i64 x, .int .i64 y] e)) w.heap.size w.heap.size e [x, y] (.slice (some ⟨w.heap.size, 0, none⟩) 2 2) :=
  ⟨[.int .i64 x, .int .i64 y], ⟨rfl, .inr ⟨w.heap.size, 2, #[.int .i64 x, .int .i64 y], rfl, Nat.le_refl _, heap_alloc_new w _, Nat.le_refl _, by decide, rfl, rfl⟩⟩, rfl, fun k z hk => by
    match k with
    | 0 => simp at hk; subst hk; rfl
    | 1 => simp at hk; subst hk; rfl
    | k + 2 => simp at hk⟩

set_option maxRecDepth 100000 in
set_option maxHeartbeats 4000000 in
theorem takeFaultP_c {F : Nat → Prop} (t : Tk) (v : Value) (w : World) (hv : Sli covR w F t.covers v) (hF : ∀ b, F b → b < w.heap.size) (h1 : t.scene.size ≤ 1000000) (h2 : t.setup.size ≤ 1000000) (h3 : t.roll.size ≤ 1000000) (h4 : t.sound.size ≤ 1000000) (hl : t.covers.length ≤ 300000) :
    Calls Tryz.prog 173 #[.agg (t.cells v).toArray] w (TfP t w) := by
  obtain ⟨A, c, rfl, hlc, hcm⟩ := hv.form
  obtain ⟨L, hL⟩ : ∃ L, t.covers.length = L := ⟨_, rfl⟩
  have HL := Lib.hid hL
  rw [hL] at hv hlc hl ⊢
  have HV := Lib.hid hv
  have HF := Lib.hid hF
  rw [show (t.cells (.slice A L c)).toArray = #[.string t.scene, .string t.setup, .int .i64 t.number, .string t.roll, .string t.sound, .int .i64 t.tin, .int .i64 t.tout, .bool t.good, .slice A L c] from rfl]
  have HB := Lib.hid ((Below.refl w.heap.size w).alloc (Nat.le_refl _) (.cells #[.string t.scene, .string t.setup, .int .i64 t.number, .string t.roll, .string t.sound, .int .i64 t.tin, .int .i64 t.tout, .bool t.good, .slice A L c] 125))
  have HSL := Lib.hid (Slate_c t.scene t.setup t.number (w.alloc (.cells #[.string t.scene, .string t.setup, .int .i64 t.number, .string t.roll, .string t.sound, .int .i64 t.tin, .int .i64 t.tout, .bool t.good, .slice A L c] 125)) (by omega) (by omega))
  have HR1 := Lib.hid (isRoll_c t.roll (w.alloc (.cells #[.string t.scene, .string t.setup, .int .i64 t.number, .string t.roll, .string t.sound, .int .i64 t.tin, .int .i64 t.tout, .bool t.good, .slice A L c] 125)) (by omega))
  have HR2 := Lib.hid (isRoll_c t.sound (w.alloc (.cells #[.string t.scene, .string t.setup, .int .i64 t.number, .string t.roll, .string t.sound, .int .i64 t.tin, .int .i64 t.tout, .bool t.good, .slice A L c] 125)) (by omega))
  obtain ⟨i0, hi0, hz0, hz1, hz2⟩ := info_parts (show (Tryz.prog.info? 3).map (fun i => (i.zero, i.size, i.bytes)) = some (some (.int .i64 0), 1, 8) by kernel_rfl)
  clear hL hv hF
  by_cases hs0 : slateE t.scene t.setup t.number = 0
  case neg =>
    have HR := Lib.hid (show tkFE t = slateE t.scene t.setup t.number from if_pos hs0)
    have hne : (slateE t.scene t.setup t.number != 0) = true := by rw [bne_iff_ne]; exact hs0
    generalize slateE t.scene t.setup t.number = se at *
    clear hs0
    go_enter Tryz.func173, Tryz.ntmps173
    go_wp2_with fail
    with_reducible refine HSL.out.mono ?_
    rintro e w2 ⟨rfl, rfl⟩
    go_wp2
    go_ret
    exact TfP.mk HR.out HB.out
  have HST := Lib.hid (show tkFE t = if rollNameB t.roll = false ∨ (¬ t.sound = ⟨#[]⟩ ∧ rollNameB t.sound = false) then 5 else if (numsT t).any badN = true then 1 else 0 from if_neg (fun h => h hs0))
  cases hr1 : rollNameB t.roll with
  | false =>
    have HR := Lib.hid (HST.out.trans (if_pos (.inl hr1)))
    go_enter Tryz.func173, Tryz.ntmps173
    go_wp2_with fail
    with_reducible refine HSL.out.mono ?_
    rintro e w2 ⟨rfl, rfl⟩
    rw [hs0]
    go_wp2_with (first | (go_at_call 228; with_reducible refine HR1.out.mono ?_; rintro e w' ⟨rfl, rfl⟩; rw [hr1]) | fail)
    go_ret
    exact TfP.mk HR.out HB.out
  | true =>
  cases he : t.sound.toList.isEmpty with
  | true =>
    have hno : t.sound = ⟨#[]⟩ := (empty_iff t.sound).1 he
    have HST2 := Lib.hid (HST.out.trans (if_neg (by rintro (h | h); rw [hr1] at h; cases h; exact h.1 hno)))
    clear hno HST
    go_enter Tryz.func173, Tryz.ntmps173
    go_wp2_with fail
    with_reducible refine HSL.out.mono ?_
    rintro e w2 ⟨rfl, rfl⟩
    rw [hs0]
    go_upto_region 6 with (first | (go_at_call 228; with_reducible refine HR1.out.mono ?_; rintro e w' ⟨rfl, rfl⟩; rw [hr1]) | fail)
    generalize hW : w.alloc (.cells #[.string t.scene, .string t.setup, .int .i64 t.number, .string t.roll, .string t.sound, .int .i64 t.tin, .int .i64 t.tout, .bool t.good, .slice A L c] 125) = w1 at *
    have hz1' : w.heap.size < w1.heap.size := by rw [← hW]; simp
    obtain ⟨y, _⟩ := str_cells (show w1.heap[w.heap.size]? = some (.cells #[.string t.scene, .string t.setup, .int .i64 t.number, .string t.roll, .string t.sound, .int .i64 t.tin, .int .i64 t.tout, .bool t.good, .slice A L c] 125 (0, 0)) from by rw [← hW]; exact heap_alloc_new w _)
    have y5 : w1.cell? ⟨w.heap.size, 5, none⟩ = some (.int .i64 t.tin) := y 5
    have y6 : w1.cell? ⟨w.heap.size, 6, none⟩ = some (.int .i64 t.tout) := y 6
    have y8 : w1.cell? ⟨w.heap.size, 8, none⟩ = some (.slice A L c) := y 8
    clear y hW
    go_upto_region 7 with (fail)
    have O2 := Lib.hid ((Own.lit2 w1 3 t.tin t.tout).less' (show w.heap.size ≤ w1.heap.size by omega))
    have B2 := Lib.hid (HB.out.alloc (by omega) (.cells #[.int .i64 t.tin, .int .i64 t.tout] 3))
    have y8' : (w1.alloc (.cells #[.int .i64 t.tin, .int .i64 t.tout] 3)).cell? ⟨w.heap.size, 8, none⟩ = some (.slice A L c) := (World.cell?_alloc_lt w1 _ ⟨w.heap.size, 8, none⟩ hz1').trans y8
    have hz2' : w.heap.size < (w1.alloc (.cells #[.int .i64 t.tin, .int .i64 t.tout] 3)).heap.size := by simp; omega
    generalize w1.alloc (.cells #[.int .i64 t.tin, .int .i64 t.tout] 3) = w2 at *
    clear y5 y6 y8 HB
    go_wp2
    go_loopw [5, 46] (fun v i wr => ∃ k : Nat, k ≤ L ∧ i = .int .i64 k ∧ Hid (Own intR wr w.heap.size w.heap.size 3 ([t.tin, t.tout] ++ (t.covers.take k).flatMap covN) v) ∧ Hid (Below w.heap.size w wr) ∧ w.heap.size < wr.heap.size) (fun _ i _ => L - (intOf i).toNat)
    case atStart => exact ⟨0, Nat.zero_le _, rfl, O2.out, B2.out, hz2'⟩
    case round =>
      clear O2 B2 y8' hz2' hz1'
      obtain ⟨k, hk, rfl, HO, HB, hzw⟩ := hrel
      have hnl : ([t.tin, t.tout] ++ (t.covers.take k).flatMap covN).length ≤ 2 + 3 * k := by rw [List.length_append, covN_len, List.length_take]; simp; omega
      by_cases hlt : k < L
      · have hk2 : k < t.covers.length := by rw [HL.out]; exact hlt
        obtain ⟨b, off, rfl, hfb, c0, c1, c2, c3⟩ := covAt (HV.out.below HB.out HF.out) k hk2
        have hft := flat_take t.covers k hk2
        have hbw : b < wr.heap.size := by have := HF.out b hfb; omega
        generalize (t.covers[k]'hk2) = x at *
        have HFT := Lib.hid (show [t.tin, t.tout] ++ (t.covers.take (k + 1)).flatMap covN = ([t.tin, t.tout] ++ (t.covers.take k).flatMap covN) ++ [x.para, x.tin, x.tout] by rw [hft, List.append_assoc]; rfl)
        generalize [t.tin, t.tout] ++ (t.covers.take k).flatMap covN = nl at *
        have HB1 := Lib.hid (HB.out.alloc (by omega) (.cells #[.int .i64 x.para, .int .i64 x.tin, .int .i64 x.tout, .bool x.on] 127))
        have HO1 := Lib.hid (HO.out.alloc (.cells #[.int .i64 x.para, .int .i64 x.tin, .int .i64 x.tout, .bool x.on] 127))
        go_upto_region 10 with (fail)
        generalize hW : wr.alloc (.cells #[.int .i64 x.para, .int .i64 x.tin, .int .i64 x.tout, .bool x.on] 127) = w5 at *
        obtain ⟨y, _⟩ := str_cells (show w5.heap[wr.heap.size]? = some (.cells #[.int .i64 x.para, .int .i64 x.tin, .int .i64 x.tout, .bool x.on] 127 (0, 0)) from by rw [← hW]; exact heap_alloc_new wr _)
        have d0 : w5.cell? ⟨wr.heap.size, 0, none⟩ = some (.int .i64 x.para) := y 0
        have d1 : w5.cell? ⟨wr.heap.size, 1, none⟩ = some (.int .i64 x.tin) := y 1
        have d2 : w5.cell? ⟨wr.heap.size, 2, none⟩ = some (.int .i64 x.tout) := y 2
        have hw5 : wr.heap.size < w5.heap.size := by rw [← hW]; simp
        clear y hW hft hk2 c0 c1 c2 c3
        go_wp2_with (at_builtin; go_loud (refine wpList_pushI rfl _ _ _ rfl w.heap.size w.heap.size 3 i0 _ 8 Tryz.underlying22 hi0 hz0 (by assumption) (by assumption) rfl _ u5 nl rfl (HO1.out.alloc _) [x.para, x.tin, x.tout] (by simp) w5.heap.size _ _ (heap_alloc_new w5 _) rfl (by simp [maxLen]; omega) (by simp; omega) (by simp; omega) ?_); intro g cap w6 hown6 hg6 hat6 hlt6)
        have hz6 := hg6.size
        simp at hz6
        go_roundw
        case rel => exact ⟨k + 1, by omega, intNum, by rw [HFT.out]; exact hown6, (HB1.out.alloc (by omega) _).grown hg6 (by simp; omega) (fun q hq => (HO1.out.block q hq).1), by omega⟩
        case measure => simp [intOf]; omega
      · have HNT := Lib.hid (show numsT t = [t.tin, t.tout] ++ (t.covers.take k).flatMap covN by rw [List.take_of_length_le (by rw [HL.out]; omega)]; rfl)
        generalize [t.tin, t.tout] ++ (t.covers.take k).flatMap covN = nl at *
        obtain ⟨A5, c5, rfl, hc51, hc52⟩ := (HO.out.sli (F := fun _ => True) (fun _ _ _ => trivial) (fun _ _ => trivial)).form
        have HSI := Lib.hid (HO.out.sli (F := fun q => q < wr.heap.size) (fun q h1 h2 => h2) (fun g hg => (HO.out.block g hg).2))
        obtain ⟨M, hM⟩ : ∃ M, nl.length = M := ⟨_, rfl⟩
        have HMM := Lib.hid hM
        rw [hM] at HSI hc51 hnl ⊢
        clear hM HO
        go_wp2
        go_loop [62] (fun i => ∃ k : Nat, k ≤ M ∧ i = .int .i64 k ∧ Hid (∀ x ∈ nl.take k, badN x = false)) (fun i => M - (intOf i).toNat)
        case atStart => exact ⟨0, Nat.zero_le _, rfl, fun x hx => by simp at hx⟩
        case round =>
          obtain ⟨k, hk, rfl, HN⟩ := hrel
          by_cases hlt : k < M
          · have hk2 : k < nl.length := by rw [HMM.out]; exact hlt
            obtain ⟨b, off, a, rfl, hfb, hra, hca⟩ := HSI.out.at_ k hk2
            have hea : a = [.int .i64 nl[k]] := hra
            subst hea
            have c0 : wr.cell? ⟨b, off + k, none⟩ = some (.int .i64 nl[k]) := by
              have h := hca 0 _ rfl
              simpa [intR, Rep.flat] using h
            have hmem := List.getElem_mem hk2
            have HNX := Lib.hid (fun (h : badN nl[k] = false) => take_next (q := fun x => badN x = false) hk2 HN.out h)
            generalize nl[k]'hk2 = z at *
            have HBAD := Lib.hid (fun (h : badN z = true) => show tkFE t = 1 by rw [HST2.out, HNT.out, if_pos (List.any_eq_true.2 ⟨z, hmem, h⟩)])
            clear hra hca hk2 hmem
            by_cases n1 : z < 0
            · have HR := Lib.hid (HBAD.out (by simp [badN, n1]))
              go_wp2
              go_ret
              exact TfP.mk HR.out HB.out
            · by_cases n2 : 10000000 < z
              · have HR := Lib.hid (HBAD.out (by simp [badN, n2]))
                have n1' : 0 ≤ z := by omega
                clear n1
                go_wp2
                go_ret
                exact TfP.mk HR.out HB.out
              · have HK := Lib.hid (HNX.out (by simp [badN]; omega))
                have n1' : 0 ≤ z := by omega
                have n2' : z ≤ 10000000 := by omega
                clear n1 n2
                go_wp2
                go_round
                case rel => exact ⟨k + 1, by omega, intNum, HK.out⟩
                case measure => simp [intOf]; omega
          · have HR := Lib.hid (show tkFE t = 0 by
              rw [HST2.out, HNT.out, if_neg (fun h => by
                obtain ⟨z, hz, hb⟩ := List.any_eq_true.1 h
                have := HN.out z (by rw [List.take_of_length_le (by rw [HMM.out]; omega)]; exact hz)
                rw [this] at hb; cases hb)])
            go_wp2
            go_ret
            exact TfP.mk HR.out HB.out
  | false =>
    have hno : ¬ t.sound = ⟨#[]⟩ := fun h => by rw [(empty_iff t.sound).2 h] at he; cases he
    cases hr2 : rollNameB t.sound with
    | false =>
      have HR := Lib.hid (HST.out.trans (if_pos (.inr ⟨hno, hr2⟩)))
      clear hno
      go_enter Tryz.func173, Tryz.ntmps173
      go_wp2_with fail
      with_reducible refine HSL.out.mono ?_
      rintro e w2 ⟨rfl, rfl⟩
      rw [hs0]
      go_wp2_with (first | (go_at_call 228; with_reducible refine HR1.out.mono ?_; rintro e w' ⟨rfl, rfl⟩; rw [hr1]) | (go_at_call 228; with_reducible refine HR2.out.mono ?_; rintro e w' ⟨rfl, rfl⟩; rw [hr2]) | fail)
      go_ret
      exact TfP.mk HR.out HB.out
    | true =>
      have HST2 := Lib.hid (HST.out.trans (if_neg (by rintro (h | h); rw [hr1] at h; cases h; rw [hr2] at h; cases h.2)))
      clear hno HST
      go_enter Tryz.func173, Tryz.ntmps173
      go_wp2_with fail
      with_reducible refine HSL.out.mono ?_
      rintro e w2 ⟨rfl, rfl⟩
      rw [hs0]
      go_upto_region 6 with (first | (go_at_call 228; with_reducible refine HR1.out.mono ?_; rintro e w' ⟨rfl, rfl⟩; rw [hr1]) | (go_at_call 228; with_reducible refine HR2.out.mono ?_; rintro e w' ⟨rfl, rfl⟩; rw [hr2]) | fail)
      generalize hW : w.alloc (.cells #[.string t.scene, .string t.setup, .int .i64 t.number, .string t.roll, .string t.sound, .int .i64 t.tin, .int .i64 t.tout, .bool t.good, .slice A L c] 125) = w1 at *
      have hz1' : w.heap.size < w1.heap.size := by rw [← hW]; simp
      obtain ⟨y, _⟩ := str_cells (show w1.heap[w.heap.size]? = some (.cells #[.string t.scene, .string t.setup, .int .i64 t.number, .string t.roll, .string t.sound, .int .i64 t.tin, .int .i64 t.tout, .bool t.good, .slice A L c] 125 (0, 0)) from by rw [← hW]; exact heap_alloc_new w _)
      have y5 : w1.cell? ⟨w.heap.size, 5, none⟩ = some (.int .i64 t.tin) := y 5
      have y6 : w1.cell? ⟨w.heap.size, 6, none⟩ = some (.int .i64 t.tout) := y 6
      have y8 : w1.cell? ⟨w.heap.size, 8, none⟩ = some (.slice A L c) := y 8
      clear y hW
      go_upto_region 7 with (fail)
      have O2 := Lib.hid ((Own.lit2 w1 3 t.tin t.tout).less' (show w.heap.size ≤ w1.heap.size by omega))
      have B2 := Lib.hid (HB.out.alloc (by omega) (.cells #[.int .i64 t.tin, .int .i64 t.tout] 3))
      have y8' : (w1.alloc (.cells #[.int .i64 t.tin, .int .i64 t.tout] 3)).cell? ⟨w.heap.size, 8, none⟩ = some (.slice A L c) := (World.cell?_alloc_lt w1 _ ⟨w.heap.size, 8, none⟩ hz1').trans y8
      have hz2' : w.heap.size < (w1.alloc (.cells #[.int .i64 t.tin, .int .i64 t.tout] 3)).heap.size := by simp; omega
      generalize w1.alloc (.cells #[.int .i64 t.tin, .int .i64 t.tout] 3) = w2 at *
      clear y5 y6 y8 HB
      go_wp2
      go_loopw [5, 46] (fun v i wr => ∃ k : Nat, k ≤ L ∧ i = .int .i64 k ∧ Hid (Own intR wr w.heap.size w.heap.size 3 ([t.tin, t.tout] ++ (t.covers.take k).flatMap covN) v) ∧ Hid (Below w.heap.size w wr) ∧ w.heap.size < wr.heap.size) (fun _ i _ => L - (intOf i).toNat)
      case atStart => exact ⟨0, Nat.zero_le _, rfl, O2.out, B2.out, hz2'⟩
      case round =>
        clear O2 B2 y8' hz2' hz1'
        obtain ⟨k, hk, rfl, HO, HB, hzw⟩ := hrel
        have hnl : ([t.tin, t.tout] ++ (t.covers.take k).flatMap covN).length ≤ 2 + 3 * k := by rw [List.length_append, covN_len, List.length_take]; simp; omega
        by_cases hlt : k < L
        · have hk2 : k < t.covers.length := by rw [HL.out]; exact hlt
          obtain ⟨b, off, rfl, hfb, c0, c1, c2, c3⟩ := covAt (HV.out.below HB.out HF.out) k hk2
          have hft := flat_take t.covers k hk2
          have hbw : b < wr.heap.size := by have := HF.out b hfb; omega
          generalize (t.covers[k]'hk2) = x at *
          have HFT := Lib.hid (show [t.tin, t.tout] ++ (t.covers.take (k + 1)).flatMap covN = ([t.tin, t.tout] ++ (t.covers.take k).flatMap covN) ++ [x.para, x.tin, x.tout] by rw [hft, List.append_assoc]; rfl)
          generalize [t.tin, t.tout] ++ (t.covers.take k).flatMap covN = nl at *
          have HB1 := Lib.hid (HB.out.alloc (by omega) (.cells #[.int .i64 x.para, .int .i64 x.tin, .int .i64 x.tout, .bool x.on] 127))
          have HO1 := Lib.hid (HO.out.alloc (.cells #[.int .i64 x.para, .int .i64 x.tin, .int .i64 x.tout, .bool x.on] 127))
          go_upto_region 10 with (fail)
          generalize hW : wr.alloc (.cells #[.int .i64 x.para, .int .i64 x.tin, .int .i64 x.tout, .bool x.on] 127) = w5 at *
          obtain ⟨y, _⟩ := str_cells (show w5.heap[wr.heap.size]? = some (.cells #[.int .i64 x.para, .int .i64 x.tin, .int .i64 x.tout, .bool x.on] 127 (0, 0)) from by rw [← hW]; exact heap_alloc_new wr _)
          have d0 : w5.cell? ⟨wr.heap.size, 0, none⟩ = some (.int .i64 x.para) := y 0
          have d1 : w5.cell? ⟨wr.heap.size, 1, none⟩ = some (.int .i64 x.tin) := y 1
          have d2 : w5.cell? ⟨wr.heap.size, 2, none⟩ = some (.int .i64 x.tout) := y 2
          have hw5 : wr.heap.size < w5.heap.size := by rw [← hW]; simp
          clear y hW hft hk2 c0 c1 c2 c3
          go_wp2_with (at_builtin; go_loud (refine wpList_pushI rfl _ _ _ rfl w.heap.size w.heap.size 3 i0 _ 8 Tryz.underlying22 hi0 hz0 (by assumption) (by assumption) rfl _ u5 nl rfl (HO1.out.alloc _) [x.para, x.tin, x.tout] (by simp) w5.heap.size _ _ (heap_alloc_new w5 _) rfl (by simp [maxLen]; omega) (by simp; omega) (by simp; omega) ?_); intro g cap w6 hown6 hg6 hat6 hlt6)
          have hz6 := hg6.size
          simp at hz6
          go_roundw
          case rel => exact ⟨k + 1, by omega, intNum, by rw [HFT.out]; exact hown6, (HB1.out.alloc (by omega) _).grown hg6 (by simp; omega) (fun q hq => (HO1.out.block q hq).1), by omega⟩
          case measure => simp [intOf]; omega
        · have HNT := Lib.hid (show numsT t = [t.tin, t.tout] ++ (t.covers.take k).flatMap covN by rw [List.take_of_length_le (by rw [HL.out]; omega)]; rfl)
          generalize [t.tin, t.tout] ++ (t.covers.take k).flatMap covN = nl at *
          obtain ⟨A5, c5, rfl, hc51, hc52⟩ := (HO.out.sli (F := fun _ => True) (fun _ _ _ => trivial) (fun _ _ => trivial)).form
          have HSI := Lib.hid (HO.out.sli (F := fun q => q < wr.heap.size) (fun q h1 h2 => h2) (fun g hg => (HO.out.block g hg).2))
          obtain ⟨M, hM⟩ : ∃ M, nl.length = M := ⟨_, rfl⟩
          have HMM := Lib.hid hM
          rw [hM] at HSI hc51 hnl ⊢
          clear hM HO
          go_wp2
          go_loop [62] (fun i => ∃ k : Nat, k ≤ M ∧ i = .int .i64 k ∧ Hid (∀ x ∈ nl.take k, badN x = false)) (fun i => M - (intOf i).toNat)
          case atStart => exact ⟨0, Nat.zero_le _, rfl, fun x hx => by simp at hx⟩
          case round =>
            obtain ⟨k, hk, rfl, HN⟩ := hrel
            by_cases hlt : k < M
            · have hk2 : k < nl.length := by rw [HMM.out]; exact hlt
              obtain ⟨b, off, a, rfl, hfb, hra, hca⟩ := HSI.out.at_ k hk2
              have hea : a = [.int .i64 nl[k]] := hra
              subst hea
              have c0 : wr.cell? ⟨b, off + k, none⟩ = some (.int .i64 nl[k]) := by
                have h := hca 0 _ rfl
                simpa [intR, Rep.flat] using h
              have hmem := List.getElem_mem hk2
              have HNX := Lib.hid (fun (h : badN nl[k] = false) => take_next (q := fun x => badN x = false) hk2 HN.out h)
              generalize nl[k]'hk2 = z at *
              have HBAD := Lib.hid (fun (h : badN z = true) => show tkFE t = 1 by rw [HST2.out, HNT.out, if_pos (List.any_eq_true.2 ⟨z, hmem, h⟩)])
              clear hra hca hk2 hmem
              by_cases n1 : z < 0
              · have HR := Lib.hid (HBAD.out (by simp [badN, n1]))
                go_wp2
                go_ret
                exact TfP.mk HR.out HB.out
              · by_cases n2 : 10000000 < z
                · have HR := Lib.hid (HBAD.out (by simp [badN, n2]))
                  have n1' : 0 ≤ z := by omega
                  clear n1
                  go_wp2
                  go_ret
                  exact TfP.mk HR.out HB.out
                · have HK := Lib.hid (HNX.out (by simp [badN]; omega))
                  have n1' : 0 ≤ z := by omega
                  have n2' : z ≤ 10000000 := by omega
                  clear n1 n2
                  go_wp2
                  go_round
                  case rel => exact ⟨k + 1, by omega, intNum, HK.out⟩
                  case measure => simp [intOf]; omega
            · have HR := Lib.hid (show tkFE t = 0 by
                rw [HST2.out, HNT.out, if_neg (fun h => by
                  obtain ⟨z, hz, hb⟩ := List.any_eq_true.1 h
                  have := HN.out z (by rw [List.take_of_length_le (by rw [HMM.out]; omega)]; exact hz)
                  rw [this] at hb; cases hb)])
              go_wp2
              go_ret
              exact TfP.mk HR.out HB.out
end Go.Proofs.YtihkkaeoijheoaaGreatDoor

/- The program's error of takes that are written. -/
namespace Go.Proofs.YtihkkaeoijheoaaGreatDoor
set_option linter.unusedVariables false
open Go.RowKit Go.Sort

/-- Takes in memory. -/
structure TkW (w : World) (F : Nat → Prop) (tl : List (Tk × Value)) (v : Value) : Prop where
  sli : Sli tvR w F tl v
  cov : ∀ x ∈ tl, Sli covR w F x.1.covers x.2
  lt : ∀ b, F b → b < w.heap.size
  len : tl.length ≤ 1000000
  bd : ∀ x ∈ tl, x.1.scene.size ≤ 1000000 ∧ x.1.setup.size ≤ 1000000 ∧ x.1.roll.size ≤ 1000000 ∧ x.1.sound.size ≤ 1000000 ∧ x.1.covers.length ≤ 300000
theorem TkW.below {w w' : World} {F : Nat → Prop} {tl : List (Tk × Value)} {v : Value} (h : TkW w F tl v) (hb : Below w.heap.size w w') : TkW w' F tl v :=
  ⟨h.sli.below hb h.lt, fun y hy => (h.cov y hy).below hb h.lt, fun b hF => Nat.lt_of_lt_of_le (h.lt b hF) hb.size, h.len, h.bd⟩
def tkFEs : List Tk → Int
  | [] => 0
  | t :: r => if ¬ tkFE t = 0 then tkFE t else tkFEs r
def tksE (l : List Tk) : Int := if 3000 < l.length then 2 else tkFEs l
theorem tkFEs_step (l : List Tk) (k : Nat) (hk : k < l.length) : tkFEs (l.drop k) = if ¬ tkFE l[k] = 0 then tkFE l[k] else tkFEs (l.drop (k + 1)) := by
  rw [List.drop_eq_getElem_cons hk, tkFEs]
theorem tkFEs_ok : ∀ l : List Tk, tkFEs l = 0 → ∀ t ∈ l, tkFE t = 0
  | [], _, t, ht => by cases ht
  | t :: r, h, u, hu => by
    rw [tkFEs] at h
    by_cases h1 : tkFE t = 0
    · rw [if_neg (fun h => h h1)] at h
      rcases List.mem_cons.1 hu with rfl | hu
      · exact h1
      · exact tkFEs_ok r h u hu
    · rw [if_pos h1] at h; exact absurd h h1
def TsP (l : List Tk) (w : World) (e : Ending) (w' : World) : Prop := e = .returned (.int .i64 (tksE l)) ∧ Below w.heap.size w w'
theorem TsP.mk {l : List Tk} {q : Int} {w w' : World} (h : tksE l = q) (hb : Below w.heap.size w w') : TsP l w (.returned (.int .i64 q)) w' := ⟨by rw [h], hb⟩
set_option maxRecDepth 100000 in
set_option maxHeartbeats 4000000 in
theorem takesFault_c {F : Nat → Prop} (tl : List (Tk × Value)) (v : Value) (w : World) (h : TkW w F tl v) :
    Calls Tryz.prog 92 #[v] w (TsP (tl.map (·.1)) w) := by
  obtain ⟨A, c, rfl, hlc, hcm⟩ := h.sli.form
  have hlen := h.len
  obtain ⟨L, hL⟩ : ∃ L, tl.length = L := ⟨_, rfl⟩
  have HL := Lib.hid hL
  rw [hL] at h hlc hlen ⊢
  have HH := Lib.hid h
  have HTE := Lib.hid (show tksE (tl.map (·.1)) = if 3000 < L then 2 else tkFEs (tl.map (·.1)) by unfold tksE; rw [List.length_map, hL])
  clear h hL
  by_cases h3 : 3000 < L
  · have HR := Lib.hid (HTE.out.trans (if_pos h3))
    have hz : (3000 : Int) < L := by omega
    clear h3
    go_enter Tryz.func92, Tryz.ntmps92
    go_wp2
    go_ret
    exact TsP.mk HR.out (Below.refl _ _)
  have HR := Lib.hid (HTE.out.trans (if_neg h3))
  have hz : (L : Int) ≤ 3000 := by omega
  clear h3 HTE
  go_enter Tryz.func92, Tryz.ntmps92
  go_wp2
  go_loopw [11] (fun i wr => ∃ k : Nat, k ≤ L ∧ i = .int .i64 k ∧ Hid (Below w.heap.size w wr) ∧ Hid (tkFEs ((tl.map (·.1)).drop k) = tkFEs (tl.map (·.1)))) (fun i _ => L - (intOf i).toNat)
  case atStart => exact ⟨0, Nat.zero_le _, rfl, Below.refl _ _, rfl⟩
  case round =>
    obtain ⟨k, hk, rfl, HB, HT⟩ := hrel
    by_cases hlt : k < L
    · have hk2 : k < tl.length := by rw [HL.out]; exact hlt
      obtain ⟨b, off, rfl, hfb, c0, c1, c2, c3, c4, c5, c6, c7, c8⟩ := tkAt (HH.out.below HB.out).sli k hk2
      have hmem := List.getElem_mem hk2
      have hcv := (HH.out.below HB.out).cov _ hmem
      obtain ⟨q1, q2, q3, q4, q5⟩ := HH.out.bd _ hmem
      obtain ⟨A8, cc8, h8, _, _⟩ := hcv.form
      rw [h8] at c8 hcv
      have hkm : k < (tl.map (·.1)).length := by rw [List.length_map]; exact hk2
      have hst := tkFEs_step (tl.map (·.1)) k hkm
      have hgm : (tl.map (·.1))[k]'hkm = (tl[k]'hk2).1 := List.getElem_map ..
      rw [hgm] at hst
      have hbw : b < wr.heap.size := Nat.lt_of_lt_of_le (HH.out.lt b hfb) HB.out.size
      clear h8 hmem hgm hkm
      generalize (tl[k]'hk2).1 = x at *
      have HST := Lib.hid hst
      have HCV := Lib.hid hcv
      have hFw : ∀ q, F q → q < wr.heap.size := fun q hq => Nat.lt_of_lt_of_le (HH.out.lt q hq) HB.out.size
      have HB1 := Lib.hid (HB.out.alloc HB.out.size (.cells #[.string x.scene, .string x.setup, .int .i64 x.number, .string x.roll, .string x.sound, .int .i64 x.tin, .int .i64 x.tout, .bool x.good, .slice A8 x.covers.length cc8] 125))
      have HFC := Lib.hid (takeFaultP_c x (.slice A8 x.covers.length cc8) (wr.alloc (.cells #[.string x.scene, .string x.setup, .int .i64 x.number, .string x.roll, .string x.sound, .int .i64 x.tin, .int .i64 x.tout, .bool x.good, .slice A8 x.covers.length cc8] 125)) (HCV.out.alloc _ hFw) (fun q hq => by have := hFw q hq; simp; omega) q1 q2 q3 q4 q5)
      rw [show (x.cells (.slice A8 x.covers.length cc8)).toArray = #[.string x.scene, .string x.setup, .int .i64 x.number, .string x.roll, .string x.sound, .int .i64 x.tin, .int .i64 x.tout, .bool x.good, .slice A8 x.covers.length cc8] from rfl] at HFC
      clear hst hcv hk2 hFw
      go_wp2_with fail
      refine HFC.out.mono ?_
      rintro e w2 ⟨rfl, hb2⟩
      have HB2 := Lib.hid (HB1.out.trans (hb2.mono HB1.out.size))
      clear hb2 HFC HB1
      by_cases h0 : tkFE x = 0
      · have HN := Lib.hid (HST.out.symm.trans HT.out)
        rw [if_neg (fun h => h h0)] at HN
        rw [h0]
        clear h0
        go_wp2
        go_roundw
        case rel => exact ⟨k + 1, by omega, intNum, HB2, HN⟩
        case measure => simp [intOf]; omega
      · have HN := Lib.hid (show tksE (tl.map (·.1)) = tkFE x by rw [HR.out, ← HT.out, HST.out, if_pos h0])
        have hne : (tkFE x != 0) = true := bne_iff_ne.2 h0
        generalize tkFE x = fx at *
        clear h0
        go_wp2
        go_ret
        exact TsP.mk HN.out HB2.out
    · have HN := Lib.hid (show tksE (tl.map (·.1)) = 0 by rw [HR.out, ← HT.out, List.drop_eq_nil_of_le (by rw [List.length_map, HL.out]; omega)]; rfl)
      go_wp2
      go_ret
      exact TsP.mk HN.out HB.out
end Go.Proofs.YtihkkaeoijheoaaGreatDoor

/- The reference's error of takes that are written. -/
namespace Go.Proofs.YtihkkaeoijheoaaGreatDoor
set_option linter.unusedVariables false
open Go.RowKit Go.Sort

theorem foldmin_lt (c : Int) : ∀ (l : List Int) (a : Int), l.foldl min a < c ↔ a < c ∨ ∃ z ∈ l, z < c
  | [], a => by simp
  | x :: r, a => by
    rw [List.foldl_cons, foldmin_lt c r (min a x)]
    constructor
    · rintro (h | ⟨z, hz, h⟩)
      · by_cases ha : a < c
        · exact .inl ha
        · exact .inr ⟨x, by simp, by omega⟩
      · exact .inr ⟨z, by simp [hz], h⟩
    · rintro (h | ⟨z, hz, h⟩)
      · exact .inl (by omega)
      · rcases List.mem_cons.1 hz with rfl | hz
        · exact .inl (by omega)
        · exact .inr ⟨z, hz, h⟩
theorem foldmax_gt (c : Int) : ∀ (l : List Int) (a : Int), c < l.foldl max a ↔ c < a ∨ ∃ z ∈ l, c < z
  | [], a => by simp
  | x :: r, a => by
    rw [List.foldl_cons, foldmax_gt c r (max a x)]
    constructor
    · rintro (h | ⟨z, hz, h⟩)
      · by_cases ha : c < a
        · exact .inl ha
        · exact .inr ⟨x, by simp, by omega⟩
      · exact .inr ⟨z, by simp [hz], h⟩
    · rintro (h | ⟨z, hz, h⟩)
      · exact .inl (by omega)
      · rcases List.mem_cons.1 hz with rfl | hz
        · exact .inl (by omega)
        · exact .inr ⟨z, hz, h⟩
theorem bad_minmax {l : List Int} (h0 : 0 < l.length) : l.any badN = true ↔ Lib.minOf l < 0 ∨ 10000000 < Lib.maxOf l := by
  obtain ⟨a, r, rfl⟩ : ∃ a r, l = a :: r := by
    cases l with
    | nil => simp at h0
    | cons a r => exact ⟨a, r, rfl⟩
  unfold Lib.minOf Lib.maxOf
  rw [foldmin_lt, foldmax_gt, List.any_eq_true]
  simp only [List.headD_cons]
  constructor
  · rintro ⟨z, hz, hb⟩
    unfold badN at hb
    simp only [Bool.or_eq_true, decide_eq_true_eq] at hb
    rcases hb with hb | hb
    · exact .inl (.inr ⟨z, hz, hb⟩)
    · exact .inr (.inr ⟨z, hz, hb⟩)
  · rintro ((h | ⟨z, hz, h⟩) | (h | ⟨z, hz, h⟩))
    · exact ⟨a, by simp, by unfold badN; simp [h]⟩
    · exact ⟨z, hz, by unfold badN; simp [h]⟩
    · exact ⟨a, by simp, by unfold badN; simp [h]⟩
    · exact ⟨z, hz, by unfold badN; simp [h]⟩
abbrev tkCs (x : Tk) (A : Option Addr) (n c : Nat) : Array Value := #[.string x.scene, .string x.setup, .int .i64 x.number, .string x.roll, .string x.sound, .int .i64 x.tin, .int .i64 x.tout, .bool x.good, .slice A n c]
theorem tk_cells {wx : World} {b : Nat} {x : Tk} {A : Option Addr} {n c : Nat} {T : TypeId} (h : wx.heap[b]? = some (.cells (tkCs x A n c) T (0, 0))) :
    wx.cell? ⟨b, 0, none⟩ = some (.string x.scene) ∧ wx.cell? ⟨b, 1, none⟩ = some (.string x.setup) ∧ wx.cell? ⟨b, 2, none⟩ = some (.int .i64 x.number) ∧ wx.cell? ⟨b, 3, none⟩ = some (.string x.roll) ∧ wx.cell? ⟨b, 4, none⟩ = some (.string x.sound) ∧ wx.cell? ⟨b, 5, none⟩ = some (.int .i64 x.tin) ∧ wx.cell? ⟨b, 6, none⟩ = some (.int .i64 x.tout) ∧ wx.cell? ⟨b, 7, none⟩ = some (.bool x.good) ∧ wx.cell? ⟨b, 8, none⟩ = some (.slice A n c) := by
  obtain ⟨y, _⟩ := str_cells h
  exact ⟨y 0, y 1, y 2, y 3, y 4, y 5, y 6, y 7, y 8⟩
set_option maxRecDepth 100000 in
set_option maxHeartbeats 8000000 in
theorem TellTakesFault_c {F : Nat → Prop} (tl : List (Tk × Value)) (v : Value) (w : World) (h : TkW w F tl v) :
    Calls Tryz.prog 24 #[v] w (TsP (tl.map (·.1)) w) := by
  obtain ⟨A, c, rfl, hlc, hcm⟩ := h.sli.form
  have hlen := h.len
  obtain ⟨i0, hi0, hz0, hz1, hz2⟩ := info_parts (show (Tryz.prog.info? 3).map (fun i => (i.zero, i.size, i.bytes)) = some (some (.int .i64 0), 1, 8) by kernel_rfl)
  obtain ⟨L, hL⟩ : ∃ L, tl.length = L := ⟨_, rfl⟩
  have HL := Lib.hid hL
  rw [hL] at h hlc hlen ⊢
  have HH := Lib.hid h
  have HTE := Lib.hid (show tksE (tl.map (·.1)) = if 3000 < L then 2 else tkFEs (tl.map (·.1)) by unfold tksE; rw [List.length_map, hL])
  clear h hL
  by_cases h3 : 3000 < L
  · have HR := Lib.hid (HTE.out.trans (if_pos h3))
    have hz : (3000 : Int) < L := by omega
    clear h3
    go_enter Tryz.func24, Tryz.ntmps24
    go_wp2
    go_ret
    exact TsP.mk HR.out (Below.refl _ _)
  have HR := Lib.hid (HTE.out.trans (if_neg h3))
  have hz : (L : Int) ≤ 3000 := by omega
  clear h3 HTE
  go_enter Tryz.func24, Tryz.ntmps24
  go_wp2
  go_loopw [14] (fun i wr => ∃ k : Nat, k ≤ L ∧ i = .int .i64 k ∧ Hid (Below w.heap.size w wr) ∧ Hid (tkFEs ((tl.map (·.1)).drop k) = tkFEs (tl.map (·.1)))) (fun i _ => L - (intOf i).toNat)
  case atStart => exact ⟨0, Nat.zero_le _, rfl, Below.refl _ _, rfl⟩
  case round =>
    obtain ⟨k, hk, rfl, HB, HT⟩ := hrel
    by_cases hlt : k < L
    · have hk2 : k < tl.length := by rw [HL.out]; exact hlt
      obtain ⟨b, off, rfl, hfb, c0, c1, c2, c3, c4, c5, c6, c7, c8⟩ := tkAt (HH.out.below HB.out).sli k hk2
      have hmem := List.getElem_mem hk2
      have hcv := HH.out.cov _ hmem
      obtain ⟨q1, q2, q3, q4, q5⟩ := HH.out.bd _ hmem
      obtain ⟨A8, cc8, h8, _, _⟩ := hcv.form
      rw [h8] at c8 hcv
      have hkm : k < (tl.map (·.1)).length := by rw [List.length_map]; exact hk2
      have hst := tkFEs_step (tl.map (·.1)) k hkm
      have hgm : (tl.map (·.1))[k]'hkm = (tl[k]'hk2).1 := List.getElem_map ..
      rw [hgm] at hst
      have hbw : b < wr.heap.size := Nat.lt_of_lt_of_le (HH.out.lt b hfb) HB.out.size
      clear h8 hmem hgm hkm
      generalize (tl[k]'hk2).1 = x at *
      have HST := Lib.hid hst
      have HCV := Lib.hid hcv
      have HFw := Lib.hid (show ∀ q, F q → q < wr.heap.size from fun q hq => Nat.lt_of_lt_of_le (HH.out.lt q hq) HB.out.size)
      have HBAD := Lib.hid (fun (q : Int) (h0 : ¬ q = 0) (hq : tkFE x = q) => show tksE (tl.map (·.1)) = q by rw [HR.out, ← HT.out, HST.out, hq, if_pos h0])
      have HTK := Lib.hid (show tkFE x = if ¬ slateE x.scene x.setup x.number = 0 then slateE x.scene x.setup x.number else if rollNameB x.roll = false ∨ (¬ x.sound = ⟨#[]⟩ ∧ rollNameB x.sound = false) then 5 else if (numsT x).any badN = true then 1 else 0 from rfl)
      have HB1 := Lib.hid (HB.out.alloc HB.out.size (.cells (tkCs x A8 x.covers.length cc8) 125))
      have HY1 := Lib.hid (heap_alloc_new wr (.cells (tkCs x A8 x.covers.length cc8) 125))
      obtain ⟨M, hM⟩ : ∃ M, x.covers.length = M := ⟨_, rfl⟩
      have HMM := Lib.hid hM
      rw [hM] at c8 HCV HB1 HY1 q5
      have hwz : wr.heap.size < (wr.alloc (.cells (tkCs x A8 M cc8) 125)).heap.size := by simp
      clear hst hcv hk2 hM
      go_upto_region 6 with (fail)
      generalize wr.alloc (.cells #[.string x.scene, .string x.setup, .int .i64 x.number, .string x.roll, .string x.sound, .int .i64 x.tin, .int .i64 x.tout, .bool x.good, .slice A8 M cc8] 125) = w1 at *
      obtain ⟨y0, y1, y2, y3, y4, y5, y6, y7, y8⟩ := tk_cells HY1.out
      have HSF := Lib.hid (SlateFault_c x.scene x.setup x.number w1 (by omega) (by omega))
      clear c0 c1 c2 c3 c4 c5 c6 c7 c8
      go_wp2_with fail
      refine HSF.out.mono ?_
      rintro e w2 ⟨rfl, hb2⟩
      have HB2 := Lib.hid (HB1.out.trans (hb2.mono HB1.out.size))
      have HY2 := Lib.hid ((hb2.block wr.heap.size hwz).trans HY1.out)
      have hwz2 : wr.heap.size < w2.heap.size := Nat.lt_of_lt_of_le hwz hb2.size
      clear hb2 HSF HB1 HY1 hwz y0 y1 y2 y3 y4 y5 y6 y7 y8
      by_cases hs0 : slateE x.scene x.setup x.number = 0
      case neg =>
        have HN := Lib.hid (HBAD.out _ hs0 (HTK.out.trans (if_pos hs0)))
        have hne : (slateE x.scene x.setup x.number != 0) = true := bne_iff_ne.2 hs0
        generalize slateE x.scene x.setup x.number = sx at *
        clear hs0
        go_wp2
        go_ret
        exact TsP.mk HN.out HB2.out
      have HTK2 := Lib.hid (HTK.out.trans (if_neg (fun h => h hs0)))
      rw [hs0]
      clear hs0 HTK
      obtain ⟨y0, y1, y2, y3, y4, y5, y6, y7, y8⟩ := tk_cells HY2.out
      have HRN := Lib.hid (fun (s : ByteArray) (W : World) (h : s.size ≤ 1000000) => rollName_c s W (by omega))
      go_upto_region 9 with (fail)
      go_cut [42] (fun bb wx => ∃ nb : Bool, bb = .bool nb ∧ Hid (nb = true ↔ (rollNameB x.roll = false ∨ (¬ x.sound = ⟨#[]⟩ ∧ rollNameB x.sound = false))) ∧ Hid (Below w.heap.size w wx) ∧ Hid (wx.heap[wr.heap.size]? = some (.cells (tkCs x A8 M cc8) 125 (0, 0))) ∧ wr.heap.size < wx.heap.size)
      case first =>
        go_wp2_with fail
        refine (HRN.out _ _ q3).mono ?_
        rintro e w3 ⟨rfl, hb3⟩
        have HB3 := Lib.hid (HB2.out.trans (hb3.mono HB2.out.size))
        have HY3 := Lib.hid ((hb3.block wr.heap.size hwz2).trans HY2.out)
        have hwz3 : wr.heap.size < w3.heap.size := Nat.lt_of_lt_of_le hwz2 hb3.size
        clear hb3 HB2 HY2 y0 y1 y2 y3 y4 y5 y6 y7 y8
        cases hr1 : rollNameB x.roll with
        | false =>
          have HI := Lib.hid (show (true = true ↔ (false = false ∨ (¬ x.sound = ⟨#[]⟩ ∧ rollNameB x.sound = false))) from ⟨fun _ => .inl rfl, fun _ => rfl⟩)
          go_wp2
          go_meet
          exact ⟨true, rfl, Lib.hid ⟨fun _ => .inl hr1, fun _ => rfl⟩, HB3, HY3, hwz3⟩
        | true =>
          obtain ⟨y0, y1, y2, y3, y4, y5, y6, y7, y8⟩ := tk_cells HY3.out
          cases he : x.sound.toList.isEmpty with
          | true =>
            have hno : x.sound = ⟨#[]⟩ := (empty_iff x.sound).1 he
            have HI := Lib.hid hno
            clear hno
            go_wp2
            go_meet
            exact ⟨false, rfl, Lib.hid ⟨fun h => (by cases h), fun h => (by rcases h with h | h; rw [hr1] at h; cases h; exact absurd HI.out h.1)⟩, HB3, HY3, hwz3⟩
          | false =>
            have HI := Lib.hid (show ¬ x.sound = ⟨#[]⟩ from fun h => by rw [(empty_iff x.sound).2 h] at he; cases he)
            go_wp2_with fail
            refine (HRN.out _ _ q4).mono ?_
            rintro e w4 ⟨rfl, hb4⟩
            have HB4 := Lib.hid (HB3.out.trans (hb4.mono HB3.out.size))
            have HY4 := Lib.hid ((hb4.block wr.heap.size hwz3).trans HY3.out)
            have hwz4 : wr.heap.size < w4.heap.size := Nat.lt_of_lt_of_le hwz3 hb4.size
            clear hb4 HB3 HY3 y0 y1 y2 y3 y4 y5 y6 y7 y8
            cases hr2 : rollNameB x.sound with
            | false =>
              go_wp2
              go_meet
              exact ⟨true, rfl, Lib.hid ⟨fun _ => .inr ⟨HI.out, hr2⟩, fun _ => rfl⟩, HB4, HY4, hwz4⟩
            | true =>
              go_wp2
              go_meet
              exact ⟨false, rfl, Lib.hid ⟨fun h => (by cases h), fun h => (by rcases h with h | h; rw [hr1] at h; cases h; rw [hr2] at h; cases h.2)⟩, HB4, HY4, hwz4⟩
      case rest =>
      clear HB2 HY2 y0 y1 y2 y3 y4 y5 y6 y7 y8 hwz2
      obtain ⟨nb, rfl, HNB, HB2, HY2, hwz2⟩ := hcut
      cases nb with
      | true =>
        have HN := Lib.hid (HBAD.out 5 (by decide) (HTK2.out.trans (if_pos (HNB.out.1 rfl))))
        go_wp2
        go_ret
        exact TsP.mk HN.out HB2.out
      | false =>
      have HTK3 := Lib.hid (HTK2.out.trans (if_neg (fun h => by have := HNB.out.2 h; cases this)))
      obtain ⟨y0, y1, y2, y3, y4, y5, y6, y7, y8⟩ := tk_cells HY2.out
      clear HTK2 HNB
      go_upto_region 12 with (fail)
      have O2 := Lib.hid ((Own.lit2 wc 3 x.tin x.tout).less' (show w.heap.size ≤ wc.heap.size from HB2.out.size))
      have B2 := Lib.hid (HB2.out.alloc HB2.out.size (.cells #[.int .i64 x.tin, .int .i64 x.tout] 3))
      have y8' : (wc.alloc (.cells #[.int .i64 x.tin, .int .i64 x.tout] 3)).cell? ⟨wr.heap.size, 8, none⟩ = some (.slice A8 M cc8) := (World.cell?_alloc_lt wc _ ⟨wr.heap.size, 8, none⟩ hwz2).trans y8
      generalize wc.alloc (.cells #[.int .i64 x.tin, .int .i64 x.tout] 3) = w5 at *
      clear y0 y1 y2 y3 y4 y5 y6 y7 y8 HB2 HY2 hwz2
      go_wp2
      go_loopw [6, 51] (fun v i wx => ∃ j : Nat, j ≤ M ∧ i = .int .i64 j ∧ Hid (Own intR wx w.heap.size w.heap.size 3 ([x.tin, x.tout] ++ (x.covers.take j).flatMap covN) v) ∧ Hid (Below w.heap.size w wx)) (fun _ i _ => M - (intOf i).toNat)
      case atStart => exact ⟨0, Nat.zero_le _, rfl, O2.out, B2.out⟩
      case round =>
        clear O2 B2 y8'
        obtain ⟨j, hj, rfl, HO, HBx⟩ := hrel
        have hnl : ([x.tin, x.tout] ++ (x.covers.take j).flatMap covN).length ≤ 2 + 3 * j := by rw [List.length_append, covN_len, List.length_take]; simp; omega
        have hnz : 0 < ([x.tin, x.tout] ++ (x.covers.take j).flatMap covN).length := Nat.succ_pos _
        by_cases hlj : j < M
        · have hj2 : j < x.covers.length := by rw [HMM.out]; exact hlj
          obtain ⟨b2, off2, rfl, hfb2, d0, d1, d2, d3⟩ := covAt (HCV.out.below HBx.out HH.out.lt) j hj2
          have hft := flat_take x.covers j hj2
          have hbw2 : b2 < wr.heap.size := by have := HH.out.lt b2 hfb2; have := HBx.out.size; omega
          generalize (x.covers[j]'hj2) = z at *
          have HFT := Lib.hid (show [x.tin, x.tout] ++ (x.covers.take (j + 1)).flatMap covN = ([x.tin, x.tout] ++ (x.covers.take j).flatMap covN) ++ [z.para, z.tin, z.tout] by rw [hft, List.append_assoc]; rfl)
          generalize [x.tin, x.tout] ++ (x.covers.take j).flatMap covN = nl at *
          have HB1 := Lib.hid (HBx.out.alloc HBx.out.size (.cells #[.int .i64 z.para, .int .i64 z.tin, .int .i64 z.tout, .bool z.on] 127))
          have HO1 := Lib.hid (HO.out.alloc (.cells #[.int .i64 z.para, .int .i64 z.tin, .int .i64 z.tout, .bool z.on] 127))
          go_upto_region 15 with (fail)
          generalize hW : wr.alloc (.cells #[.int .i64 z.para, .int .i64 z.tin, .int .i64 z.tout, .bool z.on] 127) = w6 at *
          obtain ⟨y, _⟩ := str_cells (show w6.heap[wr.heap.size]? = some (.cells #[.int .i64 z.para, .int .i64 z.tin, .int .i64 z.tout, .bool z.on] 127 (0, 0)) from by rw [← hW]; exact heap_alloc_new wr _)
          have e0 : w6.cell? ⟨wr.heap.size, 0, none⟩ = some (.int .i64 z.para) := y 0
          have e1 : w6.cell? ⟨wr.heap.size, 1, none⟩ = some (.int .i64 z.tin) := y 1
          have e2 : w6.cell? ⟨wr.heap.size, 2, none⟩ = some (.int .i64 z.tout) := y 2
          have hz6' := HB1.out.size
          clear y hW hft hj2 d0 d1 d2 d3
          go_wp2_with (at_builtin; go_loud (refine wpList_pushI rfl _ _ _ rfl w.heap.size w.heap.size 3 i0 _ 8 Tryz.underlying22 hi0 hz0 (by assumption) (by assumption) rfl _ u6 nl rfl (HO1.out.alloc _) [z.para, z.tin, z.tout] (by simp) w6.heap.size _ _ (heap_alloc_new w6 _) rfl (by simp [maxLen]; omega) (by simp; omega) (by simp; omega) ?_); intro g cap w7 hown7 hg7 hat7 hlt7)
          go_roundw
          case rel => exact ⟨j + 1, by omega, intNum, by rw [HFT.out]; exact hown7, (HB1.out.alloc HB1.out.size _).grown hg7 (by simp; omega) (fun q hq => (HO1.out.block q hq).1)⟩
          case measure => simp [intOf]; omega
        · have HNT := Lib.hid (show numsT x = [x.tin, x.tout] ++ (x.covers.take j).flatMap covN by rw [List.take_of_length_le (by rw [HMM.out]; omega)]; rfl)
          generalize [x.tin, x.tout] ++ (x.covers.take j).flatMap covN = nl at *
          obtain ⟨g, cap, hv6, hg1, hg2⟩ := Own.some_ (enc := fun x : Int => [.int .i64 x]) (hn := fun _ => rfl) HO.out hnz
          subst hv6
          have HC := Lib.hid (show ∀ j, j < nl.length → wr.cell? ⟨g, 0 + j, none⟩ = some (.int .i64 (nl.getD j 0)) from fun j hj => by
            have h := (Own.cellAt (n := 1) (enc := fun x => [.int .i64 x]) (hn := fun _ => rfl) HO.out j hj 0 (by decide)).1
            rw [show j * 1 + 0 = 0 + j by omega] at h
            rw [h, List.getD_eq_getElem?_getD, List.getElem?_eq_getElem hj]
            rfl)
          have hmn := Tryz.slices_Min_int g 0 nl.length cap nl wr hnz (Nat.le_refl _) (by omega) HC.out
          have hmx := Tryz.slices_Max_int g 0 nl.length cap nl wr hnz (Nat.le_refl _) (by omega) HC.out
          rw [List.take_length] at hmn hmx
          have HMN := Lib.hid hmn
          have HMX := Lib.hid hmx
          have HIF := Lib.hid (bad_minmax hnz)
          have HTK4 := Lib.hid (show tkFE x = if nl.any badN = true then 1 else 0 by rw [HTK3.out, HNT.out])
          clear hmn hmx HC HO HNT HTK3
          generalize Lib.minOf nl = mn at *
          generalize Lib.maxOf nl = mx at *
          by_cases h1 : mn < 0
          · have HN := Lib.hid (HBAD.out 1 (by decide) (HTK4.out.trans (if_pos (HIF.out.2 (.inl h1)))))
            go_wp2_with fail
            refine HMN.out.mono ?_
            rintro e w' ⟨rfl, rfl⟩
            go_wp2
            go_ret
            exact TsP.mk HN.out HBx.out
          · by_cases h2 : 10000000 < mx
            · have HN := Lib.hid (HBAD.out 1 (by decide) (HTK4.out.trans (if_pos (HIF.out.2 (.inr h2)))))
              have h1' : 0 ≤ mn := by omega
              clear h1
              go_wp2_with fail
              refine HMN.out.mono ?_
              rintro e w' ⟨rfl, rfl⟩
              go_wp2_with fail
              refine HMX.out.mono ?_
              rintro e w' ⟨rfl, rfl⟩
              go_wp2
              go_ret
              exact TsP.mk HN.out HBx.out
            · have HN := Lib.hid (show tkFEs ((tl.map (·.1)).drop (k + 1)) = tkFEs (tl.map (·.1)) by
                have h := HST.out.symm.trans HT.out
                rw [if_neg (fun hh => hh (HTK4.out.trans (if_neg (fun hx => by rcases HIF.out.1 hx with hx | hx; exact h1 hx; exact h2 hx))))] at h
                exact h)
              have h1' : 0 ≤ mn := by omega
              have h2' : mx ≤ 10000000 := by omega
              clear h1 h2
              go_wp2_with fail
              refine HMN.out.mono ?_
              rintro e w' ⟨rfl, rfl⟩
              go_wp2_with fail
              refine HMX.out.mono ?_
              rintro e w' ⟨rfl, rfl⟩
              go_wp2
              go_roundw
              case rel => exact ⟨k + 1, by omega, intNum, HBx, HN⟩
              case measure => simp [intOf]; omega
    · have HN := Lib.hid (show tksE (tl.map (·.1)) = 0 by rw [HR.out, ← HT.out, List.drop_eq_nil_of_le (by rw [List.length_map, HL.out]; omega)]; rfl)
      go_wp2
      go_ret
      exact TsP.mk HN.out HB.out
end Go.Proofs.YtihkkaeoijheoaaGreatDoor

