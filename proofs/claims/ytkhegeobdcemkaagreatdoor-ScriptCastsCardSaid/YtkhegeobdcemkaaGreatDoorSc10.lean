/- Texts packed: EvW, RefB, CodeR, GenD, TtA, TpA. -/
import Derived.Test.YtkhegeobdcemkaaGreatDoorRows
import Derived.Test.YtkhegeobdcemkaaGreatDoorSc02
import Derived.Test.YtkhegeobdcemkaaGreatDoorSc09
import Derived.Test.YtkhegeobdcemkaaGreatDoorSc03
import Derived.Test.YtkhegeobdcemkaaGreatDoorSc01
import Derived.Test.YtkhegeobdcemkaaGreatDoorSc07
import Derived.RegionTactic
/- The program's error of events, walked. -/
namespace Go.Proofs.YtkhegeobdcemkaaGreatDoor
set_option linter.unusedVariables false
open Go.RowKit

theorem evAt {w : World} {F : Nat → Prop} {l : List Ev} {A : Option Addr} {n c : Nat} (h : Sli evR w F l (.slice A n c)) (k : Nat) (hk : k < l.length) : ∃ b off, A = some ⟨b, off, none⟩ ∧ F b ∧ w.cell? ⟨b, off + k * 3, none⟩ = some (.string l[k].roll) ∧ w.cell? ⟨b, off + k * 3 + 1, none⟩ = some (.int .i64 l[k].tin) ∧ w.cell? ⟨b, off + k * 3 + 2, none⟩ = some (.int .i64 l[k].tout) := by
  obtain ⟨b, off, a, e, hb, hr, hc⟩ := h.at_ k hk
  have ha : a = (l[k]).cells := hr
  subst ha
  exact ⟨b, off, e, hb, hc 0 _ rfl, hc 1 _ rfl, hc 2 _ rfl⟩

/-- The rate that a walk over events knows after k of them. -/
def rateK (rolls : List Roll) (l : List Ev) (k : Nat) : Int := if k = 0 then 0 else evRate rolls l
theorem rate_bd {l : List Roll} {s : ByteArray} (h0 : rollsFault l = 0) (hh : rollHas l s = true) : isRateB (rollGet l s).rate = true ∧ 0 ≤ (rollGet l s).start ∧ (rollGet l s).start ≤ 2592000 ∧ 0 ≤ (rollGet l s).long ∧ (rollGet l s).long ≤ 2592000 := by
  have hm := rollsFault_ok l h0 _ (rollGet_mem hh)
  have hbad := hm.2.1
  have hf := frames_bd hm.1
  simp only [rollBadB, decide_eq_false_iff_not] at hbad
  exact ⟨hm.1, by omega, by omega, by omega, by omega⟩
theorem evF_no {l : List Roll} {q : Int} {x : Ev} (h : rollHas l x.roll = false) : evF l q x = 8 := if_pos h
theorem evF_rate {l : List Roll} {q : Int} {x : Ev} (h : rollHas l x.roll = true) (h2 : ¬ (rollGet l x.roll).rate = q) : evF l q x = 4 := by unfold evF; rw [if_neg (by rw [h]; decide), if_pos h2]
theorem evF_in {l : List Roll} {q : Int} {x : Ev} (h : rollHas l x.roll = true) (h2 : (rollGet l x.roll).rate = q) : evF l q x = if withinB (rollGet l x.roll) x.tin x.tout = false then 1 else 0 := by unfold evF; rw [if_neg (by rw [h]; decide), if_neg (by omega)]
theorem evErr_at {l : List Roll} {es : List Ev} {k : Nat} {q : Int} (g1 : ¬ 999 < es.length) (h : ∀ x ∈ es.take k, evF l (evRate l es) x = 0) (hk : k < es.length) (hf : evF l (evRate l es) es[k] = q) (h0 : ¬ q = 0) : evErr l es = q := by
  unfold evErr
  have h1 := firstE_at h hk (by rw [hf]; exact h0)
  rw [if_neg g1, if_pos (by rw [h1, hf]; exact h0), h1, hf]
theorem evErr_end {l : List Roll} {es : List Ev} (g1 : ¬ 999 < es.length) (h : ∀ x ∈ es, evF l (evRate l es) x = 0) : evErr l es = if framesN (evRate l es) < evSum es then 2 else 0 := by
  unfold evErr
  have h1 := firstE_all h
  rw [if_neg g1, if_neg (by rw [h1]; simp)]

end Go.Proofs.YtkhegeobdcemkaaGreatDoor

/- The reference's functions on rolls and rates. -/
namespace Go.Proofs.YtkhegeobdcemkaaGreatDoor
set_option linter.unusedVariables false
open Go.RowKit

theorem capDig_eq (s : ByteArray) : allB (([65, 66, 67, 68, 69, 70, 71, 72, 73, 74, 75, 76, 77, 78, 79, 80, 81, 82, 83, 84, 85, 86, 87, 88, 89, 90, 48, 49, 50, 51, 52, 53, 54, 55, 56, 57] : List UInt8).contains ·) s = allB capDig s := allB_congr (by decide +kernel) s

/-- The numbers of a rate, as the reference has them. -/
def rateV (r : Int) : Value := .tuple #[.int .i64 (countedN r), .int .i64 (framesN r), .int .i64 (numN r), .int .i64 (denN r), .bool (isRateB r)]

theorem results_tmp5 {fn : Func} {t u v x y : Tmp} (h : fn.results = #[.tmp t, .tmp u, .tmp v, .tmp x, .tmp y]) (tmps : Array Value) (P : Program) (w : World) :
    (results fn tmps).run P w = .ok (.tuple #[tmps.getD t undef, tmps.getD u undef, tmps.getD v undef, tmps.getD x undef, tmps.getD y undef]) w := by simp [results, h]

def rightB (r x : Int) : Bool := isRateB r && decide (0 ≤ x) && decide (x < framesN r)
end Go.Proofs.YtkhegeobdcemkaaGreatDoor

/- The reference's codes. -/
namespace Go.Proofs.YtkhegeobdcemkaaGreatDoor
set_option linter.unusedVariables false
open Go.RowKit Go.Sort

def twoR (n : Int) : ByteArray := ⟨#[UInt8.ofNat ((48 + (wrap64 (n.tdiv 10)).tmod 10) % 256).toNat, UInt8.ofNat ((48 + n.tmod 10) % 256).toNat]⟩
theorem twoR_eq {n : Int} (h0 : 0 ≤ n) (h1 : n < 100) : twoR n = twoS n := by
  rw [twoS_eq h0 h1]
  unfold twoR
  rw [Int.tdiv_eq_ediv_of_nonneg h0, Int.tmod_eq_emod_of_nonneg h0, IntWalk.wrap64_in (n / 10) (by omega), Int.tmod_eq_emod_of_nonneg (by omega : 0 ≤ n / 10)]
  rw [show (48 + n / 10 % 10) % 256 = 48 + n / 10 by omega, show (48 + n % 10) % 256 = 48 + n % 10 by omega]

theorem twoR_len (n : Int) : (twoR n).size = 2 := rfl

/-- The frames before a minute. -/
def minFr (r m : Int) : Int := if r = 4 then 1798 * m + 2 * ((m + 9) / 10) else 60 * countedN r * m
def minLen (r m : Int) : Int := if r = 4 ∧ m % 10 ≠ 0 then 1798 else 60 * countedN r
theorem minFr_step (r m : Int) : minFr r (m + 1) = minFr r m + minLen r m := by
  unfold minFr minLen
  by_cases h : r = 4
  · subst h
    rw [if_pos rfl, if_pos rfl, show countedN 4 = 30 from rfl]
    by_cases h0 : m % 10 = 0
    · rw [if_neg (by simp [h0])]; omega
    · rw [if_pos ⟨rfl, h0⟩]; omega
  · rw [if_neg h, if_neg h, if_neg (fun hh => h hh.1), Int.mul_add]; omega

theorem fmt_eqs (r c m z : Int) (hc : c = 24 ∨ c = 25 ∨ c = 30) (hm : 0 ≤ m) (hm2 : m < 1440) (h0 : 0 ≤ z) (h1 : z < 60 * c) :
    twoS ((60 * c * m + z) / c / 3600) ++ ⟨#[58]⟩ ++ twoS ((60 * c * m + z) / c / 60 % 60) ++ ⟨#[58]⟩ ++ twoS ((60 * c * m + z) / c % 60) ++ colonS r ++ twoS ((60 * c * m + z) % c)
      = twoS (m / 60) ++ ⟨#[58]⟩ ++ twoS (m % 60) ++ ⟨#[58]⟩ ++ twoS (z / c) ++ colonS r ++ twoS (z % c) ∧ m < 1440 ∧ z / c < 60 := by
  have a1 : (60 * c * m + z) / c / 3600 = m / 60 := by rcases hc with rfl | rfl | rfl <;> omega
  have a2 : (60 * c * m + z) / c / 60 % 60 = m % 60 := by rcases hc with rfl | rfl | rfl <;> omega
  have a3 : (60 * c * m + z) / c % 60 = z / c := by rcases hc with rfl | rfl | rfl <;> omega
  have a4 : (60 * c * m + z) % c = z % c := by rcases hc with rfl | rfl | rfl <;> omega
  rw [a1, a2, a3, a4]
  exact ⟨rfl, hm2, by rcases hc with rfl | rfl | rfl <;> omega⟩
theorem drop_eqs {x m y : Int} (hm : 0 ≤ m) (h : m % 10 ≠ 0) (hx : x = 1798 * m + 2 * ((m + 9) / 10) + y) (hy : 0 ≤ y) (hl : y < 1798) :
    1800 ≤ x % 17982 ∧ x + 18 * (x / 17982) + (2 + 2 * ((x % 17982 - 1800) / 1798)) = 60 * 30 * m + (y + 2) := by
  obtain ⟨q, s, h1, h2, h3⟩ : ∃ q s : Int, m = 10 * q + s ∧ 1 ≤ s ∧ s ≤ 9 := ⟨m / 10, m % 10, by omega, by omega, by omega⟩
  have e1 : (m + 9) / 10 = q + 1 := by omega
  rw [e1] at hx
  have e2 : x / 17982 = q := by omega
  have e3 : x % 17982 = 1798 * s + 2 + y := by omega
  have e4 : (x % 17982 - 1800) / 1798 = s - 1 := by omega
  rw [e2, e4, e3]
  omega
/-- The code, counted by minutes, is that of the program. -/
theorem codeS_min {r x m y : Int} (hr : isRateB r = true) (h0 : 0 ≤ x) (h1 : x < framesN r) (hm : 0 ≤ m) (hx : x = minFr r m + y) (hy : 0 ≤ y) (hl : y < minLen r m) :
    codeS r x = twoS (m / 60) ++ ⟨#[58]⟩ ++ twoS (m % 60) ++ ⟨#[58]⟩ ++ twoS ((y + (60 * countedN r - minLen r m)) / countedN r) ++ colonS r ++ twoS ((y + (60 * countedN r - minLen r m)) % countedN r)
    ∧ m < 1440 ∧ (y + (60 * countedN r - minLen r m)) / countedN r < 60 := by
  have key : ∀ z, adjN r x = 60 * countedN r * m + z → 0 ≤ z → z < 60 * countedN r → z = y + (60 * countedN r - minLen r m) → m < 1440 →
      codeS r x = twoS (m / 60) ++ ⟨#[58]⟩ ++ twoS (m % 60) ++ ⟨#[58]⟩ ++ twoS (z / countedN r) ++ colonS r ++ twoS (z % countedN r) ∧ m < 1440 ∧ z / countedN r < 60 := by
    intro z hz hz0 hz1 _ hm2
    unfold codeS fmtS
    rw [hz]
    rcases rate_cases hr with rfl | rfl | rfl | rfl
    · exact fmt_eqs 1 24 m z (.inl rfl) hm hm2 hz0 hz1
    · exact fmt_eqs 2 25 m z (.inr (.inl rfl)) hm hm2 hz0 hz1
    · exact fmt_eqs 3 30 m z (.inr (.inr rfl)) hm hm2 hz0 hz1
    · exact fmt_eqs 4 30 m z (.inr (.inr rfl)) hm hm2 hz0 hz1
  unfold minFr minLen at *
  rcases rate_cases hr with rfl | rfl | rfl | rfl
  · simp only [show countedN 1 = 24 from rfl, show framesN 1 = 2073600 from rfl] at *
    simp at hx hl ⊢
    have := key y (by show x = _; omega) (by omega) (by omega) (by simp) (by omega)
    simpa using this
  · simp only [show countedN 2 = 25 from rfl, show framesN 2 = 2160000 from rfl] at *
    simp at hx hl ⊢
    have := key y (by show x = _; omega) (by omega) (by omega) (by simp) (by omega)
    simpa using this
  · simp only [show countedN 3 = 30 from rfl, show framesN 3 = 2592000 from rfl] at *
    simp at hx hl ⊢
    have := key y (by show x = _; omega) (by omega) (by omega) (by simp) (by omega)
    simpa using this
  · simp only [show countedN 4 = 30 from rfl, show framesN 4 = 2589408 from rfl] at *
    have ha : adjN 4 x = x + 18 * (x / 17982) + (if 1800 ≤ x % 17982 then 2 + 2 * ((x % 17982 - 1800) / 1798) else 0) := by unfold adjN; rw [if_pos rfl]
    by_cases h10 : m % 10 = 0
    · simp [h10] at hx hl ⊢
      have := key y (by rw [ha, if_neg (by omega)]; omega) (by omega) (by omega) (by simp [h10]) (by omega)
      simpa [h10] using this
    · simp [h10] at hx hl ⊢
      have := key (y + 2) (by rw [ha, if_pos (drop_eqs hm h10 hx hy hl).1]; exact (drop_eqs hm h10 hx hy hl).2) (by omega) (by omega) (by simp [h10]) (by omega)
      simpa [h10] using this

theorem codeR_min {r x m y z : Int} (hr : isRateB r = true) (h0 : 0 ≤ x) (h1 : x < framesN r) (hm : 0 ≤ m) (hx : x = minFr r m + y) (hy : 0 ≤ y) (hl : y < minLen r m) (hz : z = y + (60 * countedN r - minLen r m)) :
    codeS r x = twoR (m / 60) ++ ⟨#[58]⟩ ++ twoR (m % 60) ++ ⟨#[58]⟩ ++ twoR (z / countedN r) ++ colonS r ++ twoR (z % countedN r) ∧ m < 1440 ∧ 0 ≤ z ∧ z < 60 * countedN r := by
  obtain ⟨a, b, c⟩ := codeS_min hr h0 h1 hm hx hy hl
  subst hz
  have hc : countedN r = 24 ∨ countedN r = 25 ∨ countedN r = 30 := by rcases rate_cases hr with rfl | rfl | rfl | rfl <;> decide
  have hll : minLen r m ≤ 60 * countedN r := by
    unfold minLen
    split
    · rename_i h; rw [h.1, show countedN 4 = 30 from rfl]; omega
    · omega
  have hz0 : 0 ≤ y + (60 * countedN r - minLen r m) := by omega
  generalize y + (60 * countedN r - minLen r m) = z at *
  generalize minLen r m = q at *
  refine ⟨?_, b, hz0, by rcases hc with h | h | h <;> rw [h] at c ⊢ <;> omega⟩
  rw [twoR_eq (by omega) (by omega), twoR_eq (by omega) (by omega)]
  rw [twoR_eq (by rcases hc with h | h | h <;> rw [h] <;> omega) (by rcases hc with h | h | h <;> rw [h] at c ⊢ <;> omega), twoR_eq (by rcases hc with h | h | h <;> rw [h] <;> omega) (by rcases hc with h | h | h <;> rw [h] <;> omega)]
  exact a
theorem minFr_bd (r m : Int) (hm : 0 ≤ m) (hr : isRateB r = true) (hx : minFr r m < framesN r) : m < 1440 := by
  unfold minFr at hx
  rcases rate_cases hr with rfl | rfl | rfl | rfl
  all_goals simp only [show countedN 1 = 24 from rfl, show countedN 2 = 25 from rfl, show countedN 3 = 30 from rfl, show framesN 1 = 2073600 from rfl, show framesN 2 = 2160000 from rfl, show framesN 3 = 2592000 from rfl, show framesN 4 = 2589408 from rfl] at hx; simp at hx; omega
end Go.Proofs.YtkhegeobdcemkaaGreatDoor

/- The generator's codes. -/
namespace Go.Proofs.YtkhegeobdcemkaaGreatDoor
set_option linter.unusedVariables false
open Go.RowKit Go.Sort

theorem codeS_len (r x : Int) : (codeS r x).size = 11 := by
  have h : ∀ n, (twoS n).size = 2 := fun _ => rfl
  have h1 : (⟨#[58]⟩ : ByteArray).size = 1 := rfl
  have h2 : (colonS r).size = 1 := by unfold colonS; split <;> rfl
  unfold codeS fmtS
  simp only [ByteArray.size_append, h, h1, h2]

end Go.Proofs.YtkhegeobdcemkaaGreatDoor

/- The program's error of a take that is written. -/
namespace Go.Proofs.YtkhegeobdcemkaaGreatDoor
set_option linter.unusedVariables false
open Go.RowKit Go.Sort

def TfP (t : Tk) (w : World) (e : Ending) (w' : World) : Prop := e = .returned (.int .i64 (tkFE t)) ∧ Below w.heap.size w w'
theorem TfP.mk {t : Tk} {q : Int} {w w' : World} (h : tkFE t = q) (hb : Below w.heap.size w w') : TfP t w (.returned (.int .i64 q)) w' := ⟨by rw [h], hb⟩
theorem covAt {w : World} {F : Nat → Prop} {l : List Cov} {A : Option Addr} {n c : Nat} (h : Sli covR w F l (.slice A n c)) (k : Nat) (hk : k < l.length) : ∃ b off, A = some ⟨b, off, none⟩ ∧ F b ∧ w.cell? ⟨b, off + k * 4, none⟩ = some (.int .i64 l[k].para) ∧ w.cell? ⟨b, off + k * 4 + 1, none⟩ = some (.int .i64 l[k].tin) ∧ w.cell? ⟨b, off + k * 4 + 2, none⟩ = some (.int .i64 l[k].tout) ∧ w.cell? ⟨b, off + k * 4 + 3, none⟩ = some (.bool l[k].on) := by
  obtain ⟨b, off, a, e, hb, hr, hc⟩ := h.at_ k hk
  have ha : a = (l[k]).cells := hr
  subst ha
  exact ⟨b, off, e, hb, hc 0 _ rfl, hc 1 _ rfl, hc 2 _ rfl, hc 3 _ rfl⟩
theorem Own.less' {w : World} {base lo base' : Nat} {e : TypeId} {l : List Int} {v : Value} (h : Own intR w base lo e l v) (hb : base' ≤ base) : Own intR w base' base' e l v := Own.less (n := 1) (enc := fun x => [.int .i64 x]) (hn := fun _ => rfl) h hb
theorem Own.lit2 (w : World) (e : TypeId) (x y : Int) : Own intR (w.alloc (.cells #[.int .i64 x, .int .i64 y] e)) w.heap.size w.heap.size e [x, y] (.slice (some ⟨w.heap.size, 0, none⟩) 2 2) :=
  ⟨[.int .i64 x, .int .i64 y], ⟨rfl, .inr ⟨w.heap.size, 2, #[.int .i64 x, .int .i64 y], rfl, Nat.le_refl _, heap_alloc_new w _, Nat.le_refl _, by decide, rfl, rfl⟩⟩, rfl, fun k z hk => by
    match k with
    | 0 => simp at hk; subst hk; rfl
    | 1 => simp at hk; subst hk; rfl
    | k + 2 => simp at hk⟩

end Go.Proofs.YtkhegeobdcemkaaGreatDoor

/- The program's error of takes that are written. -/
namespace Go.Proofs.YtkhegeobdcemkaaGreatDoor
set_option linter.unusedVariables false
open Go.RowKit Go.Sort

/-- Takes in memory. -/
structure TkW (w : World) (F : Nat → Prop) (tl : List (Tk × Value)) (v : Value) : Prop where
  sli : Sli tvR w F tl v
  cov : ∀ x ∈ tl, Sli covR w F x.1.covers x.2
  lt : ∀ b, F b → b < w.heap.size
  len : tl.length ≤ 1000000
  bd : ∀ x ∈ tl, x.1.scene.size ≤ 1000000 ∧ x.1.setup.size ≤ 1000000 ∧ x.1.roll.size ≤ 1000000 ∧ x.1.sound.size ≤ 1000000 ∧ x.1.covers.length ≤ 300000
theorem TkW.below {w w' : World} {F : Nat → Prop} {tl : List (Tk × Value)} {v : Value} (h : TkW w F tl v) (hb : Below w.heap.size w w') : TkW w' F tl v :=
  ⟨h.sli.below hb h.lt, fun y hy => (h.cov y hy).below hb h.lt, fun b hF => Nat.lt_of_lt_of_le (h.lt b hF) hb.size, h.len, h.bd⟩
def tkFEs : List Tk → Int
  | [] => 0
  | t :: r => if ¬ tkFE t = 0 then tkFE t else tkFEs r
def tksE (l : List Tk) : Int := if 3000 < l.length then 2 else tkFEs l
theorem tkFEs_step (l : List Tk) (k : Nat) (hk : k < l.length) : tkFEs (l.drop k) = if ¬ tkFE l[k] = 0 then tkFE l[k] else tkFEs (l.drop (k + 1)) := by
  rw [List.drop_eq_getElem_cons hk, tkFEs]
theorem tkFEs_ok : ∀ l : List Tk, tkFEs l = 0 → ∀ t ∈ l, tkFE t = 0
  | [], _, t, ht => by cases ht
  | t :: r, h, u, hu => by
    rw [tkFEs] at h
    by_cases h1 : tkFE t = 0
    · rw [if_neg (fun h => h h1)] at h
      rcases List.mem_cons.1 hu with rfl | hu
      · exact h1
      · exact tkFEs_ok r h u hu
    · rw [if_pos h1] at h; exact absurd h h1
def TsP (l : List Tk) (w : World) (e : Ending) (w' : World) : Prop := e = .returned (.int .i64 (tksE l)) ∧ Below w.heap.size w w'
theorem TsP.mk {l : List Tk} {q : Int} {w w' : World} (h : tksE l = q) (hb : Below w.heap.size w w') : TsP l w (.returned (.int .i64 q)) w' := ⟨by rw [h], hb⟩
end Go.Proofs.YtkhegeobdcemkaaGreatDoor

