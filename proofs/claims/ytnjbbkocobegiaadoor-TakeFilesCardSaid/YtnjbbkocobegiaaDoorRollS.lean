/- Rolls, rates and frames in plain words: what the program and the reference both compute. No program in sight. -/
import Derived.Test.YtnjbbkocobegiaaDoorMem
namespace Go.Proofs.YtnjbbkocobegiaaDoor
set_option linter.unusedVariables false
open Go.RowKit

/-- A number with two digits. -/
def twoS (n : Int) : ByteArray := ⟨#[UInt8.ofNat (wrap64 (48 + wrap64 (n.tdiv 10)) % 256).toNat, UInt8.ofNat (wrap64 (48 + n.tmod 10) % 256).toNat]⟩
theorem twoS_eq {n : Int} (h0 : 0 ≤ n) (h1 : n < 100) : twoS n = ⟨#[UInt8.ofNat (48 + n / 10).toNat, UInt8.ofNat (48 + n % 10).toNat]⟩ := by
  unfold twoS
  rw [Int.tdiv_eq_ediv_of_nonneg h0, Int.tmod_eq_emod_of_nonneg h0, IntWalk.wrap64_in (n / 10) (by omega), IntWalk.wrap64_in (48 + n / 10) (by omega), IntWalk.wrap64_in (48 + n % 10) (by omega)]
  rw [Int.emod_eq_of_lt (by omega) (by omega), Int.emod_eq_of_lt (by omega) (by omega)]

structure Roll where
  name : ByteArray
  rate : Int
  start : Int
  long : Int
  drift : Int

def Roll.cells (r : Roll) : List Value := [.string r.name, .int .i64 r.rate, .int .i64 r.start, .int .i64 r.long, .int .i64 r.drift]
def Roll.val (r : Roll) : Value := .agg #[.string r.name, .int .i64 r.rate, .int .i64 r.start, .int .i64 r.long, .int .i64 r.drift]
def Roll.zero : Roll := ⟨⟨#[]⟩, 0, 0, 0, 0⟩

def isRateB (r : Int) : Bool := decide (1 ≤ r ∧ r ≤ 4)
def countedN (r : Int) : Int := if r = 1 then 24 else if r = 2 then 25 else if r = 3 then 30 else if r = 4 then 30 else 0
def framesN (r : Int) : Int := if r = 1 then 2073600 else if r = 2 then 2160000 else if r = 3 then 2592000 else if r = 4 then 2589408 else 0
def numN (r : Int) : Int := if r = 1 then 24 else if r = 2 then 25 else if r = 3 then 30 else if r = 4 then 30000 else 0
def denN (r : Int) : Int := if r = 4 then 1001 else if r = 1 ∨ r = 2 ∨ r = 3 then 1 else 0
theorem rate_cases {r : Int} (h : isRateB r = true) : r = 1 ∨ r = 2 ∨ r = 3 ∨ r = 4 := by simp [isRateB] at h; omega

/-- The number of the code of a frame, and its text. -/
def adjN (r x : Int) : Int := if r = 4 then x + 18 * (x / 17982) + (if 1800 ≤ x % 17982 then 2 + 2 * ((x % 17982 - 1800) / 1798) else 0) else x
def colonS (r : Int) : ByteArray := if r = 4 then ⟨#[59]⟩ else ⟨#[58]⟩
def fmtS (r s n : Int) : ByteArray := twoS (s / 3600) ++ ⟨#[58]⟩ ++ twoS (s / 60 % 60) ++ ⟨#[58]⟩ ++ twoS (s % 60) ++ colonS r ++ twoS n
def codeS (r x : Int) : ByteArray := fmtS r (adjN r x / countedN r) (adjN r x % countedN r)

def gcdI (a b : Int) : Int := (Nat.gcd a.toNat b.toNat : Nat)
theorem gcdI_step (a b : Int) (ha : 0 ≤ a) (hb : 0 < b) : gcdI b (a % b) = gcdI a b := by
  unfold gcdI
  have h : (a % b).toNat = a.toNat % b.toNat := by
    rw [Int.toNat_emod ha (by omega)]
  rw [h, Nat.gcd_comm b.toNat (a.toNat % b.toNat), ← Nat.gcd_rec, Nat.gcd_comm]
theorem gcdI_zero (a : Int) (ha : 0 ≤ a) : gcdI a 0 = a := by simp [gcdI]; omega

theorem num_bd {r : Int} (h : isRateB r = true) : 24 ≤ numN r ∧ numN r ≤ 30000 ∧ 1 ≤ denN r ∧ denN r ≤ 1001 := by
  rcases rate_cases h with rfl | rfl | rfl | rfl <;> decide
theorem frames_bd {r : Int} (h : isRateB r = true) : 2073600 ≤ framesN r ∧ framesN r ≤ 2592000 := by
  rcases rate_cases h with rfl | rfl | rfl | rfl <;> decide
theorem gcdI_pos (a b : Int) (ha : 1 ≤ a) : 1 ≤ gcdI a b := by
  unfold gcdI
  have := Nat.gcd_pos_of_pos_left (n := b.toNat) (show 0 < a.toNat by omega)
  omega
theorem gcdI_dvd (a b : Int) (ha : 0 ≤ a) (hb : 0 ≤ b) : gcdI a b ∣ a ∧ gcdI a b ∣ b := by
  unfold gcdI
  obtain ⟨x, rfl⟩ := Int.eq_ofNat_of_zero_le ha
  obtain ⟨y, rfl⟩ := Int.eq_ofNat_of_zero_le hb
  exact ⟨Int.natCast_dvd_natCast.2 (by simpa using Nat.gcd_dvd_left x y), Int.natCast_dvd_natCast.2 (by simpa using Nat.gcd_dvd_right x y)⟩

def upDown (f t : Int) : Int × Int :=
  (numN t * denN f / gcdI (numN t * denN f) (denN t * numN f), denN t * numN f / gcdI (numN t * denN f) (denN t * numN f))

theorem mul_bd {a b x y : Int} (ha : 0 ≤ a) (hb : 0 ≤ b) (h1 : a ≤ x) (h2 : b ≤ y) : 0 ≤ a * b ∧ a * b ≤ x * y :=
  ⟨Int.mul_nonneg ha hb, Int.mul_le_mul h1 h2 hb (by omega)⟩
theorem mul_one_le {a b : Int} (ha : 1 ≤ a) (hb : 1 ≤ b) : 1 ≤ a * b := by
  have := Int.mul_le_mul ha hb (by omega) (by omega); omega
/-- The two numbers of a ratio. -/
theorem nd_bd {f t : Int} (hf : isRateB f = true) (ht : isRateB t = true) : 1 ≤ numN t * denN f ∧ numN t * denN f ≤ 30030000 ∧ 1 ≤ denN t * numN f ∧ denN t * numN f ≤ 30030000 := by
  have h1 := num_bd hf
  have h2 := num_bd ht
  have a := mul_bd (a := numN t) (b := denN f) (by omega) (by omega) h2.2.1 h1.2.2.2
  have b := mul_bd (a := denN t) (b := numN f) (by omega) (by omega) h2.2.2.2 h1.2.1
  have c := mul_one_le (a := numN t) (b := denN f) (by omega) (by omega)
  have d := mul_one_le (a := denN t) (b := numN f) (by omega) (by omega)
  omega
theorem div_le {a g : Int} (ha : 0 ≤ a) : a / g ≤ a := Int.ediv_le_self g ha
theorem ud_bd {f t : Int} (hf : isRateB f = true) (ht : isRateB t = true) : 1 ≤ (upDown f t).1 ∧ (upDown f t).1 ≤ 30030000 ∧ 1 ≤ (upDown f t).2 ∧ (upDown f t).2 ≤ 30030000 := by
  have h := nd_bd hf ht
  have hp := gcdI_pos (numN t * denN f) (denN t * numN f) h.1
  obtain ⟨⟨p, hp1⟩, ⟨q, hq1⟩⟩ := gcdI_dvd (numN t * denN f) (denN t * numN f) (by omega) (by omega)
  unfold upDown
  dsimp only
  have e1 : numN t * denN f / gcdI (numN t * denN f) (denN t * numN f) = p := by
    conv => lhs; lhs; rw [hp1]
    exact Int.mul_ediv_cancel_left _ (by omega)
  have e2 : denN t * numN f / gcdI (numN t * denN f) (denN t * numN f) = q := by
    conv => lhs; lhs; rw [hq1]
    exact Int.mul_ediv_cancel_left _ (by omega)
  have l1 := div_le (a := numN t * denN f) (g := gcdI (numN t * denN f) (denN t * numN f)) (by omega)
  have l2 := div_le (a := denN t * numN f) (g := gcdI (numN t * denN f) (denN t * numN f)) (by omega)
  rw [e1] at l1 ⊢
  rw [e2] at l2 ⊢
  refine ⟨?_, by omega, ?_, by omega⟩
  · by_cases hh : 1 ≤ p
    · exact hh
    · exfalso
      have : gcdI (numN t * denN f) (denN t * numN f) * p ≤ 0 := Int.mul_nonpos_of_nonneg_of_nonpos (by omega) (by omega)
      omega
  · by_cases hh : 1 ≤ q
    · exact hh
    · exfalso
      have : gcdI (numN t * denN f) (denN t * numN f) * q ≤ 0 := Int.mul_nonpos_of_nonneg_of_nonpos (by omega) (by omega)
      omega

def convN (x f t : Int) : Int := x * (upDown f t).1 / (upDown f t).2
def convA (x f t : Int) : Int := if framesN t ≤ convN x f t then 0 else convN x f t
def convE (x f t : Int) : Int := if framesN t ≤ convN x f t then 1 else 0

def capDig (c : UInt8) : Bool := (decide (65 ≤ c.toNat) && decide (c.toNat ≤ 90)) || (decide (48 ≤ c.toNat) && decide (c.toNat ≤ 57))
theorem ud_small {f t : Int} (hf : isRateB f = true) (ht : isRateB t = true) : 1 ≤ (upDown f t).1 ∧ (upDown f t).1 ≤ 1250 ∧ 1 ≤ (upDown f t).2 ∧ (upDown f t).2 ≤ 1250 := by
  rcases rate_cases hf with rfl | rfl | rfl | rfl <;> rcases rate_cases ht with rfl | rfl | rfl | rfl <;> decide +kernel

def rollNameB (s : ByteArray) : Bool := decide (1 ≤ s.size ∧ s.size ≤ 8) && allB capDig s
def rollBadB (r : Roll) : Bool := decide (r.start < 0 ∨ framesN r.rate ≤ r.start ∨ r.long < 1 ∨ framesN r.rate - r.start < r.long ∨ r.drift < -1000 ∨ 1000 < r.drift)
/-- The error of a roll behind others. -/
def rollFault (pre : List Roll) (r : Roll) : Int :=
  if rollNameB r.name = false then 5 else if (pre.any fun y => decide (y.name = r.name)) = true then 6 else if isRateB r.rate = false then 4 else if rollBadB r = true then 1 else 0
def rollsFrom : List Roll → List Roll → Int
  | _, [] => 0
  | pre, r :: rest => if rollFault pre r = 0 then rollsFrom (pre ++ [r]) rest else rollFault pre r
def rollsFault (l : List Roll) : Int := if 200 < l.length then 2 else rollsFrom [] l
theorem rollsFrom_step (l : List Roll) (k : Nat) (hk : k < l.length) :
    rollsFrom (l.take k) (l.drop k) = if rollFault (l.take k) l[k] = 0 then rollsFrom (l.take (k + 1)) (l.drop (k + 1)) else rollFault (l.take k) l[k] := by
  rw [List.drop_eq_getElem_cons hk, rollsFrom, List.take_succ_eq_append_getElem hk]
theorem rollsFrom_end (l : List Roll) (k : Nat) (hk : l.length ≤ k) : rollsFrom (l.take k) (l.drop k) = 0 := by
  rw [List.drop_eq_nil_of_le hk, rollsFrom]
/-- What a right list of rolls gives. -/
theorem rollsFrom_ok (l : List Roll) (pre : List Roll) (h : rollsFrom pre l = 0) : ∀ r ∈ l, isRateB r.rate = true ∧ rollBadB r = false ∧ rollNameB r.name = true := by
  induction l generalizing pre with
  | nil => simp
  | cons x l ih =>
    rw [rollsFrom] at h
    have hx : rollFault pre x = 0 := by by_cases hf : rollFault pre x = 0 <;> simp_all
    rw [if_pos hx] at h
    intro r hr
    rcases List.mem_cons.1 hr with rfl | hr
    · unfold rollFault at hx
      split at hx
      · omega
      · split at hx
        · omega
        · split at hx
          · omega
          · split at hx
            · omega
            · rename_i h1 _ h2 h3
              exact ⟨by simpa using h2, by simpa using h3, by simpa using h1⟩
    · exact ih _ h r hr
theorem rollsFault_ok (l : List Roll) (h : rollsFault l = 0) : ∀ r ∈ l, isRateB r.rate = true ∧ rollBadB r = false ∧ rollNameB r.name = true := by
  unfold rollsFault at h
  split at h
  · cases h
  · exact rollsFrom_ok l [] h

/-- The roll with a name. -/
def rollIdx (l : List Roll) (s : ByteArray) : Option Nat := l.findIdx? fun y => decide (y.name = s)
def rollHas (l : List Roll) (s : ByteArray) : Bool := (rollIdx l s).isSome
def rollGet (l : List Roll) (s : ByteArray) : Roll := match rollIdx l s with
  | some k => (l[k]?).getD Roll.zero
  | none => Roll.zero
theorem rollIdx_lt {l : List Roll} {s : ByteArray} {k : Nat} (h : rollIdx l s = some k) : k < l.length := by
  unfold rollIdx at h
  rw [List.findIdx?_eq_some_iff_getElem] at h
  exact h.1
theorem rollGet_mem {l : List Roll} {s : ByteArray} (h : rollHas l s = true) : rollGet l s ∈ l := by
  unfold rollHas at h
  cases hi : rollIdx l s with
  | none => rw [hi] at h; cases h
  | some k =>
    have hk := rollIdx_lt hi
    simp [rollGet, hi, hk]

/-- The frame of the sound's roll: its place and its error. -/
def onB (start long x : Int) : Bool := decide (start ≤ x) && decide (x < start + long)
def syncN (r s : Roll) (tin frame : Int) : Int := convN tin r.rate s.rate + (frame - tin) * (upDown r.rate s.rate).1 * (1000000 + s.drift) / ((upDown r.rate s.rate).2 * 1000000)
def syncE (l : List Roll) (roll sound : ByteArray) (tin tout frame : Int) : Int :=
  if rollsFault l ≠ 0 then rollsFault l else if rollHas l roll = false then 8 else if rollHas l sound = false then 8
  else if frame < tin then 1 else if tout ≤ frame then 1 else if onB (rollGet l roll).start (rollGet l roll).long tin = false then 1 else if onB (rollGet l roll).start (rollGet l roll).long (tout - 1) = false then 1
  else if framesN (rollGet l sound).rate ≤ convN tin (rollGet l roll).rate (rollGet l sound).rate then 1
  else if onB (rollGet l sound).start (rollGet l sound).long (syncN (rollGet l roll) (rollGet l sound) tin frame) = false then 1 else 0
def syncA (l : List Roll) (roll sound : ByteArray) (tin tout frame : Int) : Int :=
  if syncE l roll sound tin tout frame = 0 then syncN (rollGet l roll) (rollGet l sound) tin frame else 0
theorem convN_nonneg {x f t : Int} (hf : isRateB f = true) (ht : isRateB t = true) (hx : 0 ≤ x) : 0 ≤ convN x f t := by
  have h := ud_small hf ht
  exact Int.ediv_nonneg (Int.mul_nonneg hx (by omega)) (by omega)
/-- What the sums of a frame stay below. -/
theorem sync_bd {r s : Roll} {tin frame : Int} (hr : isRateB r.rate = true) (hs : isRateB s.rate = true) (hd : -1000 ≤ s.drift) (hd2 : s.drift ≤ 1000) (h1 : tin ≤ frame) (h2 : frame - tin ≤ 2592000) :
    0 ≤ (frame - tin) * (upDown r.rate s.rate).1 ∧ (frame - tin) * (upDown r.rate s.rate).1 ≤ 3240000000 ∧ 0 ≤ (frame - tin) * (upDown r.rate s.rate).1 * (1000000 + s.drift) ∧ (frame - tin) * (upDown r.rate s.rate).1 * (1000000 + s.drift) ≤ 3243240000000000
      ∧ 1000000 ≤ (upDown r.rate s.rate).2 * 1000000 ∧ (upDown r.rate s.rate).2 * 1000000 ≤ 1250000000
      ∧ 0 ≤ (frame - tin) * (upDown r.rate s.rate).1 * (1000000 + s.drift) / ((upDown r.rate s.rate).2 * 1000000) ∧ (frame - tin) * (upDown r.rate s.rate).1 * (1000000 + s.drift) / ((upDown r.rate s.rate).2 * 1000000) ≤ 3243240000000000 := by
  have h := ud_small hr hs
  have a := mul_bd (a := frame - tin) (b := (upDown r.rate s.rate).1) (by omega) (by omega) h2 h.2.1
  have b := mul_bd (a := (frame - tin) * (upDown r.rate s.rate).1) (b := 1000000 + s.drift) a.1 (by omega) a.2 (show _ ≤ (1001000 : Int) by omega)
  have c : 0 ≤ (frame - tin) * (upDown r.rate s.rate).1 * (1000000 + s.drift) / ((upDown r.rate s.rate).2 * 1000000) := Int.ediv_nonneg b.1 (by omega)
  have d := Int.ediv_le_self ((upDown r.rate s.rate).2 * 1000000) b.1
  omega
end Go.Proofs.YtnjbbkocobegiaaDoor
