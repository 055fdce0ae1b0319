/- Decimal numerals, in plain words. No program in sight. -/
import Derived.Test.YtnjbbkocobegiaaDoorMem
import Derived.Lib.AtoiAll
import Derived.Lib.ItoaNum
namespace Go.Proofs.YtnjbbkocobegiaaDoor
set_option linter.unusedVariables false
open Go.RowKit

def figC (c : UInt8) : Bool := decide (48 ≤ c.toNat) && decide (c.toNat ≤ 57)
theorem figC_iff {c : UInt8} : figC c = true ↔ 48 ≤ c.toNat ∧ c.toNat ≤ 57 := by simp [figC]
def dval (acc : Nat) (l : List UInt8) : Nat := l.foldl (fun a c => a * 10 + (c.toNat - 48)) acc
theorem dval_snoc (acc : Nat) (l : List UInt8) (c : UInt8) : dval acc (l ++ [c]) = dval acc l * 10 + (c.toNat - 48) := by simp [dval]
theorem dval_cons (acc : Nat) (l : List UInt8) (c : UInt8) : dval acc (c :: l) = dval (acc * 10 + (c.toNat - 48)) l := by unfold dval; rw [List.foldl_cons]
theorem dval_ge (l : List UInt8) : ∀ acc, acc ≤ dval acc l := by
  induction l with
  | nil => intro acc; exact Nat.le_refl _
  | cons c l ih => intro acc; rw [dval_cons]; have := ih (acc * 10 + (c.toNat - 48)); omega
theorem dval_lt (l : List UInt8) : ∀ acc k, (∀ c ∈ l, figC c = true) → acc < 10 ^ k → dval acc l < 10 ^ (k + l.length) := by
  induction l with
  | nil => intro acc k _ h; simpa [dval] using h
  | cons c l ih =>
    intro acc k hf h
    rw [dval_cons]
    have hc := figC_iff.1 (hf c (by simp))
    have := ih (acc * 10 + (c.toNat - 48)) (k + 1) (fun x hx => hf x (by simp [hx])) (by rw [Nat.pow_succ]; omega)
    simp only [List.length_cons]
    rw [show k + (l.length + 1) = k + 1 + l.length by omega]
    exact this
theorem parse_ok (l : List UInt8) : ∀ acc, (∀ c ∈ l, figC c = true) → dval acc l < 18446744073709551616 → Lib.parseUint10 acc l = .ok (dval acc l) := by
  induction l with
  | nil => intro acc _ _; rfl
  | cons c l ih =>
    intro acc hf h
    rw [dval_cons] at h ⊢
    have hc := figC_iff.1 (hf c (by simp))
    have hg := dval_ge l (acc * 10 + (c.toNat - 48))
    rw [Lib.parseUint10, if_pos hc, if_neg (by omega), if_neg (by omega)]
    exact ih _ (fun x hx => hf x (by simp [hx])) h
theorem ofNat_fig {d : Nat} (h : d < 10) : (UInt8.ofNat (48 + d)).toNat = 48 + d := by
  rw [UInt8.toNat_ofNat']; omega
theorem dec_lt {u : Nat} (h : u < 10) : Lib.decDigits u = [UInt8.ofNat (48 + u)] := by rw [Lib.decDigits, dif_pos h]
theorem dec_ge {u : Nat} (h : ¬ u < 10) : Lib.decDigits u = Lib.decDigits (u / 10) ++ [UInt8.ofNat (48 + u % 10)] := by rw [Lib.decDigits, dif_neg h]
theorem dec_fig (u : Nat) : ∀ c ∈ Lib.decDigits u, figC c = true := by
  induction u using Nat.strongRecOn with
  | _ u ih =>
    intro c hc
    by_cases h : u < 10
    · rw [dec_lt h] at hc
      obtain rfl : c = UInt8.ofNat (48 + u) := by simpa using hc
      rw [figC_iff, ofNat_fig h]; omega
    · rw [dec_ge h, List.mem_append] at hc
      rcases hc with hc | hc
      · exact ih (u / 10) (by omega) c hc
      · obtain rfl : c = UInt8.ofNat (48 + u % 10) := by simpa using hc
        rw [figC_iff, ofNat_fig (d := u % 10) (by omega)]; omega
theorem dec_val (u : Nat) : dval 0 (Lib.decDigits u) = u := by
  induction u using Nat.strongRecOn with
  | _ u ih =>
    by_cases h : u < 10
    · rw [dec_lt h]
      show 0 * 10 + ((UInt8.ofNat (48 + u)).toNat - 48) = u
      rw [ofNat_fig h]; omega
    · rw [dec_ge h, dval_snoc, ih (u / 10) (by omega), ofNat_fig (d := u % 10) (by omega)]; omega
theorem dec_pos (u : Nat) : Lib.decDigits u ≠ [] := by
  by_cases h : u < 10
  · rw [dec_lt h]; simp
  · rw [dec_ge h]; simp
theorem dec_head (u : Nat) (hu : 1 ≤ u) : ∃ c l, Lib.decDigits u = c :: l ∧ c.toNat ≠ 48 := by
  induction u using Nat.strongRecOn with
  | _ u ih =>
    by_cases h : u < 10
    · rw [dec_lt h]; exact ⟨_, _, rfl, by rw [ofNat_fig h]; omega⟩
    · obtain ⟨c, l, hl, hc⟩ := ih (u / 10) (by omega) (by omega)
      rw [dec_ge h, hl]; exact ⟨c, l ++ _, rfl, hc⟩
theorem u8_ext {a b : UInt8} (h : a.toNat = b.toNat) : a = b := UInt8.toNat.inj h
/-- A numeral without a 0 before others. -/
def Canon (l : List UInt8) : Prop := l ≠ [] ∧ (∀ c ∈ l, figC c = true) ∧ (l.length = 1 ∨ l.head?.map (·.toNat) ≠ some 48)
theorem canon_dec (u : Nat) : Canon (Lib.decDigits u) := by
  refine ⟨dec_pos u, dec_fig u, ?_⟩
  by_cases h : u < 10
  · rw [dec_lt h]; exact .inl rfl
  · obtain ⟨c, l, hl, hc⟩ := dec_head u (by omega)
    rw [hl]; right; simpa using hc
theorem dval_pos {l : List UInt8} (h : l ≠ []) (hf : ∀ c ∈ l, figC c = true) (h0 : l.head?.map (·.toNat) ≠ some 48) : 1 ≤ dval 0 l := by
  cases l with
  | nil => exact absurd rfl h
  | cons c l =>
    have hc := figC_iff.1 (hf c (by simp))
    simp at h0
    rw [dval_cons]
    have := dval_ge l (0 * 10 + (c.toNat - 48))
    omega
theorem dec_of (n : Nat) : ∀ l : List UInt8, l.length = n → Canon l → Lib.decDigits (dval 0 l) = l := by
  induction n with
  | zero => intro l hl hc; exact absurd (List.length_eq_zero_iff.1 hl) hc.1
  | succ n ih =>
    intro l hl hc
    obtain ⟨h1, h2, h3⟩ := hc
    obtain ⟨t, c, rfl⟩ : ∃ t c, l = t ++ [c] := ⟨l.dropLast, l.getLast h1, (List.dropLast_concat_getLast h1).symm⟩
    have hcf := figC_iff.1 (h2 c (by simp))
    rw [dval_snoc]
    by_cases ht : t = []
    · subst ht
      rw [show dval 0 ([] : List UInt8) = 0 from rfl, dec_lt (by omega), List.nil_append]
      congr 1
      exact u8_ext (by rw [ofNat_fig (by omega)]; omega)
    · have hl1 : ¬ (t ++ [c]).length = 1 := by
        cases t with
        | nil => exact absurd rfl ht
        | cons x t => simp
      have h4 := h3.resolve_left hl1
      have h5 : t.head?.map (·.toNat) ≠ some 48 := by
        cases t with
        | nil => exact absurd rfl ht
        | cons x t => simpa using h4
      have h6 : ∀ x ∈ t, figC x = true := fun x hx => h2 x (by simp [hx])
      have hp := dval_pos ht h6 h5
      rw [dec_ge (by omega)]
      rw [show (dval 0 t * 10 + (c.toNat - 48)) / 10 = dval 0 t by omega, show (dval 0 t * 10 + (c.toNat - 48)) % 10 = c.toNat - 48 by omega]
      rw [ih t (by simpa using hl) ⟨ht, h6, .inr h5⟩]
      congr 2
      exact u8_ext (by rw [ofNat_fig (by omega)]; omega)
theorem mag_ok {l : List UInt8} (h : l ≠ []) (hf : ∀ c ∈ l, figC c = true) (hb : dval 0 l < 18446744073709551616) : Lib.parseMag l = .ok (dval 0 l) := by
  unfold Lib.parseMag
  rw [if_neg h]
  exact parse_ok l 0 hf hb
/-- Atoi of digits. -/
theorem atoi_digits {l : List UInt8} (h : l ≠ []) (hf : ∀ c ∈ l, figC c = true) (hb : dval 0 l < 9223372036854775808) : Lib.atoiAll l = .ok (dval 0 l : Int) := by
  have hm := mag_ok h hf (by omega)
  cases l with
  | nil => exact absurd rfl h
  | cons c l =>
    have hc := figC_iff.1 (hf c (by simp))
    unfold Lib.atoiAll
    have n1 : ¬ (c.toNat = 43 ∨ c.toNat = 45) := by omega
    have n2 : ¬ c.toNat = 45 := by omega
    simp only [if_neg n1, hm]
    rw [if_neg (by omega), if_neg (by omega), if_neg n2]
theorem atoi_itoa (n : Int) (h : okI n) : Lib.atoiAll (Lib.itoa n) = .ok n := by
  obtain ⟨h0, h1⟩ := h
  unfold Lib.itoa
  by_cases hn : n < 0
  · rw [if_pos hn]
    unfold Lib.atoiAll
    have hm := mag_ok (dec_pos n.natAbs) (dec_fig n.natAbs) (by rw [dec_val]; omega)
    rw [dec_val] at hm
    have e45 : (45 : UInt8).toNat = 45 := rfl
    simp only [e45]
    rw [if_pos (.inr trivial), hm]
    simp only
    rw [if_neg (by simp), if_neg (by omega), if_pos trivial]
    congr 1; omega
  · rw [if_neg hn, atoi_digits (dec_pos _) (dec_fig _) (by rw [dec_val]; omega), dec_val]
    congr 1; omega
theorem atoi_bd {l : List UInt8} {n : Int} (h : Lib.atoiAll l = .ok n) : okI n := by
  unfold Lib.atoiAll at h
  split at h
  · cases h
  · simp only at h
    split at h
    · cases h
    · cases h
    · rename_i u hu
      have hb := Lib.parseMag_lt hu
      split at h
      · cases h
      · split at h
        · cases h
        · injection h with h
          subst h
          unfold okI
          split <;> constructor <;> omega
theorem itoa_len (n : Int) : 1 ≤ (Lib.itoa n).length := by
  unfold Lib.itoa
  split
  · simp
  · have := dec_pos n.toNat
    cases h : Lib.decDigits n.toNat with
    | nil => exact absurd h this
    | cons x l => simp
theorem itoa_inj {a b : Int} (ha : okI a) (hb : okI b) (h : Lib.itoa a = Lib.itoa b) : a = b := by
  have h1 := atoi_itoa a ha
  rw [h, atoi_itoa b hb] at h1
  injection h1 with h1
  exact h1.symm
theorem itoa_nat (u : Nat) : Lib.itoa (u : Int) = Lib.decDigits u := by unfold Lib.itoa; rw [if_neg (by omega)]; simp

/-- A text that is a numeral of at most so many digits. -/
def decB (s : ByteArray) (most : Int) : Bool :=
  decide (1 ≤ s.size) && decide ((s.size : Int) ≤ most) && (decide (s.size = 1) || decide (s.data.toList.head?.map (·.toNat) ≠ some 48)) && allB figC s
def decV (s : ByteArray) : Nat := dval 0 s.data.toList
theorem decB_iff {s : ByteArray} {most : Int} : decB s most = true ↔ Canon s.data.toList ∧ (s.size : Int) ≤ most := by
  have hl : s.data.toList.length = s.size := by simp
  unfold decB Canon allB
  simp only [Bool.and_eq_true, Bool.or_eq_true, decide_eq_true_eq, List.all_eq_true, hl]
  have hn : s.data.toList ≠ [] ↔ 1 ≤ s.size := by
    rw [← hl, ne_eq, ← List.length_eq_zero_iff]; omega
  rw [hn]
  constructor
  · rintro ⟨⟨⟨a, b⟩, c⟩, d⟩; exact ⟨⟨a, d, c⟩, b⟩
  · rintro ⟨⟨a, d, c⟩, b⟩; exact ⟨⟨⟨a, b⟩, c⟩, d⟩
theorem decB_dec {s : ByteArray} {most : Int} (h : decB s most = true) : Lib.decDigits (decV s) = s.data.toList := dec_of _ _ rfl (decB_iff.1 h).1
theorem dec_decB {s : ByteArray} {most : Int} {u : Nat} (h : Lib.decDigits u = s.data.toList) (hm : (s.size : Int) ≤ most) : decB s most = true ∧ decV s = u := by
  refine ⟨decB_iff.2 ⟨by rw [← h]; exact canon_dec u, hm⟩, ?_⟩
  unfold decV; rw [← h]; exact dec_val u
theorem decV_lt {s : ByteArray} {most : Nat} (h : decB s most = true) : decV s < 10 ^ most := by
  obtain ⟨⟨_, hf, _⟩, hm⟩ := decB_iff.1 h
  have := dval_lt s.data.toList 0 0 hf (by simp)
  have hl : s.data.toList.length = s.size := by simp
  rw [hl, Nat.zero_add] at this
  exact Nat.lt_of_lt_of_le this (Nat.pow_le_pow_right (by omega) (by omega))
end Go.Proofs.YtnjbbkocobegiaaDoor
