/- Texts packed: CodeV. -/
import Derived.Test.YtnjbbkocobegiaaGreatDoorPe01
import Derived.Lib.FieldsP
import Derived.Lib.AtoiAll
/- Codes by their fields, in plain words. No program in sight. -/
namespace Go.Proofs.YtnjbbkocobegiaaGreatDoor
set_option linter.unusedVariables false
open Go.RowKit

theorem decode_ascii {s : ByteArray} {i : Nat} (hi : i < s.size) (h : s[i].toNat < 128) : Utf8.decode s i = (s[i].toNat, 1) := by
  unfold Utf8.decode
  have e : s.get! (i + 0) = s[i] := by
    rw [Nat.add_zero]
    show s.data[i]! = s.data[i]
    exact getElem!_pos s.data i hi
  simp only [e]
  rw [if_pos h]
def isCol (x : Nat) : Bool := x == 58 || x == 59
def figB (c : UInt8) : Bool := decide (48 ≤ c.toNat) && decide (c.toNat ≤ 57)
def fldOk (f : ByteArray) : Prop := f.size = 2 ∧ allB figB f = true
def fldV (f : ByteArray) : Int := 10 * (bt f 0 - 48) + (bt f 1 - 48)

/-- A text with four pairs of digits between three signs. -/
theorem fields_eq (c0 c1 c2 c3 c4 c5 c6 c7 q0 q1 z : UInt8) (h : ∀ c ∈ [c0, c1, c2, c3, c4, c5, c6, c7], 48 ≤ c.toNat ∧ c.toNat ≤ 57) (hz : ∀ c ∈ [q0, q1, z], c.toNat = 58 ∨ c.toNat = 59) :
    Lib.goFieldsP isCol ⟨#[c0, c1, q0, c2, c3, q1, c4, c5, z, c6, c7]⟩ = [⟨#[c0, c1]⟩, ⟨#[c2, c3]⟩, ⟨#[c4, c5]⟩, ⟨#[c6, c7]⟩] := by
  obtain ⟨s, hs⟩ : ∃ s : ByteArray, s = ⟨#[c0, c1, q0, c2, c3, q1, c4, c5, z, c6, c7]⟩ := ⟨_, rfl⟩
  rw [← hs]
  have hsz : s.size = 11 := by rw [hs]; rfl
  have st : ∀ (f pos : Nat) (b : UInt8) (st : Option Nat) (acc : List (Nat × Nat)) (hp : pos < s.size), s[pos] = b → b.toNat < 128 →
      Lib.spansFromP isCol s (f + 1) pos st acc = if isCol b.toNat then (match st with | some a => Lib.spansFromP isCol s f (pos + 1) none (acc ++ [(a, pos)]) | none => Lib.spansFromP isCol s f (pos + 1) none acc)
        else (match st with | some a => Lib.spansFromP isCol s f (pos + 1) (some a) acc | none => Lib.spansFromP isCol s f (pos + 1) (some pos) acc) := by
    intro f pos b st acc hp hb h8
    conv => lhs; unfold Lib.spansFromP
    rw [if_pos hp, decode_ascii hp (by rw [hb]; exact h8), hb]
    rfl
  have dg : ∀ c ∈ [c0, c1, c2, c3, c4, c5, c6, c7], isCol c.toNat = false ∧ c.toNat < 128 := fun c hc => by have := h c hc; simp [isCol]; omega
  have cl : ∀ c ∈ [q0, q1, z], isCol c.toNat = true ∧ c.toNat < 128 := fun c hc => by have := hz c hc; simp [isCol]; omega
  have a0 := dg c0 (by simp)
  have a1 := dg c1 (by simp)
  have a2 := dg c2 (by simp)
  have a3 := dg c3 (by simp)
  have a4 := dg c4 (by simp)
  have a5 := dg c5 (by simp)
  have a6 := dg c6 (by simp)
  have a7 := dg c7 (by simp)
  have b0 := cl q0 (by simp)
  have b1 := cl q1 (by simp)
  have b2 := cl z (by simp)
  have e0 : s[0]'(by omega) = c0 := by subst hs; rfl
  have e1 : s[1]'(by omega) = c1 := by subst hs; rfl
  have e2 : s[2]'(by omega) = q0 := by subst hs; rfl
  have e3 : s[3]'(by omega) = c2 := by subst hs; rfl
  have e4 : s[4]'(by omega) = c3 := by subst hs; rfl
  have e5 : s[5]'(by omega) = q1 := by subst hs; rfl
  have e6 : s[6]'(by omega) = c4 := by subst hs; rfl
  have e7 : s[7]'(by omega) = c5 := by subst hs; rfl
  have e8 : s[8]'(by omega) = z := by subst hs; rfl
  have e9 : s[9]'(by omega) = c6 := by subst hs; rfl
  have e10 : s[10]'(by omega) = c7 := by subst hs; rfl
  have key : Lib.spansFromP isCol s 11 0 none [] = ([(0, 2), (3, 5), (6, 8)], some 9) := by
    rw [st 10 0 c0 _ _ (by omega) e0 a0.2, a0.1]
    simp only [Bool.false_eq_true, if_false, Nat.zero_add]
    rw [st 9 1 c1 _ _ (by omega) e1 a1.2, a1.1]
    simp only [Bool.false_eq_true, if_false, Nat.reduceAdd]
    rw [st 8 2 q0 _ _ (by omega) e2 b0.2, b0.1]
    simp only [if_true, Nat.reduceAdd]
    rw [st 7 3 c2 _ _ (by omega) e3 a2.2, a2.1]
    simp only [Bool.false_eq_true, if_false, Nat.reduceAdd]
    rw [st 6 4 c3 _ _ (by omega) e4 a3.2, a3.1]
    simp only [Bool.false_eq_true, if_false, Nat.reduceAdd]
    rw [st 5 5 q1 _ _ (by omega) e5 b1.2, b1.1]
    simp only [if_true, Nat.reduceAdd]
    rw [st 4 6 c4 _ _ (by omega) e6 a4.2, a4.1]
    simp only [Bool.false_eq_true, if_false, Nat.reduceAdd]
    rw [st 3 7 c5 _ _ (by omega) e7 a5.2, a5.1]
    simp only [Bool.false_eq_true, if_false, Nat.reduceAdd]
    rw [st 2 8 z _ _ (by omega) e8 b2.2, b2.1]
    simp only [if_true, Nat.reduceAdd]
    rw [st 1 9 c6 _ _ (by omega) e9 a6.2, a6.1]
    simp only [Bool.false_eq_true, if_false, Nat.reduceAdd]
    rw [st 0 10 c7 _ _ (by omega) e10 a7.2, a7.1]
    simp only [Bool.false_eq_true, if_false, Nat.reduceAdd]
    rfl
  unfold Lib.goFieldsP Lib.spansOfP
  rw [hsz, key]
  unfold Lib.closeSpans
  rw [hsz, hs]
  rfl

theorem u8d {x : Int} (h0 : 0 ≤ x) (h1 : x ≤ 9) : 48 ≤ (UInt8.ofNat (48 + x).toNat).toNat ∧ (UInt8.ofNat (48 + x).toNat).toNat ≤ 57 := by
  have := u8of (x := x) h0 (by omega); omega
/-- The fields of a code. -/
theorem codeS_fields {r x : Int} (hr : isRateB r = true) (h0 : 0 ≤ x) (h1 : x < framesN r) :
    (Lib.goFieldsP isCol (codeS r x)).length = 4 ∧ (∀ (j : Nat) (f : ByteArray), (Lib.goFieldsP isCol (codeS r x))[j]? = some f → fldOk f ∧ fldV f = nAt (codeS r x) j) := by
  have hn : countedN r = 24 ∨ countedN r = 25 ∨ countedN r = 30 := by rcases rate_cases hr with rfl | rfl | rfl | rfl <;> decide
  have ha : 0 ≤ adjN r x ∧ adjN r x < 86400 * countedN r := by
    unfold adjN
    rcases rate_cases hr with rfl | rfl | rfl | rfl
    · rw [if_neg (by decide)]; change x < 2073600 at h1; change 0 ≤ x ∧ x < 86400 * 24; omega
    · rw [if_neg (by decide)]; change x < 2160000 at h1; change 0 ≤ x ∧ x < 86400 * 25; omega
    · rw [if_neg (by decide)]; change x < 2592000 at h1; change 0 ≤ x ∧ x < 86400 * 30; omega
    · rw [if_pos rfl, show countedN 4 = 30 from rfl]
      change x < 2589408 at h1
      by_cases hh : 1800 ≤ x % 17982
      · rw [if_pos hh]; omega
      · rw [if_neg hh]; omega
  obtain ⟨H, M, S, F, eH, eM, eS, eF, b1, b2, b3, b4, b5, b6, b7, b8, hN, hm⟩ := fields (r := r) hn ha.1 ha.2
  have hs : codeS r x = twoS H ++ ⟨#[58]⟩ ++ twoS M ++ ⟨#[58]⟩ ++ twoS S ++ colonS r ++ twoS F := by
    unfold codeS fmtS; rw [eH, eM, eS, eF]
  obtain ⟨z, hz, hz2⟩ : ∃ z : UInt8, colonS r = ⟨#[z]⟩ ∧ (z.toNat = 58 ∨ z.toNat = 59) := by
    unfold colonS; split
    · exact ⟨59, rfl, .inr rfl⟩
    · exact ⟨58, rfl, .inl rfl⟩
  rw [hz, twoS_eq b1 (by omega), twoS_eq b3 (by omega), twoS_eq b5 (by omega), twoS_eq b7 (by omega)] at hs
  have d0 := u8d (x := H / 10) (by omega) (by omega)
  have d1 := u8d (x := H % 10) (by omega) (by omega)
  have d2 := u8d (x := M / 10) (by omega) (by omega)
  have d3 := u8d (x := M % 10) (by omega) (by omega)
  have d4 := u8d (x := S / 10) (by omega) (by omega)
  have d5 := u8d (x := S % 10) (by omega) (by omega)
  have d6 := u8d (x := F / 10) (by omega) (by omega)
  have d7 := u8d (x := F % 10) (by omega) (by omega)
  generalize UInt8.ofNat (48 + H / 10).toNat = c0 at *
  generalize UInt8.ofNat (48 + H % 10).toNat = c1 at *
  generalize UInt8.ofNat (48 + M / 10).toNat = c2 at *
  generalize UInt8.ofNat (48 + M % 10).toNat = c3 at *
  generalize UInt8.ofNat (48 + S / 10).toNat = c4 at *
  generalize UInt8.ofNat (48 + S % 10).toNat = c5 at *
  generalize UInt8.ofNat (48 + F / 10).toNat = c6 at *
  generalize UInt8.ofNat (48 + F % 10).toNat = c7 at *
  have h' : codeS r x = ⟨#[c0, c1, 58, c2, c3, 58, c4, c5, z, c6, c7]⟩ := by rw [hs]; rfl
  rw [h', fields_eq c0 c1 c2 c3 c4 c5 c6 c7 58 58 z (by simp; omega) (by simp; exact hz2)]
  refine ⟨rfl, fun j f hj => ?_⟩
  have mk : ∀ a b : UInt8, (48 ≤ a.toNat ∧ a.toNat ≤ 57) → (48 ≤ b.toNat ∧ b.toNat ≤ 57) → fldOk ⟨#[a, b]⟩ := fun a b h1 h2 => ⟨rfl, by simp [allB, figB]; omega⟩
  match j, hj with
  | 0, hj => cases hj; exact ⟨mk _ _ d0 d1, rfl⟩
  | 1, hj => cases hj; exact ⟨mk _ _ d2 d3, rfl⟩
  | 2, hj => cases hj; exact ⟨mk _ _ d4 d5, rfl⟩
  | 3, hj => cases hj; exact ⟨mk _ _ d6 d7, rfl⟩
  | j + 4, hj => cases hj

/-- What Atoi makes of a right field. -/
theorem fld_two {f : ByteArray} (h : fldOk f) : ∃ a b : UInt8, f = ⟨#[a, b]⟩ ∧ (48 ≤ a.toNat ∧ a.toNat ≤ 57) ∧ (48 ≤ b.toNat ∧ b.toNat ≤ 57) := by
  obtain ⟨h2, ha⟩ := h
  have e : f = ⟨#[f[0]'(by omega), f[1]'(by omega)]⟩ := by
    rcases f with ⟨⟨l⟩⟩
    have hl : l.length = 2 := h2
    match l, hl with
    | [a, b], _ => rfl
  refine ⟨_, _, e, ?_⟩
  rw [e] at ha
  simp [allB, figB] at ha
  exact ⟨ha.1, ha.2⟩
theorem fld_atoi {f : ByteArray} (h : fldOk f) : Lib.atoiAll f.data.toList = .ok (fldV f) := by
  obtain ⟨a, b, rfl, ha, hb⟩ := fld_two h
  have e0 : bt ⟨#[a, b]⟩ 0 = a.toNat := rfl
  have e1 : bt ⟨#[a, b]⟩ 1 = b.toNat := rfl
  unfold fldV
  rw [e0, e1]
  show Lib.atoiAll [a, b] = _
  unfold Lib.atoiAll
  have n1 : ¬ (a.toNat = 43 ∨ a.toNat = 45) := by omega
  have n2 : ¬ a.toNat = 45 := by omega
  have hp : Lib.parseMag [a, b] = .ok (10 * (a.toNat - 48) + (b.toNat - 48)) := by
    unfold Lib.parseMag
    rw [if_neg (by simp)]
    rw [Lib.parseUint10, if_pos ha, if_neg (by omega), if_neg (by omega), Lib.parseUint10, if_pos hb, if_neg (by omega), if_neg (by omega), Lib.parseUint10]
    congr 1; omega
  simp only [if_neg n1, hp]
  rw [if_neg (by omega), if_neg (by omega), if_neg n2]
  congr 1; omega
theorem fld_bd {f : ByteArray} (h : fldOk f) : 0 ≤ fldV f ∧ fldV f ≤ 99 := by
  obtain ⟨a, b, rfl, ha, hb⟩ := fld_two h
  have e0 : bt ⟨#[a, b]⟩ 0 = a.toNat := rfl
  have e1 : bt ⟨#[a, b]⟩ 1 = b.toNat := rfl
  unfold fldV
  rw [e0, e1]; omega

/-- The reader by fields. -/
theorem readF_none {r : Int} {s : ByteArray} (hr : isRateB r = true) (h : (Lib.goFieldsP isCol s).length ≠ 4 ∨ ∃ (j : Nat) (f : ByteArray), (Lib.goFieldsP isCol s)[j]? = some f ∧ ¬ fldOk f) (v : Int) : readP r s v false := by
  refine ⟨fun h => by simp at h, fun _ x h0 h1 hx => ?_⟩
  obtain ⟨a, b⟩ := codeS_fields hr h0 h1
  rw [hx] at a b
  rcases h with h | ⟨j, f, hj, h⟩
  · exact h a
  · exact h (b j f hj).1
theorem readF_some {r : Int} {s : ByteArray} {v : Int} {ok : Bool} {f0 f1 f2 f3 : ByteArray} (hr : isRateB r = true) (hf : Lib.goFieldsP isCol s = [f0, f1, f2, f3]) (hv : v = frameOf r (fldV f0) (fldV f1) (fldV f2) (fldV f3)) (h : ok = true ↔ 0 ≤ v ∧ v < framesN r ∧ codeS r v = s) : readP r s v ok := by
  refine ⟨fun hh => h.1 hh, fun hh x h0 h1 hx => ?_⟩
  obtain ⟨_, b⟩ := codeS_fields hr h0 h1
  obtain ⟨_, _, c⟩ := codeS_read hr h0 h1
  rw [hx] at b c
  rw [hf] at b
  rw [← (b 0 f0 rfl).2, ← (b 1 f1 rfl).2, ← (b 2 f2 rfl).2, ← (b 3 f3 rfl).2, ← hv] at c
  have := h.2 ⟨by omega, by omega, by rw [c]; exact hx⟩
  simp [hh] at this
end Go.Proofs.YtnjbbkocobegiaaGreatDoor

