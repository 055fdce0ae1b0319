/- Reading slates, in plain words. No program in sight. -/
import Derived.Test.YtndgdbncfplndaaDoorNumS
import Derived.Test.YtndgdbncfplndaaDoorCutS
import Derived.Test.YtndgdbncfplndaaDoorDecS
namespace Go.Proofs.YtndgdbncfplndaaDoor
set_option linter.unusedVariables false
open Go.RowKit

theorem numB_bytes {s : ByteArray} (h : numB s = true) : ∀ c ∈ s.data.toList, digB c = true ∨ capB c = true := by
  simp only [numB, Bool.and_eq_true] at h
  obtain ⟨⟨⟨h1, _⟩, _⟩, _⟩ := h
  intro c hc
  rw [← List.take_append_drop (numK s) s.data.toList, List.mem_append] at hc
  rcases hc with hc | hc
  · left
    have ht : s.data.toList.take (numK s) = s.data.toList.takeWhile digB := by
      unfold numK
      conv => lhs; rw [← List.takeWhile_append_dropWhile (p := digB) (l := s.data.toList)]
      rw [List.takeWhile_append_dropWhile, ← List.prefix_iff_eq_take.1 (List.takeWhile_prefix digB)]
    rw [ht] at hc
    exact (List.all_eq_true.1 (List.all_takeWhile (p := digB) (l := s.data.toList))) c hc
  · right; exact (List.all_eq_true.1 h1) c hc
theorem setupB_bytes {s : ByteArray} (h : setupB s = true) : ∀ c ∈ s.data.toList, capB c = true := by
  simp only [setupB, Bool.and_eq_true] at h
  intro c hc
  have := (List.all_eq_true.1 (show s.data.toList.all setC = true from h.1)) c hc
  simp only [setC, Bool.and_eq_true] at this
  exact this.1.1
theorem dig_ne {c : UInt8} (h : digB c = true ∨ capB c = true) : c ≠ 45 ∧ c ≠ 47 := by
  simp only [digB, capB, Bool.and_eq_true, decide_eq_true_eq] at h
  constructor <;> (rintro rfl; revert h; decide)
theorem slateE_ok {sc se : ByteArray} {n : Int} (h : slateE sc se n = 0) : numB sc = true ∧ setupB se = true ∧ 1 ≤ n ∧ n ≤ 99 := by
  unfold slateE at h
  split at h
  · cases h
  · split at h
    · cases h
    · split at h
      · cases h
      · rename_i h1 h2 h3
        exact ⟨by simpa using h1, by simpa using h2, by omega, by omega⟩
theorem slateE_mk {sc se : ByteArray} {n : Int} (h1 : numB sc = true) (h2 : setupB se = true) (h3 : 1 ≤ n) (h4 : n ≤ 99) : slateE sc se n = 0 := by
  unfold slateE; rw [if_neg (by rw [h1]; simp), if_neg (by rw [h2]; simp), if_neg (by omega)]
def whatS (sc se : ByteArray) : ByteArray := if se.toList.isEmpty = true then sc else sc ++ ⟨#[47]⟩ ++ se
theorem slateS_eq (sc se : ByteArray) (n : Nat) : slateS sc se n = whatS sc se ++ ⟨#[45]⟩ ++ ⟨(Lib.decDigits n).toArray⟩ := by
  unfold slateS whatS
  split
  · rfl
  · simp only [ByteArray.append_assoc]
theorem empty_iff (s : ByteArray) : s.toList.isEmpty = true ↔ s = ⟨#[]⟩ := by
  rw [ByteArray.toList_eq]
  constructor
  · intro h; exact ba_ext (by simpa using h)
  · rintro rfl; rfl
/-- A right slate is cut into its parts. -/
theorem slate_read {sc se : ByteArray} {n : Int} (h : slateE sc se n = 0) :
    cutB (slateS sc se n.toNat) 45 = ⟨(Lib.decDigits n.toNat).toArray⟩ ∧ cutA (cutA (slateS sc se n.toNat) 45) 47 = sc ∧ cutB (cutA (slateS sc se n.toNat) 45) 47 = se := by
  obtain ⟨h1, h2, _, _⟩ := slateE_ok h
  have b1 : ∀ c ∈ sc.data.toList, c ≠ 45 ∧ c ≠ 47 := fun c hc => dig_ne (numB_bytes h1 c hc)
  have b2 : ∀ c ∈ se.data.toList, c ≠ 45 ∧ c ≠ 47 := fun c hc => dig_ne (.inr (setupB_bytes h2 c hc))
  have b3 : ∀ c ∈ (whatS sc se).data.toList, c ≠ 45 := by
    intro c hc
    unfold whatS at hc
    split at hc
    · exact (b1 c hc).1
    · simp at hc
      rcases hc with hc | rfl | hc
      · exact (b1 c (by simpa using hc)).1
      · decide
      · exact (b2 c (by simpa using hc)).1
  rw [slateS_eq]
  obtain ⟨_, _, e1, e2⟩ := cut_app (b := ⟨(Lib.decDigits n.toNat).toArray⟩) b3
  rw [e1, e2]
  refine ⟨rfl, ?_⟩
  unfold whatS
  by_cases he : se.toList.isEmpty = true
  · rw [if_pos he]
    obtain ⟨_, e3, e4⟩ := cut_none (a := sc) (c := 47) (fun x hx => (b1 x hx).2)
    rw [e3, e4]
    exact ⟨rfl, ((empty_iff se).1 he).symm⟩
  · rw [if_neg he]
    obtain ⟨_, _, e3, e4⟩ := cut_app (a := sc) (b := se) (c := 47) (fun x hx => (b1 x hx).2)
    exact ⟨e3, e4⟩
/-- What a reader of slates must say. -/
def slP (t sc se : ByteArray) (n : Int) (ok : Bool) : Prop :=
  (ok = true → slateE sc se n = 0 ∧ slateS sc se n.toNat = t) ∧ (ok = false → ∀ (a b : ByteArray) (m : Int), slateE a b m = 0 → slateS a b m.toNat ≠ t)
theorem slP_same {t sc se a b : ByteArray} {n m : Int} {ok ok' : Bool} (h : slP t sc se n ok) (h' : slP t a b m ok') : ok = ok' ∧ (ok = true → sc = a ∧ se = b ∧ n = m) := by
  cases ok <;> cases ok'
  · exact ⟨rfl, fun h => by cases h⟩
  · obtain ⟨x, y⟩ := h'.1 rfl
    exact absurd y (h.2 rfl _ _ _ x)
  · obtain ⟨x, y⟩ := h.1 rfl
    exact absurd y (h'.2 rfl _ _ _ x)
  · obtain ⟨x, y⟩ := h.1 rfl
    obtain ⟨x', y'⟩ := h'.1 rfl
    refine ⟨rfl, fun _ => ?_⟩
    obtain ⟨r1, r2, r3⟩ := slate_read x
    obtain ⟨q1, q2, q3⟩ := slate_read x'
    rw [y] at r1 r2 r3
    rw [y'] at q1 q2 q3
    refine ⟨by rw [← r2, q2], by rw [← r3, q3], ?_⟩
    rw [q1] at r1
    have h1 : Lib.decDigits m.toNat = Lib.decDigits n.toNat := by
      have := congrArg (fun x : ByteArray => x.data.toList) r1
      simpa using this
    have h2 := congrArg (dval 0) h1
    rw [dec_val, dec_val] at h2
    obtain ⟨_, _, x1, x2⟩ := slateE_ok x
    obtain ⟨_, _, x3, x4⟩ := slateE_ok x'
    omega
/-- A reader that cuts the text, reads the number and writes the slate anew. -/
theorem slP_of {t : ByteArray} {n : Int} {ok okn : Bool} (hn : okn = true → (⟨(Lib.decDigits n.toNat).toArray⟩ : ByteArray) = cutB t 45 ∧ (0 ≤ n ∨ True))
    (hf : okn = false → ∀ m : Nat, 1 ≤ m → m ≤ 99 → (⟨(Lib.decDigits m).toArray⟩ : ByteArray) ≠ cutB t 45)
    (hv : okn = true → ∀ m : Nat, 1 ≤ m → m ≤ 99 → (⟨(Lib.decDigits m).toArray⟩ : ByteArray) = cutB t 45 → n = m)
    (h : ok = true ↔ okn = true ∧ slateE (cutA (cutA t 45) 47) (cutB (cutA t 45) 47) n = 0 ∧ slateS (cutA (cutA t 45) 47) (cutB (cutA t 45) 47) n.toNat = t) :
    slP t (cutA (cutA t 45) 47) (cutB (cutA t 45) 47) n ok := by
  refine ⟨fun hh => (h.1 hh).2, fun hh a b m hm ht => ?_⟩
  obtain ⟨r1, r2, r3⟩ := slate_read hm
  rw [ht] at r1 r2 r3
  obtain ⟨_, _, m1, m2⟩ := slateE_ok hm
  cases hk : okn with
  | false => exact hf hk m.toNat (by omega) (by omega) r1.symm
  | true =>
    have e := hv hk m.toNat (by omega) (by omega) r1.symm
    have e' : n = m := by omega
    have := h.2 ⟨hk, by rw [r2, r3, e']; exact hm, by rw [r2, r3, e']; exact ht⟩
    rw [hh] at this; cases this
end Go.Proofs.YtndgdbncfplndaaDoor
