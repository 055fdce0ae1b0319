/- Slices compared and looked through; the reference's names of files. -/
import Derived.Test.YtnjbbkocobegiaaDoorFilesX
import Derived.BigQuiet
import Derived.Deep.QuietTactic
import Derived.Test.YtnjbbkocobegiaaDoorRefA
namespace Go.Proofs.YtnjbbkocobegiaaDoor
set_option linter.unusedVariables false
open Go.RowKit

theorem strAt {w : World} {F : Nat → Prop} {l : List ByteArray} {A : Option Addr} {n c : Nat} (h : Sli strR w F l (.slice A n c)) (k : Nat) (hk : k < l.length) : ∃ b off, A = some ⟨b, off, none⟩ ∧ F b ∧ w.cell? ⟨b, off + k, none⟩ = some (.string l[k]) := by
  obtain ⟨b, off, a, e, hb, hr, hc⟩ := h.at_ k hk
  have ha : a = [.string l[k]] := hr
  subst ha
  refine ⟨b, off, e, hb, ?_⟩
  have h := hc 0 _ rfl
  rw [show off + k * strR.n + 0 = off + k from by show off + k * 1 + 0 = _; omega] at h
  exact h
theorem copAt {w : World} {F : Nat → Prop} {l : List Copied} {A : Option Addr} {n c : Nat} (h : Sli copR w F l (.slice A n c)) (k : Nat) (hk : k < l.length) : ∃ b off, A = some ⟨b, off, none⟩ ∧ F b ∧ w.cell? ⟨b, off + k * 3, none⟩ = some (.string l[k].name) ∧ w.cell? ⟨b, off + k * 3 + 1, none⟩ = some (.int .i64 l[k].size) ∧ w.cell? ⟨b, off + k * 3 + 2, none⟩ = some (.string l[k].sum) := by
  obtain ⟨b, off, a, e, hb, hr, hc⟩ := h.at_ k hk
  have ha : a = (l[k]).cells := hr
  subst ha
  exact ⟨b, off, e, hb, hc 0 _ rfl, hc 1 _ rfl, hc 2 _ rfl⟩

theorem eq_take_next {α : Type} {a b : List α} {k : Nat} (h1 : k < a.length) (h2 : k < b.length) (h : a.take k = b.take k) (e : a[k] = b[k]) : a.take (k + 1) = b.take (k + 1) := by
  rw [List.take_succ_eq_append_getElem h1, List.take_succ_eq_append_getElem h2, h, e]
theorem ne_at {α : Type} {a b : List α} {k : Nat} (h1 : k < a.length) (h2 : k < b.length) (e : ¬ a[k] = b[k]) : ¬ a = b := by
  intro h; subst h; exact e rfl

set_option maxRecDepth 100000 in
set_option maxHeartbeats 800000 in
theorem eqStr_c (l1 l2 : List ByteArray) (v1 v2 : Value) (F : Nat → Prop) (w : World) (h1 : Sli strR w F l1 v1) (h2 : Sli strR w F l2 v2) (hF : ∀ b, F b → b < w.heap.size) :
    Calls Tryd.prog 14 #[v1, v2] w fun e w' => e = .returned (.bool (decide (l1 = l2))) ∧ Below w.heap.size w w' := by
  obtain ⟨A1, c1, rfl, hlc1, hc1⟩ := h1.form
  obtain ⟨A2, c2, rfl, hlc2, hc2⟩ := h2.form
  have H1 := Lib.hid h1; clear h1
  have H2 := Lib.hid h2; clear h2
  have HF := Lib.hid hF; clear hF
  by_cases hne : l1.length = l2.length
  · obtain ⟨n, hn1⟩ : ∃ n, l1.length = n := ⟨_, rfl⟩
    have hn2 : l2.length = n := by omega
    rw [hn1] at H1 hlc1 ⊢
    rw [hn2] at H2 ⊢
    go_enter Tryd.func14, Tryd.ntmps14
    go_wp2
    go_loopw [13] (fun i wr => ∃ k : Nat, k ≤ n ∧ i = .int .i64 k ∧ Below w.heap.size w wr ∧ Hid (l1.take k = l2.take k)) (fun i _ => n - (intOf i).toNat)
    case atStart => exact ⟨0, Nat.zero_le _, rfl, Below.refl _ _, rfl⟩
    case round =>
      obtain ⟨k, hk, rfl, hb, HT⟩ := hrel
      by_cases hlt : k < n
      · obtain ⟨b, off, rfl, hfb, c0⟩ := strAt (H1.out.below hb HF.out) k (by omega)
        obtain ⟨b2, off2, rfl, hfb2, d0⟩ := strAt (H2.out.below hb HF.out) k (by omega)
        by_cases he : l1[k]'(by omega) = l2[k]'(by omega)
        · have HN := Lib.hid (eq_take_next (by omega) (by omega) HT.out he)
          rw [he] at c0
          clear he
          generalize l2[k]'(by omega) = x at *
          go_wp2
          go_quiet (fail)
          go_wp2
          go_roundw
          case rel => exact ⟨k + 1, by omega, intNum, by first | exact hb | exact hb.drew | exact below_drewN hb _, HN.out⟩
          case measure => simp [intOf]; omega
        · have HN := Lib.hid (ne_at (by omega) (by omega) he)
          generalize l1[k]'(by omega) = x at *
          generalize l2[k]'(by omega) = y at *
          have hq : (x.toList == y.toList) = false := by rw [beqS]; simpa using he
          go_wp2
          go_quiet (fail)
          go_wp2
          go_ret
          exact ⟨ret_bool (by symm; simpa using HN.out), by first | exact hb | exact hb.drew | exact below_drewN hb _⟩
      · have e : k = n := by omega
        have HN := Lib.hid (show l1 = l2 by have := HT.out; rwa [List.take_of_length_le (by omega), List.take_of_length_le (by omega)] at this)
        go_wp2
        go_ret
        exact ⟨ret_bool (by symm; simpa using HN.out), hb⟩
  · have HN := Lib.hid (show ¬ l1 = l2 by intro h; exact hne (by rw [h]))
    have hz : ¬ (l1.length : Int) = l2.length := by omega
    go_enter Tryd.func14, Tryd.ntmps14
    go_wp2
    go_ret
    exact ⟨ret_bool (by symm; simpa using HN.out), Below.refl _ _⟩

instance : DecidableEq Copied := fun a b => decidable_of_iff (a.eqB b = true) Copied.eqB_iff
set_option maxRecDepth 100000 in
set_option maxHeartbeats 800000 in
theorem eqCop_c (l1 l2 : List Copied) (v1 v2 : Value) (F : Nat → Prop) (w : World) (h1 : Sli copR w F l1 v1) (h2 : Sli copR w F l2 v2) (hF : ∀ b, F b → b < w.heap.size) :
    Calls Tryd.prog 9 #[v1, v2] w fun e w' => e = .returned (.bool (decide (l1 = l2))) ∧ Below w.heap.size w w' := by
  obtain ⟨A1, c1, rfl, hlc1, hc1⟩ := h1.form
  obtain ⟨A2, c2, rfl, hlc2, hc2⟩ := h2.form
  have H1 := Lib.hid h1; clear h1
  have H2 := Lib.hid h2; clear h2
  have HF := Lib.hid hF; clear hF
  by_cases hne : l1.length = l2.length
  · obtain ⟨n, hn1⟩ : ∃ n, l1.length = n := ⟨_, rfl⟩
    have hn2 : l2.length = n := by omega
    rw [hn1] at H1 hlc1 ⊢
    rw [hn2] at H2 ⊢
    go_enter Tryd.func9, Tryd.ntmps9
    go_wp2
    go_loopw [13] (fun i wr => ∃ k : Nat, k ≤ n ∧ i = .int .i64 k ∧ Below w.heap.size w wr ∧ Hid (l1.take k = l2.take k)) (fun i _ => n - (intOf i).toNat)
    case atStart => exact ⟨0, Nat.zero_le _, rfl, Below.refl _ _, rfl⟩
    case round =>
      obtain ⟨k, hk, rfl, hb, HT⟩ := hrel
      by_cases hlt : k < n
      · obtain ⟨b, off, rfl, hfb, c0, c1, c2⟩ := copAt (H1.out.below hb HF.out) k (by omega)
        obtain ⟨b2, off2, rfl, hfb2, d0, d1, d2⟩ := copAt (H2.out.below hb HF.out) k (by omega)
        by_cases he : l1[k]'(by omega) = l2[k]'(by omega)
        · have HN := Lib.hid (eq_take_next (by omega) (by omega) HT.out he)
          rw [he] at c0 c1 c2
          clear he
          generalize l2[k]'(by omega) = x at *
          go_wp2
          go_region
          go_wp2
          go_roundw
          case rel => exact ⟨k + 1, by omega, intNum, by first | exact hb | exact hb.drew | exact below_drewN hb _, HN.out⟩
          case measure => simp [intOf]; omega
        · have HN := Lib.hid (ne_at (by omega) (by omega) he)
          generalize l1[k]'(by omega) = x at *
          generalize l2[k]'(by omega) = y at *
          have hL : ∀ a b : ByteArray, ¬ a = b → ¬ a.toList = b.toList := fun a b hab e => by
            have := beqS a b
            rw [e] at this; simp [hab] at this
          by_cases q1 : x.name = y.name
          · have q1' : x.name.toList = y.name.toList := by rw [q1]
            by_cases q2 : x.size = y.size
            · have q3 := hL x.sum y.sum (fun e => he (Copied.ext_iff'.2 ⟨q1, q2, e⟩))
              clear hL q1 he
              go_wp2
              go_region
              go_wp2
              go_ret
              exact ⟨ret_bool (by symm; simpa using HN.out), by first | exact hb | exact hb.drew | exact below_drewN hb _⟩
            · clear hL q1 he
              go_wp2
              go_region
              go_wp2
              go_ret
              exact ⟨ret_bool (by symm; simpa using HN.out), by first | exact hb | exact hb.drew | exact below_drewN hb _⟩
          · have q3 := hL x.name y.name q1
            clear hL q1 he
            go_wp2
            go_region
            go_wp2
            go_ret
            exact ⟨ret_bool (by symm; simpa using HN.out), by first | exact hb | exact hb.drew | exact below_drewN hb _⟩
      · have e : k = n := by omega
        have HN := Lib.hid (show l1 = l2 by have := HT.out; rwa [List.take_of_length_le (by omega), List.take_of_length_le (by omega)] at this)
        go_wp2
        go_ret
        exact ⟨ret_bool (by symm; simpa using HN.out), hb⟩
  · have HN := Lib.hid (show ¬ l1 = l2 by intro h; exact hne (by rw [h]))
    have hz : ¬ (l1.length : Int) = l2.length := by omega
    go_enter Tryd.func9, Tryd.ntmps9
    go_wp2
    go_ret
    exact ⟨ret_bool (by symm; simpa using HN.out), Below.refl _ _⟩

set_option maxHeartbeats 800000 in
theorem idxStr_c (l : List ByteArray) (s : ByteArray) (v : Value) (F : Nat → Prop) (w : World) (h1 : Sli strR w F l v) :
    Calls Tryd.prog 61 #[v, .string s] w fun e w' => e = .returned (.int .i64 (idxV (l.findIdx? fun y => decide (y = s)))) ∧ w = w' := by
  obtain ⟨A1, c1, rfl, hlc1, hc1⟩ := h1.form
  have H1 := Lib.hid h1; clear h1
  go_enter Tryd.func61, Tryd.ntmps61
  go_wp2
  go_loop [8] (fun i => ∃ k : Nat, k ≤ l.length ∧ i = .int .i64 k ∧ Hid (∀ x ∈ l.take k, decide (x = s) = false)) (fun i => l.length - (intOf i).toNat)
  case atStart => exact ⟨0, Nat.zero_le _, rfl, by intro x hx; simp at hx⟩
  case round =>
    obtain ⟨k, hk, rfl, HT⟩ := hrel
    by_cases hlt : k < l.length
    · obtain ⟨b, off, rfl, hfb, c0⟩ := strAt H1.out k hlt
      by_cases he : l[k] = s
      · have H := Lib.hid (findIdx_at (p := fun y => decide (y = s)) HT.out hlt (by simpa using he))
        rw [he] at c0
        clear he
        go_wp2
        go_ret
        exact ⟨by rw [H.out]; rfl, rfl⟩
      · have HN := Lib.hid (take_next (q := fun y => decide (y = s) = false) hlt HT.out (by simpa using he))
        generalize l[k] = x at *
        have hq : (s.toList == x.toList) = false := by rw [beqS]; simpa using (fun e => he e.symm)
        go_wp2
        go_round
        case rel => exact ⟨k + 1, by omega, intNum, HN.out⟩
        case measure => simp [intOf]; omega
    · have H := Lib.hid (findIdx_no (take_all hlt HT.out))
      go_wp2
      go_ret
      exact ⟨by rw [H.out]; rfl, rfl⟩
theorem contains_c (l : List ByteArray) (s : ByteArray) (v : Value) (F : Nat → Prop) (w : World) (h1 : Sli strR w F l v) :
    Calls Tryd.prog 42 #[v, .string s] w fun e w' => e = .returned (.bool (l.any fun y => decide (y = s))) ∧ w = w' := by
  have HC := Lib.hid (idxStr_c l s v F w h1); clear h1
  cases h : l.findIdx? (fun y => decide (y = s)) with
  | none =>
    have HV := Lib.hid (show (l.any fun y => decide (y = s)) = false by rw [List.findIdx?_eq_none_iff] at h; rw [List.any_eq_false]; intro x hx; simp [h x hx])
    rw [h] at HC
    go_enter Tryd.func42, Tryd.ntmps42
    go_wp2_with fail
    refine HC.out.mono ?_
    rintro e w' ⟨rfl, rfl⟩
    rw [show idxV none = -1 from rfl]
    go_wp2
    go_ret
    exact ⟨ret_bool (by rw [HV.out]), rfl⟩
  | some i =>
    have HV := Lib.hid (show (l.any fun y => decide (y = s)) = true by
      obtain ⟨hi, hp, _⟩ := List.findIdx?_eq_some_iff_getElem.1 h
      rw [List.any_eq_true]; exact ⟨_, List.getElem_mem hi, hp⟩)
    rw [h] at HC
    go_enter Tryd.func42, Tryd.ntmps42
    go_wp2_with fail
    refine HC.out.mono ?_
    rintro e w' ⟨rfl, rfl⟩
    rw [show idxV (some i) = (i : Int) from rfl]
    have : (0 : Int) ≤ (i : Int) := by omega
    go_wp2
    go_ret
    exact ⟨ret_bool (by rw [HV.out]), rfl⟩

set_option maxHeartbeats 400000 in
theorem fileName_c (s : ByteArray) (w : World) (hs : s.size ≤ 140737488355328) : Calls Tryd.prog 41 #[.string s] w fun e w' => e = .returned (.bool (fileB s)) ∧ Below w.heap.size w w' := by
  have hset : allB (([97, 98, 99, 100, 101, 102, 103, 104, 105, 106, 107, 108, 109, 110, 111, 112, 113, 114, 115, 116, 117, 118, 119, 120, 121, 122, 48, 49, 50, 51, 52, 53, 54, 55, 56, 57, 46, 95, 45] : List UInt8).contains ·) s = allB fileC s := allB_congr (by decide +kernel) s
  have HM := Lib.hid (fun W => made_c s ⟨#[97, 98, 99, 100, 101, 102, 103, 104, 105, 106, 107, 108, 109, 110, 111, 112, 113, 114, 115, 116, 117, 118, 119, 120, 121, 122, 48, 49, 50, 51, 52, 53, 54, 55, 56, 57, 46, 95, 45]⟩ W hs (by decide) (by decide))
  have HSET := Lib.hid hset; clear hset
  by_cases h : 1 ≤ s.size ∧ s.size ≤ 40
  · have HV := Lib.hid (show fileB s = allB fileC s by unfold fileB; simp [h])
    have HL := Lib.hid (show (decide ((1 : Int) ≤ s.size) && decide ((s.size : Int) ≤ 40)) = true by simp; omega)
    go_enter Tryd.func41, Tryd.ntmps41
    go_wp2_with fail
    refine (long_c s 1 40 _ hs).mono ?_
    rintro e w' ⟨rfl, rfl⟩
    rw [HL.out]
    go_wp2_with fail
    refine (HM.out _).mono ?_
    rintro e w1 ⟨rfl, hb1⟩
    rw [HSET.out]
    go_wp2
    go_ret
    exact ⟨ret_bool HV.out.symm, hb1⟩
  · have HV := Lib.hid (show fileB s = false by unfold fileB; simp [h])
    have HL := Lib.hid (show (decide ((1 : Int) ≤ s.size) && decide ((s.size : Int) ≤ 40)) = false by simp; omega)
    go_enter Tryd.func41, Tryd.ntmps41
    go_wp2_with fail
    refine (long_c s 1 40 _ hs).mono ?_
    rintro e w' ⟨rfl, rfl⟩
    rw [HL.out]
    go_wp2
    go_ret
    exact ⟨ret_bool HV.out.symm, Below.refl _ _⟩

set_option maxRecDepth 100000 in
set_option maxHeartbeats 800000 in
theorem namesFault_c (l : List ByteArray) (v : Value) (F : Nat → Prop) (w : World) (hv : Sli strR w F l v) (hF : ∀ b, F b → b < w.heap.size) (hsz : ∀ x ∈ l, x.size ≤ 140737488355328) :
    Calls Tryd.prog 21 #[v] w fun e w' => e = .returned (.int .i64 (namesF l)) ∧ Below w.heap.size w w' := by
  obtain ⟨A, c, rfl, hlc, hc64⟩ := hv.form
  have HV := Lib.hid hv; clear hv
  have HF := Lib.hid hF; clear hF
  have HSZ := Lib.hid hsz; clear hsz
  go_enter Tryd.func21, Tryd.ntmps21
  go_wp2
  go_loopw [7] (fun i wr => ∃ k : Nat, k ≤ l.length ∧ i = .int .i64 k ∧ Below w.heap.size w wr ∧ Hid (namesFrom (l.take k) (l.drop k) = namesF l)) (fun i _ => l.length - (intOf i).toNat)
  case atStart => exact ⟨0, Nat.zero_le _, rfl, Below.refl _ _, rfl⟩
  case round =>
    obtain ⟨k, hk, rfl, hb, HE⟩ := hrel
    by_cases hlt : k < l.length
    · have hs := HSZ.out _ (List.getElem_mem hlt)
      have hst := namesFrom_step l k hlt
      have HSL := Lib.hid (HV.out.below hb HF.out)
      obtain ⟨b, off, rfl, hfb, c0⟩ := strAt HSL.out k hlt
      have HSV := Lib.hid (HSL.out.take_ k (by omega))
      generalize l[k] = x at *
      have HST := Lib.hid hst; clear hst
      by_cases h1 : fileB x = false
      · have HR := Lib.hid (show namesF l = 5 by rw [← HE.out, HST.out, if_neg (by unfold nameF; simp [h1])]; unfold nameF; simp [h1])
        go_wp2_with fail
        refine (fileName_c x _ hs).mono ?_
        rintro e w1 ⟨rfl, hb1⟩
        rw [h1]
        go_wp2
        go_ret
        exact ⟨ret_int HR.out.symm, hb.trans (hb1.mono hb.size)⟩
      · have h1' : fileB x = true := by simpa using h1
        cases h2 : (l.take k).any fun y => decide (y = x) with
        | true =>
          have HR := Lib.hid (show namesF l = 6 by rw [← HE.out, HST.out, if_neg (by unfold nameF; simp only [h1, h2]; simp)]; unfold nameF; simp only [h1, h2]; simp)
          have H2 := Lib.hid h2; clear h2
          have hkc : k ≤ c := by omega
          go_wp2_with fail
          refine (fileName_c x _ hs).mono ?_
          rintro e w1 ⟨rfl, hb1⟩
          have HB1 := Lib.hid (hb.trans (hb1.mono hb.size))
          have HSW := Lib.hid (HSV.out.below hb1 (fun b h => by have := HF.out b h; have := hb.size; omega))
          rw [h1']
          go_wp2_with fail
          refine (contains_c (l.take k) x _ F _ HSW.out).mono ?_
          rintro e w2 ⟨rfl, rfl⟩
          rw [H2.out]
          go_wp2
          go_ret
          exact ⟨ret_int HR.out.symm, HB1.out⟩
        | false =>
          have HN := Lib.hid (show namesFrom (l.take (k + 1)) (l.drop (k + 1)) = namesF l by rw [← HE.out, HST.out, if_pos (by unfold nameF; simp only [h1, h2]; simp)])
          have H2 := Lib.hid h2; clear h2
          have hkc : k ≤ c := by omega
          go_wp2_with fail
          refine (fileName_c x _ hs).mono ?_
          rintro e w1 ⟨rfl, hb1⟩
          have HB1 := Lib.hid (hb.trans (hb1.mono hb.size))
          have HSW := Lib.hid (HSV.out.below hb1 (fun b h => by have := HF.out b h; have := hb.size; omega))
          rw [h1']
          go_wp2_with fail
          refine (contains_c (l.take k) x _ F _ HSW.out).mono ?_
          rintro e w2 ⟨rfl, rfl⟩
          rw [H2.out]
          go_wp2
          go_roundw
          case rel => exact ⟨k + 1, by omega, intNum, HB1.out, HN.out⟩
          case measure => simp [intOf]; omega
    · have H := namesFrom_end l k (by omega)
      have HR := Lib.hid (show namesF l = 0 by rw [← HE.out, H])
      clear H
      go_wp2
      go_ret
      exact ⟨ret_int HR.out.symm, hb⟩
end Go.Proofs.YtnjbbkocobegiaaDoor
