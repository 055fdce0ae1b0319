/- Texts packed: TgE, TgF, TgI. -/
import Derived.Test.YtlfnmmnbfoimeaaGreatDoorSc30
import Derived.Test.YtlfnmmnbfoimeaaGreatDoorSc14
import Derived.Test.YtlfnmmnbfoimeaaGreatDoorSc02
import Derived.Test.YtlfnmmnbfoimeaaGreatDoorSc23
/- The error of an element: the program's and the reference's. -/
namespace Go.Proofs.YtlfnmmnbfoimeaaGreatDoor
set_option linter.unusedVariables false
open Go.RowKit

def EleP (k : Int) (s : ByteArray) (w : World) (e : Ending) (w' : World) : Prop := e = .returned (.int .i64 (elE k s)) ∧ Below w.heap.size w w'
theorem EleP.mk {k q : Int} {s : ByteArray} {w w' : World} (h : elE k s = q) (hb : Below w.heap.size w w') : EleP k s w (.returned (.int .i64 q)) w' := ⟨by rw [h], hb⟩
set_option maxHeartbeats 1600000 in
theorem CheckElement_c (k : Int) (s : ByteArray) (w : World) (hs : s.size ≤ 4000000000) (hm : MaxLaid w) : Calls Tryz.prog 49 #[.agg #[.int .i64 k, .string s]] w (EleP k s w) := by
  have HB := Lib.hid ((Below.refl w.heap.size w).alloc (Nat.le_refl _) (.cells #[.int .i64 k, .string s] 46))
  have HM := max_alloc hm (.cells #[.int .i64 k, .string s] 46)
  have HNA := Lib.hid (tName_c s (w.alloc (.cells #[.int .i64 k, .string s] 46)) hs HM)
  have HTH := Lib.hid (tThing_c s (w.alloc (.cells #[.int .i64 k, .string s] 46)) hs HM)
  clear hm HM
  by_cases k1 : k < 1
  · have HR := Lib.hid (elE_k (s := s) (.inl k1))
    go_enter Tryz.func49, Tryz.ntmps49
    go_wp2
    go_ret
    exact EleP.mk HR.out HB.out
  by_cases k2 : 11 < k
  · have HR := Lib.hid (elE_k (s := s) (.inr k2))
    go_enter Tryz.func49, Tryz.ntmps49
    go_wp2
    go_ret
    exact EleP.mk HR.out HB.out
  rcases eqF k 11 with ⟨q, q1, q2⟩ | ⟨q, q1, q2⟩
  · subst q
    clear q1 q2 k1 k2
    have hr := elE_r (s := s)
    cases hn : nameB s with
    | true =>
      have HR := Lib.hid (hr.trans (if_pos hn))
      clear hr
      go_enter Tryz.func49, Tryz.ntmps49
      go_wp2_with (first | (go_at_call 88; with_reducible refine HNA.out.mono ?_; rintro e w' ⟨rfl, rfl⟩; rw [hn]) | fail)
      go_ret
      exact EleP.mk HR.out HB.out
    | false =>
      have HR := Lib.hid (hr.trans (if_neg (by rw [hn]; decide)))
      clear hr
      go_enter Tryz.func49, Tryz.ntmps49
      go_wp2_with (first | (go_at_call 88; with_reducible refine HNA.out.mono ?_; rintro e w' ⟨rfl, rfl⟩; rw [hn]) | fail)
      go_ret
      exact EleP.mk HR.out HB.out
  · have hr := elE_t (k := k) (s := s) (by omega) (by omega)
    clear q
    cases hn : thingB s with
    | true =>
      have HR := Lib.hid (hr.trans (if_pos hn))
      clear hr
      go_enter Tryz.func49, Tryz.ntmps49
      go_wp2_with (first | (go_at_call 89; with_reducible refine HTH.out.mono ?_; rintro e w' ⟨rfl, rfl⟩; rw [hn]) | fail)
      go_ret
      exact EleP.mk HR.out HB.out
    | false =>
      have HR := Lib.hid (hr.trans (if_neg (by rw [hn]; decide)))
      clear hr
      go_enter Tryz.func49, Tryz.ntmps49
      go_wp2_with (first | (go_at_call 89; with_reducible refine HTH.out.mono ?_; rintro e w' ⟨rfl, rfl⟩; rw [hn]) | fail)
      go_ret
      exact EleP.mk HR.out HB.out

abbrev thSS : ByteArray := ⟨#[97, 98, 99, 100, 101, 102, 103, 104, 105, 106, 107, 108, 109, 110, 111, 112, 113, 114, 115, 116, 117, 118, 119, 120, 121, 122, 48, 49, 50, 51, 52, 53, 54, 55, 56, 57, 32]⟩
abbrev pwSS : ByteArray := ⟨#[97, 98, 99, 100, 101, 102, 103, 104, 105, 106, 107, 108, 109, 110, 111, 112, 113, 114, 115, 116, 117, 118, 119, 120, 121, 122, 48, 49, 50, 51, 52, 53, 54, 55, 56, 57, 39]⟩
theorem th_ascii : (thSS.data.toList.all fun b => decide (b.toNat < 128)) = true := by decide +kernel
theorem pw_ascii : (pwSS.data.toList.all fun b => decide (b.toNat < 128)) = true := by decide +kernel
theorem th_size : thSS.size ≤ 1000 := by decide +kernel
theorem pw_size : pwSS.size ≤ 1000 := by decide +kernel
theorem th_made (s : ByteArray) : allB (thSS.data.toList.contains ·) s = allB thC s := allB_congr (by decide +kernel) s
theorem pw_made (s : ByteArray) : allB (pwSS.data.toList.contains ·) s = allB pwC s := allB_congr (by decide +kernel) s
set_option maxRecDepth 100000 in
set_option maxHeartbeats 4000000 in
theorem ElementFault_c (k : Int) (s : ByteArray) (w : World) (hs : s.size ≤ 1000000) (hsp : SpLaid w) : Calls Tryz.prog 22 #[.agg #[.int .i64 k, .string s]] w (EleP k s w) := by
  have HB := Lib.hid ((Below.refl w.heap.size w).alloc (Nat.le_refl _) (.cells #[.int .i64 k, .string s] 46))
  have hsp1 := sp_below hsp HB.out (Nat.le_refl _)
  have HNA := Lib.hid (NameOf_c s (w.alloc (.cells #[.int .i64 k, .string s] 46)) hs hsp1)
  have HPL := Lib.hid (plainR_c s (w.alloc (.cells #[.int .i64 k, .string s] 46)) (by omega) hsp1)
  have HLO := Lib.hid (long_c s 1 40 (w.alloc (.cells #[.int .i64 k, .string s] 46)) (by omega))
  have HMA := Lib.hid (fun W => made_c s thSS W (by omega) th_size th_ascii)
  have HY := Lib.hid (fun (W : World) (hb : Below (w.alloc (.cells #[.int .i64 k, .string s] 46)).heap.size (w.alloc (.cells #[.int .i64 k, .string s] 46)) W) => show W.cell? ⟨w.heap.size, 0, none⟩ = some (.int .i64 k) ∧ W.cell? ⟨w.heap.size, 1, none⟩ = some (.string s) by
    obtain ⟨y, _⟩ := str_cells ((hb.block w.heap.size (by simp)).trans (heap_alloc_new w _))
    exact ⟨y 0, y 1⟩)
  clear hsp hsp1
  by_cases k1 : k < 1
  · have HR := Lib.hid (elE_k (s := s) (.inl k1))
    go_enter Tryz.func22, Tryz.ntmps22
    go_wp2
    go_ret
    exact EleP.mk HR.out HB.out
  by_cases k2 : 11 < k
  · have HR := Lib.hid (elE_k (s := s) (.inr k2))
    go_enter Tryz.func22, Tryz.ntmps22
    go_wp2
    go_ret
    exact EleP.mk HR.out HB.out
  rcases eqF k 11 with ⟨q, q1, q2⟩ | ⟨q, q1, q2⟩
  · subst q
    clear q1 q2 k1 k2
    have hr := elE_r (s := s)
    cases hn : nameB s with
    | true =>
      have HR := Lib.hid (hr.trans (if_pos hn))
      clear hr
      go_enter Tryz.func22, Tryz.ntmps22
      go_wp2_with (first | (go_at_call 52; with_reducible refine HNA.out.mono ?_; rintro e w2 ⟨rfl, hb2⟩; rw [hn]) | fail)
      go_ret
      exact EleP.mk HR.out (HB.out.trans (hb2.mono (by simp)))
    | false =>
      have HR := Lib.hid (hr.trans (if_neg (by rw [hn]; decide)))
      clear hr
      go_enter Tryz.func22, Tryz.ntmps22
      go_wp2_with (first | (go_at_call 52; with_reducible refine HNA.out.mono ?_; rintro e w2 ⟨rfl, hb2⟩; rw [hn]) | fail)
      go_ret
      exact EleP.mk HR.out (HB.out.trans (hb2.mono (by simp)))
  have hr := elE_t (k := k) (s := s) (by omega) (by omega)
  clear q
  by_cases h0 : s.size < 1 ∨ 40 < s.size
  · have HR := Lib.hid (hr.trans (if_neg (by rw [thingB_no (by rcases h0 with h | h; exact .inl h; exact .inr (.inl h))]; decide)))
    have hlo : (decide ((1 : Int) ≤ s.size) && decide ((s.size : Int) ≤ 40)) = false := by
      rcases h0 with h | h
      · rw [decide_eq_false (by omega)]; rfl
      · rw [decide_eq_false (p := (s.size : Int) ≤ 40) (by omega)]; simp
    clear h0 hr
    go_enter Tryz.func22, Tryz.ntmps22
    go_wp2_with (first | (go_at_call 53; with_reducible refine HLO.out.mono ?_; rintro e w' ⟨rfl, rfl⟩; rw [hlo]) | fail)
    go_ret
    exact EleP.mk HR.out HB.out
  have hlo : (decide ((1 : Int) ≤ s.size) && decide ((s.size : Int) ≤ 40)) = true := by rw [decide_eq_true (by omega), decide_eq_true (by omega)]; rfl
  cases hpl : plainB s with
  | false =>
    have HR := Lib.hid (hr.trans (if_neg (by rw [thingB_no (.inr (.inr (.inl hpl)))]; decide)))
    clear hr h0
    go_enter Tryz.func22, Tryz.ntmps22
    go_wp2_with (first | (go_at_call 53; with_reducible refine HLO.out.mono ?_; rintro e w' ⟨rfl, rfl⟩; rw [hlo]) | (go_at_call 54; with_reducible refine HPL.out.mono ?_; rintro e w2 ⟨rfl, hb2⟩; rw [hpl]) | fail)
    go_ret
    exact EleP.mk HR.out (HB.out.trans (hb2.mono (by simp)))
  | true =>
  have hset := th_made s
  have hty := thingB_yes (s := s) (by omega) (by omega) hpl
  rw [← hset] at hty
  rw [hty] at hr
  have HR := Lib.hid hr
  clear hr hty hset h0
  cases hpc : allB (thSS.data.toList.contains ·) s
  all_goals
    rw [hpc] at HR
    go_enter Tryz.func22, Tryz.ntmps22
    go_wp2_with (first | (go_at_call 53; with_reducible refine HLO.out.mono ?_; rintro e w' ⟨rfl, rfl⟩; rw [hlo]) | (go_at_call 54; with_reducible refine HPL.out.mono ?_; rintro e w2 ⟨rfl, hb2⟩; rw [hpl]; obtain ⟨y0, y1⟩ := HY.out w2 hb2) | (go_at_call 55; with_reducible refine (HMA.out w2).mono ?_; rintro e w3 ⟨rfl, hb3⟩; rw [hpc]) | fail)
    go_ret
    exact EleP.mk (by simpa using HR.out) ((HB.out.trans (hb2.mono (by simp))).trans (hb3.mono (HB.out.trans (hb2.mono (by simp))).size))
end Go.Proofs.YtlfnmmnbfoimeaaGreatDoor

/- The reference's error of a pattern. -/
namespace Go.Proofs.YtlfnmmnbfoimeaaGreatDoor
set_option linter.unusedVariables false
open Go.RowKit

theorem strAtP {w : World} {F : Nat → Prop} {l : List ByteArray} {B n c : Nat} (h : Sli strR w F l (.slice (some ⟨B, 0, none⟩) n c)) (k : Nat) (hk : k < l.length) : w.cell? ⟨B, k, none⟩ = some (.string l[k]) := by
  obtain ⟨b, off, e, _, hc⟩ := strAt h k hk
  injection e with e
  injection e with e1 e2
  subst e1; subst e2
  rwa [Nat.zero_add] at hc
theorem starSz {s : ByteArray} (h : Lib.hasSuffix s.data.toList [42] = true) : 1 ≤ s.size := by
  have := (List.isSuffixOf_iff_suffix.1 h).length_le
  simpa using this
theorem trimStar {s : ByteArray} (h : Lib.hasSuffix s.data.toList [42] = true) : (⟨(Lib.trimSuffix s.data.toList [42]).toArray⟩ : ByteArray) = cutStar s := by
  unfold Lib.trimSuffix cutStar
  rw [if_pos h]
  rcases s with ⟨⟨l⟩⟩
  show (⟨⟨l.take (l.length - 1)⟩⟩ : ByteArray) = _
  apply ByteArray.ext
  rw [ByteArray.data_extract]
  show (⟨l.take (l.length - 1)⟩ : Array UInt8) = (⟨l⟩ : Array UInt8).extract 0 (l.length - 1)
  rw [List.extract_toArray]
  simp [List.extract]
theorem trQ_c (s : ByteArray) (w : World) (hs : s.size ≤ 1000000) : Calls Tryz.prog 92 #[.string s, .string ⟨#[39]⟩] w fun e w' => e = .returned (.string (trQ s)) ∧ Below w.heap.size w w' := trim_c s ⟨#[39]⟩ w (by omega) (by decide) (by decide)
set_option maxRecDepth 100000 in
set_option maxHeartbeats 4000000 in
theorem wordOf_c (s : ByteArray) (w : World) (hs : s.size ≤ 1000000) : Calls Tryz.prog 87 #[.string s] w fun e w' => e = .returned (.bool (pwB s)) ∧ Below w.heap.size w w' := by
  have HLO := Lib.hid (long_c s 1 20 w (by omega))
  have HMA := Lib.hid (made_c s pwSS w (by omega) pw_size pw_ascii)
  have HTR := Lib.hid (fun W => trQ_c s W hs)
  by_cases h0 : s.size < 1 ∨ 20 < s.size
  · have HR := Lib.hid (pwB_no (s := s) (by rcases h0 with h | h; exact .inl h; exact .inr (.inl h)))
    have hlo : (decide ((1 : Int) ≤ s.size) && decide ((s.size : Int) ≤ 20)) = false := by
      rcases h0 with h | h
      · rw [decide_eq_false (by omega)]; rfl
      · rw [decide_eq_false (p := (s.size : Int) ≤ 20) (by omega)]; simp
    clear h0
    go_enter Tryz.func87, Tryz.ntmps87
    go_wp2_with (first | (go_at_call 53; with_reducible refine HLO.out.mono ?_; rintro e w' ⟨rfl, rfl⟩; rw [hlo]) | fail)
    go_ret
    exact ⟨ret_bool HR.out.symm, Below.refl _ _⟩
  have hlo : (decide ((1 : Int) ≤ s.size) && decide ((s.size : Int) ≤ 20)) = true := by rw [decide_eq_true (by omega), decide_eq_true (by omega)]; rfl
  have hset := pw_made s
  cases hpc : allB pwC s with
  | false =>
    have HR := Lib.hid (pwB_no (s := s) (.inr (.inr (.inr hpc))))
    rw [hpc] at hset
    clear h0
    go_enter Tryz.func87, Tryz.ntmps87
    go_wp2_with (first | (go_at_call 53; with_reducible refine HLO.out.mono ?_; rintro e w' ⟨rfl, rfl⟩; rw [hlo]) | (go_at_call 55; with_reducible refine HMA.out.mono ?_; rintro e w3 ⟨rfl, hb3⟩; rw [hset]) | fail)
    go_ret
    exact ⟨ret_bool HR.out.symm, hb3⟩
  | true =>
  rw [hpc] at hset
  cases htr : (trQ s).toList.isEmpty with
  | true =>
    have HR := Lib.hid (pwB_no (s := s) (.inr (.inr (.inl htr))))
    clear h0
    generalize trQ s = q at *
    go_enter Tryz.func87, Tryz.ntmps87
    go_wp2_with (first | (go_at_call 53; with_reducible refine HLO.out.mono ?_; rintro e w' ⟨rfl, rfl⟩; rw [hlo]) | (go_at_call 55; with_reducible refine HMA.out.mono ?_; rintro e w3 ⟨rfl, hb3⟩; rw [hset]) | (go_at_call 92; with_reducible refine (HTR.out _).mono ?_; rintro e w4 ⟨rfl, hb4⟩) | fail)
    go_ret
    exact ⟨ret_bool HR.out.symm, hb3.trans (hb4.mono hb3.size)⟩
  | false =>
    have HR := Lib.hid ((pwB_yes (s := s) (by omega) (by omega) htr).trans hpc)
    clear h0
    generalize trQ s = q at *
    go_enter Tryz.func87, Tryz.ntmps87
    go_wp2_with (first | (go_at_call 53; with_reducible refine HLO.out.mono ?_; rintro e w' ⟨rfl, rfl⟩; rw [hlo]) | (go_at_call 55; with_reducible refine HMA.out.mono ?_; rintro e w3 ⟨rfl, hb3⟩; rw [hset]) | (go_at_call 92; with_reducible refine (HTR.out _).mono ?_; rintro e w4 ⟨rfl, hb4⟩) | fail)
    go_ret
    exact ⟨ret_bool HR.out.symm, hb3.trans (hb4.mono hb3.size)⟩

/-- A part's two answers. -/
def ItO (s : ByteArray) (w : World) (e : Ending) (w' : World) : Prop := ∃ b : Bool, e = .returned (.tuple #[.bool (rdItm s).2, .bool b]) ∧ ((rdItm s).2 = true → b = itmW s) ∧ Below w.heap.size w w'
theorem rdItm_q {s : ByteArray} (h : s.toList = [63]) : rdItm s = (⟨true, false, false, []⟩, true) := if_pos h
theorem rdItm_h {s : ByteArray} (h1 : ¬ s.toList = [63]) (h : s.toList = [35]) : rdItm s = (⟨false, true, false, []⟩, true) := by unfold rdItm; rw [if_neg h1, if_pos h]
theorem rdItm_s {s : ByteArray} (h1 : ¬ s.toList = [63]) (h2 : ¬ s.toList = [35]) (h : Lib.hasSuffix s.data.toList [42] = true) : rdItm s = (⟨false, false, true, [cutStar s]⟩, pwB (cutStar s)) := by unfold rdItm; rw [if_neg h1, if_neg h2, if_pos h]
theorem rdItm_y {s : ByteArray} (h1 : ¬ s.toList = [63]) (h2 : ¬ s.toList = [35]) (h3 : ¬ Lib.hasSuffix s.data.toList [42] = true) (h : (words s 124).all pwB = true) : rdItm s = (⟨false, false, false, words s 124⟩, true) := by unfold rdItm; rw [if_neg h1, if_neg h2, if_neg h3, if_pos h]
theorem rdItm_n {s : ByteArray} (h1 : ¬ s.toList = [63]) (h2 : ¬ s.toList = [35]) (h3 : ¬ Lib.hasSuffix s.data.toList [42] = true) (h : ¬ (words s 124).all pwB = true) : rdItm s = (Itm.none_, false) := by unfold rdItm; rw [if_neg h1, if_neg h2, if_neg h3, if_neg h]
theorem all_prefix {l : List ByteArray} {p : ByteArray → Bool} {k : Nat} (hk : k < l.length) (h : p l[k] = false) : ¬ l.all p = true := fun ha => by
  have := List.all_eq_true.1 ha _ (List.getElem_mem hk)
  rw [h] at this; cases this
theorem all_whole {l : List ByteArray} {p : ByteArray → Bool} {k : Nat} (hk : ¬ k < l.length) (h : ∀ x ∈ l.take k, p x = true) : l.all p = true := List.all_eq_true.2 fun x hx => h x (by rw [List.take_of_length_le (by omega)]; exact hx)
theorem all_more {l : List ByteArray} {p : ByteArray → Bool} {k : Nat} (hk : k < l.length) (h : ∀ x ∈ l.take k, p x = true) (hp : p l[k] = true) : ∀ x ∈ l.take (k + 1), p x = true := by
  intro x hx
  rw [List.take_succ_eq_append_getElem hk, List.mem_append] at hx
  rcases hx with hx | hx
  · exact h x hx
  · rw [List.mem_singleton.1 hx]; exact hp
theorem itmW_words {s : ByteArray} (h1 : ¬ s.toList = [63]) (h2 : ¬ s.toList = [35]) (h3 : (rdItm s).2 = true) : itmW s = true := by
  unfold itmW
  rw [decide_eq_true_eq]
  by_cases h : Lib.hasSuffix s.data.toList [42] = true
  · rw [rdItm_s h1 h2 h]; simp
  · by_cases h4 : (words s 124).all pwB = true
    · rw [rdItm_y h1 h2 h h4]; show 0 < (words s 124).length; rw [words_len]; omega
    · rw [rdItm_n h1 h2 h h4] at h3; cases h3
set_option maxRecDepth 100000 in
set_option maxHeartbeats 4000000 in
theorem itemOf_c (s : ByteArray) (w : World) (hs : s.size ≤ 1000000) (hm : MaxLaid w) : Calls Tryz.prog 48 #[.string s] w (ItO s w) := by
  have HSU := Lib.hid (fun W => Tryz.strings_HasSuffix s ⟨#[42]⟩ W (by omega))
  by_cases h1 : s.toList = [63]
  · have HR := Lib.hid (rdItm_q h1)
    have hb : (s.toList == [63]) = true := beq_iff_eq.2 h1
    have HW := Lib.hid (show itmW s = false by unfold itmW; rw [HR.out]; rfl)
    clear h1
    go_enter Tryz.func48, Tryz.ntmps48
    go_wp2_with (first | fail)
    go_ret2
    exact ⟨false, (by rw [HR.out]; rfl), fun _ => HW.out.symm, Below.refl _ _⟩
  have hb1 : (s.toList == [63]) = false := beq_eq_false_iff_ne.2 h1
  by_cases h2 : s.toList = [35]
  · have HR := Lib.hid (rdItm_h h1 h2)
    have hb : (s.toList == [35]) = true := beq_iff_eq.2 h2
    have HW := Lib.hid (show itmW s = false by unfold itmW; rw [HR.out]; rfl)
    clear h1 h2
    go_enter Tryz.func48, Tryz.ntmps48
    go_wp2_with (first | fail)
    go_ret2
    exact ⟨false, (by rw [HR.out]; rfl), fun _ => HW.out.symm, Below.refl _ _⟩
  have hb2 : (s.toList == [35]) = false := beq_eq_false_iff_ne.2 h2
  have HIW := Lib.hid (itmW_words h1 h2)
  cases hsu : Lib.hasSuffix s.data.toList (⟨#[42]⟩ : ByteArray).data.toList with
  | true =>
    have HR := Lib.hid (rdItm_s h1 h2 hsu)
    have hz := starSz hsu
    have h3 : ((s.size : Int) - 1).toNat = s.size - 1 := by omega
    have h5 : (s.size : Int) - 1 ≤ s.size := by omega
    have h6 : (0 : Int) ≤ (s.size : Int) - 1 := by omega
    have HWO := Lib.hid (fun W => show Calls Tryz.prog 87 #[.string (s.extract 0 (s.size - 1))] W fun e w' => e = .returned (.bool (pwB (cutStar s))) ∧ Below W.heap.size W w' from wordOf_c (s.extract 0 (s.size - 1)) W (by rw [ByteArray.size_extract]; omega))
    clear h1 h2
    generalize pwB (cutStar s) = q at *
    go_enter Tryz.func48, Tryz.ntmps48
    go_wp2_with (first | (go_at_call 58; with_reducible refine (HSU.out _).mono ?_; rintro e w' ⟨rfl, rfl⟩; rw [hsu]) | (go_at_call 87; with_reducible refine (HWO.out _).mono ?_; rintro e w3 ⟨rfl, hb3⟩) | fail)
    go_ret2
    exact ⟨true, (by rw [HR.out]; rfl), fun h => (HIW.out h).symm, hb3⟩
  | false =>
  have hns : ¬ Lib.hasSuffix s.data.toList [42] = true := fun h => by rw [show Lib.hasSuffix s.data.toList [42] = false from hsu] at h; cases h
  have HRY := Lib.hid (rdItm_y h1 h2 hns)
  have HRN := Lib.hid (rdItm_n h1 h2 hns)
  have HWS := Lib.hid (words_c s 124 w (by omega) hm)
  have HSZ := Lib.hid (fun (x : ByteArray) (hx : x ∈ words s 124) => words_size hx)
  have HLL := Lib.hid (words_le s 124)
  clear h1 h2 hns hm
  go_enter Tryz.func48, Tryz.ntmps48
  go_wp2_with (first | (go_at_call 58; with_reducible refine (HSU.out _).mono ?_; rintro e w' ⟨rfl, rfl⟩; rw [hsu]) | fail)
  refine HWS.out.mono ?_
  rintro e w1 ⟨rfl, hw1, hb1, hz1⟩
  have HL := Lib.hid hw1
  have HB := Lib.hid hb1
  obtain ⟨L, hL⟩ : ∃ L, (words s 124).length = L := ⟨_, rfl⟩
  have HLE := Lib.hid hL
  have hLb : L ≤ 1000001 := by rw [← hL]; have := HLL.out; omega
  rw [hL] at HL ⊢
  clear hw1 hb1 hL hsu HSU HWS HLL
  go_wp2
  go_loopw [23] (fun i wr => ∃ k : Nat, k ≤ L ∧ i = .int .i64 k ∧ Hid (∀ x ∈ (words s 124).take k, pwB x = true) ∧ Hid (Below w1.heap.size w1 wr)) (fun i _ => L - (intOf i).toNat)
  case atStart => exact ⟨0, Nat.zero_le _, rfl, by intro x hx; simp at hx, Below.refl _ _⟩
  case round =>
    obtain ⟨k, hk, rfl, HN, HW⟩ := hrel
    by_cases hlt : k < L
    · have hk2 : k < (words s 124).length := by rw [HLE.out]; exact hlt
      have c0 := (HW.out.cell (p := ⟨w'.heap.size, k, none⟩) (by show w'.heap.size < w1.heap.size; omega)).trans (strAtP HL.out k hk2)
      have HWO := Lib.hid (wordOf_c ((words s 124)[k]) wr (by have := HSZ.out _ (List.getElem_mem hk2); omega))
      have HNY := Lib.hid (fun h => all_more hk2 HN.out h)
      have HNN := Lib.hid (fun h => HRN.out (all_prefix hk2 h))
      generalize (words s 124)[k]'hk2 = x at *
      cases hx : pwB x with
      | true =>
        have HK := Lib.hid (HNY.out hx)
        go_wp2_with (first | (go_at_call 87; with_reducible refine HWO.out.mono ?_; rintro e w2 ⟨rfl, hb2⟩; rw [hx]) | fail)
        have HB2 := Lib.hid (HW.out.trans (hb2.mono HW.out.size))
        clear hb2
        go_round
        case rel => exact ⟨k + 1, by omega, intNum, HK.out, HB2.out⟩
        case measure => simp [intOf]; omega
      | false =>
        have HR := Lib.hid (HNN.out hx)
        go_wp2_with (first | (go_at_call 87; with_reducible refine HWO.out.mono ?_; rintro e w2 ⟨rfl, hb2⟩; rw [hx]) | fail)
        go_ret2
        exact ⟨true, (by rw [HR.out]; rfl), fun h => (by rw [HR.out] at h; cases h), HB.out.trans ((HW.out.trans (hb2.mono HW.out.size)).mono HB.out.size)⟩
    · have HR := Lib.hid (HRY.out (all_whole (by rw [HLE.out]; exact hlt) HN.out))
      go_wp2
      go_ret2
      exact ⟨true, (by rw [HR.out]; rfl), fun h => (HIW.out h).symm, HB.out.trans (HW.out.mono HB.out.size)⟩

def patE (p : ByteArray) : Int := if patB p = true then 0 else 9
theorem patE_no {p : ByteArray} {k : Nat} (hk : k < (partsP p).length) (h : (rdItm (partsP p)[k]).2 = false) : patE p = 9 := by
  unfold patE patB
  rw [if_neg]
  intro ha
  simp only [Bool.and_eq_true] at ha
  have := List.all_eq_true.1 ha.1.1 _ (List.getElem_mem hk)
  rw [h] at this; cases this
theorem patE_end {p : ByteArray} {k : Nat} (hk : ¬ k < (partsP p).length) (h : ∀ x ∈ (partsP p).take k, (rdItm x).2 = true) : patE p = if 8 < (partsP p).length ∨ ((partsP p).take k).any itmW = false then 9 else 0 := by
  have e : (partsP p).take k = partsP p := List.take_of_length_le (by omega)
  rw [e] at h ⊢
  unfold patE patB
  rw [List.all_eq_true.2 h, Bool.true_and]
  by_cases h8 : 8 < (partsP p).length
  · rw [decide_eq_false (show ¬ (partsP p).length ≤ 8 by omega), if_neg (by simp), if_pos (Or.inl h8)]
  · rw [decide_eq_true (show (partsP p).length ≤ 8 by omega), Bool.and_true]
    cases (partsP p).any itmW with
    | true => rw [if_pos rfl, if_neg (by simp; omega)]
    | false => rw [if_neg (by simp), if_pos (Or.inr rfl)]
def PatP (p : ByteArray) (w : World) (e : Ending) (w' : World) : Prop := e = .returned (.int .i64 (patE p)) ∧ Below w.heap.size w w'
theorem PatP.mk {p : ByteArray} {q : Int} {w w' : World} (h : patE p = q) (hb : Below w.heap.size w w') : PatP p w (.returned (.int .i64 q)) w' := ⟨by rw [h], hb⟩
set_option maxRecDepth 100000 in
set_option maxHeartbeats 4000000 in
theorem PatternFault_c (p : ByteArray) (w : World) (hs : p.size ≤ 1000000) (hm : MaxLaid w) : Calls Tryz.prog 19 #[.string p] w (PatP p w) := by
  have HWS := Lib.hid (show Calls Tryz.prog 47 #[.string p, .string ⟨#[32]⟩] w (WordsP p 32 w) from words_c p 32 w (by omega) hm)
  have HSZ := Lib.hid (fun (x : ByteArray) (hx : x ∈ partsP p) => show x.size ≤ p.size from words_size hx)
  have HLL := Lib.hid (show (partsP p).length ≤ p.size + 1 from words_le p 32)
  have HM := Lib.hid hm
  clear hm
  go_enter Tryz.func19, Tryz.ntmps19
  go_wp2_with fail
  refine HWS.out.mono ?_
  rintro e w1 ⟨rfl, hw1, hb1, hz1⟩
  have HL := Lib.hid (show Sli strR w1 (fun b => b = w.heap.size) (partsP p) (.slice (some ⟨w.heap.size, 0, none⟩) (partsP p).length (partsP p).length) from hw1)
  have HB := Lib.hid hb1
  rw [show (words p 32).length = (partsP p).length from rfl]
  obtain ⟨L, hL⟩ : ∃ L, (partsP p).length = L := ⟨_, rfl⟩
  have HLE := Lib.hid hL
  have hLb : L ≤ 1000001 := by rw [← hL]; have := HLL.out; omega
  rw [hL] at HL ⊢
  clear hw1 hb1 hL HWS HLL
  go_wp2
  go_loopw [4, 13] (fun a i wr => ∃ k : Nat, k ≤ L ∧ i = .int .i64 k ∧ a = .bool (((partsP p).take k).any itmW) ∧ Hid (∀ x ∈ (partsP p).take k, (rdItm x).2 = true) ∧ Hid (Below w1.heap.size w1 wr)) (fun _ i _ => L - (intOf i).toNat)
  case atStart => exact ⟨0, Nat.zero_le _, rfl, rfl, by intro x hx; simp at hx, Below.refl _ _⟩
  case round =>
    obtain ⟨k, hk, rfl, rfl, HN, HW⟩ := hrel
    obtain ⟨sm, hsm⟩ : ∃ sm, ((partsP p).take k).any itmW = sm := ⟨_, rfl⟩
    have HSM := Lib.hid hsm
    rw [hsm]
    clear hsm
    by_cases hlt : k < L
    · have hk2 : k < (partsP p).length := by rw [HLE.out]; exact hlt
      have c0 := (HW.out.cell (p := ⟨w.heap.size, k, none⟩) (by show w.heap.size < w1.heap.size; omega)).trans (strAtP HL.out k hk2)
      have HIT := Lib.hid (itemOf_c ((partsP p)[k]) wr (by have := HSZ.out _ (List.getElem_mem hk2); omega) (max_below HM.out (HB.out.trans (HW.out.mono HB.out.size)) (Nat.le_refl _)))
      have HNY := Lib.hid (fun h => all_more (p := fun x => (rdItm x).2) hk2 HN.out h)
      have HNN := Lib.hid (fun h => patE_no hk2 h)
      have HSN := Lib.hid (show ((partsP p).take (k + 1)).any itmW = (sm || itmW (partsP p)[k]) by rw [List.take_succ_eq_append_getElem hk2, List.any_append, HSM.out]; simp)
      generalize (partsP p)[k]'hk2 = x at *
      go_wp2_with fail
      refine HIT.out.mono ?_
      rintro e w2 ⟨b, rfl, hbb, hb2⟩
      have HB2 := Lib.hid (HW.out.trans (hb2.mono HW.out.size))
      have HBB := Lib.hid hbb
      clear hb2 hbb HIT
      cases hx : (rdItm x).2 with
      | true =>
        have HK := Lib.hid (HNY.out hx)
        have hbe := HBB.out hx
        have HSN2 := Lib.hid (HSN.out.trans (by rw [← hbe] : (sm || itmW x) = (sm || b)))
        clear hbe
        cases sm
        all_goals
          go_wp2_with fail
          go_round
          case rel => exact ⟨k + 1, by omega, intNum, by rw [HSN2.out]; simp, HK.out, HB2.out⟩
          case measure => simp [intOf]; omega
      | false =>
        have HR := Lib.hid (HNN.out hx)
        go_wp2
        go_ret
        exact PatP.mk HR.out (HB.out.trans (HB2.out.mono HB.out.size))
    · have HR := Lib.hid (patE_end (by rw [HLE.out]; exact hlt) HN.out)
      rw [HLE.out, HSM.out] at HR
      by_cases h8 : 8 < L
      · have HR2 := Lib.hid (HR.out.trans (if_pos (.inl h8)))
        have h8' : (8 : Int) < L := by omega
        clear HR
        go_wp2
        go_ret
        exact PatP.mk HR2.out (HB.out.trans (HW.out.mono HB.out.size))
      · have h8' : ¬ (8 : Int) < L := by omega
        cases sm
        · have HR2 := Lib.hid (HR.out.trans (if_pos (.inr rfl)))
          clear HR
          go_wp2
          go_ret
          exact PatP.mk HR2.out (HB.out.trans (HW.out.mono HB.out.size))
        · have HR2 := Lib.hid (HR.out.trans (if_neg (by simp; omega)))
          clear HR
          go_wp2
          go_ret
          exact PatP.mk HR2.out (HB.out.trans (HW.out.mono HB.out.size))
end Go.Proofs.YtlfnmmnbfoimeaaGreatDoor

/- Reading a part of a pattern, walked. -/

namespace Go.Proofs.YtlfnmmnbfoimeaaGreatDoor
set_option linter.unusedVariables false
open Go.RowKit

def itmV (x : Itm) (v : Value) : Value := .agg #[.bool x.any, .bool x.count, .bool x.begins, v]
/-- What lies in memory of a part that has been read. -/
def ItmP (s : ByteArray) (w : World) (e : Ending) (w' : World) : Prop :=
  ∃ v, e = .returned (.tuple #[itmV (rdItm s).1 v, .bool (rdItm s).2]) ∧ Below w.heap.size w w' ∧ Sli strR w' (fun b => w.heap.size ≤ b ∧ b < w'.heap.size) (rdItm s).1.ws v
theorem itmP_nil {s : ByteArray} {x : Itm} {b : Bool} {w w' : World} (h : rdItm s = (x, b)) (hx : x.ws = []) (hb : Below w.heap.size w w') : ItmP s w (.returned (.tuple #[itmV x (.slice none 0 0), .bool b])) w' :=
  ⟨.slice none 0 0, by rw [h], hb, by rw [h, show (x, b).1.ws = [] from hx]; exact Sli.nil_⟩
theorem itmP_row {s : ByteArray} {x : Itm} {b : Bool} {v : Value} {w w' : World} {F : Nat → Prop} (h : rdItm s = (x, b)) (hb : Below w.heap.size w w') (hx : Sli strR w' F x.ws v) (hF : ∀ q, F q → w.heap.size ≤ q ∧ q < w'.heap.size) : ItmP s w (.returned (.tuple #[itmV x v, .bool b])) w' :=
  ⟨v, by rw [h], hb, by rw [h]; exact hx.more hF⟩
theorem cutSuf_c (s p : ByteArray) (w : World) (hs : s.size ≤ 1000000) : Calls Tryz.prog 99 #[.string s, .string p] w fun e w' => e = .returned (.tuple #[.string ⟨(Lib.trimSuffix s.data.toList p.data.toList).toArray⟩, .bool (Lib.hasSuffix s.data.toList p.data.toList)]) ∧ w' = w := Tryz.strings_CutSuffix s p w (by omega)
abbrev itmC (a b c : Bool) (v : Value) : Array Value := #[.bool a, .bool b, .bool c, v]
theorem itmFin {w wx : World} (h : PvG w [(w.heap.size, itmC false false false (.slice none 0 0), 103)] wx) (a b c : Bool) (v : Value) :
    (wx.frozen? ⟨w.heap.size, 0, none⟩ = false ∧ wx.frozen? ⟨w.heap.size, 1, none⟩ = false ∧ wx.frozen? ⟨w.heap.size, 2, none⟩ = false ∧ wx.frozen? ⟨w.heap.size, 3, none⟩ = false) ∧
    (wx.cell? ⟨w.heap.size, 0, none⟩ = some (.bool false) ∧ wx.cell? ⟨w.heap.size, 1, none⟩ = some (.bool false) ∧ wx.cell? ⟨w.heap.size, 2, none⟩ = some (.bool false) ∧ wx.cell? ⟨w.heap.size, 3, none⟩ = some (.slice none 0 0)) ∧
    Below w.heap.size w ((((wx.setCell ⟨w.heap.size, 0, none⟩ (.bool a)).setCell ⟨w.heap.size, 1, none⟩ (.bool b)).setCell ⟨w.heap.size, 2, none⟩ (.bool c)).setCell ⟨w.heap.size, 3, none⟩ v) := by
  obtain ⟨y, f⟩ := h.cell (p := (w.heap.size, itmC false false false (.slice none 0 0), 103)) (by simp)
  refine ⟨⟨f 0, f 1, f 2, f 3⟩, ⟨y 0, y 1, y 2, y 3⟩, ?_⟩
  exact ((((h.set (i := 0) (fun h => h) (.bool a) (by simp)).set (i := 1) (fun h => h) (.bool b) (by simp)).set (i := 2) (fun h => h) (.bool c) (by simp)).set (i := 3) (fun h => h) v (by simp)).bel
theorem sli_set4 {F : Nat → Prop} {l : List ByteArray} {v : Value} {wx : World} {n : Nat} {a b c d : Value} (h : Sli strR wx F l v) (hF : ¬ F n) : Sli strR ((((wx.setCell ⟨n, 0, none⟩ a).setCell ⟨n, 1, none⟩ b).setCell ⟨n, 2, none⟩ c).setCell ⟨n, 3, none⟩ d) F l v :=
  (((h.setCell (p := ⟨n, 0, none⟩) a hF).setCell (p := ⟨n, 1, none⟩) b hF).setCell (p := ⟨n, 2, none⟩) c hF).setCell (p := ⟨n, 3, none⟩) d hF
theorem size_set4 {wx : World} {n : Nat} {a b c d : Value} : ((((wx.setCell ⟨n, 0, none⟩ a).setCell ⟨n, 1, none⟩ b).setCell ⟨n, 2, none⟩ c).setCell ⟨n, 3, none⟩ d).heap.size = wx.heap.size := by simp [World.setCell]
set_option maxRecDepth 100000 in
set_option maxHeartbeats 4000000 in
theorem readItem_c (s : ByteArray) (w : World) (hs : s.size ≤ 1000000) (hm : MaxLaid w) : Calls Tryz.prog 61 #[.string s] w (ItmP s w) := by
  have HSU := Lib.hid (fun W => cutSuf_c s ⟨#[42]⟩ W hs)
  have hG : PvG w [(w.heap.size, itmC false false false (.slice none 0 0), 103)] (w.alloc (.cells (itmC false false false (.slice none 0 0)) 103)) := (pvStart w).new (itmC false false false (.slice none 0 0)) 103
  go_enter Tryz.func61, Tryz.ntmps61
  go_upto_region 1 with (fail)
  generalize hW : w.alloc (.cells #[.bool false, .bool false, .bool false, .slice none 0 0] 103) = w1
  have G1 := Lib.hid (show PvG w [(w.heap.size, itmC false false false (.slice none 0 0), 103)] w1 by rw [← hW]; exact hG)
  clear hG hW
  by_cases h1 : s.toList = [63]
  · have HR := Lib.hid (rdItm_q h1)
    have hb : (s.toList == [63]) = true := beq_iff_eq.2 h1
    obtain ⟨⟨f0, f1, f2, f3⟩, ⟨y0, y1, y2, y3⟩, hB⟩ := itmFin G1.out true false false (.slice none 0 0)
    have HB := Lib.hid hB
    clear h1 hB
    go_wp2_with (first | fail)
    refine ⟨rfl, .tuple #[itmV ⟨true, false, false, []⟩ (.slice none 0 0), .bool true], (by rw [results_cell_tmp rfl]; go_simp; rfl), ?_⟩
    exact itmP_nil HR.out rfl HB.out
  have hb1 : (s.toList == [63]) = false := beq_eq_false_iff_ne.2 h1
  by_cases h2 : s.toList = [35]
  · have HR := Lib.hid (rdItm_h h1 h2)
    have hb : (s.toList == [35]) = true := beq_iff_eq.2 h2
    obtain ⟨⟨f0, f1, f2, f3⟩, ⟨y0, y1, y2, y3⟩, hB⟩ := itmFin G1.out false true false (.slice none 0 0)
    have HB := Lib.hid hB
    clear h1 h2 hB
    go_wp2_with (first | fail)
    refine ⟨rfl, .tuple #[itmV ⟨false, true, false, []⟩ (.slice none 0 0), .bool true], (by rw [results_cell_tmp rfl]; go_simp; rfl), ?_⟩
    exact itmP_nil HR.out rfl HB.out
  have hb2 : (s.toList == [35]) = false := beq_eq_false_iff_ne.2 h2
  cases hsu : Lib.hasSuffix s.data.toList (⟨#[42]⟩ : ByteArray).data.toList with
  | true =>
    have HR := Lib.hid (rdItm_s h1 h2 hsu)
    have hts := trimStar hsu
    have hcz : (cutStar s).size ≤ 1000000 := by unfold cutStar; rw [ByteArray.size_extract]; omega
    have HWO := Lib.hid (fun W => tWord_c (cutStar s) W (by omega))
    clear h1 h2
    generalize cutStar s = q at *
    generalize pwB q = pq at *
    go_wp2_with (first | (go_at_call 99; with_reducible refine (HSU.out _).mono ?_; rintro e w' ⟨rfl, rfl⟩; rw [hsu, hts]) | fail)
    refine (HWO.out _).mono ?_
    rintro e w2 ⟨rfl, hb2'⟩
    have HN := Lib.hid (strLit w' [q] #[.string q] 9 1 rfl rfl (by decide))
    have G2 := Lib.hid ((G1.out.alloc (.cells #[.string q] 9)).below hb2')
    have HX := Lib.hid (HN.out.below hb2' (fun b hb => by rw [hb]; simp))
    have hlt : w'.heap.size < w2.heap.size := Nat.lt_of_lt_of_le (by simp) hb2'.size
    have hle : w.heap.size < w'.heap.size := G1.out.plt (p := (w.heap.size, itmC false false false (.slice none 0 0), 103)) (by simp)
    obtain ⟨⟨f0, f1, f2, f3⟩, ⟨y0, y1, y2, y3⟩, hB⟩ := itmFin G2.out false false true (.slice (some ⟨w'.heap.size, 0, none⟩) 1 1)
    have HB := Lib.hid hB
    clear hB hb2'
    go_wp2
    refine ⟨rfl, .tuple #[itmV ⟨false, false, true, [q]⟩ (.slice (some ⟨w'.heap.size, 0, none⟩) 1 1), .bool pq], (by rw [results_cell_tmp rfl]; go_simp; rfl), ?_⟩
    exact itmP_row HR.out HB.out (sli_set4 HX.out (by omega)) (fun b hb => by rw [hb, size_set4]; omega)
  | false =>
  have hns : ¬ Lib.hasSuffix s.data.toList [42] = true := fun h => by rw [show Lib.hasSuffix s.data.toList [42] = false from hsu] at h; cases h
  have HRY := Lib.hid (rdItm_y h1 h2 hns)
  have HRN := Lib.hid (rdItm_n h1 h2 hns)
  have HWS := Lib.hid (words_c s 124 w1 (by omega) (max_below hm G1.out.bel (Nat.le_refl _)))
  have HSZ := Lib.hid (fun (x : ByteArray) (hx : x ∈ words s 124) => words_size hx)
  have HLL := Lib.hid (words_le s 124)
  have hgt : w.heap.size < w1.heap.size := G1.out.plt (p := (w.heap.size, itmC false false false (.slice none 0 0), 103)) (by simp)
  clear h1 h2 hns hm
  go_wp2_with (first | (go_at_call 99; with_reducible refine (HSU.out _).mono ?_; rintro e w' ⟨rfl, rfl⟩; rw [hsu]) | fail)
  refine HWS.out.mono ?_
  rintro e w2 ⟨rfl, hw2, hb2, hz2⟩
  have HL := Lib.hid hw2
  have HG := Lib.hid (G1.out.below hb2)
  obtain ⟨L, hL⟩ : ∃ L, (words s 124).length = L := ⟨_, rfl⟩
  have HLE := Lib.hid hL
  have hLb : L ≤ 1000001 := by rw [← hL]; have := HLL.out; omega
  rw [hL] at HL ⊢
  have HZ2 := Lib.hid hz2
  clear hw2 hb2 hz2 hL hsu HSU HWS HLL
  go_wp2
  go_loopw [31] (fun i wr => ∃ k : Nat, k ≤ L ∧ i = .int .i64 k ∧ Hid (∀ x ∈ (words s 124).take k, pwB x = true) ∧ Hid (PvG w [(w.heap.size, itmC false false false (.slice none 0 0), 103)] wr) ∧ Hid (Below w2.heap.size w2 wr)) (fun i _ => L - (intOf i).toNat)
  case atStart => exact ⟨0, Nat.zero_le _, rfl, by intro x hx; simp at hx, HG.out, Below.refl _ _⟩
  case round =>
    clear HG
    obtain ⟨k, hk, rfl, HN, HG, HW⟩ := hrel
    by_cases hlt : k < L
    · have hk2 : k < (words s 124).length := by rw [HLE.out]; exact hlt
      have c0 := (HW.out.cell (p := ⟨w'.heap.size, k, none⟩) (by have := HZ2.out; show w'.heap.size < w2.heap.size; omega)).trans (strAtP HL.out k hk2)
      have HWO := Lib.hid (tWord_c ((words s 124)[k]) wr (by have := HSZ.out _ (List.getElem_mem hk2); omega))
      have HNY := Lib.hid (fun h => all_more hk2 HN.out h)
      have HNN := Lib.hid (fun h => HRN.out (all_prefix hk2 h))
      generalize (words s 124)[k]'hk2 = x at *
      cases hx : pwB x with
      | true =>
        have HK := Lib.hid (HNY.out hx)
        go_wp2_with (first | (go_at_call 100; with_reducible refine HWO.out.mono ?_; rintro e w3 ⟨rfl, hb3⟩; rw [hx]) | fail)
        have HG3 := Lib.hid (HG.out.below hb3)
        have HW3 := Lib.hid (HW.out.trans (hb3.mono HW.out.size))
        clear hb3
        go_round
        case rel => exact ⟨k + 1, by omega, intNum, HK.out, HG3.out, HW3.out⟩
        case measure => simp [intOf]; omega
      | false =>
        have HR := Lib.hid (HNN.out hx)
        rw [hx] at HWO
        go_wp2_with fail
        refine HWO.out.mono ?_
        rintro e w3 ⟨rfl, hb3⟩
        have HG3 := Lib.hid (HG.out.below hb3)
        obtain ⟨⟨f0, f1, f2, f3⟩, ⟨y0, y1, y2, y3⟩, hB⟩ := itmFin HG3.out false false false (.slice none 0 0)
        have HB := Lib.hid hB
        clear hB hb3
        go_wp2
        refine ⟨rfl, .tuple #[itmV Itm.none_ (.slice none 0 0), .bool false], (by rw [results_cell_tmp rfl]; go_simp; rfl), ?_⟩
        exact itmP_nil HR.out rfl HB.out
    · have HR := Lib.hid (HRY.out (all_whole (by rw [HLE.out]; exact hlt) HN.out))
      have HX := Lib.hid (HL.out.below HW.out (fun b hb => by have := HZ2.out; omega))
      have hwz : w2.heap.size ≤ wr.heap.size := HW.out.size
      have hw2 := HZ2.out
      obtain ⟨⟨f0, f1, f2, f3⟩, ⟨y0, y1, y2, y3⟩, hB⟩ := itmFin HG.out false false false (.slice (some ⟨w'.heap.size, 0, none⟩) L L)
      have HB := Lib.hid hB
      have HF := Lib.hid (fun (b : Nat) (hb : b = w'.heap.size) => show w.heap.size ≤ b ∧ b < wr.heap.size from ⟨by omega, by omega⟩)
      clear hB hw2 hwz
      go_wp2
      refine ⟨rfl, .tuple #[itmV ⟨false, false, false, words s 124⟩ (.slice (some ⟨w'.heap.size, 0, none⟩) L L), .bool true], (by rw [results_cell_tmp rfl]; go_simp; rfl), ?_⟩
      exact itmP_row HR.out HB.out (sli_set4 HX.out (by omega)) (fun b hb => by rw [size_set4]; exact HF.out b hb)
end Go.Proofs.YtlfnmmnbfoimeaaGreatDoor

