/- Texts packed: SlateW, NumO, BetwW. -/
import Derived.Test.YtnclmcjanolebaaGreatDoorRows
import Derived.Test.YtnclmcjanolebaaGreatDoorNo03
import Derived.Test.YtnclmcjanolebaaGreatDoorNo02
import Derived.Test.YtnclmcjanolebaaGreatDoorNo01
import Derived.Deep.DeepCutAuto
import Derived.RegionTactic
/- The program's slates. -/
namespace Go.Proofs.YtnclmcjanolebaaGreatDoor
set_option linter.unusedVariables false
open Go.RowKit

end Go.Proofs.YtnclmcjanolebaaGreatDoor

/- The reference's numbers of scenes, setups and slates. -/
namespace Go.Proofs.YtnclmcjanolebaaGreatDoor
set_option linter.unusedVariables false
open Go.RowKit Go.Sort

theorem dropWhile_eq_drop (p : UInt8 → Bool) (l : List UInt8) : l.dropWhile p = l.drop (l.takeWhile p).length := by
  induction l with
  | nil => rfl
  | cons x l ih => cases h : p x <;> simp [h, ih]
theorem fig_dig : ([48, 49, 50, 51, 52, 53, 54, 55, 56, 57] : List UInt8).contains = digB := by
  funext c
  exact u8_eq (p := ([48, 49, 50, 51, 52, 53, 54, 55, 56, 57] : List UInt8).contains) (q := digB) (by decide +kernel) c
theorem numK_le (s : ByteArray) : numK s ≤ s.size := by
  have := (List.takeWhile_prefix (p := digB) (l := s.data.toList)).length_le
  simpa [numK] using this
theorem trimLeft_num (s : ByteArray) : (⟨(Lib.trimLeftS s.data.toList (ByteArray.mk #[48, 49, 50, 51, 52, 53, 54, 55, 56, 57]).data.toList).toArray⟩ : ByteArray) = s.extract (numK s) s.size := by
  apply ba_ext
  rw [extract_end]
  show Lib.trimLeftS s.data.toList [48, 49, 50, 51, 52, 53, 54, 55, 56, 57] = _
  unfold Lib.trimLeftS numK
  rw [← dropWhile_eq_drop]
  congr 1
  exact fig_dig
set_option maxHeartbeats 400000 in
theorem halved_c (s : ByteArray) (w : World) (hs : s.size ≤ 140737488355328) :
    Calls Tryz.prog 42 #[.string s] w fun e w' => e = .returned (.tuple #[.string (s.extract 0 (numK s)), .string (s.extract (numK s) s.size)]) ∧ Below w.heap.size w w' := by
  have hk := numK_le s
  have hz : (s.extract (numK s) s.size).size = s.size - numK s := by rw [ByteArray.size_extract]; omega
  have HT := Lib.hid (trimLeft_num s)
  go_enter Tryz.func42, Tryz.ntmps42
  go_wp2_with fail
  refine (Any.strings_TrimLeft_laid Tryz.lays161 (by kernel_rfl) s ⟨#[48, 49, 50, 51, 52, 53, 54, 55, 56, 57]⟩ _ (by decide) (ascii_of_all (by decide))).mono ?_
  rintro e w1 ⟨rfl, hb⟩
  rw [HT.out]
  generalize hR : s.extract (numK s) s.size = r at *
  have HR := Lib.hid hR; clear hR
  generalize hK : numK s = k at *
  have HK := Lib.hid hK; clear hK
  have e1 : (s.size : Int) - (r.size : Int) = (k : Int) := by omega
  have e2 : IntKind.i64.wrap ((s.size : Int) - (r.size : Int)) = (k : Int) := by rw [e1]; exact IntWalk.i64_in _ (by omega)
  have e3 : (0 : Int) ≤ (k : Int) := by omega
  have e4 : (k : Int) ≤ (s.size : Int) := by omega
  clear hz
  go_wp2
  go_ret2
  exact ⟨by rw [HK.out, HR.out]; rfl, hb⟩

/-- The number of a scene, as the reference asks it. -/
theorem numB_ref (s : ByteArray) : numB s = ((decide ((1 : Int) ≤ (numK s : Int)) && decide ((numK s : Int) ≤ 3)) && decide (s.size - numK s ≤ 5) && (s.data.toList.drop (numK s)).all capB && !Lib.hasSuffix (s.data.toList.drop (numK s)) [65]
    && (decide (s.data.toList.head? ≠ some 48) || (decide (s.data.toList.take (numK s) = [48]) && decide (numK s < s.size)))) := by
  unfold numB
  have hk := numK_le s
  have hl : s.data.toList.length = s.size := by simp
  by_cases h : s.data.toList.take (numK s) = [48]
  · have h1 : numK s = 1 := by
      have := congrArg List.length h
      rw [List.length_take, hl] at this
      simp at this; omega
    have h2 : s.data.toList.head? = some 48 := by
      rw [h1] at h
      cases hd : s.data.toList with
      | nil => rw [hd] at h; cases h
      | cons x l => rw [hd] at h; simp at h; rw [h]; rfl
    rw [if_pos h, decide_eq_true h, decide_eq_true (p := (1 : Int) ≤ (numK s : Int)) (by omega), decide_eq_true (p := (numK s : Int) ≤ 3) (by omega), decide_eq_false (p := s.data.toList.head? ≠ some 48) (by simp [h2])]
    generalize (s.data.toList.drop (numK s)).all capB = a
    generalize decide (s.size - numK s ≤ 5) = b
    generalize Lib.hasSuffix (s.data.toList.drop (numK s)) [65] = c
    generalize decide (numK s < s.size) = d
    cases a <;> cases b <;> cases c <;> cases d <;> rfl
  · rw [if_neg h, decide_eq_false h]
    rw [show decide ((1 : Int) ≤ (numK s : Int)) = decide (1 ≤ numK s) by rw [decide_eq_decide]; omega, show decide ((numK s : Int) ≤ 3) = decide (numK s ≤ 3) by rw [decide_eq_decide]; omega]
    generalize (s.data.toList.drop (numK s)).all capB = a
    generalize decide (s.size - numK s ≤ 5) = b
    generalize Lib.hasSuffix (s.data.toList.drop (numK s)) [65] = c
    generalize decide (s.data.toList.head? ≠ some 48) = d
    generalize decide (1 ≤ numK s) = f
    generalize decide (numK s ≤ 3) = g
    cases a <;> cases b <;> cases c <;> cases d <;> cases f <;> cases g <;> rfl

theorem u48 (c : UInt8) : decide (some c ≠ some 48) = decide ((c.toNat : Int) ≠ 48) := by
  rw [decide_eq_decide]
  constructor
  · intro h h'
    have h2 : c.toNat = 48 := by omega
    exact h (congrArg some (UInt8.toNat.inj h2))
  · intro h h'
    injection h' with h'
    rw [h'] at h; exact h rfl
theorem list48 (d : ByteArray) : decide (d.data.toList = [48]) = decide (d = ⟨#[48]⟩) := by
  rw [decide_eq_decide]
  constructor
  · intro h; exact ba_ext h
  · intro h; rw [h]
theorem isEmpty_size (s : ByteArray) : s.toList.isEmpty = decide (s.size = 0) := by
  rw [ByteArray.toList_eq]
  rcases s with ⟨⟨l⟩⟩
  cases l with
  | nil => rfl
  | cons x l =>
    show false = decide ((x :: l).length = 0)
    simp
theorem cap_set : ([65, 66, 67, 68, 69, 70, 71, 72, 73, 74, 75, 76, 77, 78, 79, 80, 81, 82, 83, 84, 85, 86, 87, 88, 89, 90] : List UInt8).contains = capB := by
  funext c
  exact u8_eq (p := ([65, 66, 67, 68, 69, 70, 71, 72, 73, 74, 75, 76, 77, 78, 79, 80, 81, 82, 83, 84, 85, 86, 87, 88, 89, 90] : List UInt8).contains) (q := capB) (by decide +kernel) c
set_option maxRecDepth 100000 in
set_option maxHeartbeats 1000000 in
theorem NumberOf_c (s : ByteArray) (w : World) (hs : s.size ≤ 140737488355328) : Calls Tryz.prog 10 #[.string s] w fun e w' => e = .returned (.bool (numB s)) ∧ Below w.heap.size w w' := by
  have hk := numK_le s
  obtain ⟨d, hd⟩ : ∃ d, s.extract 0 (numK s) = d := ⟨_, rfl⟩
  obtain ⟨r, hr⟩ : ∃ r, s.extract (numK s) s.size = r := ⟨_, rfl⟩
  have hds : d.size = numK s := by rw [← hd, ByteArray.size_extract]; omega
  have hrs : r.size = s.size - numK s := by rw [← hr, ByteArray.size_extract]; omega
  have hrl : s.data.toList.drop (numK s) = r.data.toList := by rw [← hr, extract_end]
  have hdl : s.data.toList.take (numK s) = d.data.toList := by rw [← hd]; simp
  have HB := Lib.hid (numB_ref s)
  have HD := Lib.hid hd; have HR := Lib.hid hr; clear hd hr
  have hds2 : d.size ≤ 140737488355328 := by omega
  have hrs2 : r.size ≤ 140737488355328 := by omega
  have HRL := Lib.hid hrl; have HDL := Lib.hid hdl; clear hrl hdl
  have HDS := Lib.hid hds; have HRS := Lib.hid hrs; clear hds hrs
  cases c1 : (decide ((1 : Int) ≤ (d.size : Int)) && decide ((d.size : Int) ≤ 3)) with
  | false =>
    have HV := Lib.hid (show numB s = false by rw [HB.out]; rw [HDS.out] at c1; rw [c1]; simp)
    have C1 := Lib.hid c1; clear c1
    go_enter Tryz.func10, Tryz.ntmps10
    go_wp2_with fail
    refine (halved_c s _ hs).mono ?_
    rintro e w1 ⟨rfl, hb1⟩
    rw [HD.out, HR.out]
    go_wp2_with fail
    refine (long_c d 1 3 _ hds2).mono ?_
    rintro e w' ⟨rfl, rfl⟩
    rw [C1.out]
    go_wp2
    go_ret
    exact ⟨by rw [HV.out]; rfl, hb1⟩
  | true =>
    have hdz : 1 ≤ d.size ∧ d.size ≤ 3 := by simp at c1; omega
    have C1 := Lib.hid c1; clear c1
    by_cases c2 : 5 < r.size
    · have HV := Lib.hid (show numB s = false by rw [HB.out, decide_eq_false (p := s.size - numK s ≤ 5) (by rw [← HRS.out]; omega)]; simp)
      go_enter Tryz.func10, Tryz.ntmps10
      go_wp2_with fail
      refine (halved_c s _ hs).mono ?_
      rintro e w1 ⟨rfl, hb1⟩
      rw [HD.out, HR.out]
      go_wp2_with fail
      refine (long_c d 1 3 _ hds2).mono ?_
      rintro e w' ⟨rfl, rfl⟩
      rw [C1.out]
      go_wp2
      go_ret
      exact ⟨by rw [HV.out]; rfl, hb1⟩
    · have c2' : r.size ≤ 5 := by omega
      cases c3 : allB capB r with
      | false =>
        have HV := Lib.hid (show numB s = false by rw [HB.out, HRL.out, show r.data.toList.all capB = false from c3]; simp)
        have C3 := Lib.hid c3; clear c3 c2
        go_enter Tryz.func10, Tryz.ntmps10
        go_wp2_with fail
        refine (halved_c s _ hs).mono ?_
        rintro e w1 ⟨rfl, hb1⟩
        rw [HD.out, HR.out]
        go_wp2_with fail
        refine (long_c d 1 3 _ hds2).mono ?_
        rintro e w' ⟨rfl, rfl⟩
        rw [C1.out]
        have HB1 := Lib.hid hb1; clear hb1
        go_wp2_with fail
        refine (made_c r _ _ hrs2 (by decide) (by decide)).mono ?_
        rintro e w2 ⟨rfl, hb2⟩
        rw [show (ByteArray.mk #[65, 66, 67, 68, 69, 70, 71, 72, 73, 74, 75, 76, 77, 78, 79, 80, 81, 82, 83, 84, 85, 86, 87, 88, 89, 90]).data.toList.contains = capB from cap_set, C3.out]
        have HB2 := Lib.hid (HB1.out.trans (hb2.mono HB1.out.size)); clear hb2
        go_wp2
        go_ret
        exact ⟨by rw [HV.out]; rfl, HB2.out⟩
      | true =>
        have C3 := Lib.hid c3; clear c3 c2
        cases c4 : Lib.hasSuffix r.data.toList [65] with
        | true =>
          have HV := Lib.hid (show numB s = false by rw [HB.out, HRL.out, c4]; simp)
          have C4 := Lib.hid c4; clear c4
          go_enter Tryz.func10, Tryz.ntmps10
          go_wp2_with fail
          refine (halved_c s _ hs).mono ?_
          rintro e w1 ⟨rfl, hb1⟩
          rw [HD.out, HR.out]
          go_wp2_with fail
          refine (long_c d 1 3 _ hds2).mono ?_
          rintro e w' ⟨rfl, rfl⟩
          rw [C1.out]
          have HB1 := Lib.hid hb1; clear hb1
          go_wp2_with fail
          refine (made_c r _ _ hrs2 (by decide) (by decide)).mono ?_
          rintro e w2 ⟨rfl, hb2⟩
          rw [show (ByteArray.mk #[65, 66, 67, 68, 69, 70, 71, 72, 73, 74, 75, 76, 77, 78, 79, 80, 81, 82, 83, 84, 85, 86, 87, 88, 89, 90]).data.toList.contains = capB from cap_set, C3.out]
          have HB2 := Lib.hid (HB1.out.trans (hb2.mono HB1.out.size)); clear hb2
          go_wp2_with fail
          refine (Tryz.strings_HasSuffix r ⟨#[65]⟩ _ (by omega)).mono ?_
          rintro e w' ⟨rfl, rfl⟩
          rw [show Lib.hasSuffix r.data.toList (ByteArray.mk #[65]).data.toList = true from C4.out]
          go_wp2
          go_ret
          exact ⟨by rw [HV.out]; rfl, HB2.out⟩
        | false =>
          have C4 := Lib.hid c4; clear c4
          have hd0 : s.data.toList.head? = some d[0] := by
            have : d.data.toList.head? = some d[0] := by rw [List.head?_eq_getElem?, List.getElem?_eq_getElem (by simp; omega)]; rfl
            rw [← HDL.out, List.head?_take, if_neg (by rw [← HDS.out]; omega)] at this
            exact this
          have HN := Lib.hid (show numB s = (decide ((d[0].toNat : Int) ≠ 48) || (decide (d = ⟨#[48]⟩) && decide (0 < r.size))) by
            rw [HB.out, HRL.out, HDL.out, C4.out, show r.data.toList.all capB = true from C3.out, decide_eq_true (p := s.size - numK s ≤ 5) (by rw [← HRS.out]; omega), hd0]
            rw [← HDS.out, C1.out]
            simp only [Bool.true_and, Bool.not_false]
            rw [u48, list48, show decide (d.size < s.size) = decide (0 < r.size) by rw [decide_eq_decide]; have := HRS.out; have := HDS.out; omega])
          clear hd0
          have hu := d[0].toNat_lt
          go_enter Tryz.func10, Tryz.ntmps10
          go_wp2_with fail
          refine (halved_c s _ hs).mono ?_
          rintro e w1 ⟨rfl, hb1⟩
          rw [HD.out, HR.out]
          go_wp2_with fail
          refine (long_c d 1 3 _ hds2).mono ?_
          rintro e w' ⟨rfl, rfl⟩
          rw [C1.out]
          have HB1 := Lib.hid hb1; clear hb1
          go_wp2_with fail
          refine (made_c r _ _ hrs2 (by decide) (by decide)).mono ?_
          rintro e w2 ⟨rfl, hb2⟩
          rw [show (ByteArray.mk #[65, 66, 67, 68, 69, 70, 71, 72, 73, 74, 75, 76, 77, 78, 79, 80, 81, 82, 83, 84, 85, 86, 87, 88, 89, 90]).data.toList.contains = capB from cap_set, C3.out]
          have HB2 := Lib.hid (HB1.out.trans (hb2.mono HB1.out.size)); clear hb2
          go_wp2_with fail
          refine (Tryz.strings_HasSuffix r ⟨#[65]⟩ _ (by omega)).mono ?_
          rintro e w' ⟨rfl, rfl⟩
          rw [show Lib.hasSuffix r.data.toList (ByteArray.mk #[65]).data.toList = false from C4.out]
          go_wp2
          · have f1 : (d[0].toNat : Int) = 48 := by assumption
            have f2 : d.toList = [48] := by assumption
            go_ret
            exact ⟨ret_bool (by rw [HN.out, decide_eq_false (p := (d[0].toNat : Int) ≠ 48) (by simp [f1]), decide_eq_true (p := d = ⟨#[48]⟩) (ba_ext (by rw [← ByteArray.toList_eq]; exact f2)), isEmpty_size]; by_cases h0 : r.size = 0 <;> simp [h0] <;> omega), HB2.out⟩
          · have f1 : (d[0].toNat : Int) = 48 := by assumption
            have f2 : ¬ d.toList = [48] := by assumption
            go_ret
            exact ⟨ret_bool (by rw [HN.out, decide_eq_false (p := (d[0].toNat : Int) ≠ 48) (by simp [f1]), decide_eq_false (p := d = ⟨#[48]⟩) (fun h => f2 (by rw [h, ByteArray.toList_eq]))]; rfl), HB2.out⟩
          · have f1 : ¬ (d[0].toNat : Int) = 48 := by assumption
            go_ret
            exact ⟨ret_bool (by rw [HN.out, decide_eq_true (p := (d[0].toNat : Int) ≠ 48) f1]; rfl), HB2.out⟩

end Go.Proofs.YtnclmcjanolebaaGreatDoor

/- The reference's numbers between two others: that they end, and how long the text is. -/
namespace Go.Proofs.YtnclmcjanolebaaGreatDoor
set_option linter.unusedVariables false
open Go.RowKit Go.Sort

/-- The first of some numbers that is not 0. -/
def orI (l : List Int) : Int := (l.find? (fun x => decide (x ≠ 0))).getD 0
set_option maxHeartbeats 1000000 in
theorem orI_c (A : Option Addr) (l : List Int) (c lo : Nat) (w : World) (hr : Rs w lo w.heap.size 1 intc A l) (hl : l.length ≤ 1000000) : Calls Tryz.prog 47 #[.slice A l.length c] w (fun e w' => e = .returned (.int .i64 (orI l)) ∧ w' = w) := by
  have HR := Lib.hid hr
  clear hr
  go_enter Tryz.func47, Tryz.ntmps47
  go_wp2
  go_loop [8, 5] (fun i _ => ∃ k : Nat, k ≤ l.length ∧ i = .int .i64 k ∧ Hid (∀ x ∈ l.take k, decide (x ≠ 0) = false)) (fun i _ => l.length - (intOf i).toNat)
  case atStart => exact ⟨0, by omega, rfl, Lib.hid (by simp)⟩
  case round =>
    obtain ⟨k, hk, rfl, HX⟩ := hrel
    by_cases hlt : k < l.length
    · obtain ⟨b, off, rfl, hb0, hb, hcell⟩ := HR.out.at1 (enc1 := .int .i64) hlt
      by_cases h0 : l[k] = 0
      · rw [h0] at hcell
        go_wp2
        go_round
        case rel => exact ⟨k + 1, by omega, intNum, Lib.hid (take_next (q := fun x => decide (x ≠ 0) = false) hlt HX.out (by simp [h0]))⟩
        all_goals (try (simp [intOf] <;> omega))
      · have HV := Lib.hid (show orI l = l[k] by unfold orI; rw [List.find?_eq_some_iff_getElem.2 ⟨by simpa using h0, k, hlt, rfl, fun j hj => by have := HX.out l[j] (by rw [List.mem_take_iff_getElem]; exact ⟨j, by omega, rfl⟩); simpa using this⟩]; rfl)
        generalize l[k] = z at *
        go_wp2
        go_ret
        exact ⟨by rw [HV.out]; rfl, rfl⟩
    · have HV := Lib.hid (show orI l = 0 by unfold orI; rw [List.find?_eq_none.2 (fun x hx => by have := take_all (q := fun x => decide (x ≠ 0) = false) hlt HX.out x hx; simpa using this)]; rfl)
      go_wp2
      go_ret
      exact ⟨by rw [HV.out]; rfl, rfl⟩

end Go.Proofs.YtnclmcjanolebaaGreatDoor

