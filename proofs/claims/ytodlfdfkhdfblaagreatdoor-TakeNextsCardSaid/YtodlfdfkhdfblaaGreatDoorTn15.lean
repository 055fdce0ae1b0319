/- Texts packed: SlateW. -/
import Derived.Test.YtodlfdfkhdfblaaGreatDoorRows
import Derived.Test.YtodlfdfkhdfblaaGreatDoorTn08
/- The program's slates. -/
namespace Go.Proofs.YtodlfdfkhdfblaaGreatDoor
set_option linter.unusedVariables false
open Go.RowKit

set_option maxHeartbeats 400000 in
theorem isSetup_c (s : ByteArray) (w : World) (hs : s.size ≤ 140737488355328) : Calls Tryz.prog 70 #[.string s] w fun e w' => e = .returned (.bool (setupB s)) ∧ w = w' := by
  go_enter Tryz.func70, Tryz.ntmps70
  go_wp2
  go_loop [3, 6] (fun _ i => ∃ k : Nat, k ≤ s.size ∧ i = .int .i64 k ∧ Hid (∀ x ∈ s.data.toList.take k, setC x = true)) (fun _ i => s.size - (intOf i).toNat)
  case atStart => exact ⟨0, Nat.zero_le _, rfl, by intro x hx; simp at hx⟩
  case round =>
    obtain ⟨k, hk, rfl, HN⟩ := hrel
    by_cases hlt : k < s.size
    · have hu : s[k].toNat < 256 := s[k].toNat_lt
      by_cases hc : 65 ≤ s[k].toNat ∧ s[k].toNat ≤ 90
      · by_cases h1 : s[k].toNat = 73
        · have HC := Lib.hid (show setC s[k] = false by simp [setC, h1])
          have h1' : ((s[k].toNat : Int) == 73) = true := by rw [h1]; rfl
          clear h1
          go_wp2
          go_ret
          exact ⟨ret_bool (by simp [setupB, allB_no hlt HC.out]), rfl⟩
        · by_cases h2 : s[k].toNat = 79
          · have HC := Lib.hid (show setC s[k] = false by simp [setC, h2])
            have h2' : ((s[k].toNat : Int) == 79) = true := by rw [h2]; rfl
            have h1' : ((s[k].toNat : Int) == 73) = false := by rw [h2]; rfl
            clear h2 h1
            go_wp2
            go_ret
            exact ⟨ret_bool (by simp [setupB, allB_no hlt HC.out]), rfl⟩
          · have HC := Lib.hid (show setC s[k] = true by simp [setC, capB, h1, h2]; omega)
            have h1' : ((s[k].toNat : Int) == 73) = false := beq_eq_false_iff_ne.2 (by omega)
            have h2' : ((s[k].toNat : Int) == 79) = false := beq_eq_false_iff_ne.2 (by omega)
            go_wp2
            go_round
            case rel => exact ⟨k + 1, by omega, intNum, allB_next hlt HN.out HC.out⟩
            case measure => simp [intOf]; omega
      · have HC := Lib.hid (show setC s[k] = false by simp [setC, capB]; omega)
        go_wp2
        all_goals
          first
          | (exfalso; omega)
          | (go_ret
             exact ⟨ret_bool (by simp [setupB, allB_no hlt HC.out]), rfl⟩)
    · have H := allB_yes hlt HN.out
      have HR := Lib.hid (show setupB s = decide ((s.size : Int) ≤ 2) by rw [setupB, H]; simp; omega)
      clear H
      go_wp2
      go_ret
      exact ⟨ret_bool HR.out.symm, rfl⟩

def slateF (scene setup : ByteArray) : Int := if numB scene = false then 5 else if setupB setup = false then 5 else 0
set_option maxHeartbeats 400000 in
theorem slateFault_c (scene setup : ByteArray) (w : World) (h1 : scene.size ≤ 140737488355328) (h2 : setup.size ≤ 140737488355328) : Calls Tryz.prog 63 #[.string scene, .string setup] w fun e w' => e = .returned (.int .i64 (slateF scene setup)) ∧ w = w' := by
  cases hn : numB scene with
  | false =>
    have HV := Lib.hid (show slateF scene setup = 5 from if_pos hn)
    go_enter Tryz.func63, Tryz.ntmps63
    go_wp2_with fail
    refine (IsNumber_c _ _ h1).mono ?_
    rintro e w' ⟨rfl, rfl⟩
    go_wp2
    go_ret
    exact ⟨ret_int HV.out.symm, rfl⟩
  | true =>
    cases hu : setupB setup with
    | false =>
      have HV := Lib.hid (show slateF scene setup = 5 by unfold slateF; rw [if_neg (by rw [hn]; simp), if_pos hu])
      go_enter Tryz.func63, Tryz.ntmps63
      go_wp2_with fail
      refine (IsNumber_c _ _ h1).mono ?_
      rintro e w' ⟨rfl, rfl⟩
      go_wp2_with fail
      refine (isSetup_c _ _ h2).mono ?_
      rintro e w' ⟨rfl, rfl⟩
      go_wp2
      go_ret
      exact ⟨ret_int HV.out.symm, rfl⟩
    | true =>
      have HV := Lib.hid (show slateF scene setup = 0 by unfold slateF; rw [if_neg (by rw [hn]; simp), if_neg (by rw [hu]; simp)])
      go_enter Tryz.func63, Tryz.ntmps63
      go_wp2_with fail
      refine (IsNumber_c _ _ h1).mono ?_
      rintro e w' ⟨rfl, rfl⟩
      go_wp2_with fail
      refine (isSetup_c _ _ h2).mono ?_
      rintro e w' ⟨rfl, rfl⟩
      go_wp2
      go_ret
      exact ⟨ret_int HV.out.symm, rfl⟩

theorem decDigits_small {n : Nat} (h : n < 100) : (⟨(Lib.decDigits n).toArray⟩ : ByteArray).size ≤ 2 := by
  show (Lib.decDigits n).toArray.size ≤ 2
  rw [List.size_toArray, Lib.decDigits]
  split
  · simp
  · rw [Lib.decDigits, dif_pos (by omega)]; simp

set_option maxHeartbeats 400000 in
theorem Slate_c (scene setup : ByteArray) (n : Int) (w : World) (h1 : scene.size ≤ 140737488355328) (h2 : setup.size ≤ 140737488355328) :
    Calls Tryz.prog 58 #[.string scene, .string setup, .int .i64 n] w fun e w' => e = .returned (.tuple #[.string (slateA scene setup n), .int .i64 (slateE scene setup n)]) ∧ w = w' := by
  by_cases hf : slateF scene setup = 0
  · have hn : numB scene = true := by
      cases h : numB scene with
      | true => rfl
      | false => rw [show slateF scene setup = 5 from if_pos h] at hf; cases hf
    have hu : setupB setup = true := by
      cases h : setupB setup with
      | true => rfl
      | false => rw [show slateF scene setup = 5 by unfold slateF; rw [if_neg (by rw [hn]; simp), if_pos h]] at hf; cases hf
    have hz1 := numB_size hn
    have hz2 := setupB_size hu
    have HF := Lib.hid hf
    have HE := Lib.hid (show slateE scene setup n = if n < 1 ∨ 99 < n then 1 else 0 by unfold slateE; rw [if_neg (by rw [hn]; simp), if_neg (by rw [hu]; simp)])
    clear hf hn hu
    by_cases hb : n < 1 ∨ 99 < n
    · have E1 := Lib.hid (show slateE scene setup n = 1 by rw [HE.out, if_pos hb])
      have E2 := Lib.hid (show slateA scene setup n = ⟨#[]⟩ by unfold slateA; rw [E1.out]; rfl)
      go_enter Tryz.func58, Tryz.ntmps58
      go_wp2_with fail
      refine (slateFault_c _ _ _ h1 h2).mono ?_
      rintro e w' ⟨rfl, rfl⟩
      rw [HF.out]
      go_wp2
      all_goals
        first
        | (exfalso; omega)
        | (go_ret2
           exact ⟨by rw [E1.out, E2.out]; rfl, rfl⟩)
    · have E1 := Lib.hid (show slateE scene setup n = 0 by rw [HE.out, if_neg hb])
      obtain ⟨m, rfl⟩ := Int.eq_ofNat_of_zero_le (show 0 ≤ n by omega)
      have hm : m < 100 := by omega
      have hd := decDigits_small hm
      cases he : setup.toList.isEmpty with
      | true =>
        have E2 := Lib.hid (show slateA scene setup (m : Int) = scene ++ ⟨#[45]⟩ ++ ⟨(Lib.decDigits m).toArray⟩ by unfold slateA slateS; rw [E1.out, he]; rfl)
        go_enter Tryz.func58, Tryz.ntmps58
        go_wp2_with fail
        refine (slateFault_c _ _ _ h1 h2).mono ?_
        rintro e w' ⟨rfl, rfl⟩
        rw [HF.out]
        go_wp2_with fail
        refine (Tryz.strconv_Itoa_small m hm _).mono ?_
        rintro e w' ⟨rfl, rfl⟩
        generalize (⟨(Lib.decDigits m).toArray⟩ : ByteArray) = D at *
        go_wp2
        go_ret2
        exact ⟨by rw [E1.out, E2.out]; rfl, rfl⟩
      | false =>
        have E2 := Lib.hid (show slateA scene setup (m : Int) = scene ++ (⟨#[47]⟩ ++ setup) ++ ⟨#[45]⟩ ++ ⟨(Lib.decDigits m).toArray⟩ by unfold slateA slateS; rw [E1.out, he]; rfl)
        go_enter Tryz.func58, Tryz.ntmps58
        go_wp2_with fail
        refine (slateFault_c _ _ _ h1 h2).mono ?_
        rintro e w' ⟨rfl, rfl⟩
        rw [HF.out]
        go_wp2_with fail
        refine (Tryz.strconv_Itoa_small m hm _).mono ?_
        rintro e w' ⟨rfl, rfl⟩
        generalize (⟨(Lib.decDigits m).toArray⟩ : ByteArray) = D at *
        go_wp2
        go_ret2
        exact ⟨by rw [E1.out, E2.out]; rfl, rfl⟩
  · have hv : slateF scene setup = 5 := by
      unfold slateF at hf ⊢
      split
      · rfl
      · rename_i h
        rw [if_neg h] at hf
        split
        · rfl
        · rename_i h'; rw [if_neg h'] at hf; exact absurd rfl hf
    have E1 := Lib.hid (show slateE scene setup n = 5 by
      unfold slateE slateF at *
      split
      · rfl
      · rename_i h
        rw [if_neg h] at hv
        split
        · rfl
        · rename_i h'; rw [if_neg h'] at hv; cases hv)
    have E2 := Lib.hid (show slateA scene setup n = ⟨#[]⟩ by unfold slateA; rw [E1.out]; rfl)
    have HF := Lib.hid hv
    clear hf hv
    go_enter Tryz.func58, Tryz.ntmps58
    go_wp2_with fail
    refine (slateFault_c _ _ _ h1 h2).mono ?_
    rintro e w' ⟨rfl, rfl⟩
    rw [HF.out]
    go_wp2
    go_ret2
    exact ⟨by rw [E1.out, E2.out]; rfl, rfl⟩
end Go.Proofs.YtodlfdfkhdfblaaGreatDoor

