/- Texts packed: RollY. -/
import Derived.Test.YtmefjkfjpgblcaaGreatDoorRows
import Derived.Test.YtmefjkfjpgblcaaGreatDoorSc01
import Derived.Test.YtmefjkfjpgblcaaGreatDoorSc02
/- The program's checks of rolls. -/
namespace Go.Proofs.YtmefjkfjpgblcaaGreatDoor
set_option linter.unusedVariables false
open Go.RowKit

set_option maxHeartbeats 400000 in
theorem isRoll_c (s : ByteArray) (w : World) (hs : s.size ≤ 140737488355328) : Calls Tryz.prog 83 #[.string s] w fun e w' => e = .returned (.bool (rollNameB s)) ∧ w = w' := by
  go_enter Tryz.func83, Tryz.ntmps83
  go_wp2
  go_loop [3, 6] (fun _ i => ∃ k : Nat, k ≤ s.size ∧ i = .int .i64 k ∧ Hid (∀ x ∈ s.data.toList.take k, capDig x = true)) (fun _ i => s.size - (intOf i).toNat)
  case atStart => exact ⟨0, Nat.zero_le _, rfl, by intro x hx; simp at hx⟩
  case round =>
    obtain ⟨k, hk, rfl, HN⟩ := hrel
    by_cases hlt : k < s.size
    · have hu : s[k].toNat < 256 := s[k].toNat_lt
      by_cases hc : 65 ≤ s[k].toNat ∧ s[k].toNat ≤ 90
      · have HC := Lib.hid (show capDig s[k] = true by simp [capDig]; omega)
        go_wp2
        go_round
        case rel => exact ⟨k + 1, by omega, intNum, allB_next hlt HN.out HC.out⟩
        case measure => simp [intOf]; omega
      · by_cases hd : 48 ≤ s[k].toNat ∧ s[k].toNat ≤ 57
        · have HC := Lib.hid (show capDig s[k] = true by simp [capDig]; omega)
          go_wp2
          go_round
          case rel => exact ⟨k + 1, by omega, intNum, allB_next hlt HN.out HC.out⟩
          case measure => simp [intOf]; omega
        · have HC := Lib.hid (show capDig s[k] = false by simp [capDig]; omega)
          go_wp2
          all_goals
            go_ret
            have H := allB_no hlt HC.out
            exact ⟨ret_bool (by simp [rollNameB, H]), rfl⟩
    · have H := allB_yes hlt HN.out
      have HR := Lib.hid (show rollNameB s = decide (1 ≤ s.size ∧ s.size ≤ 8) by simp [rollNameB, H])
      by_cases h1 : 1 ≤ s.size
      · by_cases h8 : s.size ≤ 8
        · have HD := Lib.hid (show rollNameB s = true by rw [HR.out]; simp [h1, h8])
          go_wp2
          go_ret
          exact ⟨ret_bool (by rw [HD.out]; first | rfl | (simp; done) | (simp; omega)), rfl⟩
        · have HD := Lib.hid (show rollNameB s = false by rw [HR.out]; simp [h1, h8])
          go_wp2
          go_ret
          exact ⟨ret_bool (by rw [HD.out]; first | rfl | (simp; done) | (simp; omega)), rfl⟩
      · have HD := Lib.hid (show rollNameB s = false by rw [HR.out]; simp; omega)
        go_wp2
        go_ret
        exact ⟨ret_bool HD.out.symm, rfl⟩

/-- The keys that have been seen. -/
def seenM (pre : List Roll) : List (ByteArray × Value) → Prop := fun m => ∀ s, lk m s = if (pre.any fun y => decide (y.name = s)) = true then some (.bool true) else none
theorem seenM_nil : seenM [] [] := fun s => rfl
theorem seenM_up {pre : List Roll} {m : List (ByteArray × Value)} (h : seenM pre m) (r : Roll) : seenM (pre ++ [r]) (up m r.name (.bool true)) := fun s => by
  rw [lk_up, h s]
  by_cases hs : s = r.name
  · subst hs; simp
  · have : ¬ r.name = s := fun e => hs e.symm
    simp [hs, this]

theorem keyS : PlainKey Tryz.prog 9 Value.string := plainKey_string Tryz.underlying9
theorem zeroB (w : World) : (zeroValue 4).run Tryz.prog w = .ok (.bool false) w := by kernel_rfl

set_option maxHeartbeats 8000000 in
theorem CheckRolls_c (A : Option Addr) (l : List Roll) (c lo : Nat) (w : World) (hr : Rs w lo w.heap.size 5 Roll.cells A l) (hlen : l.length ≤ 140737488355328) (hsz : ∀ r ∈ l, r.name.size ≤ 140737488355328) :
    Calls Tryz.prog 26 #[.slice A l.length c] w fun e w' => e = .returned (.int .i64 (rollsFault l)) ∧ Below w.heap.size w w' := by
  have HR := Lib.hid hr; clear hr
  have HZ := Lib.hid hsz; clear hsz
  by_cases h2 : 200 < l.length
  · have HF := Lib.hid (show rollsFault l = 2 from if_pos h2)
    go_enter Tryz.func26, Tryz.ntmps26
    go_wp2
    go_ret
    exact ⟨ret_int HF.out.symm, Below.refl _ _⟩
  · have HF := Lib.hid (show rollsFault l = rollsFrom [] l from if_neg h2)
    have hmm := @run_makeMap Tryz.prog
    go_enter Tryz.func26, Tryz.ntmps26
    go_wp2
    go_loopw [5, 12] (fun _ i wr => ∃ (k : Nat) (m : List (ByteArray × Value)), k ≤ l.length ∧ i = .int .i64 k ∧ Below w.heap.size w wr ∧ w.heap.size < wr.heap.size ∧ MapL wr w.heap.size Value.string m ∧ Hid (seenM (l.take k) m) ∧ Hid (rollsFrom (l.take k) (l.drop k) = rollsFault l)) (fun _ i _ => l.length - (intOf i).toNat)
    case atStart => exact ⟨0, [], Nat.zero_le _, rfl, (Below.refl _ _).alloc (Nat.le_refl _) _, by simp, MapL.made _, seenM_nil, HF.out.symm⟩
    case round =>
      obtain ⟨k, m, hk, rfl, hb, hsz, hm, HS, HN⟩ := hrel
      by_cases hlt : k < l.length
      · have HST := Lib.hid (HN.out.symm.trans (rollsFrom_step l k hlt))
        have hn := HZ.out l[k] (List.getElem_mem hlt)
        obtain ⟨b, off, rfl, _, hbl, hc⟩ := (HR.out.below hb (Nat.le_refl _)).at_ hlt
        have c0 : wr.cell? ⟨b, off + k * 5, none⟩ = _ := hc 0 _ rfl
        have c1 := hc 1 _ rfl
        have c2 := hc 2 _ rfl
        have c3 := hc 3 _ rfl
        have c4 := hc 4 _ rfl
        clear hc
        go_wp2_with fail
        refine (isRoll_c _ _ hn).mono ?_
        rintro e w' ⟨rfl, rfl⟩
        cases h1 : rollNameB l[k].name with
        | false =>
          have HE := Lib.hid (show rollFault (l.take k) l[k] = 5 from if_pos h1)
          clear h1
          have HV := Lib.hid (show rollsFault l = 5 by rw [HST.out, HE.out]; rfl)
          go_wp2
          go_ret
          exact ⟨ret_int HV.out.symm, hb.alloc hb.size _⟩
        | true =>
          have H1 := Lib.hid h1
          clear h1
          cases h2 : (l.take k).any fun y => decide (y.name = l[k].name) with
          | true =>
            have HE := Lib.hid (show rollFault (l.take k) l[k] = 6 by unfold rollFault; rw [if_neg (by rw [H1.out]; decide), if_pos h2])
            have HV := Lib.hid (show rollsFault l = 6 by rw [HST.out, HE.out]; rfl)
            have HL := Lib.hid ((HS.out l[k].name).trans (by rw [h2]; rfl : _ = some (.bool true)))
            clear h2
            go_wp2_with (at_lookup; refine wpList_lookup_plain _ rfl _ _ 131 false rfl 9 4 keyS Tryz.underlying131 (.bool false) (zeroB _) w.heap.size m rfl (hm.alloc _) l[k].name rfl ?_; rw [HL.out]; simp only [Bool.false_eq_true, if_false, Option.getD_some])
            go_ret
            exact ⟨ret_int HV.out.symm, hb.alloc hb.size _⟩
          | false =>
            have H2 := Lib.hid h2
            have HL := Lib.hid ((HS.out l[k].name).trans (by rw [h2]; rfl : _ = none))
            clear h2
            go_wp2_with (first | (at_lookup; refine wpList_lookup_plain _ rfl _ _ 131 false rfl 9 4 keyS Tryz.underlying131 (.bool false) (zeroB _) w.heap.size m rfl (hm.alloc _) l[k].name rfl ?_; rw [HL.out]; simp only [Bool.false_eq_true, if_false, Option.getD_none]) | fail)
            refine (isRate_c _ _).mono ?_
            rintro e w' ⟨rfl, rfl⟩
            cases h3 : isRateB l[k].rate with
            | false =>
              have HE := Lib.hid (show rollFault (l.take k) l[k] = 4 by unfold rollFault; rw [if_neg (by rw [H1.out]; decide), if_neg (by rw [H2.out]; decide), if_pos h3])
              have HV := Lib.hid (show rollsFault l = 4 by rw [HST.out, HE.out]; rfl)
              go_wp2
              go_ret
              exact ⟨ret_int HV.out.symm, hb.alloc hb.size _⟩
            | true =>
              have H3 := Lib.hid h3
              have hF := frames_bd h3
              clear h3
              rcases (show l[k].start < 0 ∨ (0 ≤ l[k].start ∧ framesN l[k].rate ≤ l[k].start) ∨ (0 ≤ l[k].start ∧ l[k].start < framesN l[k].rate ∧ l[k].long < 1) ∨ (0 ≤ l[k].start ∧ l[k].start < framesN l[k].rate ∧ 1 ≤ l[k].long ∧ framesN l[k].rate - l[k].start < l[k].long)
                ∨ (0 ≤ l[k].start ∧ l[k].start < framesN l[k].rate ∧ 1 ≤ l[k].long ∧ l[k].long ≤ framesN l[k].rate - l[k].start ∧ l[k].drift < -1000) ∨ (0 ≤ l[k].start ∧ l[k].start < framesN l[k].rate ∧ 1 ≤ l[k].long ∧ l[k].long ≤ framesN l[k].rate - l[k].start ∧ -1000 ≤ l[k].drift ∧ 1000 < l[k].drift)
                ∨ (0 ≤ l[k].start ∧ l[k].start < framesN l[k].rate ∧ 1 ≤ l[k].long ∧ l[k].long ≤ framesN l[k].rate - l[k].start ∧ -1000 ≤ l[k].drift ∧ l[k].drift ≤ 1000) by omega) with d | d | d | d | d | d | d
              · have HB := Lib.hid (show rollBadB l[k] = true by simp [rollBadB]; omega)
                have HE := Lib.hid (show rollFault (l.take k) l[k] = 1 by unfold rollFault; rw [if_neg (by rw [H1.out]; decide), if_neg (by rw [H2.out]; decide), if_neg (by rw [H3.out]; decide), if_pos HB.out])
                have HV := Lib.hid (show rollsFault l = 1 by rw [HST.out, HE.out]; rfl)
                have b0 : decide (l[k].start < 0) = true := decide_eq_true (by omega)
                go_wp2
                go_quiet ((go_at_call 85; exact quietL (frames_c _ _ H3.out)))
                go_wp2
                go_ret
                exact ⟨ret_int HV.out.symm, below_drewN (hb.alloc hb.size _) _⟩
              · have HB := Lib.hid (show rollBadB l[k] = true by simp [rollBadB]; omega)
                have HE := Lib.hid (show rollFault (l.take k) l[k] = 1 by unfold rollFault; rw [if_neg (by rw [H1.out]; decide), if_neg (by rw [H2.out]; decide), if_neg (by rw [H3.out]; decide), if_pos HB.out])
                have HV := Lib.hid (show rollsFault l = 1 by rw [HST.out, HE.out]; rfl)
                have b0 : decide (l[k].start < 0) = false := decide_eq_false (by omega); have b1 : decide (framesN l[k].rate ≤ l[k].start) = true := decide_eq_true (by omega)
                go_wp2
                go_quiet ((go_at_call 85; exact quietL (frames_c _ _ H3.out)))
                go_wp2
                go_ret
                exact ⟨ret_int HV.out.symm, below_drewN (hb.alloc hb.size _) _⟩
              · have HB := Lib.hid (show rollBadB l[k] = true by simp [rollBadB]; omega)
                have HE := Lib.hid (show rollFault (l.take k) l[k] = 1 by unfold rollFault; rw [if_neg (by rw [H1.out]; decide), if_neg (by rw [H2.out]; decide), if_neg (by rw [H3.out]; decide), if_pos HB.out])
                have HV := Lib.hid (show rollsFault l = 1 by rw [HST.out, HE.out]; rfl)
                have b0 : decide (l[k].start < 0) = false := decide_eq_false (by omega); have b1 : decide (framesN l[k].rate ≤ l[k].start) = false := decide_eq_false (by omega); have b2 : decide (l[k].long < 1) = true := decide_eq_true (by omega)
                go_wp2
                go_quiet ((go_at_call 85; exact quietL (frames_c _ _ H3.out)))
                go_wp2
                go_ret
                exact ⟨ret_int HV.out.symm, below_drewN (hb.alloc hb.size _) _⟩
              · have HB := Lib.hid (show rollBadB l[k] = true by simp [rollBadB]; omega)
                have HE := Lib.hid (show rollFault (l.take k) l[k] = 1 by unfold rollFault; rw [if_neg (by rw [H1.out]; decide), if_neg (by rw [H2.out]; decide), if_neg (by rw [H3.out]; decide), if_pos HB.out])
                have HV := Lib.hid (show rollsFault l = 1 by rw [HST.out, HE.out]; rfl)
                have b0 : decide (l[k].start < 0) = false := decide_eq_false (by omega); have b1 : decide (framesN l[k].rate ≤ l[k].start) = false := decide_eq_false (by omega); have b2 : decide (l[k].long < 1) = false := decide_eq_false (by omega); have b3 : decide (framesN l[k].rate - l[k].start < l[k].long) = true := decide_eq_true (by omega)
                go_wp2
                go_quiet ((go_at_call 85; exact quietL (frames_c _ _ H3.out)))
                go_wp2
                go_ret
                exact ⟨ret_int HV.out.symm, below_drewN (hb.alloc hb.size _) _⟩
              · have HB := Lib.hid (show rollBadB l[k] = true by simp [rollBadB]; omega)
                have HE := Lib.hid (show rollFault (l.take k) l[k] = 1 by unfold rollFault; rw [if_neg (by rw [H1.out]; decide), if_neg (by rw [H2.out]; decide), if_neg (by rw [H3.out]; decide), if_pos HB.out])
                have HV := Lib.hid (show rollsFault l = 1 by rw [HST.out, HE.out]; rfl)
                have b0 : decide (l[k].start < 0) = false := decide_eq_false (by omega); have b1 : decide (framesN l[k].rate ≤ l[k].start) = false := decide_eq_false (by omega); have b2 : decide (l[k].long < 1) = false := decide_eq_false (by omega); have b3 : decide (framesN l[k].rate - l[k].start < l[k].long) = false := decide_eq_false (by omega); have b4 : decide (l[k].drift < -1000) = true := decide_eq_true (by omega)
                go_wp2
                go_quiet ((go_at_call 85; exact quietL (frames_c _ _ H3.out)))
                go_wp2
                go_ret
                exact ⟨ret_int HV.out.symm, below_drewN (hb.alloc hb.size _) _⟩
              · have HB := Lib.hid (show rollBadB l[k] = true by simp [rollBadB]; omega)
                have HE := Lib.hid (show rollFault (l.take k) l[k] = 1 by unfold rollFault; rw [if_neg (by rw [H1.out]; decide), if_neg (by rw [H2.out]; decide), if_neg (by rw [H3.out]; decide), if_pos HB.out])
                have HV := Lib.hid (show rollsFault l = 1 by rw [HST.out, HE.out]; rfl)
                have b0 : decide (l[k].start < 0) = false := decide_eq_false (by omega); have b1 : decide (framesN l[k].rate ≤ l[k].start) = false := decide_eq_false (by omega); have b2 : decide (l[k].long < 1) = false := decide_eq_false (by omega); have b3 : decide (framesN l[k].rate - l[k].start < l[k].long) = false := decide_eq_false (by omega); have b4 : decide (l[k].drift < -1000) = false := decide_eq_false (by omega); have b5 : decide (1000 < l[k].drift) = true := decide_eq_true (by omega)
                go_wp2
                go_quiet ((go_at_call 85; exact quietL (frames_c _ _ H3.out)))
                go_wp2
                go_ret
                exact ⟨ret_int HV.out.symm, below_drewN (hb.alloc hb.size _) _⟩
              · have HB := Lib.hid (show rollBadB l[k] = false by simp [rollBadB]; omega)
                have HE := Lib.hid (show rollFault (l.take k) l[k] = 0 by unfold rollFault; rw [if_neg (by rw [H1.out]; decide), if_neg (by rw [H2.out]; decide), if_neg (by rw [H3.out]; decide), if_neg (by rw [HB.out]; decide)])
                have HV := Lib.hid (show rollsFault l = rollsFrom (l.take (k + 1)) (l.drop (k + 1)) by rw [HST.out, HE.out]; rfl)
                have b0 : decide (l[k].start < 0) = false := decide_eq_false (by omega); have b1 : decide (framesN l[k].rate ≤ l[k].start) = false := decide_eq_false (by omega); have b2 : decide (l[k].long < 1) = false := decide_eq_false (by omega); have b3 : decide (framesN l[k].rate - l[k].start < l[k].long) = false := decide_eq_false (by omega); have b4 : decide (l[k].drift < -1000) = false := decide_eq_false (by omega); have b5 : decide (1000 < l[k].drift) = false := decide_eq_false (by omega)
                go_wp2
                go_quiet ((go_at_call 85; exact quietL (frames_c _ _ H3.out)))
                go_wp2_with (at_mapUpdate; refine wpList_update_plain _ rfl _ _ _ 131 rfl 9 4 keyS Tryz.underlying131 w.heap.size m rfl (hm.alloc _) l[k].name rfl (.bool true) rfl ?_; intro w2 hm2 hg2)
                go_roundw
                case rel => exact ⟨k + 1, _, by omega, intNum, (below_drewN (hb.alloc hb.size _) _).grown hg2 (by simp; omega) (by simp), by have := hg2.size; simp at this; omega, hm2, (by rw [List.take_succ_eq_append_getElem hlt]; exact seenM_up HS.out _), HV.out.symm⟩
                case measure => simp [intOf]; omega
      · have hke : k = l.length := by omega
        have HV := Lib.hid (show rollsFault l = 0 by rw [← HN.out]; exact rollsFrom_end l k (by omega))
        clear hke
        go_wp2
        go_ret
        exact ⟨ret_int HV.out.symm, hb⟩
end Go.Proofs.YtmefjkfjpgblcaaGreatDoor

