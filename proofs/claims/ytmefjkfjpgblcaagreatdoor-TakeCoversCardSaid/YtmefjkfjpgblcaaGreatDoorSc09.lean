/- Texts packed: RefC. -/
import Derived.Test.YtmefjkfjpgblcaaGreatDoorRows
import Derived.Test.YtmefjkfjpgblcaaGreatDoorSc08
/- The reference's checks of rolls. -/
namespace Go.Proofs.YtmefjkfjpgblcaaGreatDoor
set_option linter.unusedVariables false
open Go.RowKit

set_option maxHeartbeats 400000 in
theorem containsRoll_c (A : Option Addr) (l : List Roll) (c g lo : Nat) (cb : Array Value) (p : Roll → Bool) (w : World) (hr : Rs w lo w.heap.size 5 Roll.cells A l) (hlen : l.length ≤ 140737488355328)
    (hp : PredC Tryz.prog g cb Roll.val p w) :
    Calls Tryz.prog 88 #[.slice A l.length c, .func (.func g) #[] cb] w fun e w' => e = .returned (.bool (l.any p)) ∧ Below w.heap.size w w' := by
  have HI := Lib.hid (idxV_any p l)
  go_enter Tryz.func88, Tryz.ntmps88
  go_wp2_with fail
  refine (idxRoll_c A l c g lo cb p _ hr hlen hp).mono ?_
  rintro e w' ⟨rfl, hb⟩
  go_wp2
  go_ret
  exact ⟨ret_bool HI.out, hb⟩

set_option maxHeartbeats 400000 in
theorem rollsFault1_p (s : ByteArray) (b : Nat) (w : World) (h : w.cell? ⟨b, 0, none⟩ = some (.string s)) (hlt : b < w.heap.size) :
    PredC Tryz.prog 89 #[.pointer (some ⟨b, 0, none⟩)] Roll.val (fun y => decide (y.name = s)) w := by
  refine ⟨fun _ _ => by kernel_rfl, fun x W hb => ?_⟩
  have hc := cellC h hb hlt
  have hs := hb.size
  have hl : b < W.heap.size := by omega
  clear h hb hlt hs
  show Calls Tryz.prog _ #[.agg #[.string x.name, .int .i64 x.rate, .int .i64 x.start, .int .i64 x.long, .int .i64 x.drift], .pointer (some ⟨b, 0, none⟩)] W _
  go_enter Tryz.func89, Tryz.ntmps89
  go_wp2
  go_ret
  exact ⟨ret_bool (beqS _ _), (Below.refl _ _).alloc (Nat.le_refl _) _⟩

set_option maxHeartbeats 4000000 in
theorem RollsFault_c (A : Option Addr) (l : List Roll) (c lo : Nat) (w : World) (hr : Rs w lo w.heap.size 5 Roll.cells A l) (hlen : l.length ≤ c) (hc : c ≤ 140737488355328) (hsz : ∀ r ∈ l, r.name.size ≤ 140737488355328) :
    Calls Tryz.prog 27 #[.slice A l.length c] w fun e w' => e = .returned (.int .i64 (rollsFault l)) ∧ Below w.heap.size w w' := by
  have HR := Lib.hid hr; clear hr
  have HZ := Lib.hid hsz; clear hsz
  by_cases h2 : 200 < l.length
  · have HF := Lib.hid (show rollsFault l = 2 from if_pos h2)
    go_enter Tryz.func27, Tryz.ntmps27
    go_wp2
    go_ret
    exact ⟨ret_int HF.out.symm, Below.refl _ _⟩
  · have HF := Lib.hid (show rollsFault l = rollsFrom [] l from if_neg h2)
    go_enter Tryz.func27, Tryz.ntmps27
    go_wp2
    go_loopw [3, 4, 15] (fun _ _ i wr => ∃ (k : Nat), k ≤ l.length ∧ i = .int .i64 k ∧ Below w.heap.size w wr ∧ Hid (rollsFrom (l.take k) (l.drop k) = rollsFault l)) (fun _ _ i _ => l.length - (intOf i).toNat)
    case atStart => exact ⟨0, Nat.zero_le _, rfl, Below.refl _ _, HF.out.symm⟩
    case round =>
      obtain ⟨k, hk, rfl, hb, HN⟩ := hrel
      by_cases hlt : k < l.length
      · have HST := Lib.hid (HN.out.symm.trans (rollsFrom_step l k hlt))
        have hn := HZ.out l[k] (List.getElem_mem hlt)
        obtain ⟨b, off, rfl, _, hbl, hc⟩ := (HR.out.below hb (Nat.le_refl _)).at_ hlt
        have c0 : wr.cell? ⟨b, off + k * 5, none⟩ = _ := hc 0 _ rfl
        have c1 := hc 1 _ rfl
        have c2 := hc 2 _ rfl
        have c3 := hc 3 _ rfl
        have c4 := hc 4 _ rfl
        clear hc
        go_wp2_with fail
        refine (rateOf_c _ _).mono ?_
        rintro e w' ⟨rfl, rfl⟩
        go_wp2_with fail
        refine (rollName_c _ _ hn).mono ?_
        rintro e w' ⟨rfl, hb1⟩
        have hz1 := hb1.size
        simp at hz1
        have hz1' : wr.heap.size < w'.heap.size := by omega
        obtain ⟨hcc, hff⟩ := bcell hb1
        have HB1 := Lib.hid (((hb.alloc hb.size _).trans (hb1.mono (by have := hb.size; simp; omega))))
        clear hb1
        cases h1 : rollNameB l[k].name with
        | false =>
          have HE := Lib.hid (show rollFault (l.take k) l[k] = 5 from if_pos h1)
          clear h1
          have HV := Lib.hid (show rollsFault l = 5 by rw [HST.out, HE.out]; rfl)
          go_wp2
          go_ret
          exact ⟨ret_int HV.out.symm, HB1.out⟩
        | true =>
          have H1 := Lib.hid h1
          clear h1
          have hcon := containsRoll_c (some ⟨b, off, none⟩) (l.take k) c 89 lo #[.pointer (some ⟨wr.heap.size, 0, none⟩)] (fun y => decide (y.name = l[k].name)) w'
            (((HR.out.below HB1.out (Nat.le_refl _)).take k).more (Nat.le_refl _) HB1.out.size) (by simp; omega) (rollsFault1_p l[k].name wr.heap.size w' (by go_simp) (by omega))
          rw [show (l.take k).length = k by simp; omega] at hcon
          have HCON := Lib.hid hcon
          clear hcon
          go_wp2_with fail
          refine HCON.out.mono ?_
          rintro e w2 ⟨rfl, hb2⟩
          have hz2 := hb2.size
          obtain ⟨hcc2, hff2⟩ := bcell hb2
          have HB2 := Lib.hid (HB1.out.trans (hb2.mono HB1.out.size))
          clear hb2
          cases h2 : (l.take k).any fun y => decide (y.name = l[k].name) with
          | true =>
            have HE := Lib.hid (show rollFault (l.take k) l[k] = 6 by unfold rollFault; rw [if_neg (by rw [H1.out]; decide), if_pos h2])
            have HV := Lib.hid (show rollsFault l = 6 by rw [HST.out, HE.out]; rfl)
            clear h2
            go_wp2
            go_ret
            exact ⟨ret_int HV.out.symm, HB2.out⟩
          | false =>
            have H2 := Lib.hid h2
            clear h2
            cases h3 : isRateB l[k].rate with
            | false =>
              have HE := Lib.hid (show rollFault (l.take k) l[k] = 4 by unfold rollFault; rw [if_neg (by rw [H1.out]; decide), if_neg (by rw [H2.out]; decide), if_pos h3])
              have HV := Lib.hid (show rollsFault l = 4 by rw [HST.out, HE.out]; rfl)
              go_wp2
              go_ret
              exact ⟨ret_int HV.out.symm, HB2.out⟩
            | true =>
              have H3 := Lib.hid h3
              have hF := frames_bd h3
              rcases (show l[k].start < 0 ∨ (0 ≤ l[k].start ∧ framesN l[k].rate ≤ l[k].start) ∨ (0 ≤ l[k].start ∧ l[k].start < framesN l[k].rate ∧ l[k].long < 1) ∨ (0 ≤ l[k].start ∧ l[k].start < framesN l[k].rate ∧ 1 ≤ l[k].long ∧ framesN l[k].rate - l[k].start < l[k].long)
                ∨ (0 ≤ l[k].start ∧ l[k].start < framesN l[k].rate ∧ 1 ≤ l[k].long ∧ l[k].long ≤ framesN l[k].rate - l[k].start ∧ l[k].drift < -1000) ∨ (0 ≤ l[k].start ∧ l[k].start < framesN l[k].rate ∧ 1 ≤ l[k].long ∧ l[k].long ≤ framesN l[k].rate - l[k].start ∧ -1000 ≤ l[k].drift ∧ 1000 < l[k].drift)
                ∨ (0 ≤ l[k].start ∧ l[k].start < framesN l[k].rate ∧ 1 ≤ l[k].long ∧ l[k].long ≤ framesN l[k].rate - l[k].start ∧ -1000 ≤ l[k].drift ∧ l[k].drift ≤ 1000) by omega) with d | d | d | d | d | d | d
              · have HB := Lib.hid (show rollBadB l[k] = true by simp [rollBadB]; omega)
                have HE := Lib.hid (show rollFault (l.take k) l[k] = 1 by unfold rollFault; rw [if_neg (by rw [H1.out]; decide), if_neg (by rw [H2.out]; decide), if_neg (by rw [H3.out]; decide), if_pos HB.out])
                have HV := Lib.hid (show rollsFault l = 1 by rw [HST.out, HE.out]; rfl)
                have hrt : rightB l[k].rate l[k].start = false := by simp [rightB, H3.out]; omega
                skip
                go_wp2_with fail
                refine (RightFrame_c _ _ _).mono ?_
                rintro e w' ⟨rfl, rfl⟩
                go_wp2
                go_ret
                exact ⟨ret_int HV.out.symm, HB2.out⟩
              · have HB := Lib.hid (show rollBadB l[k] = true by simp [rollBadB]; omega)
                have HE := Lib.hid (show rollFault (l.take k) l[k] = 1 by unfold rollFault; rw [if_neg (by rw [H1.out]; decide), if_neg (by rw [H2.out]; decide), if_neg (by rw [H3.out]; decide), if_pos HB.out])
                have HV := Lib.hid (show rollsFault l = 1 by rw [HST.out, HE.out]; rfl)
                have hrt : rightB l[k].rate l[k].start = false := by simp [rightB, H3.out]; omega
                skip
                go_wp2_with fail
                refine (RightFrame_c _ _ _).mono ?_
                rintro e w' ⟨rfl, rfl⟩
                go_wp2
                go_ret
                exact ⟨ret_int HV.out.symm, HB2.out⟩
              · have HB := Lib.hid (show rollBadB l[k] = true by simp [rollBadB]; omega)
                have HE := Lib.hid (show rollFault (l.take k) l[k] = 1 by unfold rollFault; rw [if_neg (by rw [H1.out]; decide), if_neg (by rw [H2.out]; decide), if_neg (by rw [H3.out]; decide), if_pos HB.out])
                have HV := Lib.hid (show rollsFault l = 1 by rw [HST.out, HE.out]; rfl)
                have hrt : rightB l[k].rate l[k].start = true := by simp [rightB, H3.out]; omega
                have b0 : decide (l[k].long < 1) = true := decide_eq_true (by omega)
                go_wp2_with fail
                refine (RightFrame_c _ _ _).mono ?_
                rintro e w' ⟨rfl, rfl⟩
                go_wp2
                go_ret
                exact ⟨ret_int HV.out.symm, HB2.out⟩
              · have HB := Lib.hid (show rollBadB l[k] = true by simp [rollBadB]; omega)
                have HE := Lib.hid (show rollFault (l.take k) l[k] = 1 by unfold rollFault; rw [if_neg (by rw [H1.out]; decide), if_neg (by rw [H2.out]; decide), if_neg (by rw [H3.out]; decide), if_pos HB.out])
                have HV := Lib.hid (show rollsFault l = 1 by rw [HST.out, HE.out]; rfl)
                have hrt : rightB l[k].rate l[k].start = true := by simp [rightB, H3.out]; omega
                have b0 : decide (l[k].long < 1) = false := decide_eq_false (by omega); have b1 : decide (framesN l[k].rate - l[k].start < l[k].long) = true := decide_eq_true (by omega)
                go_wp2_with fail
                refine (RightFrame_c _ _ _).mono ?_
                rintro e w' ⟨rfl, rfl⟩
                go_wp2
                go_ret
                exact ⟨ret_int HV.out.symm, HB2.out⟩
              · have HB := Lib.hid (show rollBadB l[k] = true by simp [rollBadB]; omega)
                have HE := Lib.hid (show rollFault (l.take k) l[k] = 1 by unfold rollFault; rw [if_neg (by rw [H1.out]; decide), if_neg (by rw [H2.out]; decide), if_neg (by rw [H3.out]; decide), if_pos HB.out])
                have HV := Lib.hid (show rollsFault l = 1 by rw [HST.out, HE.out]; rfl)
                have hrt : rightB l[k].rate l[k].start = true := by simp [rightB, H3.out]; omega
                have b0 : decide (l[k].long < 1) = false := decide_eq_false (by omega); have b1 : decide (framesN l[k].rate - l[k].start < l[k].long) = false := decide_eq_false (by omega); have b2 : decide (l[k].drift < -1000) = true := decide_eq_true (by omega)
                go_wp2_with fail
                refine (RightFrame_c _ _ _).mono ?_
                rintro e w' ⟨rfl, rfl⟩
                go_wp2
                go_ret
                exact ⟨ret_int HV.out.symm, HB2.out⟩
              · have HB := Lib.hid (show rollBadB l[k] = true by simp [rollBadB]; omega)
                have HE := Lib.hid (show rollFault (l.take k) l[k] = 1 by unfold rollFault; rw [if_neg (by rw [H1.out]; decide), if_neg (by rw [H2.out]; decide), if_neg (by rw [H3.out]; decide), if_pos HB.out])
                have HV := Lib.hid (show rollsFault l = 1 by rw [HST.out, HE.out]; rfl)
                have hrt : rightB l[k].rate l[k].start = true := by simp [rightB, H3.out]; omega
                have b0 : decide (l[k].long < 1) = false := decide_eq_false (by omega); have b1 : decide (framesN l[k].rate - l[k].start < l[k].long) = false := decide_eq_false (by omega); have b2 : decide (l[k].drift < -1000) = false := decide_eq_false (by omega); have b3 : decide (1000 < l[k].drift) = true := decide_eq_true (by omega)
                go_wp2_with fail
                refine (RightFrame_c _ _ _).mono ?_
                rintro e w' ⟨rfl, rfl⟩
                go_wp2
                go_ret
                exact ⟨ret_int HV.out.symm, HB2.out⟩
              · have HB := Lib.hid (show rollBadB l[k] = false by simp [rollBadB]; omega)
                have HE := Lib.hid (show rollFault (l.take k) l[k] = 0 by unfold rollFault; rw [if_neg (by rw [H1.out]; decide), if_neg (by rw [H2.out]; decide), if_neg (by rw [H3.out]; decide), if_neg (by rw [HB.out]; decide)])
                have HV := Lib.hid (show rollsFault l = rollsFrom (l.take (k + 1)) (l.drop (k + 1)) by rw [HST.out, HE.out]; rfl)
                have hrt : rightB l[k].rate l[k].start = true := by simp [rightB, H3.out]; omega
                have b0 : decide (l[k].long < 1) = false := decide_eq_false (by omega); have b1 : decide (framesN l[k].rate - l[k].start < l[k].long) = false := decide_eq_false (by omega); have b2 : decide (l[k].drift < -1000) = false := decide_eq_false (by omega); have b3 : decide (1000 < l[k].drift) = false := decide_eq_false (by omega)
                go_wp2_with fail
                refine (RightFrame_c _ _ _).mono ?_
                rintro e w' ⟨rfl, rfl⟩
                go_wp2
                go_roundw
                case rel => exact ⟨k + 1, by omega, intNum, HB2.out, HV.out.symm⟩
                case measure => simp [intOf]; omega
      · have hke : k = l.length := by omega
        have HV := Lib.hid (show rollsFault l = 0 by rw [← HN.out]; exact rollsFrom_end l k (by omega))
        clear hke
        go_wp2
        go_ret
        exact ⟨ret_int HV.out.symm, hb⟩
end Go.Proofs.YtmefjkfjpgblcaaGreatDoor

