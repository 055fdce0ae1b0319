/- Texts packed: HfA. -/
import Derived.Test.YtmofncdjhdnoiaaGreatDoorSc13
import Derived.Test.YtmofncdjhdnoiaaGreatDoorSc23
/- The reference's way to read a heading, walked. -/
namespace Go.Proofs.YtmofncdjhdnoiaaGreatDoor
set_option linter.unusedVariables false
open Go.RowKit Go.Sort

def hfV : Option Scene → Value
  | some x => .tuple #[.agg (scC x.no x.place x.set x.time (.slice none 0 0)), .bool true]
  | none => .tuple #[.agg (scC ⟨#[]⟩ 0 ⟨#[]⟩ 0 (.slice none 0 0)), .bool false]
def HfP (line : ByteArray) (w : World) (e : Ending) (w' : World) : Prop := e = .returned (hfV (headFrom line)) ∧ Below w.heap.size w w'
theorem hasWords_c {n : Nat} (l : List ByteArray) (B : Nat) (s : ByteArray) (w : World) (hn : l.length = n) (h : ∀ q, q < n → w.cell? ⟨B, q, none⟩ = some (.string (l.getD q ⟨#[]⟩))) (hb : n ≤ 100) :
    Calls Tryz.prog 149 #[.slice (some ⟨B, 0, none⟩) n n, .string s] w fun e w' => e = .returned (.bool (Lib.containsS l s)) ∧ w' = w := by
  have hc := Tryz.slices_Contains_string B 0 n n l s w (by omega) (by omega) (fun j hj => by rw [Nat.zero_add]; exact h j (by omega))
  rw [List.take_of_length_le (by omega)] at hc
  exact hc
theorem hf_end (line : ByteArray) (k : Nat) (h : ∀ p t : Nat, p < k → t ≤ 5 → ¬ hfC line (hfNo line) (hfRest line) p t) (hk : ¬ k < 4) : headFrom line = none := hf_none (.inr fun p t hp ht => h p t (by omega) ht)
theorem hf_row {line : ByteArray} {k j : Nat} (h : ∀ p t : Nat, p < k → t ≤ 5 → ¬ hfC line (hfNo line) (hfRest line) p t) (h2 : ∀ t : Nat, t < j → ¬ hfC line (hfNo line) (hfRest line) k t) (hj : ¬ j < 6) : ∀ p t : Nat, p < k + 1 → t ≤ 5 → ¬ hfC line (hfNo line) (hfRest line) p t := fun p t hp ht => by
  by_cases e : p = k
  · subst e; exact h2 t (by omega)
  · exact h p t (by omega) ht
theorem hf_step {line : ByteArray} {k j : Nat} (h2 : ∀ t : Nat, t < j → ¬ hfC line (hfNo line) (hfRest line) k t) (h : ¬ hfC line (hfNo line) (hfRest line) k j) : ∀ t : Nat, t < j + 1 → ¬ hfC line (hfNo line) (hfRest line) k t := fun t ht => by
  by_cases e : t = j
  · subst e; exact h
  · exact h2 t (by omega)
theorem triP_size (s p : ByteArray) : (triP s p).size ≤ s.size := by
  unfold triP
  show (Lib.trimPrefix s.data.toList p.data.toList).toArray.size ≤ _
  unfold Lib.trimPrefix
  split <;> simp
theorem triS_size (s p : ByteArray) : (triS s p).size ≤ s.size := by
  unfold triS
  show (Lib.trimSuffix s.data.toList p.data.toList).toArray.size ≤ _
  unfold Lib.trimSuffix
  split <;> simp
theorem hfNo_size (line : ByteArray) : (hfNo line).size ≤ line.size := by
  unfold hfNo
  split
  · exact Nat.zero_le _
  · exact cutA_size _ _
theorem hfRest_size (line : ByteArray) : (hfRest line).size ≤ line.size := by
  unfold hfRest
  split
  · exact Nat.le_refl _
  · exact cutB_size _ _
theorem triP_c (s p : ByteArray) (w : World) : Calls Tryz.prog 45 #[.string s, .string p] w fun e w' => e = .returned (.tuple #[.string (triP s p), .bool (prefB s p)]) ∧ w' = w := Tryz.strings_CutPrefix s p w
theorem triS_c (s p : ByteArray) (w : World) (hs : s.size ≤ 1000000) : Calls Tryz.prog 147 #[.string s, .string p] w fun e w' => e = .returned (.tuple #[.string (triS s p), .bool (suffB s p)]) ∧ w' = w := Tryz.strings_CutSuffix s p w (by omega)
set_option maxRecDepth 100000 in
set_option maxHeartbeats 8000000 in
theorem HeadingFrom_c (line : ByteArray) (w : World) (hl : line.size ≤ 1000000) (hsp : SpLaid w) (hm : MaxLaid w) : Calls Tryz.prog 89 #[.string line] w (HfP line w) := by
  have HS := Lib.hid hsp
  have HM := Lib.hid hm
  clear hsp hm
  go_enter Tryz.func89, Tryz.ntmps89
  go_upto_region 1 with (fail)
  have hG : PvG w [(w.heap.size, scC ⟨#[]⟩ 0 ⟨#[]⟩ 0 (.slice none 0 0), 53)] (w.alloc (.cells (scC ⟨#[]⟩ 0 ⟨#[]⟩ 0 (.slice none 0 0)) 53)) := (pvStart w).new (scC ⟨#[]⟩ 0 ⟨#[]⟩ 0 (.slice none 0 0)) 53
  generalize hW : w.alloc (.cells #[.string ⟨#[]⟩, .int .i64 0, .string ⟨#[]⟩, .int .i64 0, .slice none 0 0] 53) = w1
  have G1 := Lib.hid (show PvG w [(w.heap.size, scC ⟨#[]⟩ 0 ⟨#[]⟩ 0 (.slice none 0 0), 53)] w1 by rw [← hW]; exact hG)
  clear hG hW
  go_wp2_with fail
  with_reducible refine (cut_c line 32 w1 (by omega)).mono ?_
  rintro e w2 ⟨rfl, n2, rfl⟩
  have G2 := Lib.hid (G1.out.below (below_drewN (Below.refl _ w1) n2))
  clear G1
  generalize w1.drewN n2 = w2 at *
  have HNIL := Lib.hid (fun (W : World) (hW : PvG w [(w.heap.size, scC ⟨#[]⟩ 0 ⟨#[]⟩ 0 (.slice none 0 0), 53)] W) => sc_cells (hW.cell (p := (w.heap.size, scC ⟨#[]⟩ 0 ⟨#[]⟩ 0 (.slice none 0 0), 53)) (by simp)))
  have HFZ := Lib.hid (fun (W : World) (hW : PvG w [(w.heap.size, scC ⟨#[]⟩ 0 ⟨#[]⟩ 0 (.slice none 0 0), 53)] W) => sc_frozen (hW.cell (p := (w.heap.size, scC ⟨#[]⟩ 0 ⟨#[]⟩ 0 (.slice none 0 0), 53)) (by simp)))
  cases hcf : cutF line 32 with
  | false =>
    have HN := Lib.hid (hf_none (.inl hcf))
    obtain ⟨y0, y1, y2, y3, y4⟩ := HNIL.out _ G2.out
    obtain ⟨g0, g1, g2, g3, g4⟩ := HFZ.out _ G2.out
    clear hcf
    go_wp2
    refine ⟨rfl, hfV none, (by rw [results_cell_tmp rfl]; go_simp; rfl), ?_⟩
    refine ⟨by rw [HN.out], ?_⟩
    repeat (first | exact G2.out.bel | refine Below.setCell ?_ (by first | exact Nat.le_refl _ | (dsimp only; omega)) _)
  | true =>
  clear hcf
  have HPW := Lib.hid (fun W => places_c W)
  go_wp2_with fail
  refine (HPW.out _).mono ?_
  rintro e w3 ⟨B3, rfl, hb31, hb32, hb33, hb34⟩
  have G3 := Lib.hid (G2.out.below hb33)
  have HCW := Lib.hid (hasWords_c placeL B3 (cutA line 32) w3 rfl hb34 (by decide))
  clear hb31 hb32 hb33 hb34 G2
  go_wp2_with fail
  refine HCW.out.mono ?_
  rintro e w' ⟨rfl, rfl⟩
  clear HCW
  have HNO := Lib.hid (show hfNo line = if Lib.containsS placeL (cutA line 32) = true then ⟨#[]⟩ else cutA line 32 from rfl)
  have HRE := Lib.hid (show hfRest line = if Lib.containsS placeL (cutA line 32) = true then line else cutB line 32 from rfl)
  generalize Lib.containsS placeL (cutA line 32) = cb at *
  go_upto_if 26 with (fail)
  go_cut [4, 5] (fun a b wx => a = .string (hfNo line) ∧ b = .string (hfRest line) ∧ wx = w')
  case first =>
    cases cb with
    | false =>
      go_wp2
      go_meet
      exact ⟨HNO.out ▸ rfl, HRE.out ▸ rfl, rfl⟩
    | true =>
      go_wp2
      go_meet
      exact ⟨HNO.out ▸ rfl, HRE.out ▸ rfl, rfl⟩
  case rest =>
  obtain ⟨rfl, rfl, rfl⟩ := hcut
  clear HNO HRE
  have hns := Nat.le_trans (hfNo_size line) hl
  have hrs := Nat.le_trans (hfRest_size line) hl
  have HYES := Lib.hid (fun p t => hf_yes (line := line) (no := hfNo line) (rest := hfRest line) (p := p) (t := t))
  have HEND := Lib.hid (hf_end line)
  have HROW := Lib.hid (fun k j => hf_row (line := line) (k := k) (j := j))
  have HSTEP := Lib.hid (fun k j => hf_step (line := line) (k := k) (j := j))
  generalize hfNo line = no at *
  generalize hfRest line = rs at *
  go_wp2_with fail
  refine (HPW.out _).mono ?_
  rintro e w4 ⟨B4, rfl, hb41, hb42, hb43, hb44⟩
  have G4 := Lib.hid (G3.out.below hb43)
  have HC4 := Lib.hid hb44
  have hB4 := hb42
  clear hb41 hb43 hb44 G3 hb42
  go_wp2
  go_loopw [30] (fun i wr => ∃ k : Nat, k ≤ 4 ∧ i = .int .i64 k ∧ Hid (Below w4.heap.size w4 wr) ∧ Hid (∀ p t : Nat, p < k → t ≤ 5 → ¬ hfC line no rs p t)) (fun i _ => 4 - (intOf i).toNat)
  case atStart => exact ⟨0, by omega, rfl, Below.refl _ _, fun p t h => absurd h (Nat.not_lt_zero _)⟩
  case round =>
    obtain ⟨k, hk, rfl, HB, HN⟩ := hrel
    by_cases hlt : k < 4
    · have c4 : wr.cell? ⟨B4, k, none⟩ = some (.string (placeS k)) := (HB.out.cell (p := ⟨B4, k, none⟩) hB4).trans (HC4.out k hlt)
      have hkz := placeS_sz k
      have HTW := Lib.hid (times_c wr)
      go_upto_region 9 with (fail)
      go_wp2_with fail
      refine HTW.out.mono ?_
      rintro e w5 ⟨B5, rfl, hb51, hb52, hb53, hb54⟩
      have HB5 := Lib.hid (HB.out.trans (hb53.mono HB.out.size))
      have HC5 := Lib.hid hb54
      have hB5 := hb52
      clear hb51 hb52 hb53 hb54 HTW HB c4
      generalize hpk : placeS k = pk at *
      have HPK := Lib.hid hpk
      clear hpk
      go_wp2
      go_loopw [37] (fun i wx => ∃ j : Nat, j ≤ 6 ∧ i = .int .i64 j ∧ Hid (Below w5.heap.size w5 wx) ∧ Hid (∀ t : Nat, t < j → ¬ hfC line no rs k t)) (fun i _ => 6 - (intOf i).toNat)
      case atStart => exact ⟨0, by omega, rfl, Below.refl _ _, fun t h => absurd h (Nat.not_lt_zero _)⟩
      case round =>
        obtain ⟨j, hj, rfl, HBx, HN2⟩ := hrel
        by_cases hlj : j < 6
        · have c5 : wr.cell? ⟨B5, j, none⟩ = some (.string (timeS j)) := (HBx.out.cell (p := ⟨B5, j, none⟩) hB5).trans (HC5.out j hlj)
          have hjz := timeS_sz j
          have HCC := Lib.hid (show hfC line no rs k j ↔ 0 < k ∧ 0 < j ∧ prefB rs (pk ++ ⟨#[32]⟩) = true ∧ suffB (triP rs (pk ++ ⟨#[32]⟩)) (⟨#[32, 45, 32]⟩ ++ timeS j) = true ∧ headE ⟨no, (k : Int), triS (triP rs (pk ++ ⟨#[32]⟩)) (⟨#[32, 45, 32]⟩ ++ timeS j), (j : Int), []⟩ = 0 ∧ headS ⟨no, (k : Int), triS (triP rs (pk ++ ⟨#[32]⟩)) (⟨#[32, 45, 32]⟩ ++ timeS j), (j : Int), []⟩ = line by unfold hfC hfX hfSet; rw [HPK.out])
          have HX := Lib.hid (show hfX no rs k j = ⟨no, (k : Int), triS (triP rs (pk ++ ⟨#[32]⟩)) (⟨#[32, 45, 32]⟩ ++ timeS j), (j : Int), []⟩ by unfold hfX hfSet; rw [HPK.out])
          generalize timeS j = tj at *
          have z1 : (⟨#[32]⟩ : ByteArray).size = 1 := rfl
          have z3 : (⟨#[32, 45, 32]⟩ : ByteArray).size = 3 := rfl
          have hs1 := Nat.le_trans (triP_size rs (pk ++ ⟨#[32]⟩)) hrs
          have hs2 := Nat.le_trans (triS_size (triP rs (pk ++ ⟨#[32]⟩)) (⟨#[32, 45, 32]⟩ ++ tj)) hs1
          have HCP := Lib.hid (triP_c rs (pk ++ ⟨#[32]⟩) wr)
          have HCS := Lib.hid (triS_c (triP rs (pk ++ ⟨#[32]⟩)) (⟨#[32, 45, 32]⟩ ++ tj) wr (by omega))
          go_upto_region 12 with (fail)
          go_wp2_with fail
          refine HCP.out.mono ?_
          rintro e w' ⟨rfl, rfl⟩
          go_wp2_with fail
          refine HCS.out.mono ?_
          rintro e w' ⟨rfl, rfl⟩
          generalize prefB rs (pk ++ ⟨#[32]⟩) = fr at *
          generalize suffB (triP rs (pk ++ ⟨#[32]⟩)) (⟨#[32, 45, 32]⟩ ++ tj) = bk at *
          generalize triS (triP rs (pk ++ ⟨#[32]⟩)) (⟨#[32, 45, 32]⟩ ++ tj) = st at *
          generalize triP rs (pk ++ ⟨#[32]⟩) = s1 at *
          clear HCP HCS c5
          have HBA := Lib.hid (HBx.out.alloc HBx.out.size (.cells (scC no (k : Int) st (j : Int) (.slice none 0 0)) 53))
          have HNEXT := Lib.hid (HSTEP.out k j HN2.out)
          have HY := Lib.hid (heap_alloc_new w' (.cells (scC no (k : Int) st (j : Int) (.slice none 0 0)) 53))
          have hYz : w'.heap.size < (w'.alloc (.cells (scC no (k : Int) st (j : Int) (.slice none 0 0)) 53)).heap.size := by simp
          go_upto_region 15 with (fail)
          rw [show w'.alloc (.cells #[.string no, .int .i64 k, .string st, .int .i64 j, .slice none 0 0] 53) = w'.alloc (.cells (scC no (k : Int) st (j : Int) (.slice none 0 0)) 53) from rfl]
          generalize w'.alloc (.cells (scC no (k : Int) st (j : Int) (.slice none 0 0)) 53) = w8 at *
          generalize w'.heap.size = Y at *
          obtain ⟨y0, y1, y2, y3, y4⟩ := sc_cells (str_cells HY.out)
          have HB48 := Lib.hid (HB5.out.trans (HBA.out.mono HB5.out.size))
          have G8 := Lib.hid (G4.out.below HB48.out)
          have HFL := Lib.hid (headFault_c ⟨no, (k : Int), st, (j : Int), []⟩ none 0 0 w8 (by show no.size ≤ _; omega) (by show st.size ≤ _; omega) (sp_below HS.out G8.out.bel (Nat.le_refl _)) (max_below HM.out G8.out.bel (Nat.le_refl _)))
          go_cut [83] (fun b wx => ∃ tb, b = .bool tb ∧ Hid (Below w5.heap.size w5 wx) ∧ Hid (wx.heap[Y]? = some (.cells (scC no (k : Int) st (j : Int) (.slice none 0 0)) 53 (0, 0))) ∧ Hid (tb = true ↔ hfC line no rs k j))
          case first =>
            have HNOT := Lib.hid (fun (h : ¬ hfC line no rs k j) => show (false = true ↔ hfC line no rs k j) from ⟨fun e => (by cases e), fun e => absurd e h⟩)
            by_cases hk0 : 0 < k
            case neg =>
              have hk1 : ¬ 0 < (k : Int) := by omega
              have HR := Lib.hid (HNOT.out fun h => hk0 (HCC.out.1 h).1)
              clear hk0
              go_wp2
              go_meet
              exact ⟨false, rfl, HBA, HY, HR⟩
            have hk1 : 0 < (k : Int) := by omega
            by_cases hj0 : 0 < j
            case neg =>
              have hj1 : ¬ 0 < (j : Int) := by omega
              have HR := Lib.hid (HNOT.out fun h => hj0 (HCC.out.1 h).2.1)
              clear hj0 hk0
              go_wp2
              go_meet
              exact ⟨false, rfl, HBA, HY, HR⟩
            have hj1 : 0 < (j : Int) := by omega
            cases fr with
            | false =>
              have HR := Lib.hid (HNOT.out fun h => by have := (HCC.out.1 h).2.2.1; cases this)
              clear hj0 hk0
              go_wp2
              go_meet
              exact ⟨false, rfl, HBA, HY, HR⟩
            | true =>
            cases bk with
            | false =>
              have HR := Lib.hid (HNOT.out fun h => by have := (HCC.out.1 h).2.2.2.1; cases this)
              clear hj0 hk0
              go_wp2
              go_meet
              exact ⟨false, rfl, HBA, HY, HR⟩
            | true =>
            have HCD := Lib.hid (show hfC line no rs k j ↔ headE ⟨no, (k : Int), st, (j : Int), []⟩ = 0 ∧ headS ⟨no, (k : Int), st, (j : Int), []⟩ = line from ⟨fun h => (HCC.out.1 h).2.2.2.2, fun h => HCC.out.2 ⟨hk0, hj0, rfl, rfl, h⟩⟩)
            have hpt : 0 ≤ (k : Int) ∧ (k : Int) < 4 := by omega
            have htt : 0 ≤ (j : Int) ∧ (j : Int) < 6 := by omega
            clear hj0 hk0 HCC
            go_wp2_with fail
            refine HFL.out.mono ?_
            rintro e w9 ⟨rfl, hb9⟩
            have HB9 := Lib.hid (HBA.out.trans (hb9.mono HBA.out.size))
            have HY9 := Lib.hid ((hb9.block Y hYz).trans HY.out)
            have HHO := Lib.hid (HeadingOf_c ⟨no, (k : Int), st, (j : Int), []⟩ none 0 0 w9 (by show no.size ≤ _; omega) (by show st.size ≤ _; omega) hpt htt)
            obtain ⟨y0, y1, y2, y3, y4⟩ := sc_cells (str_cells HY9.out)
            clear hb9 HFL
            by_cases he : headE ⟨no, (k : Int), st, (j : Int), []⟩ = 0
            case neg =>
              have HR := Lib.hid (HNOT.out fun h => he (HCD.out.1 h).1)
              have hq : (headE ⟨no, (k : Int), st, (j : Int), []⟩ == 0) = false := beq_eq_false_iff_ne.2 he
              generalize headE ⟨no, (k : Int), st, (j : Int), []⟩ = he9 at *
              clear he
              go_wp2
              go_meet
              exact ⟨false, rfl, HB9, HY9, HR⟩
            rw [he]
            have HE0 := Lib.hid he
            clear he
            go_wp2_with fail
            refine HHO.out.mono ?_
            rintro e w10 ⟨rfl, hb10⟩
            have HBB := Lib.hid (HB9.out.trans (hb10.mono HB9.out.size))
            have HYY := Lib.hid ((hb10.block Y (Array.getElem?_eq_some_iff.1 HY9.out).1).trans HY9.out)
            have HCE := Lib.hid (show hfC line no rs k j ↔ headS ⟨no, (k : Int), st, (j : Int), []⟩ = line from ⟨fun h => (HCD.out.1 h).2, fun h => HCD.out.2 ⟨HE0.out, h⟩⟩)
            clear hb10 HHO HCD HE0
            generalize headS ⟨no, (k : Int), st, (j : Int), []⟩ = hd at *
            by_cases hh : hd = line
            · have hq : (hd.toList == line.toList) = true := by rw [beqS]; simpa using hh
              have HR := Lib.hid (show (true = true ↔ hfC line no rs k j) from ⟨fun _ => HCE.out.2 hh, fun _ => rfl⟩)
              clear hh
              go_wp2
              go_meet
              exact ⟨true, rfl, HBB, HYY, Lib.hid (by simpa using HR.out)⟩
            · have hq : (hd.toList == line.toList) = false := by rw [beqS]; simpa using hh
              have HR := Lib.hid (HNOT.out fun h => hh (HCE.out.1 h))
              clear hh
              go_wp2
              go_meet
              exact ⟨false, rfl, HBB, HYY, HR⟩
          case rest =>
          clear HBA HY HFL HCC y0 y1 y2 y3 y4
          obtain ⟨tb, rfl, HBA, HY, HTB⟩ := hcut
          cases tb with
          | false =>
            have HST := Lib.hid (HNEXT.out fun h => by have := HTB.out.2 h; cases this)
            go_wp2
            go_roundw
            case rel => exact ⟨j + 1, by omega, intNum, HBA, HST⟩
            case measure => simp [intOf]; omega
          | true =>
            have HXX := Lib.hid (show headFrom line = some ⟨no, (k : Int), st, (j : Int), []⟩ by rw [← HX.out]; exact HYES.out k j (HTB.out.1 rfl))
            obtain ⟨y0, y1, y2, y3, y4⟩ := sc_cells (str_cells HY.out)
            have G9 := Lib.hid (G4.out.below (HB5.out.trans (HBA.out.mono HB5.out.size)))
            obtain ⟨x0, x1, x2, x3, x4⟩ := HNIL.out _ G9.out
            obtain ⟨g0, g1, g2, g3, g4⟩ := HFZ.out _ G9.out
            go_wp2
            refine ⟨rfl, hfV (some ⟨no, (k : Int), st, (j : Int), []⟩), (by rw [results_cell_tmp rfl]; go_simp; rfl), ?_⟩
            refine ⟨by rw [HXX.out], ?_⟩
            repeat (first | exact G9.out.bel | refine Below.setCell ?_ (by first | exact Nat.le_refl _ | (dsimp only; omega)) _)
        · have HRW := Lib.hid (HROW.out k j HN.out HN2.out hlj)
          go_wp2
          go_roundw
          case rel => exact ⟨k + 1, by omega, intNum, HB5.out.trans (HBx.out.mono HB5.out.size), HRW⟩
          case measure => simp [intOf]; omega
    · have HE := Lib.hid (HEND.out k HN.out hlt)
      have G9 := Lib.hid (G4.out.below HB.out)
      obtain ⟨y0, y1, y2, y3, y4⟩ := HNIL.out _ G9.out
      obtain ⟨g0, g1, g2, g3, g4⟩ := HFZ.out _ G9.out
      go_wp2
      refine ⟨rfl, hfV none, (by rw [results_cell_tmp rfl]; go_simp; rfl), ?_⟩
      refine ⟨by rw [HE.out], ?_⟩
      repeat (first | exact G9.out.bel | refine Below.setCell ?_ (by first | exact Nat.le_refl _ | (dsimp only; omega)) _)
end Go.Proofs.YtmofncdjhdnoiaaGreatDoor

