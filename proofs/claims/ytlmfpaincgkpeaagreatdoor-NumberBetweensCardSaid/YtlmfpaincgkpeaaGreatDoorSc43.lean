/- Texts packed: LawNumberBetweens. -/
import Derived.Test.YtlmfpaincgkpeaaGreatDoorRows
import Derived.Test.YtlmfpaincgkpeaaGreatDoorSc34
import Derived.Test.YtlmfpaincgkpeaaGreatDoorSc42
import Derived.Test.YtlmfpaincgkpeaaGreatDoorSc02
import Derived.Test.YtlmfpaincgkpeaaGreatDoorSc27
import Derived.Deep.DeepCutAuto
/- The law NumberBetweens walked: for every list of numbers it returns true and leaves what was there. -/
namespace Go.Proofs.YtlmfpaincgkpeaaGreatDoor
set_option linter.unusedVariables false
open Go.RowKit Go.Sort

/-- What the law's last part tells: the program's answer beside the reference's. -/
theorem btw_no1 {a b : ByteArray} (h : ¬ a = ⟨#[]⟩) (h2 : numB a = false) : btwE a b = 5 := by unfold btwE; rw [if_pos (.inl ⟨h, h2⟩)]
theorem btw_no2 {a b : ByteArray} (h : ¬ b = ⟨#[]⟩) (h2 : numB b = false) : btwE a b = 5 := by unfold btwE; rw [if_pos (.inr ⟨h, h2⟩)]
theorem btw_ord {a b : ByteArray} (ha : ¬ a = ⟨#[]⟩) (hb : ¬ b = ⟨#[]⟩) (h1 : numB a = true) (h2 : numB b = true) (h : 0 ≤ cmpN a b) : btwE a b = 7 := by
  unfold btwE
  rw [if_neg (by rintro (h | h) <;> simp_all), if_pos ⟨ha, hb, h⟩]
theorem btw_yes {a b : ByteArray} (ha : a = ⟨#[]⟩ ∨ numB a = true) (hb : b = ⟨#[]⟩ ∨ numB b = true) (h : a = ⟨#[]⟩ ∨ b = ⟨#[]⟩ ∨ cmpN a b < 0) : btwE a b = if betB a b = ⟨#[]⟩ then 11 else 0 := by
  unfold btwE
  rw [if_neg (by rintro (h | h) <;> simp_all), if_neg (by rintro ⟨p, q, r⟩; rcases h with h | h | h; exact p h; exact q h; omega)]
set_option maxRecDepth 100000 in
set_option maxHeartbeats 16000000 in
theorem NumberBetweens_c (A : Option Addr) (l : List Int) (c : Nat) (w : World) (hr : Rs w 0 w.heap.size 1 intc A l) (hl : l.length ≤ 17592186044416) (ho : ∀ x ∈ l, okI x) (he : ErrsLaid w) (hp : PowLaid w) (hm : MaxLaid w) :
    Calls Tryz.prog 3 #[.slice A l.length c] w fun e w' => e = .returned (.bool true) ∧ Below w.heap.size w w' := by
  have S0 := strNew w A l c hr hl ho
  have HLA := Lib.hid (fun (W : World) (hb : Below w.heap.size w W) => show MaxLaid W ∧ ErrsLaid W ∧ PowLaid W from ⟨max_below hm hb (Nat.le_refl _), he.below hb (Nat.le_refl _), pow_below hp hb (Nat.le_refl _)⟩)
  have HLS := Lib.hid (fun (W : World) (hb : Below w.heap.size w W) => (LaidS.start he hp).below hb (Nat.le_refl _))
  have G0 := Lib.hid (GS.start (R := dumR) (e := 3) S0)
  have HGE := Lib.hid (fun (n : Int) (wx : World) P (h : PvS (w.alloc (.cells #[.slice A l.length c, .int .i64 0] 25)) w.heap.size P n wx) => show Below w.heap.size w wx from gEnd h.gr)
  clear hr ho hm he hp S0
  go_enter Tryz.func3, Tryz.ntmps3
  go_upto_region 2 with (fail)
  generalize w.alloc (.cells #[.slice A l.length c, .int .i64 0] 25) = W0 at *
  go_wp2_with fail
  refine (No_c w.heap.size 0 W0 G0.out.str (by decide)).mono ?_
  rintro e w1 ⟨v1, n1, rfl, ⟨a, ha, rfl⟩, hn1, hs1, hg1⟩
  have G1 := Lib.hid (G0.out.turn hg1 hs1)
  clear hs1 hg1 G0
  go_wp2_with fail
  refine (No_c w.heap.size n1 w1 G1.out.str (by omega)).mono ?_
  rintro e w2 ⟨v2, n2, rfl, ⟨b, hb, rfl⟩, hn2, hs2, hg2⟩
  have G2 := Lib.hid (G1.out.turn hg2 hs2)
  clear hs2 hg2 G1
  go_upto_region 3 with (fail)
  go_cut [34] (fun v wx => ∃ (q : Bool) (n : Int), v = .bool q ∧ n ≤ 10 ∧ Hid (PvS W0 w.heap.size [] n wx))
  case first =>
    have HBA := Lib.hid (fun (W : World) => NumberOf_c a W (by omega))
    have HBB := Lib.hid (fun (W : World) => NumberOf_c b W (by omega))
    have HCM := Lib.hid (fun (W : World) (hb : Below w.heap.size w W) => NumbersOrder_c a b W (by omega) (by omega) (HLA.out _ hb).2.1)
    go_wp2_with fail
    refine (flip_c w.heap.size n2 2 w2 G2.out.str (by omega) (by omega) (by omega)).mono ?_
    rintro e w3 ⟨v3, n3, rfl, ⟨b3, rfl⟩, hn3, hs3, hg3⟩
    have G3 := Lib.hid (G2.out.turn hg3 hs3)
    clear hs3 hg3 G2
    cases b3 with
    | false =>
      go_wp2_with fail
      go_meet
      exact ⟨false, n3, rfl, by omega, G3.out⟩
    | true =>
      go_wp2_with fail
      with_reducible refine (HBA.out w3).mono ?_
      rintro e w4 ⟨rfl, hb4⟩
      have G4 := Lib.hid (G3.out.below hb4)
      clear hb4 G3
      generalize numB a = qa at *
      cases qa with
      | false =>
        go_wp2_with fail
        go_meet
        exact ⟨false, n3, rfl, by omega, G4.out⟩
      | true =>
        go_wp2_with fail
        with_reducible refine (HBB.out w4).mono ?_
        rintro e w5 ⟨rfl, hb5⟩
        have G5 := Lib.hid (G4.out.below hb5)
        clear hb5 G4
        generalize numB b = qb at *
        cases qb with
        | false =>
          go_wp2_with fail
          go_meet
          exact ⟨false, n3, rfl, by omega, G5.out⟩
        | true =>
          have HC5 := Lib.hid (HCM.out w5 (HGE.out _ _ _ G5.out))
          generalize cmpN a b = z5 at *
          go_wp2_with fail
          with_reducible refine HC5.out.mono ?_
          rintro e w6 ⟨rfl, hb6⟩
          have G6 := Lib.hid (G5.out.below hb6)
          clear hb6 G5 HC5
          go_wp2_with fail
          go_meet
          exact ⟨_, n3, rfl, by omega, G6.out⟩
  case rest =>
    clear G2
    obtain ⟨q, n, rfl, hn, G⟩ := hcut
    go_upto_if 34 with (fail)
    go_cut [4, 5] (fun s4 s5 wx => ∃ a b : ByteArray, s4 = .string a ∧ s5 = .string b ∧ a.size ≤ 100 ∧ b.size ≤ 100 ∧ wx = wc)
    case first =>
      cases q with
      | false =>
        go_wp2_with fail
        go_meet
        exact ⟨a, b, rfl, rfl, by omega, by omega, rfl⟩
      | true =>
        go_wp2_with fail
        go_meet
        exact ⟨b, a, rfl, rfl, by omega, by omega, rfl⟩
    case rest =>
      obtain ⟨a1, b1, rfl, rfl, ha1, hb1, rfl⟩ := hcut
      go_wp2_with fail
      refine (next_c w.heap.size n 4 _ G.out.str (by omega) (by omega) (by omega)).mono ?_
      rintro e w7 ⟨v7, n7, rfl, ⟨m7, hm70, hm71, rfl⟩, hn7, hs7, hg7⟩
      obtain ⟨m, rfl⟩ := Int.eq_ofNat_of_zero_le hm70
      have G7 := Lib.hid (G.out.turn hg7 hs7)
      clear hs7 hg7 G
      go_wp2
      go_loopw [4, 5, 39] (fun s4 s5 i wr => ∃ (k : Nat) (a b : ByteArray) (n : Int), k ≤ m ∧ i = .int .i64 k ∧ s4 = .string a ∧ s5 = .string b ∧ a.size ≤ 100 ∧ b.size ≤ 100 ∧ n ≤ 20 + k ∧ Hid (PvS W0 w.heap.size [] n wr)) (fun _ _ i _ => m - (intOf i).toNat)
      case atStart => exact ⟨0, a1, b1, n7, Nat.zero_le _, rfl, rfl, rfl, ha1, hb1, by omega, G7.out⟩
      case round =>
        clear G7 ha1 hb1
        obtain ⟨k, a2, b2, n8, hk, rfl, rfl, rfl, ha2, hb2, hn8, G⟩ := hrel
        by_cases hlt : k < m
        · have HBW := Lib.hid (HGE.out _ _ _ G.out)
          go_wp2_with fail
          refine (BetweenOf_any w.heap.size a2 b2 wr (by omega) (by omega) (HLS.out _ HBW.out) HBW.out.size).mono ?_
          rintro e w9 ⟨z9, q9, rfl, hz9, hb9⟩
          have G9 := Lib.hid (G.out.below hb9)
          clear hb9 G HBW
          go_upto_region 8 with (fail)
          have HBA := Lib.hid (fun (W : World) => NumberOf_c a2 W (by omega))
          have HBB := Lib.hid (fun (W : World) => NumberOf_c b2 W (by omega))
          have HCM := Lib.hid (fun (W : World) (hb : Below w.heap.size w W) => NumbersOrder_c a2 b2 W (by omega) (by omega) (HLA.out _ hb).2.1)
          go_cut [61] (fun v wx => ∃ (q : Bool), v = .bool q ∧ Hid (PvS W0 w.heap.size [] n8 wx))
          case first =>
            cases q9 with
            | false =>
              go_wp2_with fail
              go_meet
              exact ⟨false, rfl, G9.out⟩
            | true =>
              go_wp2_with fail
              with_reducible refine (HBA.out w9).mono ?_
              rintro e w4 ⟨rfl, hb4⟩
              have G4 := Lib.hid (G9.out.below hb4)
              clear hb4 G9
              generalize numB a2 = qa at *
              cases qa with
              | false =>
                go_wp2_with fail
                go_meet
                exact ⟨false, rfl, G4.out⟩
              | true =>
                go_wp2_with fail
                with_reducible refine (HBB.out w4).mono ?_
                rintro e w5 ⟨rfl, hb5⟩
                have G5 := Lib.hid (G4.out.below hb5)
                clear hb5 G4
                generalize numB b2 = qb at *
                cases qb with
                | false =>
                  go_wp2_with fail
                  go_meet
                  exact ⟨false, rfl, G5.out⟩
                | true =>
                  have HC5 := Lib.hid (HCM.out w5 (HGE.out _ _ _ G5.out))
                  generalize cmpN a2 b2 = z5 at *
                  go_wp2_with fail
                  with_reducible refine HC5.out.mono ?_
                  rintro e w6 ⟨rfl, hb6⟩
                  have G6 := Lib.hid (G5.out.below hb6)
                  clear hb6 G5 HC5
                  go_wp2_with fail
                  go_meet
                  exact ⟨_, rfl, G6.out⟩
          case rest =>
            clear G9 HBA HBB HCM
            obtain ⟨q, rfl, G⟩ := hcut
            cases q with
            | false =>
              go_wp2_with fail
              go_roundw
              case rel => exact ⟨k + 1, a2, b2, n8, by omega, intNum, rfl, rfl, ha2, hb2, by omega, G.out⟩
              case measure => simp [intOf]; omega
            | true =>
              go_wp2_with fail
              refine (flip_c w.heap.size n8 2 _ G.out.str (by omega) (by omega) (by omega)).mono ?_
              rintro e w3 ⟨v3, n3, rfl, ⟨b3, rfl⟩, hn3, hs3, hg3⟩
              have G3 := Lib.hid (G.out.turn hg3 hs3)
              clear hs3 hg3 G
              cases b3 with
              | false =>
                go_wp2_with fail
                go_roundw
                case rel => exact ⟨k + 1, a2, z9, n3, by omega, intNum, rfl, rfl, ha2, by omega, by omega, G3.out⟩
                case measure => simp [intOf]; omega
              | true =>
                go_wp2_with fail
                go_roundw
                case rel => exact ⟨k + 1, z9, b2, n3, by omega, intNum, rfl, rfl, by omega, hb2, by omega, G3.out⟩
                case measure => simp [intOf]; omega
        · have HBW := Lib.hid (HGE.out _ _ _ G.out)
          have HBT := rvBtw_c a2 b2 wr (fun h => numB_ok h) (by omega) (by omega) (HLA.out _ HBW.out).2.1 (HLA.out _ HBW.out).2.2
          unfold TwP at HBT
          have HBT := Lib.hid HBT
          have HBA := Lib.hid (fun (W : World) => NumberOf_c a2 W (by omega))
          have HBB := Lib.hid (fun (W : World) => NumberOf_c b2 W (by omega))
          have HCM := Lib.hid (fun (W : World) (hb : Below w.heap.size w W) => NumbersOrder_c a2 b2 W (by omega) (by omega) (HLA.out _ hb).2.1)
          have HDR := Lib.hid (fun (W : World) (hb : Below w.heap.size w W) => drafts_c W (HLA.out _ hb).1 (HLA.out _ hb).2.1 (HLA.out _ hb).2.2)
          have HS := Lib.hid (show btwS a2 b2 = if btwE a2 b2 = 0 then betB a2 b2 else ⟨#[]⟩ from rfl)
          have HE := Lib.hid (rfl : btwE a2 b2 = btwE a2 b2)
          obtain ⟨zs, hzs⟩ : ∃ zs, btwS a2 b2 = zs := ⟨_, rfl⟩
          obtain ⟨ze, hze⟩ : ∃ ze, btwE a2 b2 = ze := ⟨_, rfl⟩
          have HZS := Lib.hid hzs
          have HZE := Lib.hid hze
          rw [hzs, hze] at HBT
          clear hzs hze HE
          go_wp2_with fail
          with_reducible refine HBT.out.mono ?_
          rintro e w10 ⟨rfl, hb10⟩
          have HB10 := Lib.hid (HBW.out.trans (hb10.mono HBW.out.size))
          clear hb10 HBT HBW G
          go_upto_region 14 with (fail)
          go_cut [73] (fun v wx => ∃ q : Bool, v = .bool q ∧ (q = true → ¬ a2 = ⟨#[]⟩ ∧ numB a2 = false) ∧ (q = false → a2 = ⟨#[]⟩ ∨ numB a2 = true) ∧ Hid (Below w.heap.size w wx))
          case first =>
            by_cases hae : a2 = ⟨#[]⟩
            · have hea : a2.toList.isEmpty = true := (empty_iff a2).2 hae
              have HAE := Lib.hid hae
              clear hae
              go_wp2_with fail
              go_meet
              exact ⟨false, rfl, (fun h => by cases h), (fun _ => .inl HAE.out), HB10.out⟩
            · have hea := emp_no hae
              have HAE := Lib.hid hae
              clear hae
              go_wp2_with fail
              with_reducible refine (HBA.out w10).mono ?_
              rintro e w4 ⟨rfl, hb4⟩
              have HB4 := Lib.hid (HB10.out.trans (hb4.mono HB10.out.size))
              clear hb4
              cases hq : numB a2 with
              | false =>
                have HQ := Lib.hid hq
                clear hq
                go_wp2_with fail
                go_meet
                exact ⟨true, rfl, (fun _ => ⟨HAE.out, HQ.out⟩), (fun h => by cases h), HB4.out⟩
              | true =>
                have HQ := Lib.hid hq
                clear hq
                go_wp2_with fail
                go_meet
                exact ⟨false, rfl, (fun h => by cases h), (fun _ => .inr HQ.out), HB4.out⟩
          case rest =>
            clear HB10
            obtain ⟨q, rfl, hq1, hq0, HB⟩ := hcut
            cases q with
            | true =>
              obtain ⟨hq1, hq2⟩ := hq1 rfl
              have h5 := btw_no1 (b := b2) hq1 hq2
              rw [HZE.out] at h5
              subst h5
              have HD := Lib.hid (HDR.out _ HB.out)
              clear hq0 hq1 hq2
              go_wp2_with fail
              with_reducible refine HD.out.mono ?_
              rintro e w11 ⟨rfl, hb11⟩
              have HB11 := Lib.hid (HB.out.trans (hb11.mono HB.out.size))
              clear hb11 HD
              go_wp2
              go_ret
              exact ⟨rfl, HB11.out⟩
            | false =>
              have HQA := Lib.hid (hq0 rfl)
              clear hq0 hq1
              go_upto_region 15 with (fail)
              go_cut [73] (fun v wx => ∃ q : Bool, v = .bool q ∧ (q = true → ¬ b2 = ⟨#[]⟩ ∧ numB b2 = false) ∧ (q = false → b2 = ⟨#[]⟩ ∨ numB b2 = true) ∧ Hid (Below w.heap.size w wx))
              case first =>
                by_cases hae : b2 = ⟨#[]⟩
                · have hea : b2.toList.isEmpty = true := (empty_iff b2).2 hae
                  have HAE := Lib.hid hae
                  clear hae
                  go_wp2_with fail
                  go_meet
                  exact ⟨false, rfl, (fun h => by cases h), (fun _ => .inl HAE.out), HB.out⟩
                · have hea := emp_no hae
                  have HAE := Lib.hid hae
                  clear hae
                  go_wp2_with fail
                  with_reducible refine (HBB.out _).mono ?_
                  rintro e w4 ⟨rfl, hb4⟩
                  have HB4 := Lib.hid (HB.out.trans (hb4.mono HB.out.size))
                  clear hb4
                  cases hq : numB b2 with
                  | false =>
                    have HQ := Lib.hid hq
                    clear hq
                    go_wp2_with fail
                    go_meet
                    exact ⟨true, rfl, (fun _ => ⟨HAE.out, HQ.out⟩), (fun h => by cases h), HB4.out⟩
                  | true =>
                    have HQ := Lib.hid hq
                    clear hq
                    go_wp2_with fail
                    go_meet
                    exact ⟨false, rfl, (fun h => by cases h), (fun _ => .inr HQ.out), HB4.out⟩
              case rest =>
                clear HB
                obtain ⟨q, rfl, hq1, hq0, HB⟩ := hcut
                cases q with
                | true =>
                  obtain ⟨hq1, hq2⟩ := hq1 rfl
                  have h5 := btw_no2 (a := a2) hq1 hq2
                  rw [HZE.out] at h5
                  subst h5
                  have HD := Lib.hid (HDR.out _ HB.out)
                  clear hq0 hq1 hq2
                  go_wp2_with fail
                  with_reducible refine HD.out.mono ?_
                  rintro e w11 ⟨rfl, hb11⟩
                  have HB11 := Lib.hid (HB.out.trans (hb11.mono HB.out.size))
                  clear hb11 HD
                  go_wp2
                  go_ret
                  exact ⟨rfl, HB11.out⟩
                | false =>
                  have HQB := Lib.hid (hq0 rfl)
                  clear hq0 hq1
                  go_upto_region 17 with (fail)
                  go_cut [93] (fun v wx => ∃ q : Bool, v = .bool q ∧ (q = true → ¬ a2 = ⟨#[]⟩ ∧ ¬ b2 = ⟨#[]⟩ ∧ 0 ≤ cmpN a2 b2) ∧ (q = false → a2 = ⟨#[]⟩ ∨ b2 = ⟨#[]⟩ ∨ cmpN a2 b2 < 0) ∧ Hid (Below w.heap.size w wx))
                  case first =>
                    by_cases hae : a2 = ⟨#[]⟩
                    · have hea : a2.toList.isEmpty = true := (empty_iff a2).2 hae
                      have HAE := Lib.hid hae
                      clear hae
                      go_wp2_with fail
                      go_meet
                      exact ⟨false, rfl, (fun h => by cases h), (fun _ => .inl HAE.out), HB.out⟩
                    · have hea := emp_no hae
                      have HAE := Lib.hid hae
                      clear hae
                      by_cases hbe : b2 = ⟨#[]⟩
                      · have heb : b2.toList.isEmpty = true := (empty_iff b2).2 hbe
                        have HBE := Lib.hid hbe
                        clear hbe
                        go_wp2_with fail
                        go_meet
                        exact ⟨false, rfl, (fun h => by cases h), (fun _ => .inr (.inl HBE.out)), HB.out⟩
                      · have heb := emp_no hbe
                        have HBE := Lib.hid hbe
                        clear hbe
                        have HC5 := Lib.hid (HCM.out _ HB.out)
                        go_wp2_with fail
                        with_reducible refine HC5.out.mono ?_
                        rintro e w6 ⟨rfl, hb6⟩
                        have HB6 := Lib.hid (HB.out.trans (hb6.mono HB.out.size))
                        clear hb6 HC5 HB
                        generalize cmpN a2 b2 = z5 at *
                        go_wp2_with fail
                        go_meet
                        refine ⟨_, rfl, (fun h => ⟨HAE.out, HBE.out, ?_⟩), (fun h => .inr (.inr ?_)), HB6.out⟩
                        · simpa using h
                        · simpa using h
                  case rest =>
                    clear HB
                    obtain ⟨q, rfl, hq1, hq0, HB⟩ := hcut
                    have HD := Lib.hid (HDR.out _ HB.out)
                    cases q with
                    | true =>
                      obtain ⟨hq1, hq2, hq3⟩ := hq1 rfl
                      have h5 := btw_ord hq1 hq2 (HQA.out.resolve_left hq1) (HQB.out.resolve_left hq2) hq3
                      rw [HZE.out] at h5
                      subst h5
                      clear hq0 hq1 hq2 hq3
                      go_wp2_with fail
                      with_reducible refine HD.out.mono ?_
                      rintro e w11 ⟨rfl, hb11⟩
                      have HB11 := Lib.hid (HB.out.trans (hb11.mono HB.out.size))
                      clear hb11 HD
                      go_wp2
                      go_ret
                      exact ⟨rfl, HB11.out⟩
                    | false =>
                      have h5 := btw_yes HQA.out HQB.out (hq0 rfl)
                      rw [HZE.out] at h5
                      have HOK : (numC a2).size ≤ 8 ∧ 0 ≤ atoiV (numD a2) ∧ atoiV (numD a2) ≤ 999 := by
                        rcases HQA.out with h | h
                        · subst h; exact ⟨by decide, by decide +kernel, by decide +kernel⟩
                        · have q := numB_ok h
                          have := q.sz
                          have := numC_size a2
                          exact ⟨by omega, q.pos⟩
                      have HBR := BetweenOf_x a2 b2 _ HOK (by omega) (by omega) (HLA.out _ HB.out).2.1 (HLA.out _ HB.out).2.2
                      obtain ⟨hs1, hs2⟩ := betR_some (b := b2) (HQA.out.imp id fun h => numB_ok h)
                      unfold BtrP at HBR
                      rw [hs1, hs2] at HBR
                      have hzs := HS.out
                      rw [HZS.out, HZE.out] at hzs
                      have HBR := Lib.hid HBR
                      clear hq0 hq1 HOK hs1 hs2 HD HQA HQB HZS HZE HS HBA HBB HCM
                      generalize betB a2 b2 = x at *
                      by_cases hx : x = ⟨#[]⟩
                      · rw [if_pos hx] at h5
                        have hd : decide (x = ⟨#[]⟩) = true := decide_eq_true hx
                        rw [hd] at HBR
                        subst h5
                        clear hx hd hzs
                        go_wp2_with fail
                        with_reducible refine HBR.out.mono ?_
                        rintro e w11 ⟨rfl, hb11⟩
                        have HB11 := Lib.hid (HB.out.trans (hb11.mono HB.out.size))
                        have HD := Lib.hid (HDR.out _ HB11.out)
                        clear hb11 HBR HB
                        go_wp2_with fail
                        with_reducible refine HD.out.mono ?_
                        rintro e w12 ⟨rfl, hb12⟩
                        have HB12 := Lib.hid (HB11.out.trans (hb12.mono HB11.out.size))
                        clear hb12 HD
                        go_wp2
                        go_ret
                        exact ⟨rfl, HB12.out⟩
                      · rw [if_neg hx] at h5
                        have hd : decide (x = ⟨#[]⟩) = false := decide_eq_false hx
                        rw [hd] at HBR
                        rw [h5, if_pos rfl] at hzs
                        subst h5
                        subst hzs
                        clear hx hd
                        go_wp2_with fail
                        with_reducible refine HBR.out.mono ?_
                        rintro e w11 ⟨rfl, hb11⟩
                        have HB11 := Lib.hid (HB.out.trans (hb11.mono HB.out.size))
                        have HD := Lib.hid (HDR.out _ HB11.out)
                        clear hb11 HBR HB
                        go_wp2_with fail
                        with_reducible refine HD.out.mono ?_
                        rintro e w12 ⟨rfl, hb12⟩
                        have HB12 := Lib.hid (HB11.out.trans (hb12.mono HB11.out.size))
                        clear hb12 HD
                        go_wp2
                        go_ret
                        exact ⟨rfl, HB12.out⟩
end Go.Proofs.YtlmfpaincgkpeaaGreatDoor

