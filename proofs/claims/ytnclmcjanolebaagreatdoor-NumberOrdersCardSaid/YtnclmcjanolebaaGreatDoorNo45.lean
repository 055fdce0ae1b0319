/- Texts packed: LawNumberOrders. -/
import Derived.Test.YtnclmcjanolebaaGreatDoorRows
import Derived.Test.YtnclmcjanolebaaGreatDoorNo44
import Derived.Test.YtnclmcjanolebaaGreatDoorNo02
import Derived.Test.YtnclmcjanolebaaGreatDoorNo26
/- The law NumberOrders walked: for every list of numbers and every draft it returns true and leaves what was there. -/
namespace Go.Proofs.YtnclmcjanolebaaGreatDoor
set_option linter.unusedVariables false
open Go.RowKit Go.Sort

set_option maxRecDepth 100000 in
set_option maxHeartbeats 16000000 in
theorem NumberOrders_c (A : Option Addr) (l : List Int) (c : Nat) (d : Int) (w : World) (hr : Rs w 0 w.heap.size 1 intc A l) (hl : l.length ≤ 17592186044416) (ho : ∀ x ∈ l, okI x) (hd : okI d) (he : ErrsLaid w) (hp : PowLaid w) (hm : MaxLaid w) :
    Calls Tryz.prog 4 #[.slice A l.length c, .int .i64 d] w fun e w' => e = .returned (.bool true) ∧ Below w.heap.size w w' := by
  have S0 := strNew w A l c hr hl ho
  have HLA := Lib.hid (fun (W : World) (hb : Below w.heap.size w W) => show MaxLaid W ∧ ErrsLaid W ∧ PowLaid W from ⟨max_below hm hb (Nat.le_refl _), he.below hb (Nat.le_refl _), pow_below hp hb (Nat.le_refl _)⟩)
  have G0 := Lib.hid (GS.start (R := dumR) (e := 3) S0)
  have HGE := Lib.hid (fun (n : Int) (wx : World) P (h : PvS (w.alloc (.cells #[.slice A l.length c, .int .i64 0] 25)) w.heap.size P n wx) => show Below w.heap.size w wx from gEnd h.gr)
  have HCD := Lib.hid hd
  clear hr ho hm he hp S0 hd
  go_enter Tryz.func4, Tryz.ntmps4
  go_upto_region 2 with (fail)
  generalize w.alloc (.cells #[.slice A l.length c, .int .i64 0] 25) = W0 at *
  go_wp2_with fail
  refine (No_c w.heap.size 0 W0 G0.out.str (by decide)).mono ?_
  rintro e w1 ⟨v1, n1, rfl, ⟨a, ha, rfl⟩, hn1, hs1, hg1⟩
  have G1 := Lib.hid (G0.out.turn hg1 hs1)
  clear hs1 hg1 G0
  go_wp2_with fail
  refine (No_c w.heap.size n1 w1 G1.out.str (by omega)).mono ?_
  rintro e w2 ⟨v2, n2, rfl, ⟨b, hb, rfl⟩, hn2, hs2, hg2⟩
  have HB2 := Lib.hid (HGE.out _ _ _ (G1.out.turn hg2 hs2))
  clear hs2 hg2 G1 HGE
  obtain ⟨va, hva⟩ : ∃ va : Int, (bif numB a then 0 else 5) = va := ⟨_, rfl⟩
  obtain ⟨vb, hvb⟩ : ∃ vb : Int, (bif numB b then 0 else 5) = vb := ⟨_, rfl⟩
  have HVA := Lib.hid hva
  have HVB := Lib.hid hvb
  have HOR := Lib.hid (show orI [va, vb] = (bif (numB a && numB b) then 0 else 5) by
    rw [← hva, ← hvb]
    cases numB a <;> cases numB b <;> rfl)
  clear hva hvb
  have HCK := Lib.hid (CheckNumber_c a w2 (by omega))
  have HF2 := Lib.hid (noFault_c a w2 (by omega))
  rw [HVA.out] at HCK HF2
  go_wp2_with fail
  with_reducible refine HCK.out.mono ?_
  rintro e w3 ⟨rfl, rfl⟩
  clear HCK
  go_wp2_with fail
  with_reducible refine HF2.out.mono ?_
  rintro e w3 ⟨rfl, hb3⟩
  have HB3 := Lib.hid (HB2.out.trans (hb3.mono HB2.out.size))
  have HCO := Lib.hid (Colour_c d w3 HCD.out)
  clear hb3 HF2 HCD
  go_wp2_with fail
  with_reducible refine HCO.out.mono ?_
  rintro e w4 ⟨⟨s, z, rfl, hz1, hz0⟩, hb4⟩
  have HB5 := Lib.hid (HB3.out.trans (hb4.mono HB3.out.size))
  clear hb4 HCO
  by_cases h1 : d < 1
  · have hz := hz1 (.inl h1)
    subst hz
    clear hz1 hz0
    have HCM := Lib.hid (Compare_c a b w4 (by omega) (by omega) (HLA.out _ HB5.out).2.1)
    go_wp2_with fail
    refine HCM.out.mono ?_
    rintro e w6 ⟨⟨z2, q2, rfl, hz2, hq2⟩, hb6⟩
    have HB6 := Lib.hid (HB5.out.trans (hb6.mono HB5.out.size))
    have HZ2 := Lib.hid hz2
    have HQ2 := Lib.hid hq2
    have HF6 := Lib.hid (noFault_c a w6 (by omega))
    clear hz2 hq2 hb6 HCM
    go_wp2_with fail
    with_reducible refine HF6.out.mono ?_
    rintro e w7 ⟨rfl, hb7⟩
    have HB7 := Lib.hid (HB6.out.trans (hb7.mono HB6.out.size))
    have HF7 := Lib.hid (noFault_c b w7 (by omega))
    clear hb7 HF6
    rw [HVA.out]
    go_wp2_with fail
    with_reducible refine HF7.out.mono ?_
    rintro e w8 ⟨rfl, hb8⟩
    have HB8 := Lib.hid (HB7.out.trans (hb8.mono HB7.out.size))
    clear hb8 HF7
    rw [HVB.out]
    have HO := Lib.hid (show Calls Tryz.prog 21 #[.slice (some ⟨w8.heap.size, 0, none⟩) 2 2] (w8.alloc (.cells #[.int .i64 va, .int .i64 vb] 33)) (fun e w' => e = .returned (.int .i64 (orI [va, vb])) ∧ w' = (w8.alloc (.cells #[.int .i64 va, .int .i64 vb] 33))) from
      orE_c (some ⟨w8.heap.size, 0, none⟩) [va, vb] 2 w8.heap.size (w8.alloc (.cells #[.int .i64 va, .int .i64 vb] 33)) (by
        have h := Rs.new1 w8 [va, vb] (Value.int .i64) 33 w8.heap.size (Nat.le_refl _)
        rw [show (w8.alloc (.cells #[.int .i64 va, .int .i64 vb] 33)).heap.size = w8.heap.size + 1 by simp]
        exact h) (show 2 ≤ 1000000 by decide))
    have HB9 := Lib.hid (HB8.out.alloc HB8.out.size (.cells #[.int .i64 va, .int .i64 vb] 33))
    go_wp2_with fail
    with_reducible refine HO.out.mono ?_
    rintro e w9 ⟨rfl, rfl⟩
    rw [HOR.out]
    clear HO HB8
    generalize w8.alloc (.cells #[.int .i64 va, .int .i64 vb] 33) = w9 at *
    have HDR := Lib.hid (drafts_c w9 (HLA.out _ HB9.out).1 (HLA.out _ HB9.out).2.1 (HLA.out _ HB9.out).2.2)
    cases hbt : (numB a && numB b) with
    | false =>
      have hq := HQ2.out hbt
      subst hq
      clear hbt HZ2 HQ2
      go_wp2_with fail
      with_reducible refine HDR.out.mono ?_
      rintro e w10 ⟨rfl, hb10⟩
      have HB10 := Lib.hid (HB9.out.trans (hb10.mono HB9.out.size))
      clear hb10 HDR
      go_wp2
      go_ret
      exact ⟨rfl, HB10.out⟩
    | true =>
      obtain ⟨e1, e2⟩ := HZ2.out hbt
      subst e1
      subst e2
      clear hbt HZ2 HQ2
      have HNO := Lib.hid (fun (W : World) (hb : Below w.heap.size w W) => NumbersOrder_c a b W (by omega) (by omega) (HLA.out _ hb).2.1)
      generalize cmpN a b = z2 at *
      go_wp2_with fail
      with_reducible refine HDR.out.mono ?_
      rintro e w10 ⟨rfl, hb10⟩
      have HB10 := Lib.hid (HB9.out.trans (hb10.mono HB9.out.size))
      have HN10 := Lib.hid (HNO.out _ HB10.out)
      clear hb10 HDR HNO
      go_wp2_with fail
      with_reducible refine HN10.out.mono ?_
      rintro e w11 ⟨rfl, hb11⟩
      have HB11 := Lib.hid (HB10.out.trans (hb11.mono HB10.out.size))
      clear hb11 HN10
      go_wp2
      go_ret
      exact ⟨rfl, HB11.out⟩
  by_cases h2 : 30 < d
  · have hz := hz1 (.inr h2)
    subst hz
    clear hz1 hz0
    have HCM := Lib.hid (Compare_c a b w4 (by omega) (by omega) (HLA.out _ HB5.out).2.1)
    go_wp2_with fail
    refine HCM.out.mono ?_
    rintro e w6 ⟨⟨z2, q2, rfl, hz2, hq2⟩, hb6⟩
    have HB6 := Lib.hid (HB5.out.trans (hb6.mono HB5.out.size))
    have HZ2 := Lib.hid hz2
    have HQ2 := Lib.hid hq2
    have HF6 := Lib.hid (noFault_c a w6 (by omega))
    clear hz2 hq2 hb6 HCM
    go_wp2_with fail
    with_reducible refine HF6.out.mono ?_
    rintro e w7 ⟨rfl, hb7⟩
    have HB7 := Lib.hid (HB6.out.trans (hb7.mono HB6.out.size))
    have HF7 := Lib.hid (noFault_c b w7 (by omega))
    clear hb7 HF6
    rw [HVA.out]
    go_wp2_with fail
    with_reducible refine HF7.out.mono ?_
    rintro e w8 ⟨rfl, hb8⟩
    have HB8 := Lib.hid (HB7.out.trans (hb8.mono HB7.out.size))
    clear hb8 HF7
    rw [HVB.out]
    have HO := Lib.hid (show Calls Tryz.prog 21 #[.slice (some ⟨w8.heap.size, 0, none⟩) 2 2] (w8.alloc (.cells #[.int .i64 va, .int .i64 vb] 33)) (fun e w' => e = .returned (.int .i64 (orI [va, vb])) ∧ w' = (w8.alloc (.cells #[.int .i64 va, .int .i64 vb] 33))) from
      orE_c (some ⟨w8.heap.size, 0, none⟩) [va, vb] 2 w8.heap.size (w8.alloc (.cells #[.int .i64 va, .int .i64 vb] 33)) (by
        have h := Rs.new1 w8 [va, vb] (Value.int .i64) 33 w8.heap.size (Nat.le_refl _)
        rw [show (w8.alloc (.cells #[.int .i64 va, .int .i64 vb] 33)).heap.size = w8.heap.size + 1 by simp]
        exact h) (show 2 ≤ 1000000 by decide))
    have HB9 := Lib.hid (HB8.out.alloc HB8.out.size (.cells #[.int .i64 va, .int .i64 vb] 33))
    go_wp2_with fail
    with_reducible refine HO.out.mono ?_
    rintro e w9 ⟨rfl, rfl⟩
    rw [HOR.out]
    clear HO HB8
    generalize w8.alloc (.cells #[.int .i64 va, .int .i64 vb] 33) = w9 at *
    have HDR := Lib.hid (drafts_c w9 (HLA.out _ HB9.out).1 (HLA.out _ HB9.out).2.1 (HLA.out _ HB9.out).2.2)
    cases hbt : (numB a && numB b) with
    | false =>
      have hq := HQ2.out hbt
      subst hq
      clear hbt HZ2 HQ2
      go_wp2_with fail
      with_reducible refine HDR.out.mono ?_
      rintro e w10 ⟨rfl, hb10⟩
      have HB10 := Lib.hid (HB9.out.trans (hb10.mono HB9.out.size))
      clear hb10 HDR
      go_wp2
      go_ret
      exact ⟨rfl, HB10.out⟩
    | true =>
      obtain ⟨e1, e2⟩ := HZ2.out hbt
      subst e1
      subst e2
      clear hbt HZ2 HQ2
      have HNO := Lib.hid (fun (W : World) (hb : Below w.heap.size w W) => NumbersOrder_c a b W (by omega) (by omega) (HLA.out _ hb).2.1)
      generalize cmpN a b = z2 at *
      go_wp2_with fail
      with_reducible refine HDR.out.mono ?_
      rintro e w10 ⟨rfl, hb10⟩
      have HB10 := Lib.hid (HB9.out.trans (hb10.mono HB9.out.size))
      have HN10 := Lib.hid (HNO.out _ HB10.out)
      clear hb10 HDR HNO
      go_wp2_with fail
      with_reducible refine HN10.out.mono ?_
      rintro e w11 ⟨rfl, hb11⟩
      have HB11 := Lib.hid (HB10.out.trans (hb11.mono HB10.out.size))
      clear hb11 HN10
      go_wp2
      go_ret
      exact ⟨rfl, HB11.out⟩
  obtain ⟨hz, hs⟩ := hz0 (by omega)
  subst hz
  subst hs
  have HCP := Lib.hid (ColourOf_c d w4 (by omega) (by omega))
  clear hz1 hz0
  have HST := Lib.hid (rfl : colS d = colS d)
  generalize colS d = s at *
  go_wp2_with fail
  with_reducible refine HCP.out.mono ?_
  rintro e w5 ⟨rfl, hb5⟩
  have HB4 := Lib.hid HB5.out
  clear HB5
  have HB5 := Lib.hid (HB4.out.trans (hb5.mono HB4.out.size))
  clear hb5 HCP HST
  have HCM := Lib.hid (Compare_c a b w5 (by omega) (by omega) (HLA.out _ HB5.out).2.1)
  go_wp2_with fail
  refine HCM.out.mono ?_
  rintro e w6 ⟨⟨z2, q2, rfl, hz2, hq2⟩, hb6⟩
  have HB6 := Lib.hid (HB5.out.trans (hb6.mono HB5.out.size))
  have HZ2 := Lib.hid hz2
  have HQ2 := Lib.hid hq2
  have HF6 := Lib.hid (noFault_c a w6 (by omega))
  clear hz2 hq2 hb6 HCM
  go_wp2_with fail
  with_reducible refine HF6.out.mono ?_
  rintro e w7 ⟨rfl, hb7⟩
  have HB7 := Lib.hid (HB6.out.trans (hb7.mono HB6.out.size))
  have HF7 := Lib.hid (noFault_c b w7 (by omega))
  clear hb7 HF6
  rw [HVA.out]
  go_wp2_with fail
  with_reducible refine HF7.out.mono ?_
  rintro e w8 ⟨rfl, hb8⟩
  have HB8 := Lib.hid (HB7.out.trans (hb8.mono HB7.out.size))
  clear hb8 HF7
  rw [HVB.out]
  have HO := Lib.hid (show Calls Tryz.prog 21 #[.slice (some ⟨w8.heap.size, 0, none⟩) 2 2] (w8.alloc (.cells #[.int .i64 va, .int .i64 vb] 33)) (fun e w' => e = .returned (.int .i64 (orI [va, vb])) ∧ w' = (w8.alloc (.cells #[.int .i64 va, .int .i64 vb] 33))) from
    orE_c (some ⟨w8.heap.size, 0, none⟩) [va, vb] 2 w8.heap.size (w8.alloc (.cells #[.int .i64 va, .int .i64 vb] 33)) (by
      have h := Rs.new1 w8 [va, vb] (Value.int .i64) 33 w8.heap.size (Nat.le_refl _)
      rw [show (w8.alloc (.cells #[.int .i64 va, .int .i64 vb] 33)).heap.size = w8.heap.size + 1 by simp]
      exact h) (show 2 ≤ 1000000 by decide))
  have HB9 := Lib.hid (HB8.out.alloc HB8.out.size (.cells #[.int .i64 va, .int .i64 vb] 33))
  go_wp2_with fail
  with_reducible refine HO.out.mono ?_
  rintro e w9 ⟨rfl, rfl⟩
  rw [HOR.out]
  clear HO HB8
  generalize w8.alloc (.cells #[.int .i64 va, .int .i64 vb] 33) = w9 at *
  have HDR := Lib.hid (drafts_c w9 (HLA.out _ HB9.out).1 (HLA.out _ HB9.out).2.1 (HLA.out _ HB9.out).2.2)
  cases hbt : (numB a && numB b) with
  | false =>
    have hq := HQ2.out hbt
    subst hq
    clear hbt HZ2 HQ2
    go_wp2_with fail
    with_reducible refine HDR.out.mono ?_
    rintro e w10 ⟨rfl, hb10⟩
    have HB10 := Lib.hid (HB9.out.trans (hb10.mono HB9.out.size))
    clear hb10 HDR
    go_wp2
    go_ret
    exact ⟨rfl, HB10.out⟩
  | true =>
    obtain ⟨e1, e2⟩ := HZ2.out hbt
    subst e1
    subst e2
    clear hbt HZ2 HQ2
    have HNO := Lib.hid (fun (W : World) (hb : Below w.heap.size w W) => NumbersOrder_c a b W (by omega) (by omega) (HLA.out _ hb).2.1)
    generalize cmpN a b = z2 at *
    go_wp2_with fail
    with_reducible refine HDR.out.mono ?_
    rintro e w10 ⟨rfl, hb10⟩
    have HB10 := Lib.hid (HB9.out.trans (hb10.mono HB9.out.size))
    have HN10 := Lib.hid (HNO.out _ HB10.out)
    clear hb10 HDR HNO
    go_wp2_with fail
    with_reducible refine HN10.out.mono ?_
    rintro e w11 ⟨rfl, hb11⟩
    have HB11 := Lib.hid (HB10.out.trans (hb11.mono HB10.out.size))
    clear hb11 HN10
    go_wp2
    go_ret
    exact ⟨rfl, HB11.out⟩
end Go.Proofs.YtnclmcjanolebaaGreatDoor

