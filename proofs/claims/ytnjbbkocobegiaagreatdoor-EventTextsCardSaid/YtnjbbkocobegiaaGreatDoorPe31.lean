/- Texts packed: LawEventTexts. -/
import Derived.Test.YtnjbbkocobegiaaGreatDoorRows
import Derived.Test.YtnjbbkocobegiaaGreatDoorPe30
import Derived.Test.YtnjbbkocobegiaaGreatDoorPe28
import Derived.Test.YtnjbbkocobegiaaGreatDoorPe23
import Derived.Test.YtnjbbkocobegiaaGreatDoorPe26
import Derived.Test.YtnjbbkocobegiaaGreatDoorPe02
import Derived.Deep.DeepCutAuto
/- The law EventTexts walked: for every list of numbers it returns true and leaves what was there. -/
namespace Go.Proofs.YtnjbbkocobegiaaGreatDoor
set_option linter.unusedVariables false
open Go.RowKit

set_option maxRecDepth 100000 in
set_option maxHeartbeats 8000000 in
theorem EventTexts_c (A : Option Addr) (l : List Int) (c : Nat) (w : World) (hr : Rs w 0 w.heap.size 1 intc A l) (hl : l.length ≤ 17592186044416) (ho : ∀ x ∈ l, okI x) (he : ErrsLaid w) (hp : PowLaid w) (hm : MaxLaid w) :
    Calls Tryz.prog 4 #[.slice A l.length c] w fun e w' => e = .returned (.bool true) ∧ Below w.heap.size w w' := by
  have S0 := Lib.hid (strNew w A l c hr hl ho)
  have HL := Lib.hid he
  have HP := Lib.hid hp
  have HM := Lib.hid hm
  clear hr ho he hp hm
  go_enter Tryz.func4, Tryz.ntmps4
  go_wp2_with fail
  refine (Rolls_c w.heap.size 0 _ S0.out (by omega)).mono ?_
  rintro e w1 ⟨v1, k1, rfl, hv1, hk1, hs1, hg1⟩
  have S1 := Lib.hid hs1
  have G1 := Lib.hid hg1
  have V1 := Lib.hid hv1
  clear hs1 hg1 hv1 S0
  go_wp2_with fail
  refine (flip_c w.heap.size k1 6 _ S1.out (by omega) (by omega) (by omega)).mono ?_
  rintro e w2 ⟨v2, k2, rfl, ⟨b2, rfl⟩, hk2, hs2, hg2⟩
  have S2 := Lib.hid hs2
  have G2 := Lib.hid (gTrans G1.out hg2)
  have V2 := Lib.hid (isRolls.turn (s2 := 0) V1.out hg2)
  clear hs2 hg2 S1 G1 V1
  go_upto_if 23 with (fail)
  go_cut [4] (fun s4 wx => ∃ (k : Int), k ≤ 50 ∧ Hid (isRolls w.heap.size s4 wx) ∧ Hid (Str wx w.heap.size k) ∧ Hid ((w.alloc (.cells #[.slice A l.length c, .int .i64 0] 25)).grownBy wx (some w.heap.size)))
  case first =>
    cases b2 with
    | true =>
      go_wp2_with fail
      go_meet
      exact ⟨k2, by omega, V2.out, S2.out, G2.out⟩
    | false =>
      go_wp2_with fail
      refine (RightRolls_c w.heap.size k2 _ S2.out (by omega)).mono ?_
      rintro e w3 ⟨v3, k3, rfl, hv3, hk3, hs3, hg3⟩
      have S3 := Lib.hid hs3
      have G3 := Lib.hid (gTrans G2.out hg3)
      have V3 := Lib.hid hv3
      clear hs3 hg3 hv3
      go_wp2_with fail
      go_meet
      exact ⟨k3, by omega, V3.out, S3.out, G3.out⟩
  case rest =>
    clear S2 G2 V2 hk1 hk2
    obtain ⟨k4, hk4, V4, S4, G4⟩ := hcut
    obtain ⟨B, ra, rb, rc, rfl, hB, hBw, hR4, ha, hb, hc⟩ := V4.out
    have hk0 := S4.out.nonneg
    have HA := Lib.hid (And.intro ha (And.intro hb hc))
    have HZ := Lib.hid (rolls_sz ha hb hc)
    have R4 := Lib.hid hR4
    clear V4 ha hb hc hR4
    go_wp2_with fail
    refine (GEvents_c w.heap.size B k4 ra rb rc _ S4.out (by omega) R4.out HA.out.1 HA.out.2.1 HA.out.2.2 hB).mono ?_
    rintro e w5 ⟨v5, k5, rfl, ⟨es, hes, hex, hel⟩, hk5, hs5, hg5⟩
    have hz5 := hg5.size
    have S5 := Lib.hid hs5
    have G5 := Lib.hid (gTrans G4.out hg5)
    have R5 := Lib.hid (R4.out.grown hg5 (by omega))
    have E5 := Lib.hid (hes.more (G := fun q => q ≠ w.heap.size ∧ q < w5.heap.size) (fun q hq => ⟨by omega, hq.2⟩))
    have EX := Lib.hid (show ∀ x ∈ es, x.roll.size ≤ 1000 from fun x hx => (hex x hx).1)
    have PW := Lib.hid (fun w1 (h : (w.alloc (.cells #[.slice A l.length c, .int .i64 0] 25)).grownBy w1 (some w.heap.size)) => pow_below HP.out (gEnd h) (Nat.le_refl _))
    have MW := Lib.hid (fun w1 (h : (w.alloc (.cells #[.slice A l.length c, .int .i64 0] 25)).grownBy w1 (some w.heap.size)) => max_below HM.out (gEnd h) (Nat.le_refl _))
    have LW := Lib.hid (fun w1 (h : (w.alloc (.cells #[.slice A l.length c, .int .i64 0] 25)).grownBy w1 (some w.heap.size)) => gLaid h HL.out)
    clear hs5 hg5 hes hex S4 G4 R4
    obtain ⟨A5, c5, rfl, _, _⟩ := E5.out.form
    have hcc := PrintEvents_c (some ⟨B, 0, none⟩) [ra, rb, rc] 3 0 es _ _ w5 (R5.out.rs 0 w5.heap.size (by omega) (by omega)) (by simp) HZ.out E5.out (fun q hq => hq.2) EX.out (PW.out _ G5.out)
    have HC := Lib.hid hcc
    clear hcc
    go_wp2_with fail
    refine HC.out.mono ?_
    rintro e w6 ⟨rfl, hb6⟩
    have hz6 := hb6.size
    have S6 := Lib.hid (S5.out.below hb6)
    have G6 := Lib.hid (gBelow G5.out hb6)
    have R6 := Lib.hid (R5.out.keep (hb6.block B (by omega)))
    have E6 := Lib.hid (E5.out.below hb6 (fun q hq => hq.2))
    clear hb6 HC S5 G5 R5 E5
    have hcc := EventsFault_c (some ⟨B, 0, none⟩) [ra, rb, rc] 3 0 es _ _ w6 (R6.out.rs 0 w6.heap.size (by omega) (by omega)) (by simp) (by omega) HZ.out E6.out (fun q hq => Nat.lt_of_lt_of_le hq.2 hz6)
    have HC := Lib.hid hcc
    clear hcc
    go_wp2_with fail
    refine HC.out.mono ?_
    rintro e w7 ⟨rfl, hb7⟩
    have hz7 := hb7.size
    have S7 := Lib.hid (S6.out.below hb7)
    have G7 := Lib.hid (gBelow G6.out hb7)
    have R7 := Lib.hid (R6.out.keep (hb7.block B (by omega)))
    have E7 := Lib.hid (E6.out.below hb7 (fun q hq => Nat.lt_of_lt_of_le hq.2 hz6))
    clear hb7 HC S6 G6 R6 E6
    obtain ⟨ee, hee⟩ : ∃ q, evErrA [ra, rb, rc] es = q := ⟨_, rfl⟩
    obtain ⟨TO, hTO⟩ : ∃ q, evOut [ra, rb, rc] es = q := ⟨_, rfl⟩
    rw [hee, hTO]
    have HEE := Lib.hid hee
    have HTO := Lib.hid hTO
    clear hee hTO
    go_upto_region 8 with (fail)
    go_cut [51] (fun s51 wx => ∃ (n : Int), s51 = .bool false ∧ n ≤ k5 ∧ wx.heap.size ≥ w7.heap.size ∧ Hid (Str wx w.heap.size n) ∧ Hid ((w.alloc (.cells #[.slice A l.length c, .int .i64 0] 25)).grownBy wx (some w.heap.size)) ∧ Hid (RollsBlk wx B ra rb rc))
    case first =>
      by_cases h0 : ee = 0
      · have HE := Lib.hid (HEE.out.trans h0)
        have hO : TO = ⟨(evText [ra, rb, rc] 1 0 es).toArray⟩ := HTO.out.symm.trans (if_pos (HEE.out.trans h0))
        have e1 : (ee == 0) = true := beq_iff_eq.2 h0
        have hcc := EventsText_c (some ⟨B, 0, none⟩) [ra, rb, rc] 3 0 es _ _ w7 (R7.out.rs 0 w7.heap.size (by omega) (by omega)) (by simp) (fun _ => HE.out) E7.out (fun q hq => Nat.lt_of_lt_of_le hq.2 (by omega)) EX.out (PW.out _ G7.out)
        have HC := Lib.hid hcc
        generalize (⟨(evText [ra, rb, rc] 1 0 es).toArray⟩ : ByteArray) = T at *
        have e2 : (TO.toList == T.toList) = true := by rw [hO]; exact beq_self_eq_true _
        have HH0 := Lib.hid h0
        clear hcc hO h0
        go_wp2_with fail
        refine HC.out.mono ?_
        rintro e w8 ⟨rfl, hb8⟩
        have hz8 := hb8.size
        have S8 := Lib.hid (S7.out.below hb8)
        have G8 := Lib.hid (gBelow G7.out hb8)
        have R8 := Lib.hid (R7.out.keep (hb8.block B (by omega)))
        clear hb8 HC
        go_wp2_with fail
        go_meet
        exact ⟨k5, by first | rfl | simp, by omega, hz8, S8.out, G8.out, R8.out⟩
      · have hne : (ee == 0) = false := beq_eq_false_iff_ne.2 h0
        clear h0
        go_wp2_with fail
        go_meet
        exact ⟨k5, by first | rfl | simp, by omega, Nat.le_refl _, S7.out, G7.out, R7.out⟩
    case rest =>
      clear S7 G7 R7 E7 EX
      obtain ⟨n9, rfl, hn9, hz9, S9, G9, R9⟩ := hcut
      go_wp2_with fail
      refine (GEventsText_c w.heap.size B n9 ra rb rc _ S9.out (by omega) R9.out HA.out.1 HA.out.2.1 HA.out.2.2 hB (fun w1 h => PW.out w1 (gTrans G9.out h))).mono ?_
      rintro e w10 ⟨v10, n10, rfl, ⟨t, ht, rfl⟩, hn10, hs10, hg10⟩
      have hz10 := hg10.size
      have G10 := Lib.hid (gTrans G9.out hg10)
      have R10 := Lib.hid (R9.out.grown hg10 (by omega))
      have HTS := Lib.hid (show t.size ≤ 100000 from ht)
      clear hs10 hg10 S9 G9 R9 ht
      have hcc := ParseEvents_c (some ⟨B, 0, none⟩) [ra, rb, rc] 3 0 t w10 (R10.out.rs 0 w10.heap.size (by omega) (by omega)) (by simp) HZ.out (by have := HTS.out; omega) (PW.out _ G10.out) (MW.out _ G10.out)
      have HC := Lib.hid hcc
      clear hcc
      go_wp2_with fail
      refine HC.out.mono ?_
      rintro e w11 ⟨v11, rfl, hv11, hb11⟩
      have hz11 := hb11.size
      have G11 := Lib.hid (gBelow G10.out hb11)
      have R11 := Lib.hid (R10.out.keep (hb11.block B (by omega)))
      have V11 := Lib.hid hv11
      clear hb11 hv11 HC G10 R10
      have hcc := EventsFrom_c (some ⟨B, 0, none⟩) [ra, rb, rc] 3 0 t w11 (R11.out.rs 0 w11.heap.size (by omega) (by omega)) (by simp) (by omega) HZ.out (by have := HTS.out; omega) (PW.out _ G11.out) (MW.out _ G11.out) (LW.out _ G11.out)
      have HC := Lib.hid hcc
      clear hcc
      go_wp2_with fail
      refine HC.out.mono ?_
      rintro e w12 ⟨v12, rfl, hv12, hb12⟩
      have hz12 := hb12.size
      have G12 := Lib.hid (gBelow G11.out hb12)
      have X12 := Lib.hid ((V11.out.below hb12 (fun q hq => hq.2)).more (G := fun q => q < w12.heap.size) (fun q hq => by have := hq.2; omega))
      have Y12 := Lib.hid (hv12.more (G := fun q => q < w12.heap.size) (fun q hq => hq.2))
      clear hb12 hv12 HC G11 R11 V11
      generalize (evParse [ra, rb, rc] t).list = pl at *
      generalize (evParse [ra, rb, rc] t).line = pn at *
      generalize (evParse [ra, rb, rc] t).err = pe at *
      go_wp2_with fail
      refine (takes_c _).mono ?_
      rintro e w13 ⟨rfl, hb13⟩
      have hz13 := hb13.size
      have G13 := Lib.hid (gBelow G12.out hb13)
      have X13 := Lib.hid (X12.out.below hb13 (fun q hq => hq))
      have Y13 := Lib.hid (Y12.out.below hb13 (fun q hq => hq))
      clear hb13 G12 X12 Y12
      go_wp2_with fail
      refine (eqEv_c pl pl _ _ _ _ X13.out Y13.out (fun q hq => Nat.lt_of_lt_of_le hq hz13)).mono ?_
      rintro e w14 ⟨rfl, hb14⟩
      have G14 := Lib.hid (gBelow G13.out hb14)
      clear hb14 G13 X13 Y13
      go_wp2
      go_ret
      exact ⟨ret_bool (by simp), gEnd G14.out⟩
end Go.Proofs.YtnjbbkocobegiaaGreatDoor

