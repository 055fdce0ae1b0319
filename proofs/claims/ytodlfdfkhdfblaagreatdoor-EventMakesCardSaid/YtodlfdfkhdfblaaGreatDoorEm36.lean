/- Texts packed: LawEventMakes. -/
import Derived.Test.YtodlfdfkhdfblaaGreatDoorRows
import Derived.Test.YtodlfdfkhdfblaaGreatDoorEm25
import Derived.Test.YtodlfdfkhdfblaaGreatDoorEm33
import Derived.Test.YtodlfdfkhdfblaaGreatDoorEm35
import Derived.Test.YtodlfdfkhdfblaaGreatDoorEm21
import Derived.Test.YtodlfdfkhdfblaaGreatDoorEm22
import Derived.Test.YtodlfdfkhdfblaaGreatDoorEm23
import Derived.Test.YtodlfdfkhdfblaaGreatDoorEm20
import Derived.Test.YtodlfdfkhdfblaaGreatDoorEm17
import Derived.Test.YtodlfdfkhdfblaaGreatDoorEm02
import Derived.Deep.DeepCutAuto
/- The law EventMakes walked: for every list of numbers it returns true and leaves what was there. -/
namespace Go.Proofs.YtodlfdfkhdfblaaGreatDoor
set_option linter.unusedVariables false
open Go.RowKit

set_option maxRecDepth 100000 in
set_option maxHeartbeats 8000000 in
theorem EventMakes_c (A : Option Addr) (l : List Int) (c : Nat) (w : World) (hr : Rs w 0 w.heap.size 1 intc A l) (hl : l.length ≤ 17592186044416) (ho : ∀ x ∈ l, okI x) (he : ErrsLaid w) (hp : PowLaid w) :
    Calls Tryz.prog 3 #[.slice A l.length c] w fun e w' => e = .returned (.bool true) ∧ Below w.heap.size w w' := by
  have S0 := Lib.hid (strNew w A l c hr hl ho)
  have HL := Lib.hid (LaidS.start he hp)
  clear hr ho he hp
  go_enter Tryz.func3, Tryz.ntmps3
  go_wp2_with fail
  refine (Rolls_c w.heap.size 0 _ S0.out (by omega)).mono ?_
  rintro e w1 ⟨v1, k1, rfl, hv1, hk1, hs1, hg1⟩
  obtain ⟨B, ra, rb, rc, rfl, hB, hBw, hR1, ha, hb, hc⟩ := hv1
  have S1 := Lib.hid hs1
  have G1 := Lib.hid hg1
  have R1 := Lib.hid hR1
  have HA := Lib.hid (And.intro ha (And.intro hb hc))
  have HZ := Lib.hid (rolls_sz ha hb hc)
  have L1 := Lib.hid (HL.out.below (gEnd hg1) (Nat.le_refl _))
  have hk10 := hs1.nonneg
  clear hs1 hg1 hR1 ha hb hc S0 HL
  go_wp2_with fail
  refine (Story_c w.heap.size k1 _ S1.out (by omega) L1.out).mono ?_
  rintro e w2 ⟨v2, k2, rfl, ⟨x, ls, sv, rfl, hxs, hown, hin, hbd⟩, hk2, hs2, hg2⟩
  have hz2 := hg2.size
  have hlt1 := S1.out.lt
  have S2 := Lib.hid hs2
  have G2 := Lib.hid (gTrans G1.out hg2)
  have R2 := Lib.hid (R1.out.grown hg2 (by omega))
  have O2 := Lib.hid (hown.sli (F := fun q => w1.heap.size ≤ q ∧ q < w2.heap.size) (fun q h1 h2 => ⟨h1, h2⟩) (fun g hg => hown.block g hg))
  have HN2 := Lib.hid (show ∀ y ∈ ls, ∃ A c, y.2 = .slice A y.1.paras.length c from fun y hy => by
    obtain ⟨A, c, e, _⟩ := (hin y hy).form
    exact ⟨A, c, e⟩)
  have HL2 := Lib.hid (show ls.length ≤ 90 by have := hbd.2.1; rw [hxs, List.length_map] at this; exact this)
  have HB2 := Lib.hid (show ∀ y ∈ ls, sceneBd y.1 from fun y hy => hbd.2.2 _ (by rw [hxs]; exact List.mem_map_of_mem hy))
  have hk20 := hs2.nonneg
  clear hs2 hg2 hown hin hbd hxs S1 G1 R1 L1
  go_wp2_with fail
  refine (Takes_c w.heap.size B k2 x.title ls sv ra rb rc _ S2.out (by omega) O2.out (fun q hq => ⟨hq.2, by omega⟩) HL2.out HN2.out HB2.out R2.out HA.out.1 HA.out.2.1 HA.out.2.2 (by omega)).mono ?_
  rintro e w3 ⟨tv, k3, rfl, ⟨tl, hto, hti, htb, htl⟩, hk3, hs3, hg3⟩
  have hz3 := hg3.size
  have S3 := Lib.hid hs3
  have G3 := Lib.hid (gTrans G2.out hg3)
  have R3 := Lib.hid (R2.out.grown hg3 (by omega))
  have T3 := Lib.hid (hto.sli (F := fun q => w2.heap.size ≤ q ∧ q < w3.heap.size) (fun q h1 h2 => ⟨h1, h2⟩) (fun g hg => hto.block g hg))
  have HTO := Lib.hid (show ∀ y ∈ tl, ∃ A n c, y.2 = .slice A n c from fun y hy => by
    obtain ⟨A, c, e, _⟩ := (hti y hy).form
    exact ⟨A, _, c, e⟩)
  have HTB := Lib.hid (show ∀ y ∈ tl, tkB 300000000 y.1 from htb)
  have hk30 := hs3.nonneg
  clear hs3 hg3 hto hti htb S2 G2 R2 O2 HN2 HL2 HB2
  go_wp2_with fail
  refine (GClips_c w.heap.size k3 tl tv _ S3.out (by omega) T3.out (fun q hq => ⟨hq.2, by omega⟩) HTO.out HTB.out (by omega)).mono ?_
  rintro e w4 ⟨cv, k4, rfl, ⟨cs, hcs, hcl⟩, hk4, hs4, hg4⟩
  have hz4 := hg4.size
  have S4 := Lib.hid hs4
  have G4 := Lib.hid (gTrans G3.out hg4)
  have R4 := Lib.hid (R3.out.grown hg4 (by omega))
  have T4 := Lib.hid ((T3.out.keep (fun q hq => hg4.block q hq.2 (by simp; omega))).more (G := fun q => w2.heap.size ≤ q ∧ q < w4.heap.size) (fun q hq => ⟨hq.1, by omega⟩))
  have C4 := Lib.hid (hcs.more (G := fun q => w2.heap.size ≤ q ∧ q < w4.heap.size) (fun q hq => ⟨by omega, hq.2⟩))
  have hk40 := hs4.nonneg
  clear hs4 hg4 hcs S3 G3 R3 T3
  obtain ⟨A5, c5, rfl, _, _⟩ := T4.out.form
  obtain ⟨A6, c6, rfl, _, _⟩ := C4.out.form
  have hcc := MkEvents_c (some ⟨B, 0, none⟩) [ra, rb, rc] 3 0 tl _ cs _ _ w4 (R4.out.rs 0 w4.heap.size (by omega) (by omega)) (by simp) (by omega) HZ.out T4.out HTO.out C4.out (fun q hq => hq.2) (by omega) (by omega)
  have HC := Lib.hid hcc
  clear hcc
  go_wp2_with fail
  refine HC.out.mono ?_
  rintro e w5 ⟨xv, rfl, hxv, hb5⟩
  have hz5 := hb5.size
  have S5 := Lib.hid (S4.out.below hb5)
  have G5 := Lib.hid (gBelow G4.out hb5)
  have R5 := Lib.hid (R4.out.keep (hb5.block B (by omega)))
  have T5 := Lib.hid (T4.out.below hb5 (fun q hq => hq.2))
  have C5 := Lib.hid (C4.out.below hb5 (fun q hq => hq.2))
  have X5 := Lib.hid hxv
  clear hb5 hxv HC S4 G4 R4 T4 C4
  have hcc := MkEventsOf_c (some ⟨B, 0, none⟩) [ra, rb, rc] 3 0 tl _ cs _ _ w5 (R5.out.rs 0 w5.heap.size (by omega) (by omega)) (by simp) (by omega) HZ.out T5.out HTO.out C5.out (fun q hq => Nat.lt_of_lt_of_le hq.2 hz5) (by omega) (by omega)
  have HC := Lib.hid hcc
  clear hcc
  go_wp2_with fail
  refine HC.out.mono ?_
  rintro e w6 ⟨yv, rfl, hyv, hb6⟩
  have hz6 := hb6.size
  have S6 := Lib.hid (S5.out.below hb6)
  have G6 := Lib.hid (gBelow G5.out hb6)
  have X6 := Lib.hid ((X5.out.below hb6 (fun q hq => hq.2)).more (G := fun q => q ≠ w.heap.size ∧ q < w6.heap.size) (fun q hq => ⟨by omega, by omega⟩))
  have Y6 := Lib.hid (hyv.more (G := fun q => q ≠ w.heap.size ∧ q < w6.heap.size) (fun q hq => ⟨by omega, hq.2⟩))
  clear hb6 hyv HC S5 G5 R5 T5 C5 X5
  generalize mkErr [ra, rb, rc] (tl.map (·.1)) cs = me at *
  generalize mkEvs [ra, rb, rc] (tl.map (·.1)) cs = mv at *
  go_wp2_with fail
  refine (RightRolls_c w.heap.size k4 _ S6.out (by omega)).mono ?_
  rintro e w7 ⟨v7, k7, rfl, hv7, hk7, hs7, hg7⟩
  obtain ⟨B7, ra7, rb7, rc7, rfl, hB7, hBw7, hR7, ha7, hb7, hc7⟩ := hv7
  have hz7 := hg7.size
  have S7 := Lib.hid hs7
  have G7 := Lib.hid (gTrans G6.out hg7)
  have R7 := Lib.hid hR7
  have HA7 := Lib.hid (And.intro ha7 (And.intro hb7 hc7))
  have hk70 := hs7.nonneg
  have hlt6 := S6.out.lt
  have X7 := Lib.hid ((X6.out.keep (fun q hq => hg7.block q hq.2 (by simp; exact hq.1))).more (G := fun q => q ≠ w.heap.size ∧ q < w7.heap.size) (fun q hq => ⟨hq.1, by omega⟩))
  have Y7 := Lib.hid ((Y6.out.keep (fun q hq => hg7.block q hq.2 (by simp; exact hq.1))).more (G := fun q => q ≠ w.heap.size ∧ q < w7.heap.size) (fun q hq => ⟨hq.1, by omega⟩))
  clear hs7 hg7 hR7 ha7 hb7 hc7 S6 G6 X6 Y6
  go_wp2_with fail
  refine (GEvents_c w.heap.size B7 k7 ra7 rb7 rc7 _ S7.out (by omega) R7.out HA7.out.1 HA7.out.2.1 HA7.out.2.2 hB7).mono ?_
  rintro e w8 ⟨v8, k8, rfl, ⟨es, hes, hex, hel⟩, hk8, hs8, hg8⟩
  have hz8 := hg8.size
  have G8 := Lib.hid (gTrans G7.out hg8)
  have X8 := Lib.hid ((X7.out.keep (fun q hq => hg8.block q hq.2 (by simp; exact hq.1))).more (G := fun q => q < w8.heap.size) (fun q hq => by have := hq.2; omega))
  have Y8 := Lib.hid ((Y7.out.keep (fun q hq => hg8.block q hq.2 (by simp; exact hq.1))).more (G := fun q => q < w8.heap.size) (fun q hq => by have := hq.2; omega))
  have E8 := Lib.hid (hes.more (G := fun q => q < w8.heap.size) (fun q hq => hq.2))
  clear hs8 hg8 hes hex S7 G7 R7 X7 Y7
  go_wp2_with fail
  refine (takes_c _).mono ?_
  rintro e w9 ⟨rfl, hb9⟩
  have hz9 := hb9.size
  have G9 := Lib.hid (gBelow G8.out hb9)
  have X9 := Lib.hid (X8.out.below hb9 (fun q hq => hq))
  have Y9 := Lib.hid (Y8.out.below hb9 (fun q hq => hq))
  have E9 := Lib.hid (E8.out.below hb9 (fun q hq => hq))
  clear hb9 G8 X8 Y8 E8
  go_wp2_with fail
  refine (eqEv_c mv mv _ _ _ _ X9.out Y9.out (fun q hq => Nat.lt_of_lt_of_le hq hz9)).mono ?_
  rintro e w10 ⟨rfl, hb10⟩
  have hz10 := hb10.size
  have G10 := Lib.hid (gBelow G9.out hb10)
  have E10 := Lib.hid (E9.out.below hb10 (fun q hq => Nat.lt_of_lt_of_le hq hz9))
  clear hb10 G9 X9 Y9 E9
  go_wp2_with fail
  refine (Joins_c es _ _ _ E10.out (fun q hq => by omega) (by omega)).mono ?_
  rintro e w11 ⟨rfl, hb11⟩
  have hz11 := hb11.size
  have G11 := Lib.hid (gBelow G10.out hb11)
  have E11 := Lib.hid (E10.out.below hb11 (fun q hq => by omega))
  clear hb11 G10 E10
  go_wp2_with fail
  refine (JoinsOf_c es _ _ _ E11.out (fun q hq => by omega) (by omega)).mono ?_
  rintro e w12 ⟨rfl, hb12⟩
  have G12 := Lib.hid (gBelow G11.out hb12)
  clear hb12 G11 E11
  go_wp2
  go_ret
  exact ⟨ret_bool (by simp), gEnd G12.out⟩
end Go.Proofs.YtodlfdfkhdfblaaGreatDoor

