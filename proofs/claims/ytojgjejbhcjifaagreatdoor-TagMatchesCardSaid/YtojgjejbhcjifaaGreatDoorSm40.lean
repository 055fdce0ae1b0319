/- Texts packed: LawTagMatches. -/
import Derived.Test.YtojgjejbhcjifaaGreatDoorRows
import Derived.Test.YtojgjejbhcjifaaGreatDoorSm39
import Derived.Test.YtojgjejbhcjifaaGreatDoorSm34
import Derived.Test.YtojgjejbhcjifaaGreatDoorSm33
import Derived.Test.YtojgjejbhcjifaaGreatDoorSm01
/- The law TagMatches walked: for every list of numbers it returns true and leaves what was there. -/
namespace Go.Proofs.YtojgjejbhcjifaaGreatDoor
set_option linter.unusedVariables false
open Go.RowKit Go.Sort

set_option maxRecDepth 100000 in
set_option maxHeartbeats 8000000 in
theorem TagMatches_c (A : Option Addr) (l : List Int) (c : Nat) (w : World) (hr : Rs w 0 w.heap.size 1 intc A l) (hl : l.length ≤ 17592186044416) (ho : ∀ x ∈ l, okI x) (he : ErrsLaid w) (hs : SpLaid w) (hm : MaxLaid w) :
    Calls Tryz.prog 3 #[.slice A l.length c] w fun e w' => e = .returned (.bool true) ∧ Below w.heap.size w w' := by
  have S0 := strNew w A l c hr hl ho
  have HW0 := Lib.hid (show (w.alloc (.cells #[.slice A l.length c, .int .i64 0] 25)).heap.size = w.heap.size + 1 by simp)
  have HG := Lib.hid (fun (n : Int) (wx : World) P (h : PvS (w.alloc (.cells #[.slice A l.length c, .int .i64 0] 25)) w.heap.size P n wx) => show Below w.heap.size w wx ∧ SpLaid wx ∧ MaxLaid wx ∧ ErrsLaid wx from
    have hb := gEnd h.gr
    ⟨hb, sp_below hs hb (Nat.le_refl _), max_below hm hb (Nat.le_refl _), he.below hb (Nat.le_refl _)⟩)
  have G0 := Lib.hid (GS.start (R := dumR) (e := 3) S0)
  clear hr ho hs hm he S0
  go_enter Tryz.func3, Tryz.ntmps3
  go_upto_region 2 with (fail)
  generalize w.alloc (.cells #[.slice A l.length c, .int .i64 0] 25) = W0 at *
  go_wp2_with fail
  refine (Pattern_c w.heap.size 0 W0 G0.out.str (by decide)).mono ?_
  rintro e w1 ⟨v1, n1, rfl, ⟨p, hp, rfl⟩, hn1, hs1, hg1⟩
  have G1 := Lib.hid (G0.out.turn hg1 hs1)
  clear hs1 hg1 G0
  go_wp2_with fail
  refine (Said_c w.heap.size n1 w1 G1.out.str (by omega)).mono ?_
  rintro e w2 ⟨v2, n2, rfl, ⟨t, ht, rfl⟩, hn2, hs2, hg2⟩
  have G2 := Lib.hid (G1.out.turn hg2 hs2)
  have HL2 := Lib.hid (HG.out _ _ _ G2.out)
  clear hs2 hg2 G1 G2 HG
  go_wp2_with fail
  refine (Match_c p t w2 (by omega) (by omega) HL2.out.2.2.1 HL2.out.2.2.2).mono ?_
  rintro e w3 ⟨v3, rfl, hb3, hown3⟩
  have HB3 := Lib.hid (HL2.out.1.trans (hb3.mono HL2.out.1.size))
  have HM3 := Lib.hid (max_below HL2.out.2.2.1 hb3 (Nat.le_refl _))
  have HS3 := Lib.hid (sp_below HL2.out.2.1 hb3 (Nat.le_refl _))
  have HE3 := Lib.hid (HL2.out.2.2.2.below hb3 (Nat.le_refl _))
  have HO3 := Lib.hid hown3
  clear hb3 hown3 HL2
  go_wp2_with fail
  refine (PatternFault_c p w3 (by omega) HM3.out).mono ?_
  rintro e w4 ⟨rfl, hb4⟩
  have HB4 := Lib.hid (HB3.out.trans (hb4.mono HB3.out.size))
  have HM4 := Lib.hid (max_below HM3.out hb4 (Nat.le_refl _))
  have HS4 := Lib.hid (sp_below HS3.out hb4 (Nat.le_refl _))
  have HE4 := Lib.hid (HE3.out.below hb4 (Nat.le_refl _))
  have hb4' := hb4
  cases hpb : patB p with
  | false =>
    rw [patE_bad hpb]
    clear HO3 hb4 hb4' HB3 HM3 HS3 HE3 hpb
    go_wp2_with fail
    refine (tags_c w4 HM4.out HE4.out).mono ?_
    rintro e w5 ⟨rfl, hb5⟩
    go_wp2
    go_ret
    exact ⟨rfl, HB4.out.trans (hb5.mono HB4.out.size)⟩
  | true =>
    have HPB := Lib.hid hpb
    have HO4 := Lib.hid ((HO3.out hpb).below hb4)
    rw [patE_yes hpb]
    clear HO3 hb4 hb4' HB3 HM3 HS3 HE3 hpb
    go_wp2_with fail
    refine (tags_c w4 HM4.out HE4.out).mono ?_
    rintro e w5 ⟨rfl, hb5⟩
    have HB5 := Lib.hid (HB4.out.trans (hb5.mono HB4.out.size))
    have HM5 := Lib.hid (max_below HM4.out hb5 (Nat.le_refl _))
    have HS5 := Lib.hid (sp_below HS4.out hb5 (Nat.le_refl _))
    have HE5 := Lib.hid (HE4.out.below hb5 (Nat.le_refl _))
    have HO5 := Lib.hid (HO4.out.below hb5)
    clear HB4 HM4 HS4 HE4 HO4 hb5
    go_wp2_with fail
    refine (MatchOf_c p t w5 (by omega) (by omega) HPB.out HM5.out HE5.out HS5.out).mono ?_
    rintro e w6 ⟨v6, rfl, hown6, hb6⟩
    have HB6 := Lib.hid (HB5.out.trans (hb6.mono HB5.out.size))
    have HO6 := Lib.hid ((HO5.out.below hb6).sli (F := fun b => b < w6.heap.size) (fun b _ h => h) (fun g hg => ((HO5.out.below hb6).block g hg).2))
    have HR6 := Lib.hid (hown6.sli (F := fun b => b < w6.heap.size) (fun b _ h => h) (fun g hg => (hown6.block g hg).2))
    clear hown6 hb6 HO5
    go_wp2_with fail
    refine (eqHit_c _ _ _ _ _ w6 HO6.out HR6.out (fun b h => h)).mono ?_
    rintro e w7 ⟨rfl, hb7⟩
    go_wp2
    go_ret
    exact ⟨rfl, HB6.out.trans (hb7.mono HB6.out.size)⟩
end Go.Proofs.YtojgjejbhcjifaaGreatDoor

