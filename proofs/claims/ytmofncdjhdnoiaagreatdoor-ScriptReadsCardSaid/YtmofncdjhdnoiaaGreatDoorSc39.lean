/- Texts packed: LawScriptReads. -/
import Derived.Test.YtmofncdjhdnoiaaGreatDoorRows
import Derived.Test.YtmofncdjhdnoiaaGreatDoorSc38
import Derived.Test.YtmofncdjhdnoiaaGreatDoorSc26
import Derived.Test.YtmofncdjhdnoiaaGreatDoorSc02
import Derived.Deep.DeepCutAuto
/- The law ScriptReads walked: for every list of numbers it returns true and leaves what was there. -/
namespace Go.Proofs.YtmofncdjhdnoiaaGreatDoor
set_option linter.unusedVariables false
open Go.RowKit Go.Sort

set_option maxRecDepth 100000 in
set_option maxHeartbeats 8000000 in
theorem ScriptReads_c (A : Option Addr) (l : List Int) (c : Nat) (w : World) (hr : Rs w 0 w.heap.size 1 intc A l) (hl : l.length ≤ 17592186044416) (ho : ∀ x ∈ l, okI x) (he : ErrsLaid w) (hp : PowLaid w) (hs : SpLaid w) (hm : MaxLaid w) :
    Calls Tryz.prog 4 #[.slice A l.length c] w fun e w' => e = .returned (.bool true) ∧ Below w.heap.size w w' := by
  have S0 := strNew w A l c hr hl ho
  have L0 := (LaidS.start he hp).alloc (Nat.le_refl _) (.cells #[.slice A l.length c, .int .i64 0] 25)
  have HG := Lib.hid (fun (wx : World) (h : Below w.heap.size w wx) => show SpLaid wx ∧ MaxLaid wx from ⟨sp_below hs h (Nat.le_refl _), max_below hm h (Nat.le_refl _)⟩)
  have HE := Lib.hid (fun (w1 : World) (h : (w.alloc (.cells #[.slice A l.length c, .int .i64 0] 25)).grownBy w1 (some w.heap.size)) => show Below w.heap.size w w1 from gEnd h)
  have hW0 : (w.alloc (.cells #[.slice A l.length c, .int .i64 0] 25)).heap.size = w.heap.size + 1 := by simp
  have S0 := Lib.hid S0
  have L0 := Lib.hid L0
  clear hr ho he hp hs hm
  go_enter Tryz.func4, Tryz.ntmps4
  go_upto_region 2 with (fail)
  generalize w.alloc (.cells #[.slice A l.length c, .int .i64 0] 25) = W0 at *
  go_wp2_with fail
  refine (ScriptText_c w.heap.size 0 W0 S0.out (by decide) L0.out).mono ?_
  rintro e w1 ⟨v1, n1, rfl, ⟨text, hts, rfl⟩, hn1, hs1, hg1⟩
  have hb1 := HE.out w1 hg1
  have B1 := Lib.hid hb1
  have HR := Lib.hid (Read_c text w1 (by omega) (HG.out _ hb1).2)
  clear hs1 hg1 HE S0 L0 hb1
  go_wp2_with fail
  refine HR.out.mono ?_
  rintro e w2 ⟨l2, v2, rfl, hl2, hsl2, hpa2, hb2⟩
  obtain ⟨A2, c2, rfl, _, _⟩ := hsl2.form
  have B2 := Lib.hid (B1.out.trans (hb2.mono B1.out.size))
  have X2 := Lib.hid (show Sc2 w2 (fun q => q < w2.heap.size) l2 (.slice A2 l2.length c2) from ⟨hsl2.more fun q hq => hq.2, fun y hy => (hpa2 y hy).more fun q hq => hq.2, fun q h => h⟩)
  have G2 := Lib.hid (show PvG w [] w2 from (BO.start w).below (B2.out.mono (Nat.le_refl _)))
  have HL2 := Lib.hid hl2
  clear hsl2 hpa2 hb2 hl2 HR
  obtain ⟨L2, hL2⟩ : ∃ L2, l2.length = L2 := ⟨_, rfl⟩
  rw [hL2] at X2 ⊢
  clear hL2
  go_upto_region 4 with (fail)
  have G3 := Lib.hid (G2.out.new (xCs (readS text).1.title (.slice A2 L2 c2)) 28)
  have X3 := Lib.hid (X2.out.below ((Below.refl w2.heap.size w2).alloc (Nat.le_refl _) (.cells (xCs (readS text).1.title (.slice A2 L2 c2)) 28)))
  have hz2 := B2.out.size
  rw [show #[Value.string (readS text).1.title, .slice A2 L2 c2] = xCs (readS text).1.title (.slice A2 L2 c2) from rfl]
  generalize hW3 : w2.alloc (.cells (xCs (readS text).1.title (.slice A2 L2 c2)) 28) = w3 at *
  have hz3 : w3.heap.size = w2.heap.size + 1 := by rw [← hW3]; simp
  have HF := Lib.hid (ScriptFrom_c text w3 (by omega) (HG.out _ G3.out.bel).2 (HG.out _ G3.out.bel).1)
  clear hW3 X2 G2 B2 B1
  go_wp2_with fail
  refine HF.out.mono ?_
  rintro e w4 ⟨l4, v4, rfl, hl4, hsl4, hpa4, hb4⟩
  obtain ⟨A4, c4, rfl, _, _⟩ := hsl4.form
  have G4 := Lib.hid (G3.out.below hb4)
  have X4 := Lib.hid (show Sc2 w4 (fun q => q < w4.heap.size) l2 (.slice A2 L2 c2) from ⟨(X3.out.below hb4).sli.more fun q hq => by have := hb4.size; have : q < w2.heap.size := hq; omega, fun y hy => ((X3.out.below hb4).par y hy).more fun q hq => by have := hb4.size; have : q < w2.heap.size := hq; omega, fun q h => h⟩)
  have Y4 := Lib.hid (show Sc2 w4 (fun q => q < w4.heap.size) l4 (.slice A4 l4.length c4) from ⟨hsl4.more fun q hq => hq.2, fun y hy => (hpa4 y hy).more fun q hq => hq.2, fun q h => h⟩)
  have HL4 := Lib.hid (hl4.trans HL2.out.symm)
  have hz4 := hb4.size
  clear hsl4 hpa4 hb4 hl4 HF X3 G3 HL2
  obtain ⟨L4, hL4⟩ : ∃ L4, l4.length = L4 := ⟨_, rfl⟩
  rw [hL4] at Y4 ⊢
  clear hL4
  generalize (readS text).1.title = tt at *
  generalize (readS text).2.1 = la at *
  generalize (readS text).2.2 = er at *
  go_upto_region 5 with (fail)
  have G5 := Lib.hid (G4.out.new (xCs tt (.slice A4 L4 c4)) 28)
  have hb5 := (Below.refl w4.heap.size w4).alloc (Nat.le_refl _) (.cells (xCs tt (.slice A4 L4 c4)) 28)
  have X5 := Lib.hid (X4.out.below hb5)
  have Y5 := Lib.hid (Y4.out.below hb5)
  rw [show #[Value.string tt, .slice A4 L4 c4] = xCs tt (.slice A4 L4 c4) from rfl]
  generalize w4.alloc (.cells (xCs tt (.slice A4 L4 c4)) 28) = w5 at *
  clear hb5 X4 Y4 G4
  have HS := Lib.hid (scripts_c w5 (HG.out _ G5.out.bel).2)
  go_wp2_with fail
  refine HS.out.mono ?_
  rintro e w6 ⟨rfl, hb6⟩
  have G6 := Lib.hid (G5.out.below hb6)
  have HQ := Lib.hid (SameScripts_c tt tt l2 l4 (.slice A2 L2 c2) (.slice A4 L4 c4) w6 (X5.out.below hb6) (Y5.out.below hb6))
  rw [HL4.out, decide_eq_true rfl] at HQ
  obtain ⟨x, _⟩ := G6.out.cell (p := (w2.heap.size, xCs tt (.slice A2 L2 c2), 28)) (by simp)
  have x0 : w6.cell? ⟨w2.heap.size, 0, none⟩ = some (.string tt) := x 0
  have x1 : w6.cell? ⟨w2.heap.size, 1, none⟩ = some (.slice A2 L2 c2) := x 1
  obtain ⟨y, _⟩ := G6.out.cell (p := (w4.heap.size, xCs tt (.slice A4 L4 c4), 28)) (by simp)
  have y0 : w6.cell? ⟨w4.heap.size, 0, none⟩ = some (.string tt) := y 0
  have y1 : w6.cell? ⟨w4.heap.size, 1, none⟩ = some (.slice A4 L4 c4) := y 1
  clear x y hb6 HS X5 Y5 G5
  go_wp2_with fail
  refine HQ.out.mono ?_
  rintro e w7 ⟨rfl, hb7⟩
  go_wp2
  go_ret
  exact ⟨rfl, G6.out.bel.trans (hb7.mono G6.out.size)⟩
end Go.Proofs.YtmofncdjhdnoiaaGreatDoor

