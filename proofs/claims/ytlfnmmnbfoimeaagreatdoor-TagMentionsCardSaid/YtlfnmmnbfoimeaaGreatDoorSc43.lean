/- Texts packed: LawTagMentions. -/
import Derived.Test.YtlfnmmnbfoimeaaGreatDoorRows
import Derived.Test.YtlfnmmnbfoimeaaGreatDoorSc29
import Derived.Test.YtlfnmmnbfoimeaaGreatDoorSc38
import Derived.Test.YtlfnmmnbfoimeaaGreatDoorSc42
import Derived.Test.YtlfnmmnbfoimeaaGreatDoorSc35
import Derived.Test.YtlfnmmnbfoimeaaGreatDoorSc02
import Derived.Deep.DeepCutAuto
/- The law TagMentions walked: for every list of numbers it returns true and leaves what was there. -/
namespace Go.Proofs.YtlfnmmnbfoimeaaGreatDoor
set_option linter.unusedVariables false
open Go.RowKit Go.Sort

set_option maxRecDepth 100000 in
set_option maxHeartbeats 8000000 in
theorem TagMentions_c (A : Option Addr) (l : List Int) (c : Nat) (w : World) (hr : Rs w 0 w.heap.size 1 intc A l) (hl : l.length ≤ 17592186044416) (ho : ∀ x ∈ l, okI x) (he : ErrsLaid w) (hp : PowLaid w) (hs : SpLaid w) (hm : MaxLaid w) :
    Calls Tryz.prog 3 #[.slice A l.length c] w fun e w' => e = .returned (.bool true) ∧ Below w.heap.size w w' := by
  have S0 := strNew w A l c hr hl ho
  have HL := LaidS.start he hp
  have L0 := HL.alloc (Nat.le_refl _) (.cells #[.slice A l.length c, .int .i64 0] 25)
  have hW0 : (w.alloc (.cells #[.slice A l.length c, .int .i64 0] 25)).heap.size = w.heap.size + 1 := by simp
  have HX := Lib.hid (fun (w1 : World) (h : (w.alloc (.cells #[.slice A l.length c, .int .i64 0] 25)).grownBy w1 (some w.heap.size)) => show Below w.heap.size w w1 ∧ SpLaid w1 ∧ MaxLaid w1 ∧ ErrsLaid w1 from ⟨gEnd h, sp_below hs (gEnd h) (Nat.le_refl _), max_below hm (gEnd h) (Nat.le_refl _), he.below (gEnd h) (Nat.le_refl _)⟩)
  clear hr ho he hp hs hm HL
  go_enter Tryz.func3, Tryz.ntmps3
  go_upto_region 2 with (fail)
  generalize w.alloc (.cells #[.slice A l.length c, .int .i64 0] 25) = W0 at *
  have S0 := Lib.hid S0
  have L0 := Lib.hid L0
  generalize hsb : w.heap.size = sb at *
  have HSB := Lib.hid hsb
  have hlt0 : sb < W0.heap.size := by omega
  clear hsb hW0
  go_wp2_with fail
  refine (story_c sb 0 _ S0.out (by omega) L0.out).mono ?_
  rintro e w2 ⟨v2, k2, rfl, ⟨t, ls, sv, rfl, hsl, hin, htz, hll, hbd⟩, hk2, hs2, hg2⟩
  have hz2 := hg2.size
  have S2 := Lib.hid hs2
  have G2 := Lib.hid hg2
  have hF2 : ∀ q, SpG (fun _ => False) W0 w2 q → W0.heap.size ≤ q ∧ q < w2.heap.size := fun q hq => by
    rcases hq with h | h
    · exact h.elim
    · exact h
  have O2 := Lib.hid (hsl.more hF2)
  have I2 := Lib.hid (show ∀ y ∈ ls, Sli paraR w2 (fun q => W0.heap.size ≤ q ∧ q < w2.heap.size) y.1.paras y.2 from fun y hy => (hin y hy).more hF2)
  have HBD := Lib.hid hbd
  have hk20 := hs2.nonneg
  obtain ⟨AS, cS, hv, _, _⟩ := hsl.form
  subst hv
  clear hs2 hg2 hsl hin hbd hF2 S0 L0
  go_wp2_with fail
  refine (Rules_c sb k2 _ S2.out (by omega) (fun W hW => (HX.out W (gTrans G2.out hW)).2.2.1)).mono ?_
  rintro e w1 ⟨v1, k1, rfl, ⟨rl, hrl, hown, hinn, hrbd⟩, hk1, hs1, hg1⟩
  have hz1 := hg1.size
  have hsl1 : Sli ruR w1 (fun q => w2.heap.size ≤ q ∧ q < w1.heap.size) rl v1 := hown.sliF (enc := fun x : Rul × Value => x.1.cells x.2) (hn := fun _ => rfl) (fun g hg => hown.block g hg)
  obtain ⟨AR, cR, hv, _, _⟩ := hsl1.form
  subst hv
  have HR1 := Lib.hid (show RuW w1 (fun q => w2.heap.size ≤ q ∧ q < w1.heap.size) rl (.slice AR rl.length cR) from ⟨hsl1, fun y hy => (hinn y hy).more fun q hq => ⟨hq.1, hq.2.1⟩, fun q hq => hq.2, by omega, fun y hy => by
    obtain ⟨b1, b2, b3, b4⟩ := hrbd y hy
    exact ⟨by omega, by omega, by omega, by omega⟩⟩)
  obtain ⟨n, hn⟩ : ∃ n, ls.length = n := ⟨_, rfl⟩
  obtain ⟨R, hR⟩ : ∃ R, rl.length = R := ⟨_, rfl⟩
  have HN := Lib.hid hn
  have HRR := Lib.hid hR
  rw [show xCs t (.slice AS ls.length cS) = #[.string t, .slice AS n cS] by rw [hn]; rfl]
  rw [hR]
  have hG3 := gAlloc (gTrans G2.out hg1) (.cells #[.string t, .slice AS n cS] 28)
  have hX3 := heap_alloc_new w1 (.cells #[.string t, .slice AS n cS] 28)
  have hz3 : (w1.alloc (.cells #[.string t, .slice AS n cS] 28)).heap.size = w1.heap.size + 1 := by simp
  have hA3 := (Below.refl _ w1).alloc (Nat.le_refl _) (.cells #[.string t, .slice AS n cS] 28)
  have hO3 : Sli svR (w1.alloc (.cells #[.string t, .slice AS n cS] 28)) (fun q => W0.heap.size ≤ q ∧ q < w2.heap.size) ls (.slice AS ls.length cS) :=
    (O2.out.keep (fun q hq => hg1.block q hq.2 (by simp; omega))).keep (fun q hq => Below.heap_alloc w1 _ q (by omega))
  have hI3 : ∀ y ∈ ls, Sli paraR (w1.alloc (.cells #[.string t, .slice AS n cS] 28)) (fun q => W0.heap.size ≤ q ∧ q < w2.heap.size) y.1.paras y.2 := fun y hy => ((I2.out y hy).keep (fun q hq => hg1.block q hq.2 (by simp; omega))).keep (fun q hq => Below.heap_alloc w1 _ q (by omega))
  have HSC3 := Lib.hid (show ScL (w1.alloc (.cells #[.string t, .slice AS n cS] 28)) (fun q => W0.heap.size ≤ q ∧ q < w2.heap.size) t ls (.slice AS ls.length cS) from ⟨hO3, hI3, fun q hq => by have := hq.2; omega, by omega, by omega, fun y hy => by
    obtain ⟨b1, b2, b3, b4⟩ := HBD.out y hy
    exact ⟨by omega, by omega, by omega, fun p hp => Nat.le_trans (b4 p hp) (by decide)⟩⟩)
  have HRU3 := Lib.hid (HR1.out.below hA3)
  have HL3 := Lib.hid (HX.out _ hG3)
  clear hG3 hA3 hO3 hI3 hs1 hg1 hown hinn hrbd hsl1 HR1 S2 G2 O2 I2 HBD HX hn hR
  go_upto_region 3 with (fail)
  generalize w1.alloc (.cells #[.string t, .slice AS n cS] 28) = w3 at *
  obtain ⟨F1, hF1⟩ : ∃ F1, (fun q => W0.heap.size ≤ q ∧ q < w2.heap.size) = F1 := ⟨_, rfl⟩
  obtain ⟨F2, hF2⟩ : ∃ F2, (fun q => w2.heap.size ≤ q ∧ q < w1.heap.size) = F2 := ⟨_, rfl⟩
  rw [hF1] at HSC3
  rw [hF2] at HRU3
  generalize w1.heap.size = X at *
  have HS := Lib.hid (fun (W : World) (hb : Below w3.heap.size w3 W) => show Below sb w W ∧ SpLaid W ∧ MaxLaid W ∧ ErrsLaid W from
    ⟨HL3.out.1.trans (hb.mono (by have h := HL3.out.1.size; have h2 := HSB.out; omega)), sp_below HL3.out.2.1 hb (Nat.le_refl _), max_below HL3.out.2.2.1 hb (Nat.le_refl _), HL3.out.2.2.2.below hb (Nat.le_refl _)⟩)
  have HXC := Lib.hid (fun (W : World) (hb : Below w3.heap.size w3 W) => show W.cell? ⟨X, 0, none⟩ = some (.string t) ∧ W.cell? ⟨X, 1, none⟩ = some (.slice AS n cS) from by
    obtain ⟨y, _⟩ := str_cells ((hb.block X (by omega)).trans hX3)
    exact ⟨y 0, y 1⟩)
  have HCK := Lib.hid (fun (W : World) (hb : Below w3.heap.size w3 W) => show Calls Tryz.prog 6 #[.slice AR R cR] W (RusP (rl.map (·.1)) W) from by
    have h1 := CheckRules_c rl (.slice AR rl.length cR) W (HRU3.out.below hb) (HS.out W hb).2.2.1
    rw [HRR.out] at h1
    exact h1)
  have HCF := Lib.hid (fun (W : World) (hb : Below w3.heap.size w3 W) => show Calls Tryz.prog 7 #[.slice AR R cR] W (RusP (rl.map (·.1)) W) from by
    have h1 := TagRulesFault_c rl (.slice AR rl.length cR) W (HRU3.out.below hb) (HS.out W hb).2.2.1 (HS.out W hb).2.1
    rw [HRR.out] at h1
    exact h1)
  have HME := Lib.hid (fun (W : World) (hb : Below w3.heap.size w3 W) => show Calls Tryz.prog 8 #[.agg #[.string t, .slice AS n cS], .slice AR R cR] W (MenP ⟨t, ls.map (·.1)⟩ (rl.map (·.1)) W) from by
    have h1 := Mentions_c t ls (.slice AS ls.length cS) rl (.slice AR rl.length cR) W (HSC3.out.below hb) (HRU3.out.below hb) (HS.out W hb).2.2.1 (HS.out W hb).2.2.2
    rw [HRR.out, HN.out] at h1
    exact h1)
  have HMR := Lib.hid (fun (W : World) (hb : Below w3.heap.size w3 W) => show Calls Tryz.prog 9 #[.agg #[.string t, .slice AS n cS], .slice AR R cR] W (MenP ⟨t, ls.map (·.1)⟩ (rl.map (·.1)) W) from by
    have h1 := MentionsOf_c t ls (.slice AS ls.length cS) rl (.slice AR rl.length cR) W (HSC3.out.below hb) (HRU3.out.below hb) (HS.out W hb).2.2.1 (HS.out W hb).2.2.2 (HS.out W hb).2.1
    rw [HRR.out, HN.out] at h1
    exact h1)
  clear HSC3 HRU3 HL3 hX3 hF1 hF2
  generalize rl.map (·.1) = rs at *
  generalize ls.map (·.1) = sc at *
  go_wp2_with fail
  refine (HCK.out w3 (Below.refl _ _)).mono ?_
  rintro e w4 ⟨rfl, hb4⟩
  have HB4 := Lib.hid hb4
  clear hb4 HCK
  go_wp2_with fail
  refine (HCF.out w4 HB4.out).mono ?_
  rintro e w5 ⟨rfl, hb5⟩
  have HB5 := Lib.hid (HB4.out.trans (hb5.mono HB4.out.size))
  clear hb5 HCF HB4
  generalize rulesE rs = ce at *
  obtain ⟨x0, x1⟩ := HXC.out w5 HB5.out
  have hce : (ce != ce) = false := by simp
  go_wp2_with fail
  refine (HME.out w5 HB5.out).mono ?_
  rintro e w6 ⟨vm, rfl, hom, hb6⟩
  have HB6 := Lib.hid (HB5.out.trans (hb6.mono HB5.out.size))
  have HOM := Lib.hid hom
  clear hb6 hom HME HB5 x0 x1 hce
  obtain ⟨x0, x1⟩ := HXC.out w6 HB6.out
  go_wp2_with fail
  refine (HMR.out w6 HB6.out).mono ?_
  rintro e w7 ⟨vn, rfl, hon, hb7⟩
  have HB7 := Lib.hid (HB6.out.trans (hb7.mono HB6.out.size))
  have HOM7 := Lib.hid (HOM.out.below hb7)
  have HON := Lib.hid hon
  clear hb7 hon HMR HB6 x0 x1 HOM HXC
  obtain ⟨ee, hee⟩ : ∃ ee, menE ⟨t, sc⟩ rs = ee := ⟨_, rfl⟩
  rw [hee]
  clear hee
  have heq : (ee == ee) = true := by simp
  go_wp2_with fail
  refine (tags_c w7 (HS.out w7 HB7.out).2.2.1 (HS.out w7 HB7.out).2.2.2).mono ?_
  rintro e w8 ⟨rfl, hb8⟩
  have HB8 := Lib.hid (HB7.out.trans (hb8.mono HB7.out.size))
  have HO1 := Lib.hid ((HOM7.out.below hb8).sliF (F := fun b => b < w8.heap.size) (fun g hg => ((HOM7.out.below hb8).block g hg).2))
  have HO2 := Lib.hid ((HON.out.below hb8).sliF (F := fun b => b < w8.heap.size) (fun g hg => ((HON.out.below hb8).block g hg).2))
  clear hb8 HOM7 HON HB7
  have HW8 := Lib.hid (HS.out w8 HB8.out).1
  go_wp2_with fail
  refine (eqMn_c (menL ⟨t, sc⟩ rs) vm vn (fun b => b < w8.heap.size) w8 HO1.out HO2.out (fun b h => h)).mono ?_
  rintro e w9 ⟨rfl, hb9⟩
  go_wp2
  go_ret
  exact ⟨rfl, by rw [HSB.out]; exact HW8.out.trans (hb9.mono (by have h := HW8.out.size; have h2 := HSB.out; omega))⟩
end Go.Proofs.YtlfnmmnbfoimeaaGreatDoor

