/- Texts packed: LawScriptWraps. -/
import Derived.Test.YtnemcnpilngblaaDoorRows
import Derived.Test.YtnemcnpilngblaaDoorSc29
import Derived.Test.YtnemcnpilngblaaDoorSc33
import Derived.Test.YtnemcnpilngblaaDoorSc01
import Derived.Deep.DeepCutAuto
/- The law ScriptWraps walked: for every text of at most a million bytes and every width it returns true and leaves what was there. -/
namespace Go.Proofs.YtnemcnpilngblaaDoor
set_option linter.unusedVariables false
open Go.RowKit Go.Sort

set_option maxRecDepth 100000 in
set_option maxHeartbeats 4000000 in
theorem ScriptWraps_c (text : ByteArray) (wd : Int) (w : World) (hz : text.size ≤ 1048576) (ho : okI wd) (hs : SpLaid w) (hm : MaxLaid w) :
    Calls Tryd.prog 3 #[.string text, .int .i64 wd] w fun e w' => e = .returned (.bool true) ∧ Below w.heap.size w w' := by
  have HSP := Lib.hid (fun (W : World) (hb : Below w.heap.size w W) => sp_below hs hb (Nat.le_refl _))
  have HMX := Lib.hid (fun (W : World) (hb : Below w.heap.size w W) => max_below hm hb (Nat.le_refl _))
  have H1 := Lib.hid (ScrWrap_c text wd w hz hm)
  clear hs hm
  go_enter Tryd.func3, Tryd.ntmps3
  go_wp2_with fail
  refine H1.out.mono ?_
  rintro e w1 ⟨v, rfl, hb1, hv⟩
  have HB1 := Lib.hid hb1
  have HV := Lib.hid hv
  have H2 := Lib.hid (PlainR_c text w1 (by omega) (HSP.out _ hb1))
  obtain ⟨A, nn, cc, rfl⟩ : ∃ A n c, v = .slice A n c := by
    rcases hv with ⟨_, h⟩ | ⟨_, h⟩
    · exact ⟨_, _, _, h⟩
    · exact own_frm h
  clear hb1 hv H1
  cases hp : plainB text with
  | false =>
    have HE := Lib.hid (show swE text wd = 3 from if_pos hp)
    rw [HE.out]
    rw [hp] at H2
    clear hp
    go_wp2_with fail
    refine H2.out.mono ?_
    rintro e w2 ⟨rfl, hb2⟩
    have HB2 := Lib.hid (HB1.out.trans (hb2.mono HB1.out.size))
    have HSC := Lib.hid (scripts_c w2 (HMX.out _ HB2.out))
    clear hb2 H2
    go_wp2_with fail
    refine HSC.out.mono ?_
    rintro e w3 ⟨rfl, hb3⟩
    have HB3 := Lib.hid (HB2.out.trans (hb3.mono HB2.out.size))
    clear hb3 HSC
    go_wp2
    go_ret
    exact ⟨rfl, HB3.out⟩
  | true =>
    have hE : swE text wd = if wd < 10 ∨ 200 < wd then 1 else 0 := if_neg (by rw [hp]; decide)
    have HPR := Lib.hid (plain_pr hp)
    rw [hp] at H2
    clear hp
    by_cases h1 : wd < 10
    · have HE := Lib.hid (hE.trans (if_pos (.inl h1)))
      rw [HE.out]
      clear hE
      go_wp2_with fail
      refine H2.out.mono ?_
      rintro e w2 ⟨rfl, hb2⟩
      have HB2 := Lib.hid (HB1.out.trans (hb2.mono HB1.out.size))
      have HSC := Lib.hid (scripts_c w2 (HMX.out _ HB2.out))
      clear hb2 H2
      go_wp2_with fail
      refine HSC.out.mono ?_
      rintro e w3 ⟨rfl, hb3⟩
      have HB3 := Lib.hid (HB2.out.trans (hb3.mono HB2.out.size))
      clear hb3 HSC
      go_wp2
      go_ret
      exact ⟨rfl, HB3.out⟩
    by_cases h2 : 200 < wd
    · have HE := Lib.hid (hE.trans (if_pos (.inr h2)))
      rw [HE.out]
      have h1' : 10 ≤ wd := by omega
      clear hE h1
      go_wp2_with fail
      refine H2.out.mono ?_
      rintro e w2 ⟨rfl, hb2⟩
      have HB2 := Lib.hid (HB1.out.trans (hb2.mono HB1.out.size))
      have HSC := Lib.hid (scripts_c w2 (HMX.out _ HB2.out))
      clear hb2 H2
      go_wp2_with fail
      refine HSC.out.mono ?_
      rintro e w3 ⟨rfl, hb3⟩
      have HB3 := Lib.hid (HB2.out.trans (hb3.mono HB2.out.size))
      clear hb3 HSC
      go_wp2
      go_ret
      exact ⟨rfl, HB3.out⟩
    have HE := Lib.hid (hE.trans (if_neg (by omega)))
    rw [HE.out]
    have HO := Lib.hid (show Own strR w1 w.heap.size w.heap.size 9 (wrapT text wd.toNat) (.slice A nn cc) by
      rcases HV.out with ⟨h, _⟩ | ⟨_, h⟩
      · exact absurd HE.out h
      · exact h)
    obtain ⟨n, rfl⟩ : ∃ n : Nat, wd = (n : Int) := ⟨wd.toNat, by omega⟩
    have h1' : (10 : Int) ≤ n := by omega
    have h2' : (n : Int) ≤ 200 := by omega
    clear hE h1 h2 HV
    go_wp2_with fail
    refine H2.out.mono ?_
    rintro e w2 ⟨rfl, hb2⟩
    have HB2 := Lib.hid (HB1.out.trans (hb2.mono HB1.out.size))
    have HO2 := Lib.hid (HO.out.below hb2)
    have HSC := Lib.hid (scripts_c w2 (HMX.out _ HB2.out))
    clear hb2 H2 HO
    go_wp2_with fail
    refine HSC.out.mono ?_
    rintro e w3 ⟨rfl, hb3⟩
    have HB3 := Lib.hid (HB2.out.trans (hb3.mono HB2.out.size))
    have HO3 := Lib.hid (HO2.out.below hb3)
    have HWR := Lib.hid (WrapOf_c text n w3 hz (by omega) (by omega) HPR.out (HSP.out _ HB3.out))
    clear hb3 HSC HO2
    go_wp2_with fail
    refine HWR.out.mono ?_
    rintro e w4 ⟨v4, rfl, hb4, ho4⟩
    have HB4 := Lib.hid (HB3.out.trans (hb4.mono HB3.out.size))
    have HO4 := Lib.hid (HO3.out.below hb4)
    have hEQ := eqStr_c (wrapT text n) (wrapT text n) (.slice A nn cc) v4 (fun q => q < w4.heap.size) w4 (HO4.out.sliF (enc := fun x : ByteArray => [.string x]) (hn := fun _ => rfl) (fun g hg => (HO4.out.block g hg).2)) (ho4.sliF (F := fun q => q < w4.heap.size) (enc := fun x : ByteArray => [.string x]) (hn := fun _ => rfl) (fun g hg => (ho4.block g hg).2)) (fun q hq => hq)
    rw [decide_eq_true rfl] at hEQ
    have HEQ := Lib.hid hEQ
    clear hb4 ho4 HWR hEQ HO3
    go_wp2_with fail
    refine HEQ.out.mono ?_
    rintro e w5 ⟨rfl, hb5⟩
    have HB5 := Lib.hid (HB4.out.trans (hb5.mono HB4.out.size))
    clear hb5 HEQ
    go_wp2
    go_ret
    exact ⟨rfl, HB5.out⟩
end Go.Proofs.YtnemcnpilngblaaDoor

