/- The generator's numbers of scenes and setups. -/
import Derived.Test.YtndgdbncfplndaaDoorRows
import Derived.Test.YtndgdbncfplndaaDoorGenC
namespace Go.Proofs.YtndgdbncfplndaaDoor
set_option linter.unusedVariables false
open Go.RowKit Go.Sort

theorem oneOf {l : List ByteArray} {x : ByteArray} {n : Nat} (h : (l.all fun x => decide (x.size ≤ n)) = true) (hx : x ∈ l) : x.size ≤ n := by
  rw [List.all_eq_true] at h; simpa using h x hx
set_option maxHeartbeats 800000 in
theorem Setup_c (sb : Nat) (k : Int) (w : World) (hs : Str w sb k) (hk : k ≤ 4000000000000000000) :
    Calls Tryd.prog 36 #[.pointer (some ⟨sb, 0, none⟩)] w (Took sb k 1 (isStr (fun x => x.size ≤ 100)) w) := by
  have S0 := Lib.hid hs; clear hs
  go_enter Tryd.func36, Tryd.ntmps36
  go_wp2_with fail
  refine (oneL w [⟨#[]⟩, ⟨#[65]⟩, ⟨#[66]⟩, ⟨#[65, 65]⟩, ⟨#[90, 90]⟩, ⟨#[73]⟩, ⟨#[79]⟩, ⟨#[65, 65, 65]⟩, ⟨#[97]⟩, ⟨#[72]⟩] _ _ _ _ rfl rfl (by decide) (by decide) S0.out (by omega)).mono ?_
  rintro e w1 ⟨v1, k1, rfl, ⟨x1, hx1, rfl⟩, hk1, hs1, hg1⟩
  have b1 : x1.size ≤ 100 := oneOf (by decide +kernel) hx1
  have S1 := Lib.hid hs1; have G1 := Lib.hid (gTrans (gAlloc (gRefl w sb) _) hg1); clear hs1 hg1 hx1
  go_wp2
  go_ret
  exact ⟨_, k1, rfl, ⟨x1, b1, rfl⟩, hk1, S1.out, G1.out⟩
set_option maxHeartbeats 800000 in
theorem No_c (sb : Nat) (k : Int) (w : World) (hs : Str w sb k) (hk : k ≤ 4000000000000000000) :
    Calls Tryd.prog 35 #[.pointer (some ⟨sb, 0, none⟩)] w (Took sb k 1 (isStr (fun x => x.size ≤ 100)) w) := by
  have S0 := Lib.hid hs; clear hs
  go_enter Tryd.func35, Tryd.ntmps35
  go_wp2_with fail
  refine (oneL w [⟨#[]⟩, ⟨#[49]⟩, ⟨#[50]⟩, ⟨#[57]⟩, ⟨#[49, 50]⟩, ⟨#[49, 50, 66]⟩, ⟨#[49, 50, 65, 66]⟩, ⟨#[49, 50, 66, 66]⟩, ⟨#[49, 50, 90, 90, 90, 90, 90]⟩, ⟨#[49, 51]⟩, ⟨#[48, 66]⟩, ⟨#[48, 65, 66]⟩, ⟨#[48, 65, 65, 65, 65, 66]⟩, ⟨#[57, 57, 57]⟩, ⟨#[57, 57, 57, 66]⟩, ⟨#[57, 57, 57, 90, 90, 90, 90, 90]⟩, ⟨#[57, 57, 56, 90, 90, 90, 90, 90]⟩, ⟨#[49, 65]⟩, ⟨#[48]⟩, ⟨#[48, 49]⟩, ⟨#[49, 98]⟩, ⟨#[49, 48, 48, 48]⟩] _ _ _ _ rfl rfl (by decide) (by decide) S0.out (by omega)).mono ?_
  rintro e w1 ⟨v1, k1, rfl, ⟨x1, hx1, rfl⟩, hk1, hs1, hg1⟩
  have b1 : x1.size ≤ 100 := oneOf (by decide +kernel) hx1
  have S1 := Lib.hid hs1; have G1 := Lib.hid (gTrans (gAlloc (gRefl w sb) _) hg1); clear hs1 hg1 hx1
  go_wp2
  go_ret
  exact ⟨_, k1, rfl, ⟨x1, b1, rfl⟩, hk1, S1.out, G1.out⟩
end Go.Proofs.YtndgdbncfplndaaDoor
