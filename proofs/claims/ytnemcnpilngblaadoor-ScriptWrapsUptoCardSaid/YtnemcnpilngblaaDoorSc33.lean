/- Texts packed: ScW. -/
import Derived.Test.YtnemcnpilngblaaDoorSc32
/- The small script that the laws read and write. -/
namespace Go.Proofs.YtnemcnpilngblaaDoor
set_option linter.unusedVariables false
open Go.RowKit Go.Sort

def smallT : ByteArray := ⟨#[116, 105, 116, 108, 101, 58, 32, 84, 10, 10, 35, 32, 73, 78, 84, 46, 32, 72, 65, 76, 76, 32, 45, 32, 68, 65, 89, 10, 10, 82, 97, 105, 110, 46, 10]⟩
def smallX : Script := ⟨⟨#[84]⟩, [⟨⟨#[]⟩, 1, ⟨#[72, 65, 76, 76]⟩, 1, [⟨1, ⟨#[82, 97, 105, 110, 46]⟩⟩]⟩]⟩
theorem single_fst {l : List (Scene × Value)} {x : Scene} (h : l.map (·.1) = [x]) : ∃ y : Scene × Value, l = [y] ∧ y.1 = x := by
  cases l with
  | nil => cases h
  | cons a r =>
    cases r with
    | nil =>
      injection h with h1 _
      exact ⟨a, rfl, h1⟩
    | cons b r => injection h with _ h2; cases h2
theorem small_read : readS smallT = (smallX, 0, 0) := by kernel_rfl
theorem small_tx : txV smallX = (smallT, 0) := by kernel_rfl
set_option maxRecDepth 100000 in
set_option maxHeartbeats 4000000 in
theorem scripts_c (w : World) (hm : MaxLaid w) : Calls Tryd.prog 6 #[] w fun e w' => e = .returned (.bool true) ∧ Below w.heap.size w w' := by
  have HRD := Lib.hid (Read_c smallT w (by decide +kernel) hm)
  have HM := Lib.hid hm
  clear hm
  have HST := Lib.hid (show (smallT.toList == smallT.toList) = true from beq_self_eq_true _)
  have HTE := Lib.hid (show smallT = ⟨#[116, 105, 116, 108, 101, 58, 32, 84, 10, 10, 35, 32, 73, 78, 84, 46, 32, 72, 65, 76, 76, 32, 45, 32, 68, 65, 89, 10, 10, 82, 97, 105, 110, 46, 10]⟩ from rfl)
  rw [HTE.out] at HRD
  go_enter Tryd.func6, Tryd.ntmps6
  go_wp2_with fail
  refine HRD.out.mono ?_
  rintro e w1 ⟨l, v, rfl, hl, hs, hp, hb⟩
  rw [← HTE.out, small_read] at hl ⊢
  obtain ⟨y, rfl, hy⟩ : ∃ y : Scene × Value, l = [y] ∧ y.1 = ⟨⟨#[]⟩, 1, ⟨#[72, 65, 76, 76]⟩, 1, [⟨1, ⟨#[82, 97, 105, 110, 46]⟩⟩]⟩ := single_fst hl
  have hsc : ScL w1 (fun q => w.heap.size ≤ q ∧ q < w1.heap.size) ⟨#[84]⟩ [y] v := ⟨hs, hp, fun q hq => hq.2, by decide, by simp, fun z hz => by
    rw [List.mem_singleton] at hz
    subst hz
    rw [hy]
    exact ⟨by decide, by decide, by decide, fun p hp => by
      rw [List.mem_singleton] at hp
      subst hp
      show (⟨#[82, 97, 105, 110, 46]⟩ : ByteArray).size ≤ 1000000
      decide⟩⟩
  obtain ⟨A, c, hv, _, _⟩ := hs.form
  subst hv
  obtain ⟨b, off, hA, hfb, c0, c1, c2, c3, c4⟩ := scAt hs 0 (by simp)
  subst hA
  obtain ⟨A4, cc4, h4, _, _⟩ := (hp y (by simp)).form
  rw [show ([y] : List (Scene × Value))[0] = y from rfl, h4, show y.1.paras.length = 1 by rw [hy]; rfl] at c4
  have HB1 := Lib.hid (hb.alloc hb.size (.cells #[.string ⟨#[84]⟩, .slice (some ⟨b, off, none⟩) 1 c] 33))
  have hbe := (Below.refl w1.heap.size w1).alloc (Nat.le_refl _) (.cells #[.string ⟨#[84]⟩, .slice (some ⟨b, off, none⟩) 1 c] 33)
  have HTX := Lib.hid (Text_c ⟨#[84]⟩ [y] (.slice (some ⟨b, off, none⟩) 1 c) (w1.alloc (.cells #[.string ⟨#[84]⟩, .slice (some ⟨b, off, none⟩) 1 c] 33)) (hsc.below hbe) (max_below HM.out HB1.out (Nat.le_refl _)))
  have HV := Lib.hid (show txV ⟨⟨#[84]⟩, [y].map (·.1)⟩ = (smallT, 0) by rw [show ([y].map (·.1) : List Scene) = smallX.scenes from by show [y.1] = _; rw [hy]; rfl]; exact small_tx)
  have hbb : b < w1.heap.size := hfb.2
  have HY := Lib.hid (fun (X : World) (hx : Below (w1.alloc (.cells #[.string ⟨#[84]⟩, .slice (some ⟨b, off, none⟩) 1 c] 33)).heap.size (w1.alloc (.cells #[.string ⟨#[84]⟩, .slice (some ⟨b, off, none⟩) 1 c] 33)) X) => show X.cell? ⟨w1.heap.size, 1, none⟩ = some (.slice (some ⟨b, off, none⟩) 1 c) ∧ X.cell? ⟨b, off + 4, none⟩ = some (.slice A4 1 cc4) by
    obtain ⟨yy, _⟩ := str_cells ((hx.block w1.heap.size (by simp)).trans (heap_alloc_new w1 _))
    refine ⟨yy 1, ?_⟩
    rw [hx.cell (p := ⟨b, off + 4, none⟩) (by simp; omega), World.cell?_alloc_lt w1 _ ⟨b, off + 4, none⟩ hbb]
    simpa using c4)
  clear hl hy hsc hs hp c0 c1 c2 c3 c4 h4 hb hbe
  go_wp2_with fail
  refine HTX.out.mono ?_
  rintro e w3 ⟨rfl, hb3⟩
  rw [HV.out]
  obtain ⟨z1, z4⟩ := HY.out w3 hb3
  have HB3 := Lib.hid (HB1.out.trans (hb3.mono HB1.out.size))
  have hs1 := HST.out
  rw [HTE.out] at hs1 ⊢
  clear hb3
  go_wp2
  go_ret
  exact ⟨rfl, HB3.out⟩
end Go.Proofs.YtnemcnpilngblaaDoor

