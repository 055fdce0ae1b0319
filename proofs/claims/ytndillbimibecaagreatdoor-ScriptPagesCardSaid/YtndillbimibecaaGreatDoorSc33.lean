/- Texts packed: RlA, TxA. -/
import Derived.Test.YtndillbimibecaaGreatDoorSc32
import Derived.Test.YtndillbimibecaaGreatDoorSc09
/- The reference's line of a paragraph, walked. -/
namespace Go.Proofs.YtndillbimibecaaGreatDoor
set_option linter.unusedVariables false
open Go.RowKit

end Go.Proofs.YtndillbimibecaaGreatDoor

/- script.Text, walked. -/
namespace Go.Proofs.YtndillbimibecaaGreatDoor
set_option linter.unusedVariables false
open Go.RowKit Go.Sort

def txV (x : Script) : ByteArray × Int := if ¬ chkE x = 0 then (⟨#[]⟩, chkE x) else if 200000 < (textS x).size then (⟨#[]⟩, 2) else (textS x, 0)
def TxP (x : Script) (w : World) (e : Ending) (w' : World) : Prop := e = .returned (.tuple #[.string (txV x).1, .int .i64 (txV x).2]) ∧ Below w.heap.size w w'
theorem TxP.mk {x : Script} {s : ByteArray} {q : Int} {w w' : World} (h : txV x = (s, q)) (hb : Below w.heap.size w w') : TxP x w (.returned (.tuple #[.string s, .int .i64 q])) w' := ⟨by rw [h], hb⟩
theorem wrL_of {t : ByteArray} {ls : List (Scene × Value)} (h : OkX ⟨t, ls.map (·.1)⟩) : WrL ls := by
  have hs : ∀ y ∈ ls, okS y.1 := fun y hy => h.sc _ (List.mem_map.2 ⟨y, hy, rfl⟩)
  refine ⟨fun y hy => ?_, fun y hy p hp => (paraE_sz (parasE_ok _ _ (hs y hy).2.2.2.2 p hp)).1⟩
  obtain ⟨_, c2, c3, _⟩ := hs y hy
  omega
set_option maxRecDepth 100000 in
set_option maxHeartbeats 8000000 in
theorem Text_c {F : Nat → Prop} (t : ByteArray) (ls : List (Scene × Value)) (v : Value) (w : World) (h : ScL w F t ls v) (hm : MaxLaid w) :
    Calls Tryz.prog 24 #[.agg #[.string t, v]] w (TxP ⟨t, ls.map (·.1)⟩ w) := by
  obtain ⟨A, c, rfl, hlc, hcm⟩ := h.sli.form
  have HB := Lib.hid ((Below.refl w.heap.size w).alloc (Nat.le_refl _) (.cells #[.string t, .slice A ls.length c] 28))
  have h1 := h.below HB.out
  have HCK := Lib.hid (Check_c t ls (.slice A ls.length c) (w.alloc (.cells #[.string t, .slice A ls.length c] 28)) h1 (max_alloc hm _))
  have HH := Lib.hid h1
  have HY := Lib.hid (fun (W : World) (hb : Below (w.alloc (.cells #[.string t, .slice A ls.length c] 28)).heap.size (w.alloc (.cells #[.string t, .slice A ls.length c] 28)) W) => show W.cell? ⟨w.heap.size, 0, none⟩ = some (.string t) ∧ W.cell? ⟨w.heap.size, 1, none⟩ = some (.slice A ls.length c) by
    obtain ⟨y, _⟩ := str_cells ((hb.block w.heap.size (by simp)).trans (heap_alloc_new w _))
    exact ⟨y 0, y 1⟩)
  have HTV := Lib.hid (show txV ⟨t, ls.map (·.1)⟩ = _ from rfl)
  clear h h1 hm
  generalize ls.length = L at *
  go_enter Tryz.func24, Tryz.ntmps24
  go_wp2_with fail
  refine HCK.out.mono ?_
  rintro e w2 ⟨rfl, hb2⟩
  obtain ⟨y0, y1⟩ := HY.out w2 hb2
  have HH2 := Lib.hid (HH.out.below hb2)
  have HB2 := Lib.hid (HB.out.trans (hb2.mono HB.out.size))
  clear hb2 HCK HY HB HH
  by_cases hc : chkE ⟨t, ls.map (·.1)⟩ = 0
  · have HOK := Lib.hid (chkE_ok hc)
    have HL := Lib.hid (textT_len HOK.out)
    have HWC := Lib.hid (written_c t ls (.slice A L c) w2 HH2.out (wrL_of HOK.out) (by have := HL.out; omega))
    have HT1 := Lib.hid (show txV ⟨t, ls.map (·.1)⟩ = if 200000 < (textS ⟨t, ls.map (·.1)⟩).size then (⟨#[]⟩, 2) else (textS ⟨t, ls.map (·.1)⟩, 0) from if_neg (fun h => h hc))
    have hsz : (textS ⟨t, ls.map (·.1)⟩).size ≤ 3000000000 := by
      have := HL.out
      show (textT _).toArray.size ≤ _
      simpa using this
    rw [hc]
    clear hc HOK HL HTV
    go_wp2_with fail
    refine HWC.out.mono ?_
    rintro e w3 ⟨rfl, hb3⟩
    have HB3 := Lib.hid (HB2.out.trans (hb3.mono HB2.out.size))
    clear hb3 HWC
    generalize textS ⟨t, ls.map (·.1)⟩ = tx at *
    by_cases hx : 200000 < tx.size
    · have HR := Lib.hid (HT1.out.trans (if_pos hx))
      have hx' : (200000 : Int) < tx.size := by omega
      go_wp2
      go_ret2
      exact TxP.mk HR.out HB3.out
    · have HR := Lib.hid (HT1.out.trans (if_neg hx))
      have hx' : (tx.size : Int) ≤ 200000 := by omega
      go_wp2
      go_ret2
      exact TxP.mk HR.out HB3.out
  · have HR := Lib.hid (show txV ⟨t, ls.map (·.1)⟩ = (⟨#[]⟩, chkE ⟨t, ls.map (·.1)⟩) from if_pos hc)
    have hne : (chkE ⟨t, ls.map (·.1)⟩ != 0) = true := by rw [bne_iff_ne]; exact hc
    clear HTV
    generalize chkE ⟨t, ls.map (·.1)⟩ = ce at *
    clear hc
    go_wp2
    go_ret2
    exact TxP.mk HR.out HB2.out
end Go.Proofs.YtndillbimibecaaGreatDoor

