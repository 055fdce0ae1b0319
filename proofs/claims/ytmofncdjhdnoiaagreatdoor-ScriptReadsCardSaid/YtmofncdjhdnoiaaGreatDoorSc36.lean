/- Texts packed: RlA, TxA. -/
import Derived.Test.YtmofncdjhdnoiaaGreatDoorSc35
import Derived.Test.YtmofncdjhdnoiaaGreatDoorSc13
/- The reference's line of a paragraph, walked. -/
namespace Go.Proofs.YtmofncdjhdnoiaaGreatDoor
set_option linter.unusedVariables false
open Go.RowKit

def LnR (p : Para) (w : World) (e : Ending) (w' : World) : Prop := e = .returned (.tuple #[.string (lineS p), .bool (nlB p)]) ∧ Below w.heap.size w w'
theorem LnR.mk {p : Para} {q : ByteArray} {b : Bool} {w w' : World} (h : lineS p = q) (h2 : nlB p = b) (hb : Below w.heap.size w w') : LnR p w (.returned (.tuple #[.string q, .bool b])) w' := ⟨by rw [h, h2], hb⟩
set_option maxRecDepth 100000 in
set_option maxHeartbeats 1600000 in
theorem paraLineR_c (p : Para) (w : World) (h0 : 0 < p.text.size) (hs : p.text.size ≤ 1000000) (hk : 1 ≤ p.kind ∧ p.kind ≤ 5) : Calls Tryz.prog 75 #[.agg #[.int .i64 p.kind, .string p.text]] w (LnR p w) := by
  obtain ⟨kind, s⟩ := p
  dsimp only at h0 hs hk ⊢
  have HB := Lib.hid ((Below.refl w.heap.size w).alloc (Nat.le_refl _) (.cells #[.int .i64 kind, .string s] 97))
  have HE1 := Lib.hid (idxB_c ⟨#[64, 62, 35, 92]⟩ s[0] (w.alloc (.cells #[.int .i64 kind, .string s] 97)))
  have HE2 := Lib.hid (idxB_c ⟨#[40, 92]⟩ s[0] (w.alloc (.cells #[.int .i64 kind, .string s] 97)))
  have z1 : (⟨#[64]⟩ : ByteArray).size = 1 := rfl
  have z2 : (⟨#[40]⟩ ++ s : ByteArray).size = 1 + s.size := by rw [ByteArray.size_append]; rfl
  have z3 : (⟨#[62, 32]⟩ : ByteArray).size = 2 := rfl
  have z4 : (⟨#[40]⟩ : ByteArray).size = 1 := rfl
  have z5 : (⟨#[41]⟩ : ByteArray).size = 1 := rfl
  have z6 : (⟨#[92]⟩ : ByteArray).size = 1 := rfl
  by_cases k2 : kind = 2
  · subst k2
    have HR := Lib.hid (show lineS ⟨2, s⟩ = ⟨#[64]⟩ ++ s from rfl)
    have HN := Lib.hid (show nlB ⟨2, s⟩ = true from rfl)
    go_enter Tryz.func75, Tryz.ntmps75
    go_wp2
    go_ret2
    exact LnR.mk HR.out HN.out HB.out
  have k2' : (kind == 2) = false := beq_eq_false_iff_ne.2 k2
  by_cases k3 : kind = 3
  · subst k3
    have HR := Lib.hid (show lineS ⟨3, s⟩ = ⟨#[40]⟩ ++ s ++ ⟨#[41]⟩ from rfl)
    have HN := Lib.hid (show nlB ⟨3, s⟩ = false from rfl)
    go_enter Tryz.func75, Tryz.ntmps75
    go_wp2
    go_ret2
    exact LnR.mk HR.out HN.out HB.out
  have k3' : (kind == 3) = false := beq_eq_false_iff_ne.2 k3
  by_cases k5 : kind = 5
  · subst k5
    have HR := Lib.hid (show lineS ⟨5, s⟩ = ⟨#[62, 32]⟩ ++ s from rfl)
    have HN := Lib.hid (show nlB ⟨5, s⟩ = true from rfl)
    go_enter Tryz.func75, Tryz.ntmps75
    go_wp2
    go_ret2
    exact LnR.mk HR.out HN.out HB.out
  have k5' : (kind == 5) = false := beq_eq_false_iff_ne.2 k5
  by_cases k1 : kind = 1
  · subst k1
    have HN := Lib.hid (show nlB ⟨1, s⟩ = true from rfl)
    by_cases hc : s[0] ∈ (⟨#[64, 62, 35, 92]⟩ : ByteArray).data.toList
    · have HR := Lib.hid (show lineS ⟨1, s⟩ = ⟨#[92]⟩ ++ s from escS_yes h0 hc)
      have hix : 0 ≤ Lib.indexByte (⟨#[64, 62, 35, 92]⟩ : ByteArray).data.toList s[0] := (idxB_mem _ _).1 hc
      clear hc
      generalize Lib.indexByte (⟨#[64, 62, 35, 92]⟩ : ByteArray).data.toList s[0] = ix at *
      go_enter Tryz.func75, Tryz.ntmps75
      go_wp2_with (first | (go_at_call 132; with_reducible refine HE1.out.mono ?_; rintro e w' ⟨rfl, rfl⟩) | fail)
      go_ret2
      exact LnR.mk HR.out HN.out HB.out
    · have HR := Lib.hid (show lineS ⟨1, s⟩ = s from escS_no h0 hc)
      have hix : ¬ 0 ≤ Lib.indexByte (⟨#[64, 62, 35, 92]⟩ : ByteArray).data.toList s[0] := fun h => hc ((idxB_mem _ _).2 h)
      clear hc
      generalize Lib.indexByte (⟨#[64, 62, 35, 92]⟩ : ByteArray).data.toList s[0] = ix at *
      go_enter Tryz.func75, Tryz.ntmps75
      go_wp2_with (first | (go_at_call 132; with_reducible refine HE1.out.mono ?_; rintro e w' ⟨rfl, rfl⟩) | fail)
      go_ret2
      exact LnR.mk HR.out HN.out HB.out
  obtain rfl : kind = 4 := by omega
  have HN := Lib.hid (show nlB ⟨4, s⟩ = false from rfl)
  by_cases hc : s[0] ∈ (⟨#[40, 92]⟩ : ByteArray).data.toList
  · have HR := Lib.hid (show lineS ⟨4, s⟩ = ⟨#[92]⟩ ++ s from escS_yes h0 hc)
    have hix : 0 ≤ Lib.indexByte (⟨#[40, 92]⟩ : ByteArray).data.toList s[0] := (idxB_mem _ _).1 hc
    clear hc k2 k3 k5 k1
    generalize Lib.indexByte (⟨#[40, 92]⟩ : ByteArray).data.toList s[0] = ix at *
    go_enter Tryz.func75, Tryz.ntmps75
    go_wp2_with (first | (go_at_call 132; with_reducible refine HE2.out.mono ?_; rintro e w' ⟨rfl, rfl⟩) | fail)
    go_ret2
    exact LnR.mk HR.out HN.out HB.out
  · have HR := Lib.hid (show lineS ⟨4, s⟩ = s from escS_no h0 hc)
    have hix : ¬ 0 ≤ Lib.indexByte (⟨#[40, 92]⟩ : ByteArray).data.toList s[0] := fun h => hc ((idxB_mem _ _).2 h)
    clear hc k2 k3 k5 k1
    generalize Lib.indexByte (⟨#[40, 92]⟩ : ByteArray).data.toList s[0] = ix at *
    go_enter Tryz.func75, Tryz.ntmps75
    go_wp2_with (first | (go_at_call 132; with_reducible refine HE2.out.mono ?_; rintro e w' ⟨rfl, rfl⟩) | fail)
    go_ret2
    exact LnR.mk HR.out HN.out HB.out
end Go.Proofs.YtmofncdjhdnoiaaGreatDoor

/- script.Text, walked. -/
namespace Go.Proofs.YtmofncdjhdnoiaaGreatDoor
set_option linter.unusedVariables false
open Go.RowKit Go.Sort

def txV (x : Script) : ByteArray × Int := if ¬ chkE x = 0 then (⟨#[]⟩, chkE x) else if 200000 < (textS x).size then (⟨#[]⟩, 2) else (textS x, 0)
def TxP (x : Script) (w : World) (e : Ending) (w' : World) : Prop := e = .returned (.tuple #[.string (txV x).1, .int .i64 (txV x).2]) ∧ Below w.heap.size w w'
theorem TxP.mk {x : Script} {s : ByteArray} {q : Int} {w w' : World} (h : txV x = (s, q)) (hb : Below w.heap.size w w') : TxP x w (.returned (.tuple #[.string s, .int .i64 q])) w' := ⟨by rw [h], hb⟩
theorem wrL_of {t : ByteArray} {ls : List (Scene × Value)} (h : OkX ⟨t, ls.map (·.1)⟩) : WrL ls := by
  have hs : ∀ y ∈ ls, okS y.1 := fun y hy => h.sc _ (List.mem_map.2 ⟨y, hy, rfl⟩)
  refine ⟨fun y hy => ?_, fun y hy p hp => (paraE_sz (parasE_ok _ _ (hs y hy).2.2.2.2 p hp)).1⟩
  obtain ⟨_, c2, c3, _⟩ := hs y hy
  omega
set_option maxRecDepth 100000 in
set_option maxHeartbeats 8000000 in
theorem Text_c {F : Nat → Prop} (t : ByteArray) (ls : List (Scene × Value)) (v : Value) (w : World) (h : ScL w F t ls v) (hm : MaxLaid w) :
    Calls Tryz.prog 28 #[.agg #[.string t, v]] w (TxP ⟨t, ls.map (·.1)⟩ w) := by
  obtain ⟨A, c, rfl, hlc, hcm⟩ := h.sli.form
  have HB := Lib.hid ((Below.refl w.heap.size w).alloc (Nat.le_refl _) (.cells #[.string t, .slice A ls.length c] 28))
  have h1 := h.below HB.out
  have HCK := Lib.hid (Check_c t ls (.slice A ls.length c) (w.alloc (.cells #[.string t, .slice A ls.length c] 28)) h1 (max_alloc hm _))
  have HH := Lib.hid h1
  have HY := Lib.hid (fun (W : World) (hb : Below (w.alloc (.cells #[.string t, .slice A ls.length c] 28)).heap.size (w.alloc (.cells #[.string t, .slice A ls.length c] 28)) W) => show W.cell? ⟨w.heap.size, 0, none⟩ = some (.string t) ∧ W.cell? ⟨w.heap.size, 1, none⟩ = some (.slice A ls.length c) by
    obtain ⟨y, _⟩ := str_cells ((hb.block w.heap.size (by simp)).trans (heap_alloc_new w _))
    exact ⟨y 0, y 1⟩)
  have HTV := Lib.hid (show txV ⟨t, ls.map (·.1)⟩ = _ from rfl)
  clear h h1 hm
  generalize ls.length = L at *
  go_enter Tryz.func28, Tryz.ntmps28
  go_wp2_with fail
  refine HCK.out.mono ?_
  rintro e w2 ⟨rfl, hb2⟩
  obtain ⟨y0, y1⟩ := HY.out w2 hb2
  have HH2 := Lib.hid (HH.out.below hb2)
  have HB2 := Lib.hid (HB.out.trans (hb2.mono HB.out.size))
  clear hb2 HCK HY HB HH
  by_cases hc : chkE ⟨t, ls.map (·.1)⟩ = 0
  · have HOK := Lib.hid (chkE_ok hc)
    have HL := Lib.hid (textT_len HOK.out)
    have HWC := Lib.hid (written_c t ls (.slice A L c) w2 HH2.out (wrL_of HOK.out) (by have := HL.out; omega))
    have HT1 := Lib.hid (show txV ⟨t, ls.map (·.1)⟩ = if 200000 < (textS ⟨t, ls.map (·.1)⟩).size then (⟨#[]⟩, 2) else (textS ⟨t, ls.map (·.1)⟩, 0) from if_neg (fun h => h hc))
    have hsz : (textS ⟨t, ls.map (·.1)⟩).size ≤ 3000000000 := by
      have := HL.out
      show (textT _).toArray.size ≤ _
      simpa using this
    rw [hc]
    clear hc HOK HL HTV
    go_wp2_with fail
    refine HWC.out.mono ?_
    rintro e w3 ⟨rfl, hb3⟩
    have HB3 := Lib.hid (HB2.out.trans (hb3.mono HB2.out.size))
    clear hb3 HWC
    generalize textS ⟨t, ls.map (·.1)⟩ = tx at *
    by_cases hx : 200000 < tx.size
    · have HR := Lib.hid (HT1.out.trans (if_pos hx))
      have hx' : (200000 : Int) < tx.size := by omega
      go_wp2
      go_ret2
      exact TxP.mk HR.out HB3.out
    · have HR := Lib.hid (HT1.out.trans (if_neg hx))
      have hx' : (tx.size : Int) ≤ 200000 := by omega
      go_wp2
      go_ret2
      exact TxP.mk HR.out HB3.out
  · have HR := Lib.hid (show txV ⟨t, ls.map (·.1)⟩ = (⟨#[]⟩, chkE ⟨t, ls.map (·.1)⟩) from if_pos hc)
    have hne : (chkE ⟨t, ls.map (·.1)⟩ != 0) = true := by rw [bne_iff_ne]; exact hc
    clear HTV
    generalize chkE ⟨t, ls.map (·.1)⟩ = ce at *
    clear hc
    go_wp2
    go_ret2
    exact TxP.mk HR.out HB2.out
end Go.Proofs.YtmofncdjhdnoiaaGreatDoor

