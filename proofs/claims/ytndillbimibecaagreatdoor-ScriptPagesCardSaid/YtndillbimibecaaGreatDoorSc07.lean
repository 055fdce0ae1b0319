/- Texts packed: LineA. -/
import Derived.Test.YtndillbimibecaaGreatDoorSc06
import Derived.Test.YtndillbimibecaaGreatDoorSc02
import Derived.RegionTactic
/- Lines of paragraphs: the program's, walked. -/
namespace Go.Proofs.YtndillbimibecaaGreatDoor
set_option linter.unusedVariables false
open Go.RowKit

/-- A text with a backslash before it, if its first byte is one of some. -/
def escS (t bytes : ByteArray) : ByteArray := match t.data.toList with
  | [] => t
  | c :: _ => if c ∈ bytes.data.toList then ⟨#[92]⟩ ++ t else t
theorem escS_yes {t bytes : ByteArray} (h : 0 < t.size) (hc : t[0] ∈ bytes.data.toList) : escS t bytes = ⟨#[92]⟩ ++ t := by
  rcases t with ⟨⟨l⟩⟩
  cases l with
  | nil => exact absurd h (by show ¬ 0 < 0; omega)
  | cons c r => exact if_pos hc
theorem escS_no {t bytes : ByteArray} (h : 0 < t.size) (hc : ¬ t[0] ∈ bytes.data.toList) : escS t bytes = t := by
  rcases t with ⟨⟨l⟩⟩
  cases l with
  | nil => exact absurd h (by show ¬ 0 < 0; omega)
  | cons c r => exact if_neg hc
set_option maxHeartbeats 800000 in
theorem escaped_c (t bytes : ByteArray) (w : World) (h0 : 0 < t.size) (hs : t.size ≤ 1000000) : Calls Tryz.prog 139 #[.string t, .string bytes] w fun e w' => e = .returned (.string (escS t bytes)) ∧ w = w' := by
  have hz : (⟨#[92]⟩ : ByteArray).size = 1 := rfl
  have HII := Lib.hid (idxB_c bytes t[0] w)
  by_cases hc : t[0] ∈ bytes.data.toList
  · have HR := Lib.hid (escS_yes h0 hc)
    have hix : 0 ≤ Lib.indexByte bytes.data.toList t[0] := (idxB_mem _ _).1 hc
    clear hc
    go_enter Tryz.func139, Tryz.ntmps139
    go_wp2_with (first | (go_at_call 137; with_reducible refine HII.out.mono ?_; rintro e w' ⟨rfl, rfl⟩) | fail)
    go_ret
    exact ⟨ret_str HR.out.symm, rfl⟩
  · have HR := Lib.hid (escS_no h0 hc)
    have hix : ¬ 0 ≤ Lib.indexByte bytes.data.toList t[0] := fun h => hc ((idxB_mem _ _).2 h)
    clear hc
    go_enter Tryz.func139, Tryz.ntmps139
    go_wp2_with (first | (go_at_call 137; with_reducible refine HII.out.mono ?_; rintro e w' ⟨rfl, rfl⟩) | fail)
    go_ret
    exact ⟨ret_str HR.out.symm, rfl⟩
/-- The line of a paragraph. -/
def lineS (p : Para) : ByteArray :=
  if p.kind = 2 then ⟨#[64]⟩ ++ p.text
  else if p.kind = 3 then ⟨#[40]⟩ ++ p.text ++ ⟨#[41]⟩
  else if p.kind = 4 then escS p.text ⟨#[40, 92]⟩
  else if p.kind = 5 then ⟨#[62, 32]⟩ ++ p.text
  else escS p.text ⟨#[64, 62, 35, 92]⟩
def LnP (p : Para) (w : World) (e : Ending) (w' : World) : Prop := e = .returned (.string (lineS p)) ∧ Below w.heap.size w w'
theorem LnP.mk {p : Para} {q : ByteArray} {w w' : World} (h : lineS p = q) (hb : Below w.heap.size w w') : LnP p w (.returned (.string q)) w' := ⟨by rw [h], hb⟩
set_option maxHeartbeats 800000 in
theorem paraLine_c (p : Para) (w : World) (h0 : 0 < p.text.size) (hs : p.text.size ≤ 1000000) : Calls Tryz.prog 100 #[.agg #[.int .i64 p.kind, .string p.text]] w (LnP p w) := by
  obtain ⟨kind, s⟩ := p
  dsimp only at h0 hs ⊢
  have HB := Lib.hid ((Below.refl w.heap.size w).alloc (Nat.le_refl _) (.cells #[.int .i64 kind, .string s] 81))
  have HE := Lib.hid (fun bytes => escaped_c s bytes (w.alloc (.cells #[.int .i64 kind, .string s] 81)) h0 hs)
  have z1 : (⟨#[64]⟩ : ByteArray).size = 1 := rfl
  have z2 : (⟨#[40]⟩ ++ s : ByteArray).size = 1 + s.size := by rw [ByteArray.size_append]; rfl
  have z3 : (⟨#[62, 32]⟩ : ByteArray).size = 2 := rfl
  have z4 : (⟨#[40]⟩ : ByteArray).size = 1 := rfl
  have z5 : (⟨#[41]⟩ : ByteArray).size = 1 := rfl
  by_cases k2 : kind = 2
  · have HR := Lib.hid (show lineS ⟨kind, s⟩ = ⟨#[64]⟩ ++ s from if_pos k2)
    have k2' : (kind == 2) = true := by rw [k2]; rfl
    clear k2
    go_enter Tryz.func100, Tryz.ntmps100
    go_wp2
    go_ret
    exact LnP.mk HR.out HB.out
  have k2' : (kind == 2) = false := beq_eq_false_iff_ne.2 k2
  by_cases k3 : kind = 3
  · have HR := Lib.hid (show lineS ⟨kind, s⟩ = ⟨#[40]⟩ ++ s ++ ⟨#[41]⟩ by rw [lineS, if_neg k2, if_pos k3])
    have k3' : (kind == 3) = true := by rw [k3]; rfl
    clear k3 k2
    go_enter Tryz.func100, Tryz.ntmps100
    go_wp2
    go_ret
    exact LnP.mk HR.out HB.out
  have k3' : (kind == 3) = false := beq_eq_false_iff_ne.2 k3
  by_cases k4 : kind = 4
  · have HR := Lib.hid (show lineS ⟨kind, s⟩ = escS s ⟨#[40, 92]⟩ by rw [lineS, if_neg k2, if_neg k3, if_pos k4])
    have k4' : (kind == 4) = true := by rw [k4]; rfl
    clear k4 k3 k2
    go_enter Tryz.func100, Tryz.ntmps100
    go_wp2_with fail
    refine (HE.out _).mono ?_
    rintro e w2 ⟨rfl, rfl⟩
    generalize escS s ⟨#[40, 92]⟩ = Z at *
    go_wp2
    go_ret
    exact LnP.mk HR.out HB.out
  have k4' : (kind == 4) = false := beq_eq_false_iff_ne.2 k4
  by_cases k5 : kind = 5
  · have HR := Lib.hid (show lineS ⟨kind, s⟩ = ⟨#[62, 32]⟩ ++ s by rw [lineS, if_neg k2, if_neg k3, if_neg k4, if_pos k5])
    have k5' : (kind == 5) = true := by rw [k5]; rfl
    clear k5 k4 k3 k2
    go_enter Tryz.func100, Tryz.ntmps100
    go_wp2
    go_ret
    exact LnP.mk HR.out HB.out
  · have HR := Lib.hid (show lineS ⟨kind, s⟩ = escS s ⟨#[64, 62, 35, 92]⟩ by rw [lineS, if_neg k2, if_neg k3, if_neg k4, if_neg k5])
    have k5' : (kind == 5) = false := beq_eq_false_iff_ne.2 k5
    clear k5 k4 k3 k2
    go_enter Tryz.func100, Tryz.ntmps100
    go_wp2_with fail
    refine (HE.out _).mono ?_
    rintro e w2 ⟨rfl, rfl⟩
    generalize escS s ⟨#[64, 62, 35, 92]⟩ = Z at *
    go_wp2
    go_ret
    exact LnP.mk HR.out HB.out
end Go.Proofs.YtndillbimibecaaGreatDoor

