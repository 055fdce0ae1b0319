/- Texts packed: RefD, EvX, EvN, EvT, EvE. -/
import Derived.Test.YtmofncdjhdnoiaaGreatDoorRows
import Derived.Test.YtmofncdjhdnoiaaGreatDoorSc08
import Derived.Test.YtmofncdjhdnoiaaGreatDoorSc07
import Derived.Test.YtmofncdjhdnoiaaGreatDoorSc02
import Derived.Test.YtmofncdjhdnoiaaGreatDoorSc01
import Derived.Lib.ItoaLen
/- The reference's look-up of a roll, and its Sync. -/
namespace Go.Proofs.YtmofncdjhdnoiaaGreatDoor
set_option linter.unusedVariables false
open Go.RowKit

end Go.Proofs.YtmofncdjhdnoiaaGreatDoor

/- The reference's error of events, walked. -/
namespace Go.Proofs.YtmofncdjhdnoiaaGreatDoor
set_option linter.unusedVariables false
open Go.RowKit

end Go.Proofs.YtmofncdjhdnoiaaGreatDoor

/- The program's numbers of three figures; the reference's joined lines. -/
namespace Go.Proofs.YtmofncdjhdnoiaaGreatDoor
set_option linter.unusedVariables false
open Go.RowKit

/-- Lines, each with its end. -/
def linesL (l : List ByteArray) : List UInt8 := (l.map fun s => s.data.toList ++ [10]).flatten
theorem linesL_snoc (l : List ByteArray) (s : ByteArray) : linesL (l ++ [s]) = linesL l ++ (s.data.toList ++ [10]) := by simp [linesL]
theorem linesL_take (l : List ByteArray) (k : Nat) (hk : k < l.length) : linesL (l.take (k + 1)) = linesL (l.take k) ++ (l[k].data.toList ++ [10]) := by rw [List.take_succ_eq_append_getElem hk, linesL_snoc]
theorem linesL_le (l : List ByteArray) (k : Nat) : (linesL (l.take k)).length ≤ (linesL l).length := by
  have : linesL l = linesL (l.take k) ++ linesL (l.drop k) := by
    unfold linesL
    rw [← List.flatten_append, ← List.map_append, List.take_append_drop]
  rw [this, List.length_append]; omega

set_option maxHeartbeats 1600000 in
theorem Joined_c (l : List ByteArray) (v : Value) (F : Nat → Prop) (w : World) (hv : Sli strR w F l v) (hF : ∀ b, F b → b < w.heap.size) (hlen : (linesL l).length ≤ 140737488355328) :
    Calls Tryz.prog 48 #[v] w fun e w' => e = .returned (.string ⟨(linesL l).toArray⟩) ∧ Below w.heap.size w w' := by
  obtain ⟨A, c, rfl, hlc, hcm⟩ := hv.form
  have HV := Lib.hid hv; clear hv
  have HF := Lib.hid hF; clear hF
  go_enter Tryz.func48, Tryz.ntmps48
  go_wp2
  go_loopw [9] (fun i wr => ∃ k : Nat, k ≤ l.length ∧ i = .int .i64 k ∧ Below w.heap.size w wr ∧ w.heap.size < wr.heap.size ∧ Hid (Bld wr w.heap.size (linesL (l.take k)))) (fun i _ => l.length - (intOf i).toNat)
  case atStart => exact ⟨0, Nat.zero_le _, rfl, (Below.refl _ _).alloc (Nat.le_refl _) _, by simp, Bld.new w⟩
  case round =>
    obtain ⟨k, hk, rfl, hb, hz, HB⟩ := hrel
    by_cases hlt : k < l.length
    · obtain ⟨b, off, rfl, hfb, c0⟩ := strAt (HV.out.below hb HF.out) k hlt
      have HS := Lib.hid (linesL_take l k hlt)
      have h1 := linesL_le l (k + 1)
      rw [HS.out] at h1
      have h2 : (linesL (l.take k)).length + (l[k] ++ ⟨#[10]⟩ : ByteArray).size ≤ 140737488355328 := by
        rw [ByteArray.size_append]
        rw [List.length_append, List.length_append] at h1
        have e1 : l[k].data.toList.length = l[k].size := by simp
        rw [e1] at h1
        have e2 : (⟨#[10]⟩ : ByteArray).size = 1 := rfl
        have e3 : ([10] : List UInt8).length = 1 := rfl
        omega
      have HD := Lib.hid (show (l[k] ++ ⟨#[10]⟩ : ByteArray).data.toList = l[k].data.toList ++ [10] by simp)
      clear h1
      generalize l[k] = x at *
      have hxs : x.size ≤ 140737488355328 := by rw [ByteArray.size_append] at h2; omega
      have HBB := Lib.hid hb
      go_wp2_with fail
      refine (write_c w.heap.size _ _ _ HB.out h2).mono ?_
      rintro e w1 ⟨rfl, hb1, hb2⟩
      have HB1 := Lib.hid (HBB.out.trans hb2)
      rw [HD.out] at hb1
      have HX := Lib.hid hb1
      have hz1 := hb2.size
      clear hb1 hb2 h2
      go_wp2
      go_roundw
      case rel => exact ⟨k + 1, by omega, intNum, HB1.out, by omega, by rw [HS.out]; exact HX.out⟩
      case measure => simp [intOf]; omega
    · rw [List.take_of_length_le (by omega)] at HB
      have HBB := Lib.hid hb
      go_wp2_with fail
      refine (text_c w.heap.size _ _ HB.out).mono ?_
      rintro e w1 ⟨rfl, hb1⟩
      have HB1 := Lib.hid (HBB.out.trans hb1)
      clear hb1
      generalize hq : linesL l = q at *
      have HQ := Lib.hid hq
      have hqs : (⟨q.toArray⟩ : ByteArray).size ≤ 140737488355328 := by show q.toArray.size ≤ _; simpa using hlen
      clear hq
      generalize hY : (⟨q.toArray⟩ : ByteArray) = Y at hqs ⊢
      have HY := Lib.hid hY
      clear hY
      go_wp2
      go_ret
      exact ⟨ret_str (by rw [HQ.out, HY.out]; exact ByteArray.ext (by simp)), HB1.out⟩
end Go.Proofs.YtmofncdjhdnoiaaGreatDoor

/- Texts of events: their sizes. No program in sight. -/
namespace Go.Proofs.YtmofncdjhdnoiaaGreatDoor
set_option linter.unusedVariables false
open Go.RowKit

end Go.Proofs.YtmofncdjhdnoiaaGreatDoor

/- Lists of events compared; lines cut into words. -/
namespace Go.Proofs.YtmofncdjhdnoiaaGreatDoor
set_option linter.unusedVariables false
open Go.RowKit

instance : DecidableEq Ev := fun a b => decidable_of_iff (a.eqB b = true) Ev.eqB_iff
/-- The library's word for the longest text that its search by heart serves lies where it was laid. -/
def MaxLaid (w : World) : Prop := (∃ m, w.cell? ⟨3, 0, none⟩ = some (.int .i64 m)) ∧ 3 < w.heap.size
theorem max_below {w w' : World} {B : Nat} (h : MaxLaid w) (hb : Below B w w') (hB : w.heap.size ≤ B) : MaxLaid w' := by
  obtain ⟨⟨m, hm⟩, hl⟩ := h
  exact ⟨⟨m, (hb.cell (p := ⟨3, 0, none⟩) (by show 3 < B; omega)).trans hm⟩, Nat.lt_of_lt_of_le hl hb.size⟩
/-- Words of a text in memory. -/
def WordsP (s : ByteArray) (c : UInt8) (w : World) (e : Ending) (w' : World) : Prop :=
  e = .returned (.slice (some ⟨w.heap.size, 0, none⟩) (words s c).length (words s c).length) ∧ Sli strR w' (fun b => b = w.heap.size) (words s c) (.slice (some ⟨w.heap.size, 0, none⟩) (words s c).length (words s c).length) ∧ Below w.heap.size w w' ∧ w'.heap.size = w.heap.size + 1
theorem words_c (s : ByteArray) (c : UInt8) (w : World) (hs : s.size ≤ 4000000000) (hm : MaxLaid w) : Calls Tryz.prog 43 #[.string s, .string ⟨#[c]⟩] w (WordsP s c w) := by
  obtain ⟨⟨m, hm⟩, _⟩ := hm
  refine (Tryz.strings_Split s ⟨#[c]⟩ m w (by omega) hm (Nat.le_refl 1)).mono ?_
  rintro e w' ⟨rfl, rfl⟩
  have hl := words_le s c
  unfold WordsP
  rw [words_len]
  refine ⟨rfl, ?_, (Below.refl _ _).alloc (Nat.le_refl _) _, by simp⟩
  rw [← words_len]
  refine Sli.new _ _ ⟨by rw [List.length_map]; show _ = _ * 1; rw [Nat.mul_one]; rfl, fun k x hx => ?_⟩ rfl (Nat.le_refl _) (by omega)
  show (((words s c).map Value.string).drop (k * 1)).take 1 = [.string x]
  obtain ⟨hk, rfl⟩ := List.getElem?_eq_some_iff.1 hx
  rw [Nat.mul_one, List.drop_eq_getElem_cons (by rw [List.length_map]; exact hk), List.take_succ_cons, List.take_zero, List.getElem_map]
end Go.Proofs.YtmofncdjhdnoiaaGreatDoor

