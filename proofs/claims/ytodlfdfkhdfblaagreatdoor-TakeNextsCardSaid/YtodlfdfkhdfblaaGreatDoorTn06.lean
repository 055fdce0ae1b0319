/- Texts packed: FilesW. -/
import Derived.Test.YtodlfdfkhdfblaaGreatDoorRows
import Derived.Test.YtodlfdfkhdfblaaGreatDoorTn01
import Derived.Test.YtodlfdfkhdfblaaGreatDoorTn05
import Derived.Test.YtodlfdfkhdfblaaGreatDoorTn02
/- The program's names of files, and copies checked. -/
namespace Go.Proofs.YtodlfdfkhdfblaaGreatDoor
set_option linter.unusedVariables false
open Go.RowKit

theorem idx_set (set : List UInt8) (c : UInt8) : (set.contains c = true → 0 ≤ Lib.indexByte set c) ∧ (set.contains c = false → Lib.indexByte set c < 0) := by
  have hg := Lib.indexByte_ge set c
  constructor
  · intro h
    by_cases h1 : Lib.indexByte set c = -1
    · have hm : c ∈ set := by simpa using h
      obtain ⟨k, hk, e⟩ := List.mem_iff_getElem.1 hm
      exact absurd (by rw [List.getElem?_eq_getElem hk, e]) (Lib.indexByte_none h1 k)
    · omega
  · intro h
    by_cases h1 : 0 ≤ Lib.indexByte set c
    · obtain ⟨o, ho⟩ := Int.eq_ofNat_of_zero_le h1
      obtain ⟨h2, _⟩ := Lib.indexByte_some ho
      have : c ∈ set := List.mem_of_getElem? h2
      simp at h; exact absurd this h
    · omega
/-- strings.IndexByte: below 0 just where the byte is none of the set. -/
theorem idxB_c (set : ByteArray) (c : UInt8) (w : World) : Calls Tryz.prog 135 #[.string set, .int .u8 (c.toNat : Int)] w fun e w' => e = .returned (.int .i64 (Lib.indexByte set.data.toList c)) ∧ w = w' := by
  refine (Tryz.strings_IndexByte set (c.toNat : Int) w).mono ?_
  rintro e w' ⟨he, hw⟩
  refine ⟨?_, hw.symm⟩
  rw [he]
  have : ((c.toNat : Int)).toNat.toUInt8 = c := by simp
  rw [this]

/-- A map of names that have come. -/
def seenN (pre : List ByteArray) (m : List (ByteArray × Value)) : Prop := ∀ x, lk m x = if (pre.any fun y => decide (y = x)) = true then some (.bool true) else none
theorem seenN_nil : seenN [] [] := fun x => rfl
theorem seenN_snoc {pre : List ByteArray} {m : List (ByteArray × Value)} (h : seenN pre m) (s : ByteArray) : seenN (pre ++ [s]) (up m s (.bool true)) := by
  intro x
  rw [lk_up, h x]
  by_cases hx : x = s
  · subst hx; simp
  · have h2 : (pre ++ [s]).any (fun y => decide (y = x)) = pre.any (fun y => decide (y = x)) := by
      rw [List.any_append, List.any_cons, List.any_nil, decide_eq_false (fun e => hx e.symm)]; simp
    rw [if_neg hx, h2]
theorem keyS' : PlainKey Tryz.prog 9 Value.string := plainKey_string Tryz.underlying9
theorem zeroB' (w : World) : (zeroValue 4).run Tryz.prog w = .ok (.bool false) w := by kernel_rfl

def FileF (pre : List ByteArray) (s : ByteArray) (mb : Nat) (w : World) (e : Ending) (w' : World) : Prop :=
  e = .returned (.int .i64 (nameF pre s)) ∧ w.grownBy w' (some mb) ∧ (nameF pre s = 0 → ∃ m', MapL w' mb Value.string m' ∧ seenN (pre ++ [s]) m')
theorem hexC_eq (s : ByteArray) : allB (([48, 49, 50, 51, 52, 53, 54, 55, 56, 57, 97, 98, 99, 100, 101, 102] : List UInt8).contains ·) s = allB hexC s := allB_congr (by decide +kernel) s
def TrimX (s : ByteArray) (w : World) (e : Ending) (w' : World) : Prop := ∃ t : ByteArray, e = .returned (.string t) ∧ (allB hexC s = true → t = ⟨#[]⟩) ∧ (allB hexC s = false → t.toList.isEmpty = false) ∧ Below w.heap.size w w'
theorem trimX_c (s : ByteArray) (w : World) (hs : s.size ≤ 140737488355328) : Calls Tryz.prog 131 #[.string s, .string ⟨#[48, 49, 50, 51, 52, 53, 54, 55, 56, 57, 97, 98, 99, 100, 101, 102]⟩] w (TrimX s w) := by
  refine (trim_c s _ w hs (by decide) (by decide)).mono ?_
  rintro e w' ⟨he, hb⟩
  refine ⟨_, he, fun h => ?_, fun h => ?_, hb⟩
  · rw [← hexC_eq] at h
    rw [(trimS_nil _ _).2 h]
  · rw [toList_mk]
    rw [← hexC_eq] at h
    cases hd : Lib.trimS s.data.toList (ByteArray.mk #[48, 49, 50, 51, 52, 53, 54, 55, 56, 57, 97, 98, 99, 100, 101, 102]).data.toList with
    | nil => have := (trimS_nil _ _).1 hd; rw [show s.data.toList.all _ = allB _ s from rfl] at this; rw [this] at h; cases h
    | cons y t => rfl
end Go.Proofs.YtodlfdfkhdfblaaGreatDoor

