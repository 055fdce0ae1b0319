/- The program's names of files, and copies checked. -/
import Derived.Test.YtnjbbkocobegiaaDoorRows
import Derived.Test.YtnjbbkocobegiaaDoorMap
import Derived.Test.YtnjbbkocobegiaaDoorHexW
import Derived.Test.YtnjbbkocobegiaaDoorFilesS
import Derived.Test.YtnjbbkocobegiaaDoorOwn
import Derived.Test.YtnjbbkocobegiaaDoorDecW
namespace Go.Proofs.YtnjbbkocobegiaaDoor
set_option linter.unusedVariables false
open Go.RowKit

theorem idx_set (set : List UInt8) (c : UInt8) : (set.contains c = true → 0 ≤ Lib.indexByte set c) ∧ (set.contains c = false → Lib.indexByte set c < 0) := by
  have hg := Lib.indexByte_ge set c
  constructor
  · intro h
    by_cases h1 : Lib.indexByte set c = -1
    · have hm : c ∈ set := by simpa using h
      obtain ⟨k, hk, e⟩ := List.mem_iff_getElem.1 hm
      exact absurd (by rw [List.getElem?_eq_getElem hk, e]) (Lib.indexByte_none h1 k)
    · omega
  · intro h
    by_cases h1 : 0 ≤ Lib.indexByte set c
    · obtain ⟨o, ho⟩ := Int.eq_ofNat_of_zero_le h1
      obtain ⟨h2, _⟩ := Lib.indexByte_some ho
      have : c ∈ set := List.mem_of_getElem? h2
      simp at h; exact absurd this h
    · omega
/-- strings.IndexByte: below 0 just where the byte is none of the set. -/
theorem idxB_c (set : ByteArray) (c : UInt8) (w : World) : Calls Tryd.prog 59 #[.string set, .int .u8 (c.toNat : Int)] w fun e w' => e = .returned (.int .i64 (Lib.indexByte set.data.toList c)) ∧ w = w' := by
  refine (Tryd.strings_IndexByte set (c.toNat : Int) w).mono ?_
  rintro e w' ⟨he, hw⟩
  refine ⟨?_, hw.symm⟩
  rw [he]
  have : ((c.toNat : Int)).toNat.toUInt8 = c := by simp
  rw [this]

set_option maxHeartbeats 800000 in
theorem isFile_c (s : ByteArray) (w : World) (hs : s.size ≤ 140737488355328) : Calls Tryd.prog 40 #[.string s] w fun e w' => e = .returned (.bool (fileB s)) ∧ w = w' := by
  go_enter Tryd.func40, Tryd.ntmps40
  go_wp2
  go_loop [3, 6] (fun _ i => ∃ k : Nat, k ≤ s.size ∧ i = .int .i64 k ∧ Hid (∀ x ∈ s.data.toList.take k, fileC x = true)) (fun _ i => s.size - (intOf i).toNat)
  case atStart => exact ⟨0, Nat.zero_le _, rfl, by intro x hx; simp at hx⟩
  case round =>
    obtain ⟨k, hk, rfl, HN⟩ := hrel
    by_cases hlt : k < s.size
    · have hu := s[k].toNat_lt
      have hi := idx_set [46, 95, 45] s[k]
      have hcs : ([46, 95, 45] : List UInt8).contains s[k] = (decide (s[k].toNat = 46) || decide (s[k].toNat = 95) || decide (s[k].toNat = 45)) := u8_eq (p := ([46, 95, 45] : List UInt8).contains) (q := fun c => decide (c.toNat = 46) || decide (c.toNat = 95) || decide (c.toNat = 45)) (by decide +kernel) s[k]
      have HC := fun (b : Bool) (h : fileC s[k] = b) => h
      have HI := idxB_c ⟨#[46, 95, 45]⟩ s[k]
      have hii : Lib.indexByte (ByteArray.mk #[46, 95, 45]).data.toList s[k] = Lib.indexByte [46, 95, 45] s[k] := rfl
      rw [hii] at HI
      generalize Lib.indexByte [46, 95, 45] s[k] = v at HI hi
      have HII := Lib.hid HI; clear HI hii
      cases hS : ([46, 95, 45] : List UInt8).contains s[k] with
      | true =>
        have hv := hi.1 hS
        have HP := Lib.hid (show fileC s[k] = true by rw [hS] at hcs; simp [fileC]; simp at hcs; omega)
        clear hi hcs hS HC
        go_wp2_with (first | (go_at_call 59; refine (HII.out _).mono ?_; rintro e w' ⟨rfl, rfl⟩) | fail)
        all_goals
          go_round
          case rel => exact ⟨k + 1, by omega, intNum, allB_next hlt HN.out HP.out⟩
          case measure => simp [intOf]; omega
      | false =>
        have hv := hi.2 hS
        have HS := Lib.hid (show ¬ (s[k].toNat = 46 ∨ s[k].toNat = 95 ∨ s[k].toNat = 45) by rw [hS] at hcs; simp at hcs; omega)
        clear hi hcs hS HC
        cases hp : fileC s[k] with
        | true =>
          have HP := Lib.hid hp
          have hn : (97 ≤ s[k].toNat ∧ s[k].toNat ≤ 122) ∨ (48 ≤ s[k].toNat ∧ s[k].toNat ≤ 57) := by have := HS.out; simp [fileC] at hp; omega
          clear hp
          rcases hn with hn | hn
          all_goals
            go_wp2_with (first | (go_at_call 59; refine (HII.out _).mono ?_; rintro e w' ⟨rfl, rfl⟩) | fail)
            all_goals
              go_round
              case rel => exact ⟨k + 1, by omega, intNum, allB_next hlt HN.out HP.out⟩
              case measure => simp [intOf]; omega
        | false =>
          have HP := Lib.hid hp
          have hn : ¬ (97 ≤ s[k].toNat ∧ s[k].toNat ≤ 122) ∧ ¬ (48 ≤ s[k].toNat ∧ s[k].toNat ≤ 57) := by simp [fileC] at hp; omega
          have HV := Lib.hid (show fileB s = false by unfold fileB; rw [allB_no hlt HP.out]; simp)
          clear hp
          obtain ⟨n1, n2⟩ := hn
          go_wp2_with (first | (go_at_call 59; refine (HII.out _).mono ?_; rintro e w' ⟨rfl, rfl⟩) | fail)
          all_goals
            first
            | (exfalso; omega)
            | (go_ret; exact ⟨ret_bool HV.out.symm, rfl⟩)
    · have H := allB_yes hlt HN.out
      have HR := Lib.hid (show fileB s = (decide (1 ≤ (s.size : Int)) && decide ((s.size : Int) ≤ 40)) by unfold fileB; rw [H, Bool.and_true, ← Bool.decide_and, decide_eq_decide]; omega)
      clear H
      go_wp2
      all_goals
        go_ret
        exact ⟨ret_bool (by rw [HR.out]; first | (simp; done) | (simp; omega)), rfl⟩

/-- A map of names that have come. -/
def seenN (pre : List ByteArray) (m : List (ByteArray × Value)) : Prop := ∀ x, lk m x = if (pre.any fun y => decide (y = x)) = true then some (.bool true) else none
theorem seenN_nil : seenN [] [] := fun x => rfl
theorem seenN_snoc {pre : List ByteArray} {m : List (ByteArray × Value)} (h : seenN pre m) (s : ByteArray) : seenN (pre ++ [s]) (up m s (.bool true)) := by
  intro x
  rw [lk_up, h x]
  by_cases hx : x = s
  · subst hx; simp
  · have h2 : (pre ++ [s]).any (fun y => decide (y = x)) = pre.any (fun y => decide (y = x)) := by
      rw [List.any_append, List.any_cons, List.any_nil, decide_eq_false (fun e => hx e.symm)]; simp
    rw [if_neg hx, h2]
theorem keyS' : PlainKey Tryd.prog 9 Value.string := plainKey_string Tryd.underlying9
theorem zeroB' (w : World) : (zeroValue 4).run Tryd.prog w = .ok (.bool false) w := by kernel_rfl

def FileF (pre : List ByteArray) (s : ByteArray) (mb : Nat) (w : World) (e : Ending) (w' : World) : Prop :=
  e = .returned (.int .i64 (nameF pre s)) ∧ w.grownBy w' (some mb) ∧ (nameF pre s = 0 → ∃ m', MapL w' mb Value.string m' ∧ seenN (pre ++ [s]) m')
set_option maxHeartbeats 800000 in
theorem fileFault_c (pre : List ByteArray) (s : ByteArray) (mb : Nat) (m : List (ByteArray × Value)) (w : World) (hs : s.size ≤ 140737488355328) (hm : MapL w mb Value.string m) (hS : seenN pre m) :
    Calls Tryd.prog 20 #[.string s, .map (some mb)] w (FileF pre s mb w) := by
  have HS := Lib.hid hS; clear hS
  have gr : w.grownBy w (some mb) := ⟨rfl, rfl, rfl, Nat.le_refl _, fun _ _ _ => rfl⟩
  cases h1 : fileB s with
  | false =>
    have HV := Lib.hid (show nameF pre s = 5 from if_pos h1)
    have H1 := Lib.hid h1; clear h1
    go_enter Tryd.func20, Tryd.ntmps20
    go_wp2_with fail
    refine (isFile_c s _ hs).mono ?_
    rintro e w' ⟨rfl, rfl⟩
    rw [H1.out]
    go_wp2
    go_ret
    exact ⟨ret_int HV.out.symm, gr, fun h => by rw [HV.out] at h; cases h⟩
  | true =>
    have H1 := Lib.hid h1
    cases h2 : pre.any fun y => decide (y = s) with
    | true =>
      have HV := Lib.hid (show nameF pre s = 6 by unfold nameF; rw [if_neg (by rw [h1]; simp), if_pos h2])
      have HL := Lib.hid ((HS.out s).trans (by rw [h2]; rfl : _ = some (.bool true)))
      clear h1 h2
      go_enter Tryd.func20, Tryd.ntmps20
      go_wp2_with fail
      refine (isFile_c s _ hs).mono ?_
      rintro e w' ⟨rfl, rfl⟩
      rw [H1.out]
      go_wp2_with (at_lookup; refine wpList_lookup_plain _ rfl _ _ 49 false rfl 9 4 keyS' Tryd.underlying49 (.bool false) (zeroB' _) mb m rfl hm s rfl ?_; rw [HL.out]; simp only [Bool.false_eq_true, if_false, Option.getD_some])
      go_ret
      exact ⟨ret_int HV.out.symm, gr, fun h => by rw [HV.out] at h; cases h⟩
    | false =>
      have HV := Lib.hid (show nameF pre s = 0 by unfold nameF; rw [if_neg (by rw [h1]; simp), if_neg (by rw [h2]; simp)])
      have HL := Lib.hid ((HS.out s).trans (by rw [h2]; rfl : _ = none))
      clear h1 h2
      go_enter Tryd.func20, Tryd.ntmps20
      go_wp2_with fail
      refine (isFile_c s _ hs).mono ?_
      rintro e w' ⟨rfl, rfl⟩
      rw [H1.out]
      go_wp2_with (first
        | (at_lookup; refine wpList_lookup_plain _ rfl _ _ 49 false rfl 9 4 keyS' Tryd.underlying49 (.bool false) (zeroB' _) mb m rfl hm s rfl ?_; rw [HL.out]; simp only [Bool.false_eq_true, if_false, Option.getD_none])
        | (at_mapUpdate; refine wpList_update_plain _ rfl _ _ _ 49 rfl 9 4 keyS' Tryd.underlying49 mb m rfl hm s rfl (.bool true) rfl ?_; intro w1 hm1 hg1))
      go_ret
      exact ⟨ret_int HV.out.symm, hg1, fun _ => ⟨_, hm1, seenN_snoc HS.out s⟩⟩

theorem hexC_eq (s : ByteArray) : allB (([48, 49, 50, 51, 52, 53, 54, 55, 56, 57, 97, 98, 99, 100, 101, 102] : List UInt8).contains ·) s = allB hexC s := allB_congr (by decide +kernel) s
def TrimX (s : ByteArray) (w : World) (e : Ending) (w' : World) : Prop := ∃ t : ByteArray, e = .returned (.string t) ∧ (allB hexC s = true → t = ⟨#[]⟩) ∧ (allB hexC s = false → t.toList.isEmpty = false) ∧ Below w.heap.size w w'
theorem trimX_c (s : ByteArray) (w : World) (hs : s.size ≤ 140737488355328) : Calls Tryd.prog 43 #[.string s, .string ⟨#[48, 49, 50, 51, 52, 53, 54, 55, 56, 57, 97, 98, 99, 100, 101, 102]⟩] w (TrimX s w) := by
  refine (trim_c s _ w hs (by decide) (by decide)).mono ?_
  rintro e w' ⟨he, hb⟩
  refine ⟨_, he, fun h => ?_, fun h => ?_, hb⟩
  · rw [← hexC_eq] at h
    rw [(trimS_nil _ _).2 h]
  · rw [toList_mk]
    rw [← hexC_eq] at h
    cases hd : Lib.trimS s.data.toList (ByteArray.mk #[48, 49, 50, 51, 52, 53, 54, 55, 56, 57, 97, 98, 99, 100, 101, 102]).data.toList with
    | nil => have := (trimS_nil _ _).1 hd; rw [show s.data.toList.all _ = allB _ s from rfl] at this; rw [this] at h; cases h
    | cons y t => rfl
end Go.Proofs.YtnjbbkocobegiaaDoor
