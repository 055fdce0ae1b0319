/- Texts packed: FilesX, FilesY. -/
import Derived.Test.YtodlfdfkhdfblaaGreatDoorTn06
import Derived.Deep.RegionHeld3
import Derived.Deep.AppendLies
import Derived.BigQuiet
import Derived.Deep.QuietTactic
import Derived.Test.YtodlfdfkhdfblaaGreatDoorTn02
/- Lists of copies checked, and manifests made. -/
namespace Go.Proofs.YtodlfdfkhdfblaaGreatDoor
set_option linter.unusedVariables false
open Go.RowKit

def CopySz (l : List Copied) : Prop := ∀ x ∈ l, x.name.size ≤ 140737488355328 ∧ x.sum.size ≤ 140737488355328
end Go.Proofs.YtodlfdfkhdfblaaGreatDoor

/- Slices compared and looked through; the reference's names of files. -/
namespace Go.Proofs.YtodlfdfkhdfblaaGreatDoor
set_option linter.unusedVariables false
open Go.RowKit

theorem strAt {w : World} {F : Nat → Prop} {l : List ByteArray} {A : Option Addr} {n c : Nat} (h : Sli strR w F l (.slice A n c)) (k : Nat) (hk : k < l.length) : ∃ b off, A = some ⟨b, off, none⟩ ∧ F b ∧ w.cell? ⟨b, off + k, none⟩ = some (.string l[k]) := by
  obtain ⟨b, off, a, e, hb, hr, hc⟩ := h.at_ k hk
  have ha : a = [.string l[k]] := hr
  subst ha
  refine ⟨b, off, e, hb, ?_⟩
  have h := hc 0 _ rfl
  rw [show off + k * strR.n + 0 = off + k from by show off + k * 1 + 0 = _; omega] at h
  exact h
theorem copAt {w : World} {F : Nat → Prop} {l : List Copied} {A : Option Addr} {n c : Nat} (h : Sli copR w F l (.slice A n c)) (k : Nat) (hk : k < l.length) : ∃ b off, A = some ⟨b, off, none⟩ ∧ F b ∧ w.cell? ⟨b, off + k * 3, none⟩ = some (.string l[k].name) ∧ w.cell? ⟨b, off + k * 3 + 1, none⟩ = some (.int .i64 l[k].size) ∧ w.cell? ⟨b, off + k * 3 + 2, none⟩ = some (.string l[k].sum) := by
  obtain ⟨b, off, a, e, hb, hr, hc⟩ := h.at_ k hk
  have ha : a = (l[k]).cells := hr
  subst ha
  exact ⟨b, off, e, hb, hc 0 _ rfl, hc 1 _ rfl, hc 2 _ rfl⟩

theorem eq_take_next {α : Type} {a b : List α} {k : Nat} (h1 : k < a.length) (h2 : k < b.length) (h : a.take k = b.take k) (e : a[k] = b[k]) : a.take (k + 1) = b.take (k + 1) := by
  rw [List.take_succ_eq_append_getElem h1, List.take_succ_eq_append_getElem h2, h, e]
theorem ne_at {α : Type} {a b : List α} {k : Nat} (h1 : k < a.length) (h2 : k < b.length) (e : ¬ a[k] = b[k]) : ¬ a = b := by
  intro h; subst h; exact e rfl

instance : DecidableEq Copied := fun a b => decidable_of_iff (a.eqB b = true) Copied.eqB_iff
set_option maxHeartbeats 800000 in
theorem idxStr_c (l : List ByteArray) (s : ByteArray) (v : Value) (F : Nat → Prop) (w : World) (h1 : Sli strR w F l v) :
    Calls Tryz.prog 73 #[v, .string s] w fun e w' => e = .returned (.int .i64 (idxV (l.findIdx? fun y => decide (y = s)))) ∧ w = w' := by
  obtain ⟨A1, c1, rfl, hlc1, hc1⟩ := h1.form
  have H1 := Lib.hid h1; clear h1
  go_enter Tryz.func73, Tryz.ntmps73
  go_wp2
  go_loop [8] (fun i => ∃ k : Nat, k ≤ l.length ∧ i = .int .i64 k ∧ Hid (∀ x ∈ l.take k, decide (x = s) = false)) (fun i => l.length - (intOf i).toNat)
  case atStart => exact ⟨0, Nat.zero_le _, rfl, by intro x hx; simp at hx⟩
  case round =>
    obtain ⟨k, hk, rfl, HT⟩ := hrel
    by_cases hlt : k < l.length
    · obtain ⟨b, off, rfl, hfb, c0⟩ := strAt H1.out k hlt
      by_cases he : l[k] = s
      · have H := Lib.hid (findIdx_at (p := fun y => decide (y = s)) HT.out hlt (by simpa using he))
        rw [he] at c0
        clear he
        go_wp2
        go_ret
        exact ⟨by rw [H.out]; rfl, rfl⟩
      · have HN := Lib.hid (take_next (q := fun y => decide (y = s) = false) hlt HT.out (by simpa using he))
        generalize l[k] = x at *
        have hq : (s.toList == x.toList) = false := by rw [beqS]; simpa using (fun e => he e.symm)
        go_wp2
        go_round
        case rel => exact ⟨k + 1, by omega, intNum, HN.out⟩
        case measure => simp [intOf]; omega
    · have H := Lib.hid (findIdx_no (take_all hlt HT.out))
      go_wp2
      go_ret
      exact ⟨by rw [H.out]; rfl, rfl⟩
theorem contains_c (l : List ByteArray) (s : ByteArray) (v : Value) (F : Nat → Prop) (w : World) (h1 : Sli strR w F l v) :
    Calls Tryz.prog 81 #[v, .string s] w fun e w' => e = .returned (.bool (l.any fun y => decide (y = s))) ∧ w = w' := by
  have HC := Lib.hid (idxStr_c l s v F w h1); clear h1
  cases h : l.findIdx? (fun y => decide (y = s)) with
  | none =>
    have HV := Lib.hid (show (l.any fun y => decide (y = s)) = false by rw [List.findIdx?_eq_none_iff] at h; rw [List.any_eq_false]; intro x hx; simp [h x hx])
    rw [h] at HC
    go_enter Tryz.func81, Tryz.ntmps81
    go_wp2_with fail
    refine HC.out.mono ?_
    rintro e w' ⟨rfl, rfl⟩
    rw [show idxV none = -1 from rfl]
    go_wp2
    go_ret
    exact ⟨ret_bool (by rw [HV.out]), rfl⟩
  | some i =>
    have HV := Lib.hid (show (l.any fun y => decide (y = s)) = true by
      obtain ⟨hi, hp, _⟩ := List.findIdx?_eq_some_iff_getElem.1 h
      rw [List.any_eq_true]; exact ⟨_, List.getElem_mem hi, hp⟩)
    rw [h] at HC
    go_enter Tryz.func81, Tryz.ntmps81
    go_wp2_with fail
    refine HC.out.mono ?_
    rintro e w' ⟨rfl, rfl⟩
    rw [show idxV (some i) = (i : Int) from rfl]
    have : (0 : Int) ≤ (i : Int) := by omega
    go_wp2
    go_ret
    exact ⟨ret_bool (by rw [HV.out]), rfl⟩

end Go.Proofs.YtodlfdfkhdfblaaGreatDoor

