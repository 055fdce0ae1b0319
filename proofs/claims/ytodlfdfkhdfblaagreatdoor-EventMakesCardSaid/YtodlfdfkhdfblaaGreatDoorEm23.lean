/- Texts packed: MkJ. -/
import Derived.Test.YtodlfdfkhdfblaaGreatDoorRows
import Derived.Test.YtodlfdfkhdfblaaGreatDoorEm02
import Derived.Test.YtodlfdfkhdfblaaGreatDoorEm13
import Derived.Test.YtodlfdfkhdfblaaGreatDoorEm16
import Derived.RegionTactic
/- The events that clips make; the joins between events. Printed by mkw.py (the two packages' texts are alike). -/
namespace Go.Proofs.YtodlfdfkhdfblaaGreatDoor
set_option linter.unusedVariables false
open Go.RowKit

set_option maxHeartbeats 1600000 in
theorem Joins_c (es : List Ev) (v : Value) (F : Nat → Prop) (w : World) (hv : Sli evR w F es v) (hF : ∀ b, F b → b < w.heap.size) (hl : es.length ≤ 140737488355328) :
    Calls Tryz.prog 17 #[v] w fun e w' => e = .returned (.int .i64 (joinsN es (es.length - 1))) ∧ Below w.heap.size w w' := by
  obtain ⟨A, c, rfl, hlc, hc⟩ := hv.form
  have H1 := Lib.hid hv; clear hv
  have HF := Lib.hid hF; clear hF
  obtain ⟨n, hn⟩ : ∃ n, es.length = n := ⟨_, rfl⟩
  rw [hn] at H1 hlc hl ⊢
  have HN := Lib.hid hn
  clear hn
  go_enter Tryz.func17, Tryz.ntmps17
  go_wp2
  go_loopw [3, 4] (fun m i wr => ∃ k : Nat, (k + 1 ≤ n ∨ k = 0) ∧ i = .int .i64 ((k + 1 : Nat) : Int) ∧ m = .int .i64 (joinsN es k) ∧ Below w.heap.size w wr) (fun _ i _ => n - (intOf i).toNat)
  case atStart => exact ⟨0, .inr rfl, rfl, rfl, Below.refl _ _⟩
  case round =>
    obtain ⟨k, hk, rfl, rfl, hb⟩ := hrel
    have hjl := joinsN_le es k
    by_cases hlt : k + 1 < n
    · obtain ⟨b, off, rfl, hfb, c0, c1, c2⟩ := evAt (H1.out.below hb HF.out) k (by rw [HN.out]; omega)
      obtain ⟨b2, off2, e2, hfb2, d0, d1, d2⟩ := evAt (H1.out.below hb HF.out) (k + 1) (by rw [HN.out]; omega)
      injection e2 with e2
      injection e2 with e2 e3
      subst e2; subst e3
      have HS := Lib.hid (joinsN_step es k (by rw [HN.out]; omega))
      generalize es[k]'(by rw [HN.out]; omega) = x at *
      generalize es[k + 1]'(by rw [HN.out]; omega) = y at *
      have hi1 : IntKind.i64.wrap (((k + 1 : Nat) : Int) - 1) = (k : Int) := by rw [show ((k + 1 : Nat) : Int) - 1 = (k : Int) by omega]; exact IntWalk.i64_in _ (by omega)
      have hL : ∀ a b : ByteArray, ¬ a = b → ¬ a.toList = b.toList := fun a b hab e => by
        have := beqS a b
        rw [e] at this; simp [hab] at this
      have hik : ((k + 1 : Nat) : Int).toNat = k + 1 := by omega
      by_cases q1 : y.roll = x.roll
      · by_cases q2 : y.tin = x.tout
        · have HJ := Lib.hid (show joinB x y = false by simp [joinB, q1, q2])
          have q1' : y.roll.toList = x.roll.toList := by rw [q1]
          clear hL q1
          go_wp2
          go_region
          go_wp2
          go_roundw
          case rel => exact ⟨k + 1, .inl (by omega), intNum, by rw [HS.out, HJ.out]; simp, by first | exact hb | exact hb.drew | exact below_drewN hb _⟩
          case measure => simp [intOf]; omega
        · have HJ := Lib.hid (show joinB x y = true by simp [joinB, q2])
          have q1' : y.roll.toList = x.roll.toList := by rw [q1]
          clear hL q1
          go_wp2
          go_region
          go_wp2
          go_roundw
          case rel => exact ⟨k + 1, .inl (by omega), intNum, by rw [HS.out, HJ.out]; simp, by first | exact hb | exact hb.drew | exact below_drewN hb _⟩
          case measure => simp [intOf]; omega
      · have HJ := Lib.hid (show joinB x y = true by simp [joinB, q1])
        have q1' : (y.roll.toList == x.roll.toList) = false := by rw [beqS]; simp [q1]
        have q2' : (y.roll.toList != x.roll.toList) = true := by rw [bne, q1']; rfl
        clear hL q1
        go_wp2
        go_region
        go_wp2
        go_roundw
        case rel => exact ⟨k + 1, .inl (by omega), intNum, by rw [HS.out, HJ.out]; simp, by first | exact hb | exact hb.drew | exact below_drewN hb _⟩
        case measure => simp [intOf]; omega
    · have hkn : k = n - 1 := by omega
      have HE := Lib.hid (show joinsN es (n - 1) = joinsN es k by rw [hkn])
      clear hkn
      go_wp2
      go_ret
      exact ⟨ret_int HE.out.symm, hb⟩

set_option maxHeartbeats 1600000 in
theorem JoinsOf_c (es : List Ev) (v : Value) (F : Nat → Prop) (w : World) (hv : Sli evR w F es v) (hF : ∀ b, F b → b < w.heap.size) (hl : es.length ≤ 140737488355328) :
    Calls Tryz.prog 18 #[v] w fun e w' => e = .returned (.int .i64 (joinsN es (es.length - 1))) ∧ Below w.heap.size w w' := by
  obtain ⟨A, c, rfl, hlc, hc⟩ := hv.form
  have H1 := Lib.hid hv; clear hv
  have HF := Lib.hid hF; clear hF
  obtain ⟨n, hn⟩ : ∃ n, es.length = n := ⟨_, rfl⟩
  rw [hn] at H1 hlc hl ⊢
  have HN := Lib.hid hn
  clear hn
  go_enter Tryz.func18, Tryz.ntmps18
  go_wp2
  go_loopw [3, 4] (fun m i wr => ∃ k : Nat, (k + 1 ≤ n ∨ k = 0) ∧ i = .int .i64 ((k + 1 : Nat) : Int) ∧ m = .int .i64 (joinsN es k) ∧ Below w.heap.size w wr) (fun _ i _ => n - (intOf i).toNat)
  case atStart => exact ⟨0, .inr rfl, rfl, rfl, Below.refl _ _⟩
  case round =>
    obtain ⟨k, hk, rfl, rfl, hb⟩ := hrel
    have hjl := joinsN_le es k
    by_cases hlt : k + 1 < n
    · obtain ⟨b, off, rfl, hfb, c0, c1, c2⟩ := evAt (H1.out.below hb HF.out) k (by rw [HN.out]; omega)
      obtain ⟨b2, off2, e2, hfb2, d0, d1, d2⟩ := evAt (H1.out.below hb HF.out) (k + 1) (by rw [HN.out]; omega)
      injection e2 with e2
      injection e2 with e2 e3
      subst e2; subst e3
      have HS := Lib.hid (joinsN_step es k (by rw [HN.out]; omega))
      generalize es[k]'(by rw [HN.out]; omega) = x at *
      generalize es[k + 1]'(by rw [HN.out]; omega) = y at *
      have hi1 : IntKind.i64.wrap (((k + 1 : Nat) : Int) - 1) = (k : Int) := by rw [show ((k + 1 : Nat) : Int) - 1 = (k : Int) by omega]; exact IntWalk.i64_in _ (by omega)
      have hL : ∀ a b : ByteArray, ¬ a = b → ¬ a.toList = b.toList := fun a b hab e => by
        have := beqS a b
        rw [e] at this; simp [hab] at this
      have hik : ((k + 1 : Nat) : Int).toNat = k + 1 := by omega
      by_cases q1 : y.roll = x.roll
      · by_cases q2 : y.tin = x.tout
        · have HJ := Lib.hid (show joinB x y = false by simp [joinB, q1, q2])
          have q1' : y.roll.toList = x.roll.toList := by rw [q1]
          clear hL q1
          go_wp2
          go_region
          go_wp2
          go_roundw
          case rel => exact ⟨k + 1, .inl (by omega), intNum, by rw [HS.out, HJ.out]; simp, by first | exact hb | exact hb.drew | exact below_drewN hb _⟩
          case measure => simp [intOf]; omega
        · have HJ := Lib.hid (show joinB x y = true by simp [joinB, q2])
          have q1' : y.roll.toList = x.roll.toList := by rw [q1]
          clear hL q1
          go_wp2
          go_region
          go_wp2
          go_roundw
          case rel => exact ⟨k + 1, .inl (by omega), intNum, by rw [HS.out, HJ.out]; simp, by first | exact hb | exact hb.drew | exact below_drewN hb _⟩
          case measure => simp [intOf]; omega
      · have HJ := Lib.hid (show joinB x y = true by simp [joinB, q1])
        have q1' : (y.roll.toList == x.roll.toList) = false := by rw [beqS]; simp [q1]
        have q2' : (y.roll.toList != x.roll.toList) = true := by rw [bne, q1']; rfl
        clear hL q1
        go_wp2
        go_region
        go_wp2
        go_roundw
        case rel => exact ⟨k + 1, .inl (by omega), intNum, by rw [HS.out, HJ.out]; simp, by first | exact hb | exact hb.drew | exact below_drewN hb _⟩
        case measure => simp [intOf]; omega
    · have hkn : k = n - 1 := by omega
      have HE := Lib.hid (show joinsN es (n - 1) = joinsN es k by rw [hkn])
      clear hkn
      go_wp2
      go_ret
      exact ⟨ret_int HE.out.symm, hb⟩
end Go.Proofs.YtodlfdfkhdfblaaGreatDoor

