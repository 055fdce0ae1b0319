/- Texts packed: CoY. -/
import Derived.Test.YtkhegeobdcemkaaGreatDoorSc51
/- Lists of roles and tallies compared: the library's, walked where they are the same. -/
namespace Go.Proofs.YtkhegeobdcemkaaGreatDoor
set_option linter.unusedVariables false
open Go.RowKit Go.Sort

theorem tyAt2 {w : World} {F : Nat → Prop} {l : List Tly} {A : Option Addr} {n c : Nat} (h : Sli tyR w F l (.slice A n c)) (k : Nat) (hk : k < l.length) : ∃ b off, A = some ⟨b, off, none⟩ ∧ F b ∧ w.cell? ⟨b, off + k * 2, none⟩ = some (.string l[k].1) ∧ w.cell? ⟨b, off + k * 2 + 1, none⟩ = some (.int .i64 l[k].2) := by
  obtain ⟨b, off, a, e, hb, hr, hc⟩ := h.at_ k hk
  have ha : a = [.string l[k].1, .int .i64 l[k].2] := hr
  subst ha
  exact ⟨b, off, e, hb, hc 0 _ rfl, hc 1 _ rfl⟩
set_option maxRecDepth 100000 in
set_option maxHeartbeats 800000 in
/-- Two lists of the same roles. -/
theorem eqRole_c (l : List Rx) (v1 v2 : Value) (F : Nat → Prop) (w : World) (h1 : Sli rxR w F l v1) (h2 : Sli rxR w F l v2) (hF : ∀ b, F b → b < w.heap.size) :
    Calls Tryz.prog 13 #[v1, v2] w fun e w' => e = .returned (.bool true) ∧ Below w.heap.size w w' := by
  obtain ⟨A1, c1, rfl, hlc1, hc1⟩ := h1.form
  obtain ⟨A2, c2, rfl, hlc2, hc2⟩ := h2.form
  have H1 := Lib.hid h1; clear h1
  have H2 := Lib.hid h2; clear h2
  have HF := Lib.hid hF; clear hF
  obtain ⟨n, hn1⟩ : ∃ n, l.length = n := ⟨_, rfl⟩
  rw [hn1] at H1 H2 hlc1 hlc2 ⊢
  have HN := Lib.hid hn1
  clear hn1
  go_enter Tryz.func13, Tryz.ntmps13
  go_wp2
  go_loopw [13] (fun i wr => ∃ k : Nat, k ≤ n ∧ i = .int .i64 k ∧ Below w.heap.size w wr) (fun i _ => n - (intOf i).toNat)
  case atStart => exact ⟨0, Nat.zero_le _, rfl, Below.refl _ _⟩
  case round =>
    obtain ⟨k, hk, rfl, hb⟩ := hrel
    by_cases hlt : k < n
    · have hk2 : k < l.length := by rw [HN.out]; exact hlt
      obtain ⟨b, off, rfl, hfb, c0, c1, c2, c3⟩ := rx_at (H1.out.below hb HF.out) k hk2
      obtain ⟨b2, off2, rfl, hfb2, d0, d1, d2, d3⟩ := rx_at (H2.out.below hb HF.out) k hk2
      generalize l[k] = x at *
      obtain ⟨x1, _, x2, x3, x4⟩ := x
      dsimp only at c0 c1 c2 c3 d0 d1 d2 d3
      go_wp2
      go_region
      go_wp2
      go_roundw
      case rel => exact ⟨k + 1, by omega, intNum, by first | exact hb | exact hb.drew | exact below_drewN hb _⟩
      case measure => simp [intOf]; omega
    · go_wp2
      go_ret
      exact ⟨rfl, hb⟩
set_option maxRecDepth 100000 in
set_option maxHeartbeats 800000 in
/-- Two lists of the same tallies. -/
theorem eqTly_c (l : List Tly) (v1 v2 : Value) (F : Nat → Prop) (w : World) (h1 : Sli tyR w F l v1) (h2 : Sli tyR w F l v2) (hF : ∀ b, F b → b < w.heap.size) :
    Calls Tryz.prog 15 #[v1, v2] w fun e w' => e = .returned (.bool true) ∧ Below w.heap.size w w' := by
  obtain ⟨A1, c1, rfl, hlc1, hc1⟩ := h1.form
  obtain ⟨A2, c2, rfl, hlc2, hc2⟩ := h2.form
  have H1 := Lib.hid h1; clear h1
  have H2 := Lib.hid h2; clear h2
  have HF := Lib.hid hF; clear hF
  obtain ⟨n, hn1⟩ : ∃ n, l.length = n := ⟨_, rfl⟩
  rw [hn1] at H1 H2 hlc1 hlc2 ⊢
  have HN := Lib.hid hn1
  clear hn1
  go_enter Tryz.func15, Tryz.ntmps15
  go_wp2
  go_loopw [13] (fun i wr => ∃ k : Nat, k ≤ n ∧ i = .int .i64 k ∧ Below w.heap.size w wr) (fun i _ => n - (intOf i).toNat)
  case atStart => exact ⟨0, Nat.zero_le _, rfl, Below.refl _ _⟩
  case round =>
    obtain ⟨k, hk, rfl, hb⟩ := hrel
    by_cases hlt : k < n
    · have hk2 : k < l.length := by rw [HN.out]; exact hlt
      obtain ⟨b, off, rfl, hfb, c0, c1⟩ := tyAt2 (H1.out.below hb HF.out) k hk2
      obtain ⟨b2, off2, rfl, hfb2, d0, d1⟩ := tyAt2 (H2.out.below hb HF.out) k hk2
      generalize l[k] = x at *
      obtain ⟨x1, x2⟩ := x
      dsimp only at c0 c1 d0 d1
      go_wp2
      go_region
      go_wp2
      go_roundw
      case rel => exact ⟨k + 1, by omega, intNum, by first | exact hb | exact hb.drew | exact below_drewN hb _⟩
      case measure => simp [intOf]; omega
    · go_wp2
      go_ret
      exact ⟨rfl, hb⟩
end Go.Proofs.YtkhegeobdcemkaaGreatDoor

