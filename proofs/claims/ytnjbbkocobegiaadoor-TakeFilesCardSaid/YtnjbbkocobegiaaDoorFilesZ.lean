/- Copies looked up; the reference's errors of copies. -/
import Derived.Test.YtnjbbkocobegiaaDoorFilesY
import Derived.Test.YtnjbbkocobegiaaDoorFilesM
namespace Go.Proofs.YtnjbbkocobegiaaDoor
set_option linter.unusedVariables false
open Go.RowKit

set_option maxHeartbeats 400000 in
theorem idxCop_c (l : List Copied) (v : Value) (g : Nat) (cb : Array Value) (p : Copied → Bool) (F : Nat → Prop) (w : World) (hv : Sli copR w F l v) (hF : ∀ b, F b → b < w.heap.size) (hp : PredC Tryd.prog g cb Copied.val p w) :
    Calls Tryd.prog 25 #[v, .func (.func g) #[] cb] w fun e w' => e = .returned (.int .i64 (idxV (l.findIdx? p))) ∧ Below w.heap.size w w' := by
  obtain ⟨A, c, rfl, hlc, hc64⟩ := hv.form
  have HV := Lib.hid hv; clear hv
  have HF := Lib.hid hF; clear hF
  have eg := hp.1
  have HP := Lib.hid hp.2; clear hp
  go_enter Tryd.func25, Tryd.ntmps25
  go_wp2
  go_loopw [5, 8] (fun v i wr => ∃ k : Nat, k ≤ l.length ∧ i = .int .i64 k ∧ Below w.heap.size w wr ∧ Hid (∀ x ∈ l.take k, p x = false)) (fun _ i _ => l.length - (intOf i).toNat)
  case atStart => exact ⟨0, Nat.zero_le _, rfl, Below.refl _ _, by intro x hx; simp at hx⟩
  case round =>
    obtain ⟨k, hk, rfl, hb, HN⟩ := hrel
    by_cases hlt : k < l.length
    · obtain ⟨b, off, rfl, hfb, c0, c1, c2⟩ := copAt (HV.out.below hb HF.out) k hlt
      cases hv : p l[k]
      all_goals
        have HV := Lib.hid hv; clear hv
        go_wp2_with fail
        refine (HP.out l[k] wr hb).mono ?_
        rintro e w' ⟨rfl, hb'⟩
        rw [HV.out]
        go_wp2
      · go_roundw
        case rel => exact ⟨k + 1, by omega, intNum, hb.trans (hb'.mono hb.size), take_next hlt HN.out HV.out⟩
        case measure => simp [intOf]; omega
      · go_ret
        have H := findIdx_at HN.out hlt HV.out
        exact ⟨by rw [H]; rfl, hb.trans (hb'.mono hb.size)⟩
    · go_wp2
      go_ret
      have H := findIdx_no (take_all hlt HN.out)
      exact ⟨by rw [H]; rfl, hb⟩

set_option maxHeartbeats 400000 in
theorem place_p (s : ByteArray) (b : Nat) (w : World) (h : w.cell? ⟨b, 0, none⟩ = some (.string s)) (hlt : b < w.heap.size) :
    PredC Tryd.prog 26 #[.pointer (some ⟨b, 0, none⟩)] Copied.val (fun y => decide (y.name = s)) w := by
  refine ⟨fun _ _ => by kernel_rfl, fun x W hb => ?_⟩
  have hc := (hb.cell (p := ⟨b, 0, none⟩) hlt).trans h
  have hs := hb.size
  have hl : b < W.heap.size := by omega
  clear h hb hlt hs
  show Calls Tryd.prog _ #[.agg #[.string x.name, .int .i64 x.size, .string x.sum], .pointer (some ⟨b, 0, none⟩)] W _
  go_enter Tryd.func26, Tryd.ntmps26
  go_wp2
  go_ret
  exact ⟨ret_bool (beqS _ _), (Below.refl _ _).alloc (Nat.le_refl _) _⟩

/-- The first copy of a name. -/
def placeL (l : List Copied) (s : ByteArray) : Option Nat := l.findIdx? fun y => decide (y.name = s)
set_option maxHeartbeats 400000 in
theorem place_c (l : List Copied) (s : ByteArray) (v : Value) (F : Nat → Prop) (w : World) (hv : Sli copR w F l v) (hF : ∀ b, F b → b < w.heap.size) :
    Calls Tryd.prog 24 #[v, .string s] w fun e w' => e = .returned (.int .i64 (idxV (placeL l s))) ∧ Below w.heap.size w w' := by
  have HV := Lib.hid hv; clear hv
  have HF := Lib.hid hF; clear hF
  go_enter Tryd.func24, Tryd.ntmps24
  go_wp2_with fail
  refine (idxCop_c l v 26 #[.pointer (some ⟨w.heap.size, 0, none⟩)] (fun y => decide (y.name = s)) F _ (HV.out.alloc _ HF.out) (fun b h => by have := HF.out b h; simp; omega) (place_p s w.heap.size _ (by simp) (by simp))).mono ?_
  rintro e w1 ⟨rfl, hb1⟩
  rw [show l.findIdx? (fun y => decide (y.name = s)) = placeL l s from rfl]
  go_wp2
  go_ret
  exact ⟨rfl, ((Below.refl _ _).alloc (Nat.le_refl _) _).trans (hb1.mono (by simp))⟩
end Go.Proofs.YtnjbbkocobegiaaDoor
