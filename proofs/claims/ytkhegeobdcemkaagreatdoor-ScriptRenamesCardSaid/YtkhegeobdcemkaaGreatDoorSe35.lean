/- Texts packed: CsW, CoW. -/
import Derived.Test.YtkhegeobdcemkaaGreatDoorSe30
import Derived.Test.YtkhegeobdcemkaaGreatDoorSe09
import Derived.Test.YtkhegeobdcemkaaGreatDoorSe01
import Derived.Test.YtkhegeobdcemkaaGreatDoorSe34
import Derived.Deep.DeepCutAuto
/- script.Cast, walked. -/
namespace Go.Proofs.YtkhegeobdcemkaaGreatDoor
set_option linter.unusedVariables false
open Go.RowKit Go.Sort

abbrev RxG (w : World) (l : List Rx) (v : Value) (P : List Pb) (wx : World) : Prop := BM rxR 41 w l v P wx
end Go.Proofs.YtkhegeobdcemkaaGreatDoor

/- slices.IndexFunc over roles; R.CastOf's question, walked. -/
namespace Go.Proofs.YtkhegeobdcemkaaGreatDoor
set_option linter.unusedVariables false
open Go.RowKit Go.Sort

def Rx.val (r : Rx) : Value := .agg #[.string r.nm, .int .i64 r.sc, .int .i64 r.sp, .int .i64 r.wd]
theorem rx_at {w : World} {F : Nat → Prop} {l : List Rx} {A : Option Addr} {n c : Nat} (h : Sli rxR w F l (.slice A n c)) (k : Nat) (hk : k < l.length) :
    ∃ b off, A = some ⟨b, off, none⟩ ∧ F b ∧ w.cell? ⟨b, off + k * 4, none⟩ = some (.string l[k].nm) ∧ w.cell? ⟨b, off + k * 4 + 1, none⟩ = some (.int .i64 l[k].sc) ∧ w.cell? ⟨b, off + k * 4 + 2, none⟩ = some (.int .i64 l[k].sp) ∧ w.cell? ⟨b, off + k * 4 + 3, none⟩ = some (.int .i64 l[k].wd) := by
  obtain ⟨b, off, a, ea, hb, e, hc⟩ := h.at_ k hk
  have e' : a = Rx.cells l[k] := e
  subst e'
  exact ⟨b, off, ea, hb, hc 0 _ rfl, hc 1 _ rfl, hc 2 _ rfl, hc 3 _ rfl⟩
set_option maxHeartbeats 800000 in
theorem idxRole_c {F : Nat → Prop} (l : List Rx) (v : Value) (g : Nat) (cb : Array Value) (p : Rx → Bool) (w : World) (hv : Sli rxR w F l v) (hF : ∀ b, F b → b < w.heap.size) (hlen : l.length ≤ 1000000000)
    (hp : PredC Tryz.prog g cb Rx.val p w) :
    Calls Tryz.prog 48 #[v, .func (.func g) #[] cb] w fun e w' => e = .returned (.int .i64 (idxV (l.findIdx? p))) ∧ Below w.heap.size w w' := by
  obtain ⟨A, c, rfl, _, _⟩ := hv.form
  have eg := hp.1
  have HP := Lib.hid hp.2
  have HV := Lib.hid hv
  have HF := Lib.hid hF
  obtain ⟨L, hL⟩ : ∃ L, l.length = L := ⟨_, rfl⟩
  have HL := Lib.hid hL
  rw [hL] at HV hlen ⊢
  clear hp hv hF hL
  go_enter Tryz.func48, Tryz.ntmps48
  go_wp2
  go_loopw [5, 8] (fun v i wr => ∃ k : Nat, k ≤ L ∧ i = .int .i64 k ∧ Below w.heap.size w wr ∧ Hid (∀ x ∈ l.take k, p x = false)) (fun _ i _ => L - (intOf i).toNat)
  case atStart => exact ⟨0, Nat.zero_le _, rfl, Below.refl _ _, by intro x hx; simp at hx⟩
  case round =>
    obtain ⟨k, hk, rfl, hb, HN⟩ := hrel
    by_cases hlt : k < L
    · have hk2 : k < l.length := by rw [HL.out]; exact hlt
      obtain ⟨b, off, rfl, hfb, c0, c1, c2, c3⟩ := rx_at (HV.out.below hb HF.out) k hk2
      have HNX := Lib.hid (fun (h : p (l[k]'hk2) = false) => take_next (q := fun x => p x = false) hk2 HN.out h)
      have HAT := Lib.hid (fun (h : p (l[k]'hk2) = true) => findIdx_at (p := p) HN.out hk2 h)
      generalize (l[k]'hk2) = x at *
      have HPX := Lib.hid (HP.out x wr hb)
      have HBB := Lib.hid hb
      rw [show x.val = .agg #[.string x.nm, .int .i64 x.sc, .int .i64 x.sp, .int .i64 x.wd] from rfl] at HPX
      clear hk2 HN hb
      cases hv : p x
      all_goals
        have HV := Lib.hid hv; clear hv
        go_wp2_with fail
        refine HPX.out.mono ?_
        rintro e w' ⟨rfl, hb'⟩
        have HB2 := Lib.hid (HBB.out.trans (hb'.mono HBB.out.size))
        clear hb'
        rw [HV.out]
        go_wp2
      · go_roundw
        case rel => exact ⟨k + 1, by omega, intNum, HB2.out, HNX.out HV.out⟩
        case measure => simp [intOf]; omega
      · go_ret
        exact ⟨by rw [HAT.out HV.out]; rfl, HB2.out⟩
    · go_wp2
      go_ret
      have H := findIdx_no (take_all (q := fun x : Rx => p x = false) (by rw [HL.out]; exact hlt) HN.out)
      exact ⟨by rw [H]; rfl, hb⟩
set_option maxHeartbeats 400000 in
theorem castOf1_p (s : ByteArray) (b : Nat) (w : World) (h : w.cell? ⟨b, 2, none⟩ = some (.string s)) (hlt : b < w.heap.size) :
    PredC Tryz.prog 49 #[.pointer (some ⟨b, 0, none⟩)] Rx.val (fun y => decide (y.nm = s)) w := by
  refine ⟨fun _ _ => by kernel_rfl, fun x W hb => ?_⟩
  have hc : W.cell? ⟨b, 2, none⟩ = some (.string s) := (hb.cell (p := ⟨b, 2, none⟩) hlt).trans h
  have hs := hb.size
  have hl : b < W.heap.size := by omega
  clear h hb hlt hs
  show Calls Tryz.prog _ #[.agg #[.string x.nm, .int .i64 x.sc, .int .i64 x.sp, .int .i64 x.wd], .pointer (some ⟨b, 0, none⟩)] W _
  go_enter Tryz.func49, Tryz.ntmps49
  go_wp2
  go_ret
  exact ⟨ret_bool (beqS _ _), (Below.refl _ _).alloc (Nat.le_refl _) _⟩
end Go.Proofs.YtkhegeobdcemkaaGreatDoor

