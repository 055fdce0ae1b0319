/- Texts packed: TcD. -/
import Derived.Test.YtmefjkfjpgblcaaGreatDoorSc13
import Derived.Test.YtmefjkfjpgblcaaGreatDoorSc08
import Derived.Test.YtmefjkfjpgblcaaGreatDoorSc32
/- Searches: windows that overlap, takes of one name, takes that take a roll. -/
namespace Go.Proofs.YtmefjkfjpgblcaaGreatDoor
set_option linter.unusedVariables false
open Go.RowKit Go.Sort

def Wnd.val (p : Wnd) : Value := .agg #[.int .i64 p.1, .int .i64 p.2]
theorem wndAt {w : World} {F : Nat → Prop} {l : List Wnd} {A : Option Addr} {n c : Nat} (h : Sli winR w F l (.slice A n c)) (k : Nat) (hk : k < l.length) : ∃ b off, A = some ⟨b, off, none⟩ ∧ F b ∧ w.cell? ⟨b, off + k * 2, none⟩ = some (.int .i64 l[k].1) ∧ w.cell? ⟨b, off + k * 2 + 1, none⟩ = some (.int .i64 l[k].2) := by
  obtain ⟨b, off, a, e, hb, hr, hc⟩ := h.at_ k hk
  have ha : a = [.int .i64 (l[k]).1, .int .i64 (l[k]).2] := hr
  subst ha
  exact ⟨b, off, e, hb, hc 0 _ rfl, hc 1 _ rfl⟩
set_option maxHeartbeats 800000 in
theorem idxWnd_c {F : Nat → Prop} (l : List Wnd) (v : Value) (g : Nat) (cb : Array Value) (p : Wnd → Bool) (w : World) (hv : Sli winR w F l v) (hF : ∀ b, F b → b < w.heap.size) (hlen : l.length ≤ 1000000000)
    (hp : PredC Tryz.prog g cb Wnd.val p w) :
    Calls Tryz.prog 173 #[v, .func (.func g) #[] cb] w fun e w' => e = .returned (.int .i64 (idxV (l.findIdx? p))) ∧ Below w.heap.size w w' := by
  obtain ⟨A, c, rfl, _, _⟩ := hv.form
  have eg := hp.1
  have HP := Lib.hid hp.2
  have HV := Lib.hid hv
  have HF := Lib.hid hF
  obtain ⟨L, hL⟩ : ∃ L, l.length = L := ⟨_, rfl⟩
  have HL := Lib.hid hL
  rw [hL] at HV hlen ⊢
  clear hp hv hF hL
  go_enter Tryz.func173, Tryz.ntmps173
  go_wp2
  go_loopw [5, 8] (fun v i wr => ∃ k : Nat, k ≤ L ∧ i = .int .i64 k ∧ Below w.heap.size w wr ∧ Hid (∀ x ∈ l.take k, p x = false)) (fun _ i _ => L - (intOf i).toNat)
  case atStart => exact ⟨0, Nat.zero_le _, rfl, Below.refl _ _, by intro x hx; simp at hx⟩
  case round =>
    obtain ⟨k, hk, rfl, hb, HN⟩ := hrel
    by_cases hlt : k < L
    · have hk2 : k < l.length := by rw [HL.out]; exact hlt
      obtain ⟨b, off, rfl, hfb, c0, c1⟩ := wndAt (HV.out.below hb HF.out) k hk2
      have HNX := Lib.hid (fun (h : p (l[k]'hk2) = false) => take_next (q := fun x => p x = false) hk2 HN.out h)
      have HAT := Lib.hid (fun (h : p (l[k]'hk2) = true) => findIdx_at (p := p) HN.out hk2 h)
      generalize (l[k]'hk2) = x at *
      have HPX := Lib.hid (HP.out x wr hb)
      have HBB := Lib.hid hb
      rw [show x.val = .agg #[.int .i64 x.1, .int .i64 x.2] from rfl] at HPX
      clear hk2 HN hb
      cases hv : p x
      all_goals
        have HV := Lib.hid hv; clear hv
        go_wp2_with fail
        refine HPX.out.mono ?_
        rintro e w' ⟨rfl, hb'⟩
        have HB2 := Lib.hid (HBB.out.trans (hb'.mono HBB.out.size))
        clear hb'
        rw [HV.out]
        go_wp2
      · go_roundw
        case rel => exact ⟨k + 1, by omega, intNum, HB2.out, HNX.out HV.out⟩
        case measure => simp [intOf]; omega
      · go_ret
        exact ⟨by rw [HAT.out HV.out]; rfl, HB2.out⟩
    · go_wp2
      go_ret
      have H := findIdx_no (take_all (q := fun x : Wnd => p x = false) (by rw [HL.out]; exact hlt) HN.out)
      exact ⟨by rw [H]; rfl, hb⟩
theorem contWnd_c {F : Nat → Prop} (l : List Wnd) (v : Value) (g : Nat) (cb : Array Value) (p : Wnd → Bool) (w : World) (hv : Sli winR w F l v) (hF : ∀ b, F b → b < w.heap.size) (hlen : l.length ≤ 1000000000)
    (hp : PredC Tryz.prog g cb Wnd.val p w) :
    Calls Tryz.prog 96 #[v, .func (.func g) #[] cb] w fun e w' => e = .returned (.bool (l.any p)) ∧ Below w.heap.size w w' := by
  have HI := Lib.hid (idxWnd_c l v g cb p w hv hF hlen hp)
  have HZ := Lib.hid (idx_any l p)
  obtain ⟨A, c, rfl, _, _⟩ := hv.form
  generalize l.findIdx? p = z at *
  clear hv hF hp
  go_enter Tryz.func96, Tryz.ntmps96
  go_wp2_with fail
  refine HI.out.mono ?_
  rintro e w2 ⟨rfl, hb2⟩
  have HE := Lib.hid hb2
  clear hb2 HI
  generalize idxV z = i at *
  go_wp2
  go_ret
  exact ⟨ret_bool HZ.out, HE.out⟩
set_option maxHeartbeats 400000 in
theorem checkTakes1_p (t : Tk) (b : Nat) (w : World) (h5 : w.cell? ⟨b, 5, none⟩ = some (.int .i64 t.tin)) (h6 : w.cell? ⟨b, 6, none⟩ = some (.int .i64 t.tout)) (hlt : b < w.heap.size) :
    PredC Tryz.prog 97 #[.pointer (some ⟨b, 0, none⟩)] Wnd.val (ovl t) w := by
  refine ⟨fun _ _ => by kernel_rfl, fun x W hb => ?_⟩
  have hc5 : W.cell? ⟨b, 5, none⟩ = some (.int .i64 t.tin) := (hb.cell (p := ⟨b, 5, none⟩) hlt).trans h5
  have hc6 : W.cell? ⟨b, 6, none⟩ = some (.int .i64 t.tout) := (hb.cell (p := ⟨b, 6, none⟩) hlt).trans h6
  have hs := hb.size
  have hl : b < W.heap.size := by omega
  clear h5 h6 hb hlt hs
  show Calls Tryz.prog _ #[.agg #[.int .i64 x.1, .int .i64 x.2], .pointer (some ⟨b, 0, none⟩)] W _
  obtain ⟨a, d⟩ := x
  dsimp only
  by_cases h1 : a < t.tout
  · by_cases h2 : t.tin < d
    · have HE := Lib.hid (show ovl t (a, d) = true by unfold ovl; rw [decide_eq_true h1, decide_eq_true h2]; rfl)
      go_enter Tryz.func97, Tryz.ntmps97
      go_wp2
      go_ret
      exact ⟨ret_bool HE.out.symm, (Below.refl _ _).alloc (Nat.le_refl _) _⟩
    · have HE := Lib.hid (show ovl t (a, d) = false by unfold ovl; rw [decide_eq_true h1, decide_eq_false h2]; rfl)
      have h2' : d ≤ t.tin := by omega
      go_enter Tryz.func97, Tryz.ntmps97
      go_wp2
      go_ret
      exact ⟨ret_bool HE.out.symm, (Below.refl _ _).alloc (Nat.le_refl _) _⟩
  · have HE := Lib.hid (show ovl t (a, d) = false by unfold ovl; rw [decide_eq_false h1]; rfl)
    have h1' : t.tout ≤ a := by omega
    go_enter Tryz.func97, Tryz.ntmps97
    go_wp2
    go_ret
    exact ⟨ret_bool HE.out.symm, (Below.refl _ _).alloc (Nat.le_refl _) _⟩
/- Takes. -/
def PredK (P : Program) (g : Nat) (cb : Array Value) (p : Tk → Bool) (w : World) : Prop :=
  (∀ args W, (callFunc g args).run P W = .ok (.enter g args) W) ∧ ∀ (x : Tk) (A : Option Addr) (n c : Nat) (W : World), Below w.heap.size w W → Calls P g (#[.agg #[.string x.scene, .string x.setup, .int .i64 x.number, .string x.roll, .string x.sound, .int .i64 x.tin, .int .i64 x.tout, .bool x.good, .slice A n c]] ++ cb) W fun e w' => e = .returned (.bool (p x)) ∧ Below W.heap.size W w'
set_option maxHeartbeats 1600000 in
theorem idxTk_c {F : Nat → Prop} (l : List (Tk × Value)) (A : Option Addr) (n c g : Nat) (cb : Array Value) (p : Tk → Bool) (w : World) (hn : l.length = n) (hv : Sli tvR w F l (.slice A n c)) (hF : ∀ b, F b → b < w.heap.size) (hf : ∀ x ∈ l, ∃ A n c, x.2 = .slice A n c) (hlen : n ≤ 1000000)
    (hp : PredK Tryz.prog g cb p w) :
    Calls Tryz.prog 241 #[.slice A n c, .func (.func g) #[] cb] w fun e w' => e = .returned (.int .i64 (idxV (l.findIdx? fun x => p x.1))) ∧ Below w.heap.size w w' := by
  have eg := hp.1
  have HP := Lib.hid hp.2
  have HV := Lib.hid hv
  have HF := Lib.hid hF
  have HFO := Lib.hid hf
  have HL := Lib.hid hn
  clear hp hv hF hf hn
  go_enter Tryz.func241, Tryz.ntmps241
  go_wp2
  go_loopw [5, 8] (fun v i wr => ∃ k : Nat, k ≤ n ∧ i = .int .i64 k ∧ Below w.heap.size w wr ∧ Hid (∀ x ∈ l.take k, p x.1 = false)) (fun _ i _ => n - (intOf i).toNat)
  case atStart => exact ⟨0, Nat.zero_le _, rfl, Below.refl _ _, by intro x hx; simp at hx⟩
  case round =>
    obtain ⟨k, hk, rfl, hb, HN⟩ := hrel
    by_cases hlt : k < n
    · have hk2 : k < l.length := by rw [HL.out]; exact hlt
      obtain ⟨b, off, rfl, hfb, c0, c1, c2, c3, c4, c5, c6, c7, c8⟩ := tkAt (HV.out.below hb HF.out) k hk2
      obtain ⟨A8, n8, cc8, h8⟩ := HFO.out _ (List.getElem_mem hk2)
      have HNX := Lib.hid (fun (h : p (l[k]'hk2).1 = false) => take_next (q := fun x => p x.1 = false) hk2 HN.out h)
      have HAT := Lib.hid (fun (h : p (l[k]'hk2).1 = true) => findIdx_at (p := fun x => p x.1) HN.out hk2 h)
      rw [h8] at c8
      clear h8
      generalize (l[k]'hk2).1 = x at *
      have HPX := Lib.hid (HP.out x A8 n8 cc8 wr hb)
      have HBB := Lib.hid hb
      clear hk2 HN hb
      cases hv : p x
      all_goals
        have HV := Lib.hid hv; clear hv
        go_wp2_with fail
        refine HPX.out.mono ?_
        rintro e w' ⟨rfl, hb'⟩
        have HB2 := Lib.hid (HBB.out.trans (hb'.mono HBB.out.size))
        clear hb'
        rw [HV.out]
        go_wp2
      · go_roundw
        case rel => exact ⟨k + 1, by omega, intNum, HB2.out, HNX.out HV.out⟩
        case measure => simp [intOf]; omega
      · go_ret
        exact ⟨by rw [HAT.out HV.out]; rfl, HB2.out⟩
    · go_wp2
      go_ret
      have H := findIdx_no (take_all (q := fun x : Tk × Value => p x.1 = false) (by rw [HL.out]; exact hlt) HN.out)
      exact ⟨by rw [H]; rfl, hb⟩
theorem contTk_c {F : Nat → Prop} (l : List (Tk × Value)) (A : Option Addr) (n c g : Nat) (cb : Array Value) (p : Tk → Bool) (w : World) (hn : l.length = n) (hv : Sli tvR w F l (.slice A n c)) (hF : ∀ b, F b → b < w.heap.size) (hf : ∀ x ∈ l, ∃ A n c, x.2 = .slice A n c) (hlen : n ≤ 1000000)
    (hp : PredK Tryz.prog g cb p w) :
    Calls Tryz.prog 177 #[.slice A n c, .func (.func g) #[] cb] w fun e w' => e = .returned (.bool ((l.map (·.1)).any p)) ∧ Below w.heap.size w w' := by
  have HI := Lib.hid (idxTk_c l A n c g cb p w hn hv hF hf hlen hp)
  have HZ := Lib.hid (show decide (0 ≤ idxV (l.findIdx? fun x => p x.1)) = (l.map (·.1)).any p by rw [List.any_map]; exact idx_any l (fun x => p x.1))
  generalize (l.findIdx? fun x => p x.1) = z at *
  clear hv hF hp hf hn
  go_enter Tryz.func177, Tryz.ntmps177
  go_wp2_with fail
  refine HI.out.mono ?_
  rintro e w2 ⟨rfl, hb2⟩
  have HE := Lib.hid hb2
  clear hb2 HI
  generalize idxV z = i at *
  go_wp2
  go_ret
  exact ⟨ret_bool HZ.out, HE.out⟩
set_option maxHeartbeats 800000 in
theorem takeFault1_p (t : Tk) (b : Nat) (w : World) (h0 : w.cell? ⟨b, 0, none⟩ = some (.string t.scene)) (h1 : w.cell? ⟨b, 1, none⟩ = some (.string t.setup)) (h2 : w.cell? ⟨b, 2, none⟩ = some (.int .i64 t.number)) (hlt : b < w.heap.size) :
    PredK Tryz.prog 178 #[.pointer (some ⟨b, 0, none⟩)] (sameT t) w := by
  refine ⟨fun _ _ => by kernel_rfl, fun x A n c W hb => ?_⟩
  have hc0 : W.cell? ⟨b, 0, none⟩ = some (.string t.scene) := (hb.cell (p := ⟨b, 0, none⟩) hlt).trans h0
  have hc1 : W.cell? ⟨b, 1, none⟩ = some (.string t.setup) := (hb.cell (p := ⟨b, 1, none⟩) hlt).trans h1
  have hc2 : W.cell? ⟨b, 2, none⟩ = some (.int .i64 t.number) := (hb.cell (p := ⟨b, 2, none⟩) hlt).trans h2
  have hs := hb.size
  have hl : b < W.heap.size := by omega
  clear h0 h1 h2 hb hlt hs
  show Calls Tryz.prog _ #[.agg #[.string x.scene, .string x.setup, .int .i64 x.number, .string x.roll, .string x.sound, .int .i64 x.tin, .int .i64 x.tout, .bool x.good, .slice A n c], .pointer (some ⟨b, 0, none⟩)] W _
  have HS := Lib.hid (show sameT t x = ((x.scene.toList == t.scene.toList) && (x.setup.toList == t.setup.toList) && decide (x.number = t.number)) by unfold sameT; rw [beqS, beqS])
  cases e0 : (x.scene.toList == t.scene.toList) with
  | false =>
    have HE := Lib.hid (show sameT t x = false by rw [HS.out, e0]; rfl)
    clear HS
    go_enter Tryz.func178, Tryz.ntmps178
    go_wp2
    go_ret
    exact ⟨ret_bool HE.out.symm, (Below.refl _ _).alloc (Nat.le_refl _) _⟩
  | true =>
    cases e1 : (x.setup.toList == t.setup.toList) with
    | false =>
      have HE := Lib.hid (show sameT t x = false by rw [HS.out, e0, e1]; rfl)
      clear HS
      go_enter Tryz.func178, Tryz.ntmps178
      go_wp2
      go_ret
      exact ⟨ret_bool HE.out.symm, (Below.refl _ _).alloc (Nat.le_refl _) _⟩
    | true =>
      have HE := Lib.hid (show sameT t x = (x.number == t.number) by rw [HS.out, e0, e1]; rfl)
      clear HS
      go_enter Tryz.func178, Tryz.ntmps178
      go_wp2
      go_ret
      exact ⟨ret_bool HE.out.symm, (Below.refl _ _).alloc (Nat.le_refl _) _⟩
set_option maxHeartbeats 800000 in
theorem takeFault2_p (t : Tk) (b : Nat) (w : World) (h3 : w.cell? ⟨b, 3, none⟩ = some (.string t.roll)) (h5 : w.cell? ⟨b, 5, none⟩ = some (.int .i64 t.tin)) (h6 : w.cell? ⟨b, 6, none⟩ = some (.int .i64 t.tout)) (hlt : b < w.heap.size) :
    PredK Tryz.prog 180 #[.pointer (some ⟨b, 0, none⟩)] (busyT t) w := by
  refine ⟨fun _ _ => by kernel_rfl, fun x A n c W hb => ?_⟩
  have hc3 : W.cell? ⟨b, 3, none⟩ = some (.string t.roll) := (hb.cell (p := ⟨b, 3, none⟩) hlt).trans h3
  have hc5 : W.cell? ⟨b, 5, none⟩ = some (.int .i64 t.tin) := (hb.cell (p := ⟨b, 5, none⟩) hlt).trans h5
  have hc6 : W.cell? ⟨b, 6, none⟩ = some (.int .i64 t.tout) := (hb.cell (p := ⟨b, 6, none⟩) hlt).trans h6
  have hs := hb.size
  have hl : b < W.heap.size := by omega
  clear h3 h5 h6 hb hlt hs
  show Calls Tryz.prog _ #[.agg #[.string x.scene, .string x.setup, .int .i64 x.number, .string x.roll, .string x.sound, .int .i64 x.tin, .int .i64 x.tout, .bool x.good, .slice A n c], .pointer (some ⟨b, 0, none⟩)] W _
  have HS := Lib.hid (show busyT t x = ((x.roll.toList == t.roll.toList) && decide (x.tin < t.tout) && decide (t.tin < x.tout)) by unfold busyT; rw [beqS])
  cases e0 : (x.roll.toList == t.roll.toList) with
  | false =>
    have HE := Lib.hid (show busyT t x = false by rw [HS.out, e0]; rfl)
    clear HS
    go_enter Tryz.func180, Tryz.ntmps180
    go_wp2
    go_ret
    exact ⟨ret_bool HE.out.symm, (Below.refl _ _).alloc (Nat.le_refl _) _⟩
  | true =>
    by_cases e1 : x.tin < t.tout
    · by_cases e2 : t.tin < x.tout
      · have HE := Lib.hid (show busyT t x = true by rw [HS.out, e0, decide_eq_true e1, decide_eq_true e2]; rfl)
        clear HS
        go_enter Tryz.func180, Tryz.ntmps180
        go_wp2
        go_ret
        exact ⟨ret_bool HE.out.symm, (Below.refl _ _).alloc (Nat.le_refl _) _⟩
      · have HE := Lib.hid (show busyT t x = false by rw [HS.out, e0, decide_eq_true e1, decide_eq_false e2]; rfl)
        have e2' : x.tout ≤ t.tin := by omega
        clear HS
        go_enter Tryz.func180, Tryz.ntmps180
        go_wp2
        go_ret
        exact ⟨ret_bool HE.out.symm, (Below.refl _ _).alloc (Nat.le_refl _) _⟩
    · have HE := Lib.hid (show busyT t x = false by rw [HS.out, e0, decide_eq_false e1]; rfl)
      have e1' : t.tout ≤ x.tin := by omega
      clear HS
      go_enter Tryz.func180, Tryz.ntmps180
      go_wp2
      go_ret
      exact ⟨ret_bool HE.out.symm, (Below.refl _ _).alloc (Nat.le_refl _) _⟩
end Go.Proofs.YtmefjkfjpgblcaaGreatDoor

