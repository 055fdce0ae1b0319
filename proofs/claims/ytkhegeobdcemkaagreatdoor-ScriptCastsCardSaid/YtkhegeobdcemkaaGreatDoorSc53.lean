/- Texts packed: LawScriptCasts. -/
import Derived.Test.YtkhegeobdcemkaaGreatDoorRows
import Derived.Test.YtkhegeobdcemkaaGreatDoorSc41
import Derived.Test.YtkhegeobdcemkaaGreatDoorSc48
import Derived.Test.YtkhegeobdcemkaaGreatDoorSc52
import Derived.Test.YtkhegeobdcemkaaGreatDoorSc29
import Derived.Test.YtkhegeobdcemkaaGreatDoorSc03
import Derived.Deep.DeepCutAuto
/- The law ScriptCasts walked: for every list of numbers it returns true and leaves what was there. -/
namespace Go.Proofs.YtkhegeobdcemkaaGreatDoor
set_option linter.unusedVariables false
open Go.RowKit Go.Sort

set_option maxRecDepth 100000 in
set_option maxHeartbeats 8000000 in
theorem ScriptCasts_c (A : Option Addr) (l : List Int) (c : Nat) (w : World) (hr : Rs w 0 w.heap.size 1 intc A l) (hl : l.length ≤ 17592186044416) (ho : ∀ x ∈ l, okI x) (hp : PowLaid w) (hs : SpLaid w) (hm : MaxLaid w) :
    Calls Tryz.prog 3 #[.slice A l.length c] w fun e w' => e = .returned (.bool true) ∧ Below w.heap.size w w' := by
  have S0 := strNew w A l c hr hl ho
  have HW0 := Lib.hid (show (w.alloc (.cells #[.slice A l.length c, .int .i64 0] 25)).heap.size = w.heap.size + 1 by simp)
  have HP := Lib.hid (show PowS w.heap.size (w.alloc (.cells #[.slice A l.length c, .int .i64 0] 25)) from (PowS.start hp).keep fun b hb => Below.heap_alloc w _ b hb)
  have HG := Lib.hid (fun (n : Int) (wx : World) P (h : PvS (w.alloc (.cells #[.slice A l.length c, .int .i64 0] 25)) w.heap.size P n wx) => show Below w.heap.size w wx ∧ SpLaid wx ∧ MaxLaid wx from
    have hb := gEnd h.gr
    ⟨hb, sp_below hs hb (Nat.le_refl _), max_below hm hb (Nat.le_refl _)⟩)
  have G0 := Lib.hid (GS.start (R := dumR) (e := 3) S0)
  clear hr ho hp hs hm S0
  go_enter Tryz.func3, Tryz.ntmps3
  go_upto_region 2 with (fail)
  generalize w.alloc (.cells #[.slice A l.length c, .int .i64 0] 25) = W0 at *
  go_wp2_with fail
  refine (AnyScript_c w.heap.size 0 W0 G0.out.str (by decide) HP.out).mono ?_
  rintro e w1 ⟨v1, n1, rfl, ⟨t1, l1, sv1, rfl, hsp⟩, hn1, hs1, hg1⟩
  obtain ⟨A1, c1, hv1, _, _⟩ := hsp.1.form
  subst hv1
  obtain ⟨l2, hx⟩ := Sct.any ⟨t1, l1, _, rfl, hsp⟩
  have hG1 := G0.out.turn hg1 hs1
  generalize hL1 : l1.length = Lx at *
  have hG2 := hG1.new (xCs t1 (.slice A1 Lx c1)) 28
  have hx2 := hx.alloc (E' := fun q => q = w1.heap.size) (.cells (xCs t1 (.slice A1 Lx c1)) 28) (fun q h e => by omega)
  have hL2 : l2.length = Lx := by
    obtain ⟨_, _, e, _⟩ := hx.sli.form
    injection e with _ e _
    exact e.symm
  have hXs : W0.heap.size ≤ w1.heap.size := hG1.size
  clear hsp hs1 hg1 G0 hG1 hx hL1
  rw [show xCs t1 (.slice A1 Lx c1) = #[.string t1, .slice A1 Lx c1] from rfl]
  go_upto_region 3 with (fail)
  generalize hW : w1.alloc (.cells #[.string t1, .slice A1 Lx c1] 28) = w2
  have G2 := Lib.hid (show PvS W0 w.heap.size [(w1.heap.size, xCs t1 (.slice A1 Lx c1), 28)] n1 w2 by rw [← hW]; exact hG2)
  have X2 := Lib.hid (show Sct W0 (fun q => q = w1.heap.size) 10010 91 t1 l2 (.slice A1 Lx c1) w2 by rw [← hW]; exact hx2)
  have HL2 := Lib.hid hL2
  have hLx : Lx ≤ 91 := by have h := X2.out.len; rw [hL2] at h; exact h
  clear hW hG2 hx2 hL2
  generalize w1.heap.size = X at *
  have HCL := Lib.hid (fun (n : Int) (W : World) P (hW : PvS W0 w.heap.size ((X, xCs t1 (.slice A1 Lx c1), 28) :: P) n W) => show W.cell? ⟨X, 0, none⟩ = some (.string t1) ∧ W.cell? ⟨X, 1, none⟩ = some (.slice A1 Lx c1) from
    have ⟨x, _⟩ := hW.cell (p := (X, xCs t1 (.slice A1 Lx c1), 28)) (by simp)
    ⟨x 0, x 1⟩)
  obtain ⟨ck, hck⟩ : ∃ ck, chkE ⟨t1, l2.map (·.1)⟩ = ck := ⟨_, rfl⟩
  have HCK := Lib.hid hck
  clear hck
  obtain ⟨x0, x1⟩ := HCL.out _ _ _ G2.out
  have HT := Lib.hid ((Cast_c t1 l2 (.slice A1 Lx c1) w2 (X2.out.scl (by decide) (by decide)) X2.out.fdb (HG.out _ _ _ G2.out).2.2).mono (R' := fun e w' => ∃ v, e = .returned (.tuple #[v, .int .i64 ck]) ∧ Below w2.heap.size w2 w' ∧ ((¬ ck = 0 ∧ v = .slice none 0 0) ∨ (ck = 0 ∧ Own rxR w' w2.heap.size w2.heap.size 41 (castS (l2.map (·.1))) v))) fun e w' h => by
    obtain ⟨v, q, h1, h2, h3, h4⟩ := h
    rw [HCK.out] at h3
    subst h3
    exact ⟨v, h1, h2, h4⟩)
  go_wp2_with fail
  refine HT.out.mono ?_
  rintro e w3 ⟨vt, rfl, hb3, htm⟩
  have G3 := Lib.hid (G2.out.below hb3)
  have X3 := Lib.hid (X2.out.below hb3)
  obtain ⟨At, nt, ct, hvt⟩ : ∃ At nt ct, vt = .slice At nt ct := by
    rcases htm with ⟨_, h⟩ | ⟨_, h⟩
    · exact ⟨_, _, _, h⟩
    · exact own_form h
  subst hvt
  have HTM := Lib.hid (show ck = 0 → Sli rxR w3 (fun q => q < w3.heap.size) (castS (l2.map (·.1))) (.slice At nt ct) from fun h0 => by
    rcases htm with ⟨h, _⟩ | ⟨_, h⟩
    · exact absurd h0 h
    · exact h.sliF (enc := Rx.cells) (hn := fun _ => rfl) (fun g hg => (h.block g hg).2))
  clear hb3 HT G2 X2 x0 x1 htm
  obtain ⟨x0, x1⟩ := HCL.out _ _ _ G3.out
  have HT := Lib.hid ((SetsP_c t1 l2 (.slice A1 Lx c1) w3 (X3.out.scl (by decide) (by decide)) (by rw [HL2.out]; omega) (HG.out _ _ _ G3.out).2.2).mono (R' := fun e w' => ∃ v, e = .returned (.tuple #[v, .int .i64 ck]) ∧ Below w3.heap.size w3 w' ∧ ((¬ ck = 0 ∧ v = .slice none 0 0) ∨ (ck = 0 ∧ Own tyR w' w3.heap.size w3.heap.size 45 (talS (setsL (l2.map (·.1)))) v))) fun e w' h => by
    obtain ⟨v, q, h1, h2, h3, h4⟩ := h
    rw [HCK.out] at h3
    subst h3
    exact ⟨v, h1, h2, h4⟩)
  go_wp2_with fail
  refine HT.out.mono ?_
  rintro e w4 ⟨vu, rfl, hb4, htm⟩
  have G4 := Lib.hid (G3.out.below hb4)
  have X4 := Lib.hid (X3.out.below hb4)
  obtain ⟨Au, nu, cu, hvu⟩ : ∃ At nt ct, vu = .slice At nt ct := by
    rcases htm with ⟨_, h⟩ | ⟨_, h⟩
    · exact ⟨_, _, _, h⟩
    · exact own_form h
  subst hvu
  have HTM4 := Lib.hid (fun h0 => ((HTM.out h0).below hb4 (fun q hq => hq)).more (G := fun q => q < w4.heap.size) fun q hq => Nat.lt_of_lt_of_le hq hb4.size)
  have HUM4 := Lib.hid (show ck = 0 → Sli tyR w4 (fun q => q < w4.heap.size) (talS (setsL (l2.map (·.1)))) (.slice Au nu cu) from fun h0 => by
    rcases htm with ⟨h, _⟩ | ⟨_, h⟩
    · exact absurd h0 h
    · exact h.sliF (enc := fun x : Tly => [.string x.1, .int .i64 x.2]) (hn := fun _ => rfl) (fun g hg => (h.block g hg).2))
  clear hb4 HT G3 X3 x0 x1 htm HTM
  obtain ⟨x0, x1⟩ := HCL.out _ _ _ G4.out
  have HSF := ScriptFault_c t1 l2 (.slice A1 Lx c1) w4 (X4.out.scl (by decide) (by decide)) (HG.out _ _ _ G4.out).2.1 (HG.out _ _ _ G4.out).2.2
  have HSF := Lib.hid (HSF.mono (R' := fun e w' => e = .returned (.int .i64 ck) ∧ Below w4.heap.size w4 w') fun e w' h => by unfold ChP at h; rw [HCK.out] at h; exact h)
  go_wp2_with fail
  refine HSF.out.mono ?_
  rintro e w6 ⟨rfl, hb6⟩
  have G6 := Lib.hid (G4.out.below hb6)
  have X6 := Lib.hid (X4.out.below hb6)
  have HTM6 := Lib.hid (fun h0 => ((HTM4.out h0).below hb6 (fun q hq => hq)).more (G := fun q => q < w6.heap.size) fun q hq => Nat.lt_of_lt_of_le hq hb6.size)
  have HUM6 := Lib.hid (fun h0 => ((HUM4.out h0).below hb6 (fun q hq => hq)).more (G := fun q => q < w6.heap.size) fun q hq => Nat.lt_of_lt_of_le hq hb6.size)
  clear hb6 HSF G4 X4 HTM4 HUM4 x0 x1
  by_cases hc0 : ck = 0
  case neg =>
    have hne : (ck != 0) = true := bne_iff_ne.2 hc0
    have hee : (ck == ck) = true := beq_self_eq_true _
    have HSC := Lib.hid (scripts_c w6 (HG.out _ _ _ G6.out).2.2)
    have HEN := Lib.hid (HG.out _ _ _ G6.out).1
    clear hc0
    go_wp2_with fail
    refine HSC.out.mono ?_
    rintro e w7 ⟨rfl, hb7⟩
    have HE := Lib.hid (HEN.out.trans (hb7.mono HEN.out.size))
    clear hb7 HEN HSC
    go_wp2
    go_ret
    exact ⟨rfl, HE.out⟩
  subst hc0
  have HRT := Lib.hid (show ∀ x ∈ l2.map (·.1), RtP x.paras from fun x hx => parasE_rt ((chkE_ok HCK.out).sc x hx).2.2.2.2)
  have HSC := Lib.hid (scripts_c w6 (HG.out _ _ _ G6.out).2.2)
  clear HCK
  go_wp2_with fail
  refine HSC.out.mono ?_
  rintro e w7 ⟨rfl, hb7⟩
  have G7 := Lib.hid (G6.out.below hb7)
  have X7 := Lib.hid (X6.out.below hb7)
  have HTM7 := Lib.hid (((HTM6.out (by first | trivial | rfl)).below hb7 (fun q hq => hq)).more (G := fun q => q < w7.heap.size) fun q hq => Nat.lt_of_lt_of_le hq hb7.size)
  have HUM7 := Lib.hid (((HUM6.out (by first | trivial | rfl)).below hb7 (fun q hq => hq)).more (G := fun q => q < w7.heap.size) fun q hq => Nat.lt_of_lt_of_le hq hb7.size)
  obtain ⟨x0, x1⟩ := HCL.out _ _ _ G7.out
  have HCO := Lib.hid (CastOf_c t1 l2 (.slice A1 Lx c1) w7 X7.out.sc2 X7.out.fdb HRT.out)
  clear hb7 G6 X6 HTM6 HUM6 HSC
  go_wp2_with fail
  refine HCO.out.mono ?_
  rintro e w8 ⟨v8, rfl, hb8, hown8⟩
  have G8 := Lib.hid (G7.out.below hb8)
  have X8 := Lib.hid (X7.out.below hb8)
  have HUM8 := Lib.hid ((HUM7.out.below hb8 (fun q hq => hq)).more (G := fun q => q < w8.heap.size) fun q hq => Nat.lt_of_lt_of_le hq hb8.size)
  have HEQ := Lib.hid (eqRole_c _ (.slice At nt ct) v8 (fun q => q < w8.heap.size) w8 ((HTM7.out.below hb8 (fun q hq => hq)).more fun q hq => Nat.lt_of_lt_of_le hq hb8.size) (hown8.sliF (enc := Rx.cells) (hn := fun _ => rfl) (fun g hg => (hown8.block g hg).2)) (fun q hq => hq))
  clear hb8 hown8 G7 X7 HTM7 HUM7 HCO x0 x1
  go_wp2_with fail
  refine HEQ.out.mono ?_
  rintro e w9 ⟨rfl, hb9⟩
  have G9 := Lib.hid (G8.out.below hb9)
  have X9 := Lib.hid (X8.out.below hb9)
  have HUM9 := Lib.hid ((HUM8.out.below hb9 (fun q hq => hq)).more (G := fun q => q < w9.heap.size) fun q hq => Nat.lt_of_lt_of_le hq hb9.size)
  obtain ⟨x0, x1⟩ := HCL.out _ _ _ G9.out
  have HSO := Lib.hid (SetsOf_c t1 l2 (.slice A1 Lx c1) w9 X9.out.sc2 (by rw [HL2.out]; omega))
  clear hb9 G8 X8 HUM8 HEQ
  go_wp2_with fail
  refine HSO.out.mono ?_
  rintro e w10 ⟨v10, rfl, hb10, hown10⟩
  have HEN := Lib.hid (HG.out _ _ _ (G9.out.below hb10)).1
  have HEQ := Lib.hid (eqTly_c _ (.slice Au nu cu) v10 (fun q => q < w10.heap.size) w10 ((HUM9.out.below hb10 (fun q hq => hq)).more fun q hq => Nat.lt_of_lt_of_le hq hb10.size) (hown10.sliF (enc := fun x : Tly => [.string x.1, .int .i64 x.2]) (hn := fun _ => rfl) (fun g hg => (hown10.block g hg).2)) (fun q hq => hq))
  clear hb10 hown10 G9 X9 HUM9 HSO x0 x1
  go_wp2_with fail
  refine HEQ.out.mono ?_
  rintro e w11 ⟨rfl, hb11⟩
  have HE := Lib.hid (HEN.out.trans (hb11.mono HEN.out.size))
  clear hb11 HEN HEQ
  go_wp2
  go_ret
  exact ⟨rfl, HE.out⟩
end Go.Proofs.YtkhegeobdcemkaaGreatDoor

