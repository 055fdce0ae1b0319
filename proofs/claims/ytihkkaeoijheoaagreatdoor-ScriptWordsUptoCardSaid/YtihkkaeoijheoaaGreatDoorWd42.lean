/- Texts packed: LawScriptWords. -/
import Derived.Test.YtihkkaeoijheoaaGreatDoorRows
import Derived.Test.YtihkkaeoijheoaaGreatDoorWd37
import Derived.Test.YtihkkaeoijheoaaGreatDoorWd41
import Derived.Test.YtihkkaeoijheoaaGreatDoorWd25
import Derived.Test.YtihkkaeoijheoaaGreatDoorWd02
import Derived.Deep.DeepCutAuto
/- The law ScriptWords walked: for every list of numbers and every text of at most a million bytes it returns true and leaves what was there. -/
namespace Go.Proofs.YtihkkaeoijheoaaGreatDoor
set_option linter.unusedVariables false
open Go.RowKit Go.Sort

theorem Sct.fdb {W0 wx : World} {E : Nat → Prop} {t : ByteArray} {l : List (Scene × Value)} {v : Value} (h : Sct W0 E 10010 91 t l v wx) : FdB (l.map (·.1)) := by
  refine ⟨by rw [List.length_map]; have := h.len; omega, fun x hx => ?_⟩
  obtain ⟨y, hy, rfl⟩ := List.mem_map.1 hx
  obtain ⟨_, _, h3, h4⟩ := h.bd y hy
  exact ⟨by omega, fun p hp => by have := h4 p hp; omega⟩
theorem own_form {α : Type} {R : Rep α} {w : World} {b lo : Nat} {e : TypeId} {l : List α} {v : Value} (h : Own R w b lo e l v) : ∃ A n c, v = .slice A n c := by
  rcases h.form with ⟨h, _⟩ | ⟨g, cap, h, _⟩
  · exact ⟨_, _, _, h⟩
  · exact ⟨_, _, _, h⟩
set_option maxRecDepth 100000 in
set_option maxHeartbeats 8000000 in
theorem ScriptWords_c (A : Option Addr) (l : List Int) (c : Nat) (text : ByteArray) (w : World) (hr : Rs w 0 w.heap.size 1 intc A l) (hl : l.length ≤ 17592186044416) (ho : ∀ x ∈ l, okI x) (hz : text.size ≤ 1048576) (hp : PowLaid w) (hs : SpLaid w) (hm : MaxLaid w) :
    Calls Tryz.prog 6 #[.slice A l.length c, .string text] w fun e w' => e = .returned (.bool true) ∧ Below w.heap.size w w' := by
  have S0 := strNew w A l c hr hl ho
  have HW0 := Lib.hid (show (w.alloc (.cells #[.slice A l.length c, .int .i64 0] 25)).heap.size = w.heap.size + 1 by simp)
  have HP := Lib.hid (show PowS w.heap.size (w.alloc (.cells #[.slice A l.length c, .int .i64 0] 25)) from (PowS.start hp).keep fun b hb => Below.heap_alloc w _ b hb)
  have HG := Lib.hid (fun (n : Int) (wx : World) P (h : PvS (w.alloc (.cells #[.slice A l.length c, .int .i64 0] 25)) w.heap.size P n wx) => show Below w.heap.size w wx ∧ SpLaid wx ∧ MaxLaid wx from
    have hb := gEnd h.gr
    ⟨hb, sp_below hs hb (Nat.le_refl _), max_below hm hb (Nat.le_refl _)⟩)
  have G0 := Lib.hid (GS.start (R := dumR) (e := 3) S0)
  clear hr ho hp hs hm S0
  go_enter Tryz.func6, Tryz.ntmps6
  go_upto_region 2 with (fail)
  generalize w.alloc (.cells #[.slice A l.length c, .int .i64 0] 25) = W0 at *
  have hW0s : w.heap.size < W0.heap.size := by have := HW0.out; omega
  go_wp2_with fail
  refine (AnyScript_c w.heap.size 0 W0 G0.out.str (by decide) HP.out).mono ?_
  rintro e w1 ⟨v1, n1, rfl, ⟨t1, l1, sv1, rfl, hsp⟩, hn1, hs1, hg1⟩
  obtain ⟨A1, c1, hv1, _, _⟩ := hsp.1.form
  subst hv1
  obtain ⟨l2, hx⟩ := Sct.any ⟨t1, l1, _, rfl, hsp⟩
  have hG1 := G0.out.turn hg1 hs1
  generalize hL1 : l1.length = Lx at *
  have hG2 := hG1.new (xCs t1 (.slice A1 Lx c1)) 40
  have hx2 := hx.alloc (E' := fun q => q = w1.heap.size) (.cells (xCs t1 (.slice A1 Lx c1)) 40) (fun q h e => by omega)
  have hL2 : l2.length = Lx := by
    obtain ⟨_, _, e, _⟩ := hx.sli.form
    injection e with _ e _
    exact e.symm
  have hn10 := hs1.nonneg
  clear hsp hs1 hg1 G0 hG1 hx hL1
  rw [show xCs t1 (.slice A1 Lx c1) = #[.string t1, .slice A1 Lx c1] from rfl]
  go_upto_region 3 with (fail)
  generalize hW : w1.alloc (.cells #[.string t1, .slice A1 Lx c1] 40) = w2
  have G2 := Lib.hid (show PvS W0 w.heap.size [(w1.heap.size, xCs t1 (.slice A1 Lx c1), 40)] n1 w2 by rw [← hW]; exact hG2)
  have X2 := Lib.hid (show Sct W0 (fun q => q = w1.heap.size) 10010 91 t1 l2 (.slice A1 Lx c1) w2 by rw [← hW]; exact hx2)
  have HL2 := Lib.hid hL2
  clear hW hG2 hx2 hL2
  generalize w1.heap.size = X at *
  have HCL := Lib.hid (fun (n : Int) (W : World) P (hW : PvS W0 w.heap.size ((X, xCs t1 (.slice A1 Lx c1), 40) :: P) n W) => show W.cell? ⟨X, 0, none⟩ = some (.string t1) ∧ W.cell? ⟨X, 1, none⟩ = some (.slice A1 Lx c1) from
    have ⟨x, _⟩ := hW.cell (p := (X, xCs t1 (.slice A1 Lx c1), 40)) (by simp)
    ⟨x 0, x 1⟩)
  obtain ⟨ck, hck⟩ : ∃ ck, chkE ⟨t1, l2.map (·.1)⟩ = ck := ⟨_, rfl⟩
  have HCK := Lib.hid hck
  clear hck
  have HWA := Lib.hid (Words_c text w2 (by omega))
  go_wp2_with fail
  refine HWA.out.mono ?_
  rintro e w3 ⟨va, rfl, howna, hba⟩
  have G3 := Lib.hid (G2.out.below hba)
  have X3 := Lib.hid (X2.out.below hba)
  have HSA := Lib.hid (howna.sliF (F := fun q => q < w3.heap.size) (enc := fun x : ByteArray => [.string x]) (hn := fun _ => rfl) (fun g hg => (howna.block g hg).2))
  have HWB := Lib.hid (WordsOf_c text w3 (by omega))
  clear hba howna G2 X2 HWA
  go_wp2_with fail
  refine HWB.out.mono ?_
  rintro e w4 ⟨vb, rfl, hownb, hbb⟩
  have G4 := Lib.hid (G3.out.below hbb)
  have X4 := Lib.hid (X3.out.below hbb)
  have hEQ := eqStr_c (wordsT text) (wordsT text) va vb (fun q => q < w4.heap.size) w4 ((HSA.out.below hbb (fun q hq => hq)).more fun q hq => Nat.lt_of_lt_of_le hq hbb.size) (hownb.sliF (enc := fun x : ByteArray => [.string x]) (hn := fun _ => rfl) (fun g hg => (hownb.block g hg).2)) (fun q hq => hq)
  rw [decide_eq_true rfl] at hEQ
  have HEQ := Lib.hid hEQ
  clear hbb hownb hEQ HSA G3 X3 HWB
  go_wp2_with fail
  refine HEQ.out.mono ?_
  rintro e w5 ⟨rfl, hbe⟩
  have G5 := Lib.hid (G4.out.below hbe)
  have X5 := Lib.hid (X4.out.below hbe)
  clear hbe G4 X4 HEQ
  have hn10' : n1 ≤ 1000000000000000000 := by omega
  go_wp2_with fail
  refine (flip_c w.heap.size n1 2 _ G5.out.str (by omega) (by omega) (by omega)).mono ?_
  rintro e w6 ⟨v6, n6, rfl, ⟨b6, rfl⟩, hn6, hs6, hg6⟩
  have G6 := Lib.hid (G5.out.turn hg6 hs6)
  have X6 := Lib.hid (X5.out.turn hW0s hg6)
  have hn60 := hs6.nonneg
  clear hs6 hg6 G5 X5
  go_upto_if 25 with (fail)
  go_cut [7] (fun s7 wx => ∃ (tw : ByteArray) (n : Int), s7 = .string tw ∧ tw.size ≤ 1048576 ∧ n ≤ n6 + 1 ∧ Hid (PvS W0 w.heap.size [(X, xCs t1 (.slice A1 Lx c1), 40)] n wx) ∧ Hid (Sct W0 (fun q => q = X) 10010 91 t1 l2 (.slice A1 Lx c1) wx))
  case first =>
    cases b6 with
    | false =>
      go_wp2
      go_meet
      exact ⟨text, n6, rfl, hz, by omega, G6, X6⟩
    | true =>
      go_wp2_with fail
      refine (Pair_c w.heap.size n6 _ G6.out.str (by omega)).mono ?_
      rintro e w7 ⟨v7, n7, rfl, ⟨t7, ht7, rfl⟩, hn7, hs7, hg7⟩
      have ht7' : t7.size ≤ 100 := ht7
      have G7 := Lib.hid (G6.out.turn hg7 hs7)
      have X7 := Lib.hid (X6.out.turn hW0s hg7)
      clear hs7 hg7 ht7
      go_wp2
      go_meet
      exact ⟨t7, n7, rfl, by omega, by omega, G7, X7⟩
  case rest =>
  clear G6 X6
  obtain ⟨tw, n8, rfl, htw, hn8, G8, X8⟩ := hcut
  obtain ⟨x0, x1⟩ := HCL.out _ _ _ G8.out
  have HFD := Lib.hid ((Find_c t1 l2 (.slice A1 Lx c1) tw wc (X8.out.scl (by decide) (by decide)) X8.out.fdb (by omega) (HG.out _ _ _ G8.out).2.2).mono (R' := fun e w' => ∃ v q, e = .returned (.tuple #[v, .int .i64 q]) ∧ Below wc.heap.size wc w' ∧ (if ¬ ck = 0 then ck else if (wordsT tw).length = 0 then 3 else 0) = q ∧ ((¬ q = 0 ∧ v = .slice none 0 0) ∨ (q = 0 ∧ Own spR w' wc.heap.size wc.heap.size 74 (findS (l2.map (·.1)) (wordsT tw)) v))) fun e w' h => by unfold FdP fdE at h; rw [HCK.out] at h; exact h)
  go_wp2_with fail
  refine HFD.out.mono ?_
  rintro e w9 ⟨v9, q9, rfl, hb9, hq9, hv9⟩
  have G9 := Lib.hid (G8.out.below hb9)
  have X9 := Lib.hid (X8.out.below hb9)
  obtain ⟨A9, m9, c9, rfl⟩ : ∃ A n c, v9 = .slice A n c := by
    rcases hv9 with ⟨_, h⟩ | ⟨_, h⟩
    · exact ⟨_, _, _, h⟩
    · exact own_form h
  have HV9 := Lib.hid (show q9 = 0 → Sli spR w9 (fun q => q < w9.heap.size) (findS (l2.map (·.1)) (wordsT tw)) (.slice A9 m9 c9) from fun h0 => by
    rcases hv9 with ⟨h, _⟩ | ⟨_, h⟩
    · exact absurd h0 h
    · exact h.sliF (enc := fun x : Spt => [.int .i64 x.1, .int .i64 x.2.1, .int .i64 x.2.2]) (hn := fun _ => rfl) (fun g hg => (h.block g hg).2))
  have HQ9 := Lib.hid hq9
  clear hb9 hq9 hv9 G8 X8 HFD x0 x1
  obtain ⟨x0, x1⟩ := HCL.out _ _ _ G9.out
  have HSF := ScriptFault_c t1 l2 (.slice A1 Lx c1) w9 (X9.out.scl (by decide) (by decide)) (HG.out _ _ _ G9.out).2.1 (HG.out _ _ _ G9.out).2.2
  have HSF := Lib.hid (HSF.mono (R' := fun e w' => e = .returned (.int .i64 ck) ∧ Below w9.heap.size w9 w') fun e w' h => by unfold ChP at h; rw [HCK.out] at h; exact h)
  go_wp2_with fail
  refine HSF.out.mono ?_
  rintro e w10 ⟨rfl, hb10⟩
  have G10 := Lib.hid (G9.out.below hb10)
  have X10 := Lib.hid (X9.out.below hb10)
  have HV10 := Lib.hid (show q9 = 0 → Sli spR w10 (fun q => q < w10.heap.size) (findS (l2.map (·.1)) (wordsT tw)) (.slice A9 m9 c9) from fun h0 => ((HV9.out h0).below hb10 (fun q hq => hq)).more fun q hq => Nat.lt_of_lt_of_le hq hb10.size)
  clear hb10 G9 X9 HV9 HSF x0 x1
  by_cases hc0 : ck = 0
  case neg =>
    obtain rfl : ck = q9 := by have := HQ9.out; rwa [if_pos hc0] at this
    have hne : (ck != 0) = true := bne_iff_ne.2 hc0
    have hee : (ck == ck) = true := beq_self_eq_true _
    have HSC := Lib.hid (scripts_c w10 (HG.out _ _ _ G10.out).2.2)
    have HEN := Lib.hid (HG.out _ _ _ G10.out).1
    clear hc0 HQ9
    go_wp2_with fail
    refine HSC.out.mono ?_
    rintro e w11 ⟨rfl, hb11⟩
    have HE := Lib.hid (HEN.out.trans (hb11.mono HEN.out.size))
    clear hb11 HEN HSC
    go_wp2
    go_ret
    exact ⟨rfl, HE.out⟩
  have HQB := Lib.hid (HQ9.out.symm.trans (if_neg (fun h => h hc0)))
  have HWC := Lib.hid (WordsOf_c tw w10 (by omega))
  subst hc0
  clear HQ9
  go_wp2_with fail
  refine HWC.out.mono ?_
  rintro e w11 ⟨vc, rfl, hownc, hbc⟩
  have G11 := Lib.hid (G10.out.below hbc)
  have X11 := Lib.hid (X10.out.below hbc)
  have HV11 := Lib.hid (show q9 = 0 → Sli spR w11 (fun q => q < w11.heap.size) (findS (l2.map (·.1)) (wordsT tw)) (.slice A9 m9 c9) from fun h0 => ((HV10.out h0).below hbc (fun q hq => hq)).more fun q hq => Nat.lt_of_lt_of_le hq hbc.size)
  have HSC0 := Lib.hid (hownc.sliF (F := fun q => q < w11.heap.size) (enc := fun x : ByteArray => [.string x]) (hn := fun _ => rfl) (fun g hg => (hownc.block g hg).2))
  obtain ⟨Ac, cc, rfl, _, _⟩ := HSC0.out.form
  have hwl := wordsT_len tw
  obtain ⟨sm, hsm⟩ : ∃ sm, wordsT tw = sm := ⟨_, rfl⟩
  rw [hsm] at HV11 HSC0 HQB hwl ⊢
  have HSC := Lib.hid (scripts_c w11 (HG.out _ _ _ G11.out).2.2)
  clear hbc hownc G10 X10 HV10 HWC hsm
  by_cases h00 : sm.length = 0
  · obtain rfl : q9 = 3 := HQB.out.trans (if_pos h00)
    have HEN := Lib.hid (HG.out _ _ _ G11.out).1
    rw [h00] at HSC0 ⊢
    clear h00 HQB HV11
    go_wp2_with fail
    refine HSC.out.mono ?_
    rintro e w12 ⟨rfl, hb12⟩
    have HE := Lib.hid (HEN.out.trans (hb12.mono HEN.out.size))
    clear hb12 HEN HSC
    go_wp2
    go_ret
    exact ⟨rfl, HE.out⟩
  obtain rfl : q9 = 0 := HQB.out.trans (if_neg h00)
  have hpos : 0 < sm.length := by omega
  have hposI : (0 : Int) < (sm.length : Int) := by omega
  have HVV := Lib.hid (HV11.out (by first | trivial | rfl))
  clear HQB HV11 h00
  go_wp2_with fail
  refine HSC.out.mono ?_
  rintro e w12 ⟨rfl, hb12⟩
  have G12 := Lib.hid (G11.out.below hb12)
  have X12 := Lib.hid (X11.out.below hb12)
  have HV12 := Lib.hid ((HVV.out.below hb12 (fun q hq => hq)).more (G := fun q => q < w12.heap.size) fun q hq => Nat.lt_of_lt_of_le hq hb12.size)
  have HS12 := Lib.hid ((HSC0.out.below hb12 (fun q hq => hq)).more (G := fun q => q < w12.heap.size) fun q hq => Nat.lt_of_lt_of_le hq hb12.size)
  obtain ⟨x0, x1⟩ := HCL.out _ _ _ G12.out
  have HFO := Lib.hid (FindOf_c t1 l2 (.slice A1 Lx c1) sm (.slice Ac sm.length cc) w12 X12.out.sc2 X12.out.fdb HS12.out (fun q hq => hq) (by omega) hpos)
  clear hb12 G11 X11 HVV HSC0 HSC
  go_wp2_with fail
  refine HFO.out.mono ?_
  rintro e w13 ⟨v13, rfl, hown13, hb13⟩
  have HEN := Lib.hid (HG.out _ _ _ (G12.out.below hb13)).1
  have HEQ := Lib.hid (eqSpt_c _ (.slice A9 m9 c9) v13 (fun q => q < w13.heap.size) w13 ((HV12.out.below hb13 (fun q hq => hq)).more fun q hq => Nat.lt_of_lt_of_le hq hb13.size) (hown13.sliF (enc := fun x : Spt => [.int .i64 x.1, .int .i64 x.2.1, .int .i64 x.2.2]) (hn := fun _ => rfl) (fun g hg => (hown13.block g hg).2)) (fun q hq => hq))
  clear hb13 hown13 G12 X12 HV12 HS12 HFO x0 x1
  go_wp2_with fail
  refine HEQ.out.mono ?_
  rintro e w14 ⟨rfl, hb14⟩
  have HE := Lib.hid (HEN.out.trans (hb14.mono HEN.out.size))
  clear hb14 HEN HEQ
  go_wp2
  go_ret
  exact ⟨rfl, HE.out⟩
end Go.Proofs.YtihkkaeoijheoaaGreatDoor

