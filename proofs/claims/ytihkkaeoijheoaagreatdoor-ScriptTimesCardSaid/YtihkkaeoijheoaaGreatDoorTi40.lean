/- Texts packed: LawScriptTimes. -/
import Derived.Test.YtihkkaeoijheoaaGreatDoorRows
import Derived.Test.YtihkkaeoijheoaaGreatDoorTi35
import Derived.Test.YtihkkaeoijheoaaGreatDoorTi03
import Derived.Test.YtihkkaeoijheoaaGreatDoorTi23
import Derived.Test.YtihkkaeoijheoaaGreatDoorTi39
import Derived.Test.YtihkkaeoijheoaaGreatDoorTi02
import Derived.Deep.DeepCutAuto
/- The law ScriptTimes walked: for every list of numbers it returns true and leaves what was there. -/
namespace Go.Proofs.YtihkkaeoijheoaaGreatDoor
set_option linter.unusedVariables false
open Go.RowKit Go.Sort

theorem numbTo_par {Q : List Para → Value → Prop} (l : List (Scene × Value)) (h : ∀ y ∈ l, Q y.1.paras y.2) : ∀ k, ∀ y ∈ numbTo k l, Q y.1.paras y.2
  | 0 => h
  | k + 1 => fun y hy => by
    rw [numbTo] at hy
    rcases mem_mod hy with hy | ⟨x, hx, rfl⟩
    · exact numbTo_par l h k y hy
    · exact numbTo_par l h k x hx
set_option maxRecDepth 100000 in
set_option maxHeartbeats 8000000 in
theorem ScriptTimes_c (A : Option Addr) (l : List Int) (c : Nat) (w : World) (hr : Rs w 0 w.heap.size 1 intc A l) (hl : l.length ≤ 17592186044416) (ho : ∀ x ∈ l, okI x) (hp : PowLaid w) (hs : SpLaid w) (hm : MaxLaid w) :
    Calls Tryz.prog 5 #[.slice A l.length c] w fun e w' => e = .returned (.bool true) ∧ Below w.heap.size w w' := by
  have S0 := strNew w A l c hr hl ho
  have HW0 := Lib.hid (show (w.alloc (.cells #[.slice A l.length c, .int .i64 0] 25)).heap.size = w.heap.size + 1 by simp)
  have HP := Lib.hid (show PowS w.heap.size (w.alloc (.cells #[.slice A l.length c, .int .i64 0] 25)) from (PowS.start hp).keep fun b hb => Below.heap_alloc w _ b hb)
  have HG := Lib.hid (fun (n : Int) (wx : World) P (h : PvS (w.alloc (.cells #[.slice A l.length c, .int .i64 0] 25)) w.heap.size P n wx) => show Below w.heap.size w wx ∧ SpLaid wx ∧ MaxLaid wx from
    have hb := gEnd h.gr
    ⟨hb, sp_below hs hb (Nat.le_refl _), max_below hm hb (Nat.le_refl _)⟩)
  have G0 := Lib.hid (GS.start (R := dumR) (e := 3) S0)
  clear hr ho hp hs hm S0
  go_enter Tryz.func5, Tryz.ntmps5
  go_upto_region 2 with (fail)
  generalize w.alloc (.cells #[.slice A l.length c, .int .i64 0] 25) = W0 at *
  go_wp2_with fail
  refine (AnyScript_c w.heap.size 0 W0 G0.out.str (by decide) HP.out).mono ?_
  rintro e w1 ⟨v1, n1, rfl, ⟨t1, l1, sv1, rfl, hsp⟩, hn1, hs1, hg1⟩
  obtain ⟨A1, c1, hv1, _, _⟩ := hsp.1.form
  subst hv1
  obtain ⟨l2, hx⟩ := Sct.any ⟨t1, l1, _, rfl, hsp⟩
  have hG1 := G0.out.turn hg1 hs1
  generalize hL1 : l1.length = Lx at *
  have hG2 := hG1.new (xCs t1 (.slice A1 Lx c1)) 40
  have hx2 := hx.alloc (E' := fun q => q = w1.heap.size) (.cells (xCs t1 (.slice A1 Lx c1)) 40) (fun q h e => by omega)
  have hL2 : l2.length = Lx := by
    obtain ⟨_, _, e, _⟩ := hx.sli.form
    injection e with _ e _
    exact e.symm
  have hXs : W0.heap.size ≤ w1.heap.size := hG1.size
  clear hsp hs1 hg1 G0 hG1 hx hL1
  rw [show xCs t1 (.slice A1 Lx c1) = #[.string t1, .slice A1 Lx c1] from rfl]
  go_upto_region 3 with (fail)
  generalize hW : w1.alloc (.cells #[.string t1, .slice A1 Lx c1] 40) = w2
  have G2 := Lib.hid (show PvS W0 w.heap.size [(w1.heap.size, xCs t1 (.slice A1 Lx c1), 40)] n1 w2 by rw [← hW]; exact hG2)
  have X2 := Lib.hid (show Sct W0 (fun q => q = w1.heap.size) 10010 91 t1 l2 (.slice A1 Lx c1) w2 by rw [← hW]; exact hx2)
  have HL2 := Lib.hid hL2
  have hLx : Lx ≤ 91 := by have h := X2.out.len; rw [hL2] at h; exact h
  clear hW hG2 hx2 hL2
  generalize w1.heap.size = X at *
  have HCL := Lib.hid (fun (n : Int) (W : World) P (hW : PvS W0 w.heap.size ((X, xCs t1 (.slice A1 Lx c1), 40) :: P) n W) => show W.cell? ⟨X, 0, none⟩ = some (.string t1) ∧ W.cell? ⟨X, 1, none⟩ = some (.slice A1 Lx c1) from
    have ⟨x, _⟩ := hW.cell (p := (X, xCs t1 (.slice A1 Lx c1), 40)) (by simp)
    ⟨x 0, x 1⟩)
  obtain ⟨ck, hck⟩ : ∃ ck, chkE ⟨t1, l2.map (·.1)⟩ = ck := ⟨_, rfl⟩
  have HCK := Lib.hid hck
  clear hck
  obtain ⟨x0, x1⟩ := HCL.out _ _ _ G2.out
  have HT := Lib.hid ((Times_c t1 l2 (.slice A1 Lx c1) w2 (X2.out.scl (by decide) (by decide)) (by rw [HL2.out]; omega) (HG.out _ _ _ G2.out).2.2).mono (R' := fun e w' => ∃ v, e = .returned (.tuple #[v, .int .i64 ck]) ∧ Below w2.heap.size w2 w' ∧ ((¬ ck = 0 ∧ v = .slice none 0 0) ∨ (ck = 0 ∧ Own intR w' w2.heap.size w2.heap.size 3 (tmS (l2.map (·.1)) (l2.map (·.1)).length) v))) fun e w' h => by unfold TimP at h; rw [HCK.out] at h; exact h)
  go_wp2_with fail
  refine HT.out.mono ?_
  rintro e w3 ⟨vt, rfl, hb3, htm⟩
  have G3 := Lib.hid (G2.out.below hb3)
  have X3 := Lib.hid (X2.out.below hb3)
  have HTM := Lib.hid htm
  obtain ⟨At, nt, ct, hvt⟩ : ∃ At nt ct, vt = .slice At nt ct := by
    rcases htm with ⟨_, h⟩ | ⟨_, h⟩
    · exact ⟨_, _, _, h⟩
    · rcases h.form with ⟨h, _⟩ | ⟨g, cap, h, _⟩
      · exact ⟨_, _, _, h⟩
      · exact ⟨_, _, _, h⟩
  subst hvt
  clear hb3 HT G2 X2 x0 x1 htm
  obtain ⟨x0, x1⟩ := HCL.out _ _ _ G3.out
  have HT := Lib.hid ((Number_c t1 l2 (.slice A1 Lx c1) w3 (X3.out.scl (by decide) (by decide)) (by rw [HL2.out]; omega) (HG.out _ _ _ G3.out).2.2).mono (R' := fun e w' => ∃ (t : ByteArray) (l : List (Scene × Value)) (v : Value), e = .returned (.tuple #[.agg (xCs t v), .int .i64 ck]) ∧ BI w3 l v [] w' ∧ (ck = 0 → t = t1 ∧ l.map (·.1) = numL (l2.map (·.1)).length (l2.map (·.1)))) fun e w' h => by unfold NuP at h; rw [HCK.out] at h; exact h)
  go_wp2_with fail
  refine HT.out.mono ?_
  rintro e w4 ⟨tn, ln, vn, rfl, hBn, hnum⟩
  have HNUM := Lib.hid hnum
  have hG4 := G3.out.below hBn.bo.bel
  have X4 := Lib.hid (X3.out.below hBn.bo.bel)
  have hz4 := hBn.bo.bel.size
  have hsn : Sc2 w4 (fun q => q < w4.heap.size) ln vn := ⟨hBn.bo.own.sliF (enc := fun x : Scene × Value => x.1.cells x.2) (hn := fun _ => rfl) (fun g e => (hBn.bo.own.block g e).2), fun y hy => (hBn.inn y hy).more fun q hq => hq.2.1, fun q hq => hq⟩
  obtain ⟨An, cn, hvn, _, _⟩ := hsn.sli.form
  subst hvn
  have HTM4 := Lib.hid (show ck = 0 → Sli intR w4 (fun q => q < w4.heap.size) (tmS (l2.map (·.1)) (l2.map (·.1)).length) (.slice At nt ct) from fun hc0 => by
    rcases HTM.out with ⟨h, _⟩ | ⟨_, h⟩
    · exact absurd hc0 h
    · exact ((h.below hBn.bo.bel).sliF (enc := fun x : Int => [.int .i64 x]) (hn := fun _ => rfl) (fun g e => by have := (h.block g e).2; omega)))
  have hXw : X < w4.heap.size := hG4.plt (p := (X, xCs t1 (.slice A1 Lx c1), 40)) (by simp)
  have G5 := Lib.hid (hG4.new (xCs tn (.slice An ln.length cn)) 40)
  have HSN := Lib.hid hsn
  obtain ⟨Ln, hLn⟩ : ∃ Ln, ln.length = Ln := ⟨_, rfl⟩
  rw [hLn] at G5 HSN
  rw [show xCs tn (.slice An ln.length cn) = #[.string tn, .slice An Ln cn] by rw [hLn]; rfl]
  clear hBn hnum hG4 hsn HT G3 X3 x0 x1 HTM hLn
  go_upto_region 5 with (fail)
  generalize hW : w4.alloc (.cells #[.string tn, .slice An Ln cn] 40) = w5
  have hG5 : PvS W0 w.heap.size [(w4.heap.size, xCs tn (.slice An Ln cn), 40), (X, xCs t1 (.slice A1 Lx c1), 40)] n1 w5 := by rw [← hW]; exact G5.out
  have hb5 : Below w4.heap.size w4 w5 := by rw [← hW]; exact (Below.refl _ _).alloc (Nat.le_refl _) _
  have G5' := Lib.hid hG5
  have X5 := Lib.hid (X4.out.below hb5)
  have HSN5 := Lib.hid (HSN.out.below hb5)
  have HTM5 := Lib.hid (fun h => (HTM4.out h).below hb5 (fun q hq => hq))
  clear hW hG5 hb5 G5 X4 HSN HTM4
  generalize w4.heap.size = Y at *
  have HCL2 := Lib.hid (fun (n : Int) (W : World) (hW : PvS W0 w.heap.size [(Y, xCs tn (.slice An Ln cn), 40), (X, xCs t1 (.slice A1 Lx c1), 40)] n W) => show W.cell? ⟨X, 0, none⟩ = some (.string t1) ∧ W.cell? ⟨X, 1, none⟩ = some (.slice A1 Lx c1) ∧ W.cell? ⟨Y, 0, none⟩ = some (.string tn) ∧ W.cell? ⟨Y, 1, none⟩ = some (.slice An Ln cn) from
    have ⟨x, _⟩ := hW.cell (p := (X, xCs t1 (.slice A1 Lx c1), 40)) (by simp)
    have ⟨y, _⟩ := hW.cell (p := (Y, xCs tn (.slice An Ln cn), 40)) (by simp)
    ⟨x 0, x 1, y 0, y 1⟩)
  obtain ⟨x0, x1, _, _⟩ := HCL2.out _ _ G5'.out
  have HSF := ScriptFault_c t1 l2 (.slice A1 Lx c1) w5 (X5.out.scl (by decide) (by decide)) (HG.out _ _ _ G5'.out).2.1 (HG.out _ _ _ G5'.out).2.2
  have HSF := Lib.hid (HSF.mono (R' := fun e w' => e = .returned (.int .i64 ck) ∧ Below w5.heap.size w5 w') fun e w' h => by unfold ChP at h; rw [HCK.out] at h; exact h)
  go_wp2_with fail
  refine HSF.out.mono ?_
  rintro e w6 ⟨rfl, hb6⟩
  have G6 := Lib.hid (G5'.out.below hb6)
  have X6 := Lib.hid (X5.out.below hb6)
  have HSN6 := Lib.hid (HSN5.out.below hb6)
  have HTM6 := Lib.hid (fun h => (HTM5.out h).below hb6 (fun q hq => by have := G5'.out.plt (p := (Y, xCs tn (.slice An Ln cn), 40)) (by simp); dsimp only at this; omega))
  clear hb6 HSF G5' X5 HSN5 HTM5 x0 x1
  by_cases hc0 : ck = 0
  case neg =>
    have hne : (ck != 0) = true := bne_iff_ne.2 hc0
    have hee : (ck == ck) = true := beq_self_eq_true _
    have HSC := Lib.hid (scripts_c w6 (HG.out _ _ _ G6.out).2.2)
    have HEN := Lib.hid (HG.out _ _ _ G6.out).1
    clear hc0
    go_wp2_with fail
    refine HSC.out.mono ?_
    rintro e w7 ⟨rfl, hb7⟩
    have HE := Lib.hid (HEN.out.trans (hb7.mono HEN.out.size))
    clear hb7 HEN HSC
    go_wp2
    go_ret
    exact ⟨rfl, HE.out⟩
  subst hc0
  have HNO := Lib.hid (chkE_first HCK.out)
  have HNUM2 := Lib.hid (HNUM.out rfl)
  obtain rfl : tn = t1 := HNUM2.out.1
  have HNM := Lib.hid HNUM2.out.2
  obtain ⟨ι, ff, hne, hff, hfS⟩ := family (fun W => W.cell? ⟨X, 0, none⟩ = some (.string tn) ∧ W.cell? ⟨X, 1, none⟩ = some (.slice A1 Lx c1) ∧ W.cell? ⟨Y, 0, none⟩ = some (.string tn) ∧ W.cell? ⟨Y, 1, none⟩ = some (.slice An Ln cn)) w6 (HCL2.out _ _ G6.out)
  have q0 := fun p => (hff p).1
  have q1 := fun p => (hff p).2.1
  have q2 := fun p => (hff p).2.2.1
  have q3 := fun p => (hff p).2.2.2
  have HFS := Lib.hid hfS
  have HSC := Lib.hid (scripts_c w6.drew (HG.out _ _ _ G6.out.drew).2.2)
  have h00 : ((0 : Int) == 0) = true := rfl
  clear hff hfS HNUM2 HNUM HCK
  go_upto_region 8 with (fail)
  refine wp_region_segs3 [0, 12, 13, 18, 19] [20, 21] [] [([], [], 0), ([1, 2, 3, 4, 5, 6, 7, 8, 9, 10], [11], 12), ([], [], 13), ([14, 15], [16, 17], 18), ([], [], 19)] (by kernel_rfl) (by kernel_rfl) (fun _ _ _ dd _ h => by cases dd <;> exact h) (fun W => ∃ p : ι, W = ff p) (HFS.out _ (HCL2.out _ _ G6.out.drew)) ?_
  refine wpSegs3_step (by simp only [pick, List.getElem?_cons_succ, List.getElem?_cons_zero]; rfl) (by simp only [pick, List.getElem?_cons_succ, List.getElem?_cons_zero]; rfl) rfl (fun K0 hK0 L0 hL0 => ?_)
  repeat (first | go_big_quiet_step (fail) | quiet_step (fail))
  refine wpQuiet_nil (hL0 _ ?_)
  repeat (first | go_big_quiet_step (fail) | quiet_step (fail))
  refine wpQuiet_nil ?_
  refine Or.inl ⟨by kernel_rfl, ?_⟩
  go_simp
  refine HSC.out.mono ?_
  rintro e w7 ⟨rfl, hb7⟩
  have G7 := Lib.hid (G6.out.drew.below hb7)
  have X7 := Lib.hid (X6.out.drew.below hb7)
  have hYw : Y < w6.drew.heap.size := G6.out.drew.plt (p := (Y, xCs tn (.slice An Ln cn), 40)) (by simp)
  have HSN7 := Lib.hid (show Sc2 w7 (fun q => q < Y) ln (.slice An Ln cn) from Sc2.below (w := w6.drew) ⟨HSN6.out.sli.drew, fun y hy => (HSN6.out.par y hy).drew, HSN6.out.lt⟩ hb7)
  have HTM7 := Lib.hid (Sli.below (w := w6.drew) (HTM6.out (by first | trivial | rfl)).drew hb7 (fun q hq => Nat.lt_trans hq hYw))
  clear hb7 G6 X6 HSN6 HTM6 HSC hYw
  refine hK0 (fun W => ∃ p : ι, W = ff p) _ _ (fun _ h => h) (HFS.out _ (HCL2.out _ _ G7.out)) ?_
  have HTO := Lib.hid (TimesOf_c tn l2 (.slice A1 Lx c1) w7 X7.out.sc2 (by rw [HL2.out]; omega) HNO.out)
  refine wpSegs3_step (by simp only [pick, List.getElem?_cons_succ, List.getElem?_cons_zero]; rfl) (by simp only [pick, List.getElem?_cons_succ, List.getElem?_cons_zero]; rfl) rfl (fun K1 hK1 L1 hL1 => ?_)
  repeat (first | go_big_quiet_step (fail) | quiet_step (fail))
  refine wpQuiet_nil (hL1 _ ?_)
  repeat (first | go_big_quiet_step (fail) | quiet_step (fail))
  refine wpQuiet_nil ?_
  refine Or.inl ⟨by kernel_rfl, ?_⟩
  go_simp
  refine HTO.out.mono ?_
  rintro e w8 ⟨v8, rfl, hown8, hb8⟩
  have G8 := Lib.hid (G7.out.below hb8)
  have X8 := Lib.hid (X7.out.below hb8)
  have hYw : Y < w7.heap.size := G7.out.plt (p := (Y, xCs tn (.slice An Ln cn), 40)) (by simp)
  have hz8 := hb8.size
  have HSN8 := Lib.hid (HSN7.out.below hb8)
  have HEQ := eqInt_c _ _ (.slice At nt ct) v8 (fun q => q < w8.heap.size) w8 ((HTM7.out.below hb8 (fun q hq => Nat.lt_trans hq hYw)).more fun q hq => by omega) (hown8.sliF (enc := fun x : Int => [.int .i64 x]) (hn := fun _ => rfl) (fun g e => (hown8.block g e).2)) (fun q hq => hq)
  rw [decide_eq_true rfl] at HEQ
  have HEQ := Lib.hid HEQ
  clear hown8 hb8 G7 X7 HSN7 HTM7 HTO hYw hz8
  refine hK1 (fun W => ∃ p : ι, W = ff p) _ _ (fun _ h => h) (HFS.out _ (HCL2.out _ _ G8.out)) ?_
  refine wpSegs3_step (by simp only [pick, List.getElem?_cons_succ, List.getElem?_cons_zero]; rfl) (by simp only [pick, List.getElem?_cons_succ, List.getElem?_cons_zero]; rfl) rfl (fun K2 hK2 L2 hL2 => ?_)
  repeat (first | go_big_quiet_step (fail) | quiet_step (fail))
  refine wpQuiet_nil (hL2 _ ?_)
  repeat (first | go_big_quiet_step (fail) | quiet_step (fail))
  refine wpQuiet_nil ?_
  refine Or.inl ⟨by kernel_rfl, ?_⟩
  go_simp
  refine HEQ.out.mono ?_
  rintro e w9 ⟨rfl, hb9⟩
  have G9 := Lib.hid (G8.out.below hb9)
  have X9 := Lib.hid (X8.out.below hb9)
  have HSN9 := Lib.hid (HSN8.out.below hb9)
  clear hb9 G8 X8 HSN8 HEQ
  refine hK2 (fun W => ∃ p : ι, W = ff p) _ _ (fun _ h => h) (HFS.out _ (HCL2.out _ _ G9.out)) ?_
  have HNU := Lib.hid (Numbered_c tn l2 (.slice A1 Lx c1) w9 X9.out.sli (fun q hq => hq.2.1) (by rw [HL2.out]; omega) (sli_forms X9.out.par))
  refine wpSegs3_step (by simp only [pick, List.getElem?_cons_succ, List.getElem?_cons_zero]; rfl) (by simp only [pick, List.getElem?_cons_succ, List.getElem?_cons_zero]; rfl) rfl (fun K3 hK3 L3 hL3 => ?_)
  repeat (first | go_big_quiet_step (fail) | quiet_step (fail))
  refine wpQuiet_nil (hL3 _ ?_)
  repeat (first | go_big_quiet_step (fail) | quiet_step (fail))
  refine wpQuiet_nil ?_
  refine Or.inl ⟨by kernel_rfl, ?_⟩
  go_simp
  refine HNU.out.mono ?_
  rintro e w10 ⟨v10, rfl, hown10, hb10⟩
  have G10 := Lib.hid (G9.out.below hb10)
  have X10 := X9.out.below hb10
  have HSN10 := HSN9.out.below hb10
  have hYw : Y < w9.heap.size := G9.out.plt (p := (Y, xCs tn (.slice An Ln cn), 40)) (by simp)
  have hz10 := hb10.size
  have HS1 : Sc2 w10 (fun q => q < w10.heap.size) ln (.slice An Ln cn) := ⟨HSN10.sli.more fun q hq => by omega, fun y hy => (HSN10.par y hy).more fun q hq => by omega, fun q hq => hq⟩
  have HS2 : Sc2 w10 (fun q => q < w10.heap.size) (numbTo l2.length l2) v10 := ⟨hown10.sliF (enc := fun x : Scene × Value => x.1.cells x.2) (hn := fun _ => rfl) (fun g e => (hown10.block g e).2), numbTo_par (Q := fun ps v => Sli paraR w10 (fun q => q < w10.heap.size) ps v) l2 (fun y hy => (X10.par y hy).more fun q hq => hq.2.1) l2.length, fun q hq => hq⟩
  have HSS := SameScripts_c tn tn ln (numbTo l2.length l2) _ _ w10 HS1 HS2
  rw [decide_eq_true (by rw [HNM.out, numTo_map, List.length_map])] at HSS
  have HSS := Lib.hid HSS
  obtain ⟨A10, c10, hv10, _, _⟩ := HS2.sli.form
  rw [show (numbTo l2.length l2).length = Lx by rw [numbTo_len]; exact HL2.out] at hv10
  subst hv10
  have HEN := Lib.hid (HG.out _ _ _ G10.out).1
  clear hown10 hb10 G9 X9 HSN9 X10 HSN10 HS1 HS2 HNU hYw hz10
  refine hK3 (fun W => ∃ p : ι, W = ff p) _ _ (fun _ h => h) (HFS.out _ (HCL2.out _ _ G10.out)) ?_
  refine wpSegs3_step (by simp only [pick, List.getElem?_cons_succ, List.getElem?_cons_zero]; rfl) (by simp only [pick, List.getElem?_cons_succ, List.getElem?_cons_zero]; rfl) rfl (fun K4 hK4 L4 hL4 => ?_)
  repeat (first | go_big_quiet_step (fail) | quiet_step (fail))
  refine wpQuiet_nil (hL4 _ ?_)
  repeat (first | go_big_quiet_step (fail) | quiet_step (fail))
  refine wpQuiet_nil ?_
  refine Or.inl ⟨by kernel_rfl, ?_⟩
  go_simp
  refine HSS.out.mono ?_
  rintro e w11 ⟨rfl, hb11⟩
  have HE := Lib.hid (HEN.out.trans (hb11.mono HEN.out.size))
  have hS11 := HFS.out _ (HCL2.out _ _ (G10.out.below hb11))
  clear hb11 HEN HSS G10
  refine hK4 (fun W => ∃ p : ι, W = ff p) _ _ (fun _ h => h) hS11 ?_
  clear hS11
  refine wpSegs3_fin (by simp only [pick, List.getElem?_cons_succ, List.getElem?_cons_zero]; rfl) (by simp only [pick, List.getElem?_cons_succ, List.getElem?_cons_zero]; rfl) (fun L5 hL5 => ?_)
  repeat (first | go_big_quiet_step (fail) | quiet_step (fail))
  refine wpQuiet_nil (hL5 _ ?_)
  repeat (first | go_big_quiet_step (fail) | quiet_step (fail))
  refine wpQuiet_nil ?_
  clear q0 q1 q2 q3 HFS HCL2
  go_wp2
  go_ret
  exact ⟨rfl, HE.out⟩
end Go.Proofs.YtihkkaeoijheoaaGreatDoor

