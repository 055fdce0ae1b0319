/- Texts packed: MkE. -/
import Derived.Test.YtodlfdfkhdfblaaGreatDoorRows
import Derived.Test.YtodlfdfkhdfblaaGreatDoorEm02
import Derived.Test.YtodlfdfkhdfblaaGreatDoorEm13
import Derived.Test.YtodlfdfkhdfblaaGreatDoorEm16
import Derived.Test.YtodlfdfkhdfblaaGreatDoorEm15
import Derived.Deep.DeepCutAuto
import Derived.RegionTactic
/- The events that clips make: the program's and the reference's, walked. Printed by mke.py (the two texts are alike). -/
namespace Go.Proofs.YtodlfdfkhdfblaaGreatDoor
set_option linter.unusedVariables false
open Go.RowKit Go.Sort

def MkP (rl : List Roll) (l : List Tk) (cs : List Clip) (w : World) (e : Ending) (w' : World) : Prop := ∃ v, e = .returned (.tuple #[v, .int .i64 (mkErr rl l cs)]) ∧ Sli evR w' (fun q => w.heap.size ≤ q ∧ q < w'.heap.size) (mkEvs rl l cs) v ∧ Below w.heap.size w w'
theorem MkP.no {rl : List Roll} {l : List Tk} {cs : List Clip} {w w' : World} {q : Int} (h : mkErr rl l cs = q) (hq : ¬ q = 0) (hb : Below w.heap.size w w') : MkP rl l cs w (.returned (.tuple #[.slice none 0 0, .int .i64 q])) w' :=
  ⟨_, by rw [h], by unfold mkEvs; rw [if_neg (by rw [h]; exact hq)]; exact Sli.nil_, hb⟩
theorem MkP.yes {rl : List Roll} {l : List Tk} {cs : List Clip} {out : List Ev} {v : Value} {w w' : World} (h : mkErr rl l cs = 0) (ho : evMake l cs [] = out) (hs : Sli evR w' (fun q => w.heap.size ≤ q ∧ q < w'.heap.size) out v) (hb : Below w.heap.size w w') : MkP rl l cs w (.returned (.tuple #[v, .int .i64 0])) w' :=
  ⟨v, by rw [h], by unfold mkEvs; rw [if_pos h, ho]; exact hs, hb⟩

set_option maxRecDepth 100000 in
set_option maxHeartbeats 4000000 in
theorem MkEvents_c (A : Option Addr) (rl : List Roll) (c lo : Nat) (tl : List (Tk × Value)) (tv : Value) (cs : List Clip) (cv : Value) (F : Nat → Prop) (w : World) (hr : Rs w lo w.heap.size 5 Roll.cells A rl) (hlc : rl.length ≤ c) (hcc : c ≤ 140737488355328) (hsz : ∀ r ∈ rl, r.name.size ≤ 140737488355328)
    (ht : Sli tvR w F tl tv) (hto : ∀ x ∈ tl, ∃ A n c, x.2 = .slice A n c) (hc : Sli clipR w F cs cv) (hF : ∀ b, F b → b < w.heap.size) (hcl : cs.length ≤ 1000) (htl : tl.length ≤ 1000000) :
    Calls Tryz.prog 11 #[.slice A rl.length c, tv, cv] w (MkP rl (tl.map (·.1)) cs w) := by
  obtain ⟨A2, c2, rfl, hl2, hc2⟩ := ht.form
  obtain ⟨A3, c3, rfl, hl3, hc3⟩ := hc.form
  have HR := Lib.hid hr; clear hr
  have HZ := Lib.hid hsz; clear hsz
  have HT := Lib.hid ht; clear ht
  have HTO := Lib.hid hto; clear hto
  have HC := Lib.hid hc; clear hc
  have HF := Lib.hid hF; clear hF
  have hlen : rl.length ≤ 140737488355328 := by omega
  by_cases h0 : rollsFault rl = 0
  case neg =>
    have HE := Lib.hid (show mkErr rl (tl.map (·.1)) cs = rollsFault rl from if_pos h0)
    have hne : (rollsFault rl != 0) = true := by rw [bne_iff_ne]; exact h0
    have HN := Lib.hid h0
    go_enter Tryz.func11, Tryz.ntmps11
    go_wp2_with fail
    refine (CheckRolls_c A rl c lo _ HR.out hlen HZ.out).mono ?_
    rintro e w1 ⟨rfl, hb1⟩
    have HB1 := Lib.hid hb1
    clear hb1 h0
    go_wp2
    go_ret2
    exact MkP.no HE.out HN.out HB1.out
  have H0 := Lib.hid h0
  obtain ⟨i0, hi0, hz0, hz1, hz2⟩ := info_parts (show (Tryz.prog.info? 44).map (fun i => (i.zero, i.size, i.bytes)) = some (some (.agg #[.string ⟨#[]⟩, .int .i64 0, .int .i64 0]), 3, 32) by kernel_rfl)
  obtain ⟨n, hn⟩ : ∃ n, cs.length = n := ⟨_, rfl⟩
  have HN := Lib.hid hn
  rw [hn] at HC hl3 hcl ⊢
  go_enter Tryz.func11, Tryz.ntmps11
  go_wp2_with fail
  refine (CheckRolls_c A rl c lo _ HR.out hlen HZ.out).mono ?_
  rintro e w1 ⟨rfl, hb1⟩
  rw [h0]
  have hzz1 := hb1.size
  have HB1 := Lib.hid hb1
  clear hb1 h0 hn
  go_wp2
  go_loopw [9, 23] (fun v i wr => ∃ (k : Nat) (out : List Ev), k ≤ n ∧ i = .int .i64 k ∧ out.length ≤ k ∧ w.heap.size ≤ wr.heap.size ∧ Hid (Below w.heap.size w wr) ∧ Hid (Own evR wr w.heap.size w.heap.size 44 out v) ∧ Hid (∀ x ∈ cs.take k, clipErr rl (tl.map (·.1)) x = 0) ∧ Hid (evMake (tl.map (·.1)) cs [] = evMake (tl.map (·.1)) (cs.drop k) out)) (fun _ i _ => n - (intOf i).toNat)
  case atStart => exact ⟨0, [], Nat.zero_le _, rfl, Nat.le_refl _, hzz1, HB1.out, Own.nil_, (fun x hx => by simp at hx), by rw [List.drop_zero]; exact Lib.hid rfl⟩
  case round =>
    obtain ⟨k, out, hk, rfl, hol, hz, HB, HO, HX, HV⟩ := hrel
    by_cases hlt : k < n
    · obtain ⟨b, off, a, rfl, hfb, hra, hca⟩ := (HC.out.below HB.out HF.out).at_ k (by rw [HN.out]; exact hlt)
      have hea : a = Clip.cells (cs[k]'(by rw [HN.out]; exact hlt)) := hra
      have hst := evMake_step (tl.map (·.1)) cs k out (by rw [HN.out]; exact hlt)
      have hbad := fun (q : Int) (hf : clipErr rl (tl.map (·.1)) (cs[k]'(by rw [HN.out]; exact hlt)) = q) (hq : ¬ q = 0) => firstE_at HX.out (by rw [HN.out]; exact hlt) (show ¬ clipErr rl (tl.map (·.1)) (cs[k]'(by rw [HN.out]; exact hlt)) = 0 by rw [hf]; exact hq)
      have hgood := fun (hf : clipErr rl (tl.map (·.1)) (cs[k]'(by rw [HN.out]; exact hlt)) = 0) => take_next (q := fun x => clipErr rl (tl.map (·.1)) x = 0) (by rw [HN.out]; exact hlt) HX.out hf
      have hstep := HV.out.trans hst
      generalize cs[k]'(by rw [HN.out]; exact hlt) = x at *
      obtain ⟨ct, ci, co⟩ := x
      subst hea
      have x0 : wr.cell? ⟨b, off + k * 3, none⟩ = some (.int .i64 ct) := hca 0 _ rfl
      have x1 : wr.cell? ⟨b, off + k * 3 + 1, none⟩ = some (.int .i64 ci) := hca 1 _ rfl
      have x2 : wr.cell? ⟨b, off + k * 3 + 2, none⟩ = some (.int .i64 co) := hca 2 _ rfl
      have hbw : b < wr.heap.size := by have := HF.out b hfb; omega
      clear hca hra hst
      have HBAD := Lib.hid (fun (q : Int) (hf : clipErr rl (tl.map (·.1)) ⟨ct, ci, co⟩ = q) (hq : ¬ q = 0) => show mkErr rl (tl.map (·.1)) cs = q by unfold mkErr; rw [if_neg (by rw [H0.out]; simp), hbad q hf hq, hf])
      have HGOOD := Lib.hid hgood
      have HST := Lib.hid hstep
      clear hbad hgood hstep HX HV
      have HBX := Lib.hid (HB.out.alloc hz (.cells #[.int .i64 ct, .int .i64 ci, .int .i64 co] 91))
      by_cases hb1 : ct < 0
      · have HE := Lib.hid (HBAD.out 8 (if_pos (.inl hb1)) (by decide))
        clear HBAD HGOOD
        go_wp2
        go_ret2
        exact MkP.no HE.out (by decide) HBX.out
      obtain ⟨q, rfl⟩ := Int.eq_ofNat_of_zero_le (show 0 ≤ ct by omega)
      by_cases hb2 : tl.length ≤ q
      · have HE := Lib.hid (HBAD.out 8 (if_pos (.inr (by simp; omega))) (by decide))
        clear HBAD HGOOD
        go_wp2
        go_ret2
        exact MkP.no HE.out (by decide) HBX.out
      have hq : q < tl.length := by omega
      clear hb1 hb2
      have hgd : (tl.map (·.1)).getD q Tk.zero = tl[q].1 := by rw [List.getD_eq_getElem?_getD, List.getElem?_map, List.getElem?_eq_getElem hq]; rfl
      have hce : clipErr rl (tl.map (·.1)) ⟨(q : Int), ci, co⟩ = if rollHas rl tl[q].1.roll = false then 8 else if ci < tl[q].1.tin ∨ co ≤ ci ∨ tl[q].1.tout < co then 1 else 0 := by
        unfold clipErr
        rw [if_neg (by dsimp only; rw [List.length_map]; omega)]
        dsimp only
        rw [Int.toNat_natCast, hgd]
      dsimp only at HST
      rw [Int.toNat_natCast, hgd] at HST
      obtain ⟨b5, off5, rfl, hfb5, t0, t1, t2, t3, t4, t5, t6, t7, t8⟩ := tkAt (HT.out.below HB.out HF.out) q hq
      obtain ⟨A8, n8, c8, h8⟩ := HTO.out _ (List.getElem_mem hq)
      rw [h8] at t8
      have hb5 : b5 < wr.heap.size := by have := HF.out b5 hfb5; omega
      clear h8 hgd
      obtain ⟨tk, htk⟩ : ∃ tk, tl[q].1 = tk := ⟨_, rfl⟩
      rw [htk] at hce HST t0 t1 t2 t3 t4 t5 t6 t7
      clear htk
      have HCE := Lib.hid hce
      clear hce
      have HBY := Lib.hid (HBX.out.alloc (by simp; omega) (.cells #[.string tk.scene, .string tk.setup, .int .i64 tk.number, .string tk.roll, .string tk.sound, .int .i64 tk.tin, .int .i64 tk.tout, .bool tk.good, .slice A8 n8 c8] 52))
      go_wp2_with fail
      refine (rollOf_c A rl c lo tk.roll _ ((((HR.out.below HB.out (Nat.le_refl _)).alloc (by omega) _).alloc (by simp; omega) _).more (Nat.le_refl _) (by simp; omega)) hlen).mono ?_
      rintro e w2 ⟨rfl, hb2⟩
      have hz2 := hb2.size
      simp at hz2
      have hz2' : wr.heap.size + 1 < w2.heap.size := by omega
      have hz2'' : wr.heap.size < w2.heap.size := by omega
      have d1 := (hb2.cell (p := ⟨wr.heap.size, 1, none⟩) (by simp; omega)).trans (show _ = some (.int .i64 ci) by go_simp)
      have d2 := (hb2.cell (p := ⟨wr.heap.size, 2, none⟩) (by simp; omega)).trans (show _ = some (.int .i64 co) by go_simp)
      have e3 := (hb2.cell (p := ⟨wr.heap.size + 1, 3, none⟩) (by simp)).trans (show _ = some (.string tk.roll) by go_simp)
      have e5 := (hb2.cell (p := ⟨wr.heap.size + 1, 5, none⟩) (by simp)).trans (show _ = some (.int .i64 tk.tin) by go_simp)
      have e6 := (hb2.cell (p := ⟨wr.heap.size + 1, 6, none⟩) (by simp)).trans (show _ = some (.int .i64 tk.tout) by go_simp)
      have HB2 := Lib.hid (HBY.out.trans (hb2.mono (by simp; omega)))
      have HO2 := Lib.hid (((HO.out.alloc _).alloc _).below hb2)
      clear hb2 HBX HBY HB HO x0 x1 x2 t0 t1 t2 t3 t4 t5 t6 t7 t8
      cases hh : rollHas rl tk.roll with
      | false =>
        have HE := Lib.hid (HBAD.out 8 (by rw [HCE.out, if_pos hh]) (by decide))
        clear HBAD HGOOD hh
        go_wp2
        go_ret2
        exact MkP.no HE.out (by decide) (HB2.out.alloc (by omega) _)
      | true =>
        have HCF := Lib.hid (show clipErr rl (tl.map (·.1)) ⟨(q : Int), ci, co⟩ = if ci < tk.tin ∨ co ≤ ci ∨ tk.tout < co then 1 else 0 by rw [HCE.out, if_neg (by rw [hh]; simp)])
        generalize rollGet rl tk.roll = R at *
        clear hh HCE
        by_cases g1 : ci < tk.tin
        · have HE := Lib.hid (HBAD.out 1 (by rw [HCF.out, if_pos (.inl g1)]) (by decide))
          clear HBAD HGOOD
          go_wp2
          go_ret2
          exact MkP.no HE.out (by decide) (HB2.out.alloc (by omega) _)
        by_cases g2 : co ≤ ci
        · have HE := Lib.hid (HBAD.out 1 (by rw [HCF.out, if_pos (.inr (.inl g2))]) (by decide))
          have g1' : tk.tin ≤ ci := by omega
          clear HBAD HGOOD g1
          go_wp2
          go_ret2
          exact MkP.no HE.out (by decide) (HB2.out.alloc (by omega) _)
        by_cases g3 : tk.tout < co
        · have HE := Lib.hid (HBAD.out 1 (by rw [HCF.out, if_pos (.inr (.inr g3))]) (by decide))
          have g1' : tk.tin ≤ ci := by omega
          have g2' : ci < co := by omega
          clear HBAD HGOOD g1 g2
          go_wp2
          go_ret2
          exact MkP.no HE.out (by decide) (HB2.out.alloc (by omega) _)
        have HG := Lib.hid (HGOOD.out (by rw [HCF.out, if_neg (by omega)]))
        have g1' : tk.tin ≤ ci := by omega
        have g2' : ci < co := by omega
        have g3' : co ≤ tk.tout := by omega
        clear HBAD HGOOD HCF g1 g2 g3
        have HB3 := Lib.hid (HB2.out.alloc (by omega) (.cells #[.string R.name, .int .i64 R.rate, .int .i64 R.start, .int .i64 R.long, .int .i64 R.drift] 82))
        have HO3 := Lib.hid (HO2.out.alloc (.cells #[.string R.name, .int .i64 R.rate, .int .i64 R.start, .int .i64 R.long, .int .i64 R.drift] 82))
        have HVB := Lib.hid (fun g e => (HO3.out.block g e).1)
        clear HB2 HO2
        have HPUSH : evMake (tl.map (·.1)) cs [] = evMake (tl.map (·.1)) (cs.drop (k + 1)) (out ++ [⟨tk.roll, ci, co⟩]) → Hid (evMake (tl.map (·.1)) cs [] = evMake (tl.map (·.1)) (cs.drop (k + 1)) (out ++ [⟨tk.roll, ci, co⟩])) := fun h => Lib.hid h
        obtain ⟨A5, c5, rfl, _, _⟩ := (HO3.out.sli (F := fun _ => True) (fun _ _ _ => trivial) (fun _ _ => trivial)).form
        obtain ⟨ln, hln⟩ : ∃ q, out.length = q := ⟨_, rfl⟩
        have HLN := Lib.hid hln
        rw [hln] at HO3 HVB hol ⊢
        clear hln
        go_upto_region 17 with (fail)
        generalize hW3 : w2.alloc (.cells #[.string R.name, .int .i64 R.rate, .int .i64 R.start, .int .i64 R.long, .int .i64 R.drift] 82) = w3 at *
        have hz3 : w3.heap.size = w2.heap.size + 1 := by rw [← hW3]; simp
        have x1 : w3.cell? ⟨wr.heap.size, 1, none⟩ = some (.int .i64 ci) := by rw [← hW3]; exact (World.cell?_alloc_lt w2 _ ⟨wr.heap.size, 1, none⟩ hz2'').trans d1
        have x2 : w3.cell? ⟨wr.heap.size, 2, none⟩ = some (.int .i64 co) := by rw [← hW3]; exact (World.cell?_alloc_lt w2 _ ⟨wr.heap.size, 2, none⟩ hz2'').trans d2
        have y3 : w3.cell? ⟨wr.heap.size + 1, 3, none⟩ = some (.string tk.roll) := by rw [← hW3]; exact (World.cell?_alloc_lt w2 _ ⟨wr.heap.size + 1, 3, none⟩ hz2').trans e3
        clear d1 d2 e3 e5 e6 hW3
        have hl1 : wr.heap.size < w3.heap.size := by omega
        have hl2 : wr.heap.size + 1 < w3.heap.size := by omega
        go_cut [15, 94] (fun s15 s94 wx => ∃ (bb : Bool) (z : Int), s15 = .int .i64 z ∧ z = (ln : Int) - 1 ∧ s94 = .bool bb ∧ w3.heap.size ≤ wx.heap.size ∧ Hid (Below w3.heap.size w3 wx) ∧ (bb = false → Hid (evMake (tl.map (·.1)) cs [] = evMake (tl.map (·.1)) (cs.drop (k + 1)) (out ++ [⟨tk.roll, ci, co⟩]))) ∧ (bb = true → 0 < ln ∧ Hid (evMake (tl.map (·.1)) cs [] = evMake (tl.map (·.1)) (cs.drop (k + 1)) (out.modify (ln - 1) (fun e => { e with tout := co })))))
        case first =>
          rcases Nat.eq_zero_or_pos ln with rfl | ho
          · have hn1 : out = [] := List.length_eq_zero_iff.1 HLN.out
            have HS2 := HPUSH (by have h := HST.out; rw [hn1] at h ⊢; exact h)
            clear HST HPUSH hn1
            go_wp2
            go_region
            go_wp2
            go_meet
            exact ⟨false, _, rfl, by omega, rfl, Nat.le_refl _, (Below.refl _ _).drew, fun _ => HS2, fun h => by cases h⟩
          · obtain ⟨m, rfl⟩ : ∃ m, ln = m + 1 := ⟨ln - 1, by omega⟩
            have hml : m < out.length := by rw [HLN.out]; omega
            have hca := clipAdd_some (r := tk.roll) (c := ⟨(q : Int), ci, co⟩) (show 0 < out.length by omega)
            obtain ⟨g, cap, hv, hgb, hgl⟩ := HO3.out.some_ (show 0 < out.length by omega)
            injection hv with hv1 hv2 hv3
            subst hv1
            have hxx : out[out.length - 1]'(by omega) = out[m]'hml := by congr 1; have := HLN.out; omega
            rw [hxx, show out.length - 1 = m by have := HLN.out; omega] at hca
            clear hxx hv2 hv3
            have o0 := (HO3.out.cellAt m hml 0 (by decide)).1
            have o2 := (HO3.out.cellAt m hml 2 (by decide)).1
            generalize out[m]'hml = y at *
            have o0' : w3.cell? ⟨g, m * 3, none⟩ = some (.string y.roll) := o0
            have o2' : w3.cell? ⟨g, m * 3 + 2, none⟩ = some (.int .i64 y.tout) := o2
            have hmk : m < 1000 := by omega
            have HCA := Lib.hid hca
            have k1 : (0 : Int) ≤ (m : Int) := by omega
            have k2 : (m : Int) < (m : Int) + 1 := by omega
            clear hml o0 o2 ho hca
            by_cases q1 : y.roll = tk.roll
            · have q1' : (y.roll.toList == tk.roll.toList) = true := by rw [q1]; exact beq_self_eq_true _
              by_cases q2 : y.tout = ci
              · have HS2 := Lib.hid (HST.out.trans (by rw [HCA.out, if_pos ⟨q1, q2⟩]))
                have q2' : (y.tout == ci) = true := by rw [q2]; exact beq_self_eq_true _
                clear HST HPUSH HCA q1 q2
                go_wp2
                go_region
                go_wp2
                go_meet
                exact ⟨true, _, rfl, by omega, rfl, Nat.le_refl _, (Below.refl _ _).drew, fun h => (by cases h), fun _ => ⟨by omega, HS2⟩⟩
              · have HS2 := HPUSH (HST.out.trans (by rw [HCA.out, if_neg (fun h => q2 h.2)]))
                have q2' : (y.tout == ci) = false := beq_eq_false_iff_ne.2 q2
                clear HST HPUSH HCA q1 q2
                go_wp2
                go_region
                go_wp2
                go_meet
                exact ⟨false, _, rfl, by omega, rfl, Nat.le_refl _, (Below.refl _ _).drew, fun _ => HS2, fun h => (by cases h)⟩
            · have HS2 := HPUSH (HST.out.trans (by rw [HCA.out, if_neg (fun h => q1 h.1)]))
              have q1' : (y.roll.toList == tk.roll.toList) = false := by rw [beqS]; simp [q1]
              clear HST HPUSH HCA q1
              go_wp2
              go_region
              go_wp2
              go_meet
              exact ⟨false, _, rfl, by omega, rfl, Nat.le_refl _, (Below.refl _ _).drew, fun _ => HS2, fun h => (by cases h)⟩
        case rest =>
          obtain ⟨bb, z15, rfl, hz15, rfl, hzx, HBW, HF1, HF2⟩ := hcut
          have X1 := (HBW.out.cell (p := ⟨wr.heap.size, 1, none⟩) hl1).trans x1
          have X2 := (HBW.out.cell (p := ⟨wr.heap.size, 2, none⟩) hl1).trans x2
          have Y3 := (HBW.out.cell (p := ⟨wr.heap.size + 1, 3, none⟩) hl2).trans y3
          have hl1' : wr.heap.size < wc.heap.size := by omega
          have hl2' : wr.heap.size + 1 < wc.heap.size := by omega
          have HB4 := Lib.hid (HB3.out.trans (HBW.out.mono (by omega)))
          have HO4 := Lib.hid (HO3.out.below HBW.out)
          clear x1 x2 y3 HBW HB3 HO3 HST HPUSH
          cases bb with
          | false =>
            have HS2 := HF1 rfl
            clear HF1 HF2
            go_wp2_with (at_builtin; (refine wpList_pushB (R := evR) rfl _ _ _ rfl w.heap.size w.heap.size 44 i0 _ 32 Tryz.underlying36 hi0 hz0 (by assumption) (by assumption) rfl (by decide) _ (.slice A5 ln c5) out rfl (HO4.out.alloc _) ⟨tk.roll, ci, co⟩ _ rfl (oneC rfl) wc.heap.size _ _ (heap_alloc_new wc _) rfl (by simp [maxLen]; have := HLN.out; omega) (by have := HLN.out; omega) (by simp; omega) ?_); intro g cap w4 hown4 hg4 hat4 hlt4)
            have hz4 := hg4.size
            simp at hz4
            have hl4 : out.length = ln := HLN.out
            go_roundw
            case rel => exact ⟨k + 1, out ++ [Ev.mk tk.roll ci co], by omega, intNum, by rw [List.length_append]; simp; omega, by omega, (HB4.out.alloc (by omega) _).grown hg4 (by simp; omega) HVB.out, hown4, HG.out, HS2.out⟩
            case measure => simp [intOf]; omega
          | true =>
            obtain ⟨hp, HS2⟩ := HF2 rfl
            obtain ⟨m, rfl⟩ : ∃ m, ln = m + 1 := ⟨ln - 1, by omega⟩
            obtain rfl : z15 = (m : Int) := by omega
            clear hz15
            have hml : m < out.length := by rw [HLN.out]; omega
            obtain ⟨g, cap, hv, hgb, hgl⟩ := HO4.out.some_ (show 0 < out.length by omega)
            injection hv with hv1 hv2 hv3
            subst hv1
            obtain ⟨o2, f2⟩ := HO4.out.cellAt m hml 2 (by decide)
            have HMM := Lib.hid (HO4.out.modify (fun e => { e with tout := co }) m 2 (.int .i64 co) (fun _ => rfl) (by decide) hml)
            have HBS := Lib.hid (belSet HB4.out hgb (p := ⟨g, m * 3 + 2, none⟩) (.int .i64 co))
            have o2' : wc.cell? ⟨g, m * 3 + 2, none⟩ = some (.int .i64 (out[m]'hml).tout) := o2
            generalize out[m]'hml = y at *
            have hmk : m < 1000 := by omega
            have k1 : (0 : Int) ≤ (m : Int) := by omega
            have k2 : (m : Int) < (m : Int) + 1 := by omega
            clear hml o2 hv2 hv3 hp HF1 HF2
            go_wp2
            go_roundw
            case rel => exact ⟨k + 1, out.modify m (fun e => { e with tout := co }), by omega, intNum, by rw [List.length_modify, HLN.out]; omega, by simp [World.setCell]; omega, HBS.out, HMM.out, HG.out, HS2.out⟩
            case measure => simp [intOf]; omega
    · have HE := Lib.hid (show mkErr rl (tl.map (·.1)) cs = 0 by
        unfold mkErr
        rw [if_neg (by rw [H0.out]; simp)]
        exact firstE_all (take_all (q := fun x => clipErr rl (tl.map (·.1)) x = 0) (by rw [HN.out]; exact hlt) HX.out))
      have HS2 := Lib.hid (HV.out.trans (evMake_end (tl.map (·.1)) cs k out (by rw [HN.out]; exact hlt)))
      go_wp2
      go_ret2
      exact MkP.yes HE.out HS2.out (HO.out.sli (fun q h1 h2 => ⟨h1, h2⟩) (fun g hg => HO.out.block g hg)) HB.out

set_option maxRecDepth 100000 in
set_option maxHeartbeats 4000000 in
theorem MkEventsOf_c (A : Option Addr) (rl : List Roll) (c lo : Nat) (tl : List (Tk × Value)) (tv : Value) (cs : List Clip) (cv : Value) (F : Nat → Prop) (w : World) (hr : Rs w lo w.heap.size 5 Roll.cells A rl) (hlc : rl.length ≤ c) (hcc : c ≤ 140737488355328) (hsz : ∀ r ∈ rl, r.name.size ≤ 140737488355328)
    (ht : Sli tvR w F tl tv) (hto : ∀ x ∈ tl, ∃ A n c, x.2 = .slice A n c) (hc : Sli clipR w F cs cv) (hF : ∀ b, F b → b < w.heap.size) (hcl : cs.length ≤ 1000) (htl : tl.length ≤ 1000000) :
    Calls Tryz.prog 12 #[.slice A rl.length c, tv, cv] w (MkP rl (tl.map (·.1)) cs w) := by
  obtain ⟨A2, c2, rfl, hl2, hc2⟩ := ht.form
  obtain ⟨A3, c3, rfl, hl3, hc3⟩ := hc.form
  have HR := Lib.hid hr; clear hr
  have HZ := Lib.hid hsz; clear hsz
  have HT := Lib.hid ht; clear ht
  have HTO := Lib.hid hto; clear hto
  have HC := Lib.hid hc; clear hc
  have HF := Lib.hid hF; clear hF
  have hlen : rl.length ≤ 140737488355328 := by omega
  by_cases h0 : rollsFault rl = 0
  case neg =>
    have HE := Lib.hid (show mkErr rl (tl.map (·.1)) cs = rollsFault rl from if_pos h0)
    have hne : (rollsFault rl != 0) = true := by rw [bne_iff_ne]; exact h0
    have HN := Lib.hid h0
    go_enter Tryz.func12, Tryz.ntmps12
    go_wp2_with fail
    refine (RollsFault_c A rl c lo _ HR.out hlc hcc HZ.out).mono ?_
    rintro e w1 ⟨rfl, hb1⟩
    have HB1 := Lib.hid hb1
    clear hb1 h0
    go_wp2
    go_ret2
    exact MkP.no HE.out HN.out HB1.out
  have H0 := Lib.hid h0
  obtain ⟨i0, hi0, hz0, hz1, hz2⟩ := info_parts (show (Tryz.prog.info? 44).map (fun i => (i.zero, i.size, i.bytes)) = some (some (.agg #[.string ⟨#[]⟩, .int .i64 0, .int .i64 0]), 3, 32) by kernel_rfl)
  obtain ⟨n, hn⟩ : ∃ n, cs.length = n := ⟨_, rfl⟩
  have HN := Lib.hid hn
  rw [hn] at HC hl3 hcl ⊢
  go_enter Tryz.func12, Tryz.ntmps12
  go_wp2_with fail
  refine (RollsFault_c A rl c lo _ HR.out hlc hcc HZ.out).mono ?_
  rintro e w1 ⟨rfl, hb1⟩
  rw [h0]
  have hzz1 := hb1.size
  have HB1 := Lib.hid hb1
  clear hb1 h0 hn
  go_wp2
  go_loopw [9, 23] (fun v i wr => ∃ (k : Nat) (out : List Ev), k ≤ n ∧ i = .int .i64 k ∧ out.length ≤ k ∧ w.heap.size ≤ wr.heap.size ∧ Hid (Below w.heap.size w wr) ∧ Hid (Own evR wr w.heap.size w.heap.size 44 out v) ∧ Hid (∀ x ∈ cs.take k, clipErr rl (tl.map (·.1)) x = 0) ∧ Hid (evMake (tl.map (·.1)) cs [] = evMake (tl.map (·.1)) (cs.drop k) out)) (fun _ i _ => n - (intOf i).toNat)
  case atStart => exact ⟨0, [], Nat.zero_le _, rfl, Nat.le_refl _, hzz1, HB1.out, Own.nil_, (fun x hx => by simp at hx), by rw [List.drop_zero]; exact Lib.hid rfl⟩
  case round =>
    obtain ⟨k, out, hk, rfl, hol, hz, HB, HO, HX, HV⟩ := hrel
    by_cases hlt : k < n
    · obtain ⟨b, off, a, rfl, hfb, hra, hca⟩ := (HC.out.below HB.out HF.out).at_ k (by rw [HN.out]; exact hlt)
      have hea : a = Clip.cells (cs[k]'(by rw [HN.out]; exact hlt)) := hra
      have hst := evMake_step (tl.map (·.1)) cs k out (by rw [HN.out]; exact hlt)
      have hbad := fun (q : Int) (hf : clipErr rl (tl.map (·.1)) (cs[k]'(by rw [HN.out]; exact hlt)) = q) (hq : ¬ q = 0) => firstE_at HX.out (by rw [HN.out]; exact hlt) (show ¬ clipErr rl (tl.map (·.1)) (cs[k]'(by rw [HN.out]; exact hlt)) = 0 by rw [hf]; exact hq)
      have hgood := fun (hf : clipErr rl (tl.map (·.1)) (cs[k]'(by rw [HN.out]; exact hlt)) = 0) => take_next (q := fun x => clipErr rl (tl.map (·.1)) x = 0) (by rw [HN.out]; exact hlt) HX.out hf
      have hstep := HV.out.trans hst
      generalize cs[k]'(by rw [HN.out]; exact hlt) = x at *
      obtain ⟨ct, ci, co⟩ := x
      subst hea
      have x0 : wr.cell? ⟨b, off + k * 3, none⟩ = some (.int .i64 ct) := hca 0 _ rfl
      have x1 : wr.cell? ⟨b, off + k * 3 + 1, none⟩ = some (.int .i64 ci) := hca 1 _ rfl
      have x2 : wr.cell? ⟨b, off + k * 3 + 2, none⟩ = some (.int .i64 co) := hca 2 _ rfl
      have hbw : b < wr.heap.size := by have := HF.out b hfb; omega
      clear hca hra hst
      have HBAD := Lib.hid (fun (q : Int) (hf : clipErr rl (tl.map (·.1)) ⟨ct, ci, co⟩ = q) (hq : ¬ q = 0) => show mkErr rl (tl.map (·.1)) cs = q by unfold mkErr; rw [if_neg (by rw [H0.out]; simp), hbad q hf hq, hf])
      have HGOOD := Lib.hid hgood
      have HST := Lib.hid hstep
      clear hbad hgood hstep HX HV
      have HBX := Lib.hid (HB.out.alloc hz (.cells #[.int .i64 ct, .int .i64 ci, .int .i64 co] 91))
      by_cases hb1 : ct < 0
      · have HE := Lib.hid (HBAD.out 8 (if_pos (.inl hb1)) (by decide))
        clear HBAD HGOOD
        go_wp2
        go_ret2
        exact MkP.no HE.out (by decide) HBX.out
      obtain ⟨q, rfl⟩ := Int.eq_ofNat_of_zero_le (show 0 ≤ ct by omega)
      by_cases hb2 : tl.length ≤ q
      · have HE := Lib.hid (HBAD.out 8 (if_pos (.inr (by simp; omega))) (by decide))
        clear HBAD HGOOD
        go_wp2
        go_ret2
        exact MkP.no HE.out (by decide) HBX.out
      have hq : q < tl.length := by omega
      clear hb1 hb2
      have hgd : (tl.map (·.1)).getD q Tk.zero = tl[q].1 := by rw [List.getD_eq_getElem?_getD, List.getElem?_map, List.getElem?_eq_getElem hq]; rfl
      have hce : clipErr rl (tl.map (·.1)) ⟨(q : Int), ci, co⟩ = if rollHas rl tl[q].1.roll = false then 8 else if ci < tl[q].1.tin ∨ co ≤ ci ∨ tl[q].1.tout < co then 1 else 0 := by
        unfold clipErr
        rw [if_neg (by dsimp only; rw [List.length_map]; omega)]
        dsimp only
        rw [Int.toNat_natCast, hgd]
      dsimp only at HST
      rw [Int.toNat_natCast, hgd] at HST
      obtain ⟨b5, off5, rfl, hfb5, t0, t1, t2, t3, t4, t5, t6, t7, t8⟩ := tkAt (HT.out.below HB.out HF.out) q hq
      obtain ⟨A8, n8, c8, h8⟩ := HTO.out _ (List.getElem_mem hq)
      rw [h8] at t8
      have hb5 : b5 < wr.heap.size := by have := HF.out b5 hfb5; omega
      clear h8 hgd
      obtain ⟨tk, htk⟩ : ∃ tk, tl[q].1 = tk := ⟨_, rfl⟩
      rw [htk] at hce HST t0 t1 t2 t3 t4 t5 t6 t7
      clear htk
      have HCE := Lib.hid hce
      clear hce
      have HBY := Lib.hid (HBX.out.alloc (by simp; omega) (.cells #[.string tk.scene, .string tk.setup, .int .i64 tk.number, .string tk.roll, .string tk.sound, .int .i64 tk.tin, .int .i64 tk.tout, .bool tk.good, .slice A8 n8 c8] 52))
      go_wp2_with fail
      refine (rollOfR_c A rl c lo tk.roll _ ((((HR.out.below HB.out (Nat.le_refl _)).alloc (by omega) _).alloc (by simp; omega) _).more (Nat.le_refl _) (by simp; omega)) hlen (fun r hr => (rollsFault_ok rl H0.out r hr).2.2)).mono ?_
      rintro e w2 ⟨rfl, hb2⟩
      have hz2 := hb2.size
      simp at hz2
      have hz2' : wr.heap.size + 1 < w2.heap.size := by omega
      have hz2'' : wr.heap.size < w2.heap.size := by omega
      have d1 := (hb2.cell (p := ⟨wr.heap.size, 1, none⟩) (by simp; omega)).trans (show _ = some (.int .i64 ci) by go_simp)
      have d2 := (hb2.cell (p := ⟨wr.heap.size, 2, none⟩) (by simp; omega)).trans (show _ = some (.int .i64 co) by go_simp)
      have e3 := (hb2.cell (p := ⟨wr.heap.size + 1, 3, none⟩) (by simp)).trans (show _ = some (.string tk.roll) by go_simp)
      have e5 := (hb2.cell (p := ⟨wr.heap.size + 1, 5, none⟩) (by simp)).trans (show _ = some (.int .i64 tk.tin) by go_simp)
      have e6 := (hb2.cell (p := ⟨wr.heap.size + 1, 6, none⟩) (by simp)).trans (show _ = some (.int .i64 tk.tout) by go_simp)
      have HB2 := Lib.hid (HBY.out.trans (hb2.mono (by simp; omega)))
      have HO2 := Lib.hid (((HO.out.alloc _).alloc _).below hb2)
      clear hb2 HBX HBY HB HO x0 x1 x2 t0 t1 t2 t3 t4 t5 t6 t7 t8
      cases hh : rollHas rl tk.roll with
      | false =>
        have HE := Lib.hid (HBAD.out 8 (by rw [HCE.out, if_pos hh]) (by decide))
        clear HBAD HGOOD hh
        go_wp2
        go_ret2
        exact MkP.no HE.out (by decide) (HB2.out.alloc (by omega) _)
      | true =>
        have HCF := Lib.hid (show clipErr rl (tl.map (·.1)) ⟨(q : Int), ci, co⟩ = if ci < tk.tin ∨ co ≤ ci ∨ tk.tout < co then 1 else 0 by rw [HCE.out, if_neg (by rw [hh]; simp)])
        generalize rollGet rl tk.roll = R at *
        clear hh HCE
        by_cases g1 : ci < tk.tin
        · have HE := Lib.hid (HBAD.out 1 (by rw [HCF.out, if_pos (.inl g1)]) (by decide))
          clear HBAD HGOOD
          go_wp2
          go_ret2
          exact MkP.no HE.out (by decide) (HB2.out.alloc (by omega) _)
        by_cases g2 : co ≤ ci
        · have HE := Lib.hid (HBAD.out 1 (by rw [HCF.out, if_pos (.inr (.inl g2))]) (by decide))
          have g1' : tk.tin ≤ ci := by omega
          clear HBAD HGOOD g1
          go_wp2
          go_ret2
          exact MkP.no HE.out (by decide) (HB2.out.alloc (by omega) _)
        by_cases g3 : tk.tout < co
        · have HE := Lib.hid (HBAD.out 1 (by rw [HCF.out, if_pos (.inr (.inr g3))]) (by decide))
          have g1' : tk.tin ≤ ci := by omega
          have g2' : ci < co := by omega
          clear HBAD HGOOD g1 g2
          go_wp2
          go_ret2
          exact MkP.no HE.out (by decide) (HB2.out.alloc (by omega) _)
        have HG := Lib.hid (HGOOD.out (by rw [HCF.out, if_neg (by omega)]))
        have g1' : tk.tin ≤ ci := by omega
        have g2' : ci < co := by omega
        have g3' : co ≤ tk.tout := by omega
        clear HBAD HGOOD HCF g1 g2 g3
        have HB3 := Lib.hid (HB2.out.alloc (by omega) (.cells #[.string R.name, .int .i64 R.rate, .int .i64 R.start, .int .i64 R.long, .int .i64 R.drift] 82))
        have HO3 := Lib.hid (HO2.out.alloc (.cells #[.string R.name, .int .i64 R.rate, .int .i64 R.start, .int .i64 R.long, .int .i64 R.drift] 82))
        have HVB := Lib.hid (fun g e => (HO3.out.block g e).1)
        clear HB2 HO2
        have HPUSH : evMake (tl.map (·.1)) cs [] = evMake (tl.map (·.1)) (cs.drop (k + 1)) (out ++ [⟨tk.roll, ci, co⟩]) → Hid (evMake (tl.map (·.1)) cs [] = evMake (tl.map (·.1)) (cs.drop (k + 1)) (out ++ [⟨tk.roll, ci, co⟩])) := fun h => Lib.hid h
        obtain ⟨A5, c5, rfl, _, _⟩ := (HO3.out.sli (F := fun _ => True) (fun _ _ _ => trivial) (fun _ _ => trivial)).form
        obtain ⟨ln, hln⟩ : ∃ q, out.length = q := ⟨_, rfl⟩
        have HLN := Lib.hid hln
        rw [hln] at HO3 HVB hol ⊢
        clear hln
        go_upto_region 17 with (fail)
        generalize hW3 : w2.alloc (.cells #[.string R.name, .int .i64 R.rate, .int .i64 R.start, .int .i64 R.long, .int .i64 R.drift] 82) = w3 at *
        have hz3 : w3.heap.size = w2.heap.size + 1 := by rw [← hW3]; simp
        have x1 : w3.cell? ⟨wr.heap.size, 1, none⟩ = some (.int .i64 ci) := by rw [← hW3]; exact (World.cell?_alloc_lt w2 _ ⟨wr.heap.size, 1, none⟩ hz2'').trans d1
        have x2 : w3.cell? ⟨wr.heap.size, 2, none⟩ = some (.int .i64 co) := by rw [← hW3]; exact (World.cell?_alloc_lt w2 _ ⟨wr.heap.size, 2, none⟩ hz2'').trans d2
        have y3 : w3.cell? ⟨wr.heap.size + 1, 3, none⟩ = some (.string tk.roll) := by rw [← hW3]; exact (World.cell?_alloc_lt w2 _ ⟨wr.heap.size + 1, 3, none⟩ hz2').trans e3
        clear d1 d2 e3 e5 e6 hW3
        have hl1 : wr.heap.size < w3.heap.size := by omega
        have hl2 : wr.heap.size + 1 < w3.heap.size := by omega
        go_cut [15, 94] (fun s15 s94 wx => ∃ (bb : Bool) (z : Int), s15 = .int .i64 z ∧ z = (ln : Int) - 1 ∧ s94 = .bool bb ∧ w3.heap.size ≤ wx.heap.size ∧ Hid (Below w3.heap.size w3 wx) ∧ (bb = false → Hid (evMake (tl.map (·.1)) cs [] = evMake (tl.map (·.1)) (cs.drop (k + 1)) (out ++ [⟨tk.roll, ci, co⟩]))) ∧ (bb = true → 0 < ln ∧ Hid (evMake (tl.map (·.1)) cs [] = evMake (tl.map (·.1)) (cs.drop (k + 1)) (out.modify (ln - 1) (fun e => { e with tout := co })))))
        case first =>
          rcases Nat.eq_zero_or_pos ln with rfl | ho
          · have hn1 : out = [] := List.length_eq_zero_iff.1 HLN.out
            have HS2 := HPUSH (by have h := HST.out; rw [hn1] at h ⊢; exact h)
            clear HST HPUSH hn1
            go_wp2
            go_region
            go_wp2
            go_meet
            exact ⟨false, _, rfl, by omega, rfl, Nat.le_refl _, (Below.refl _ _).drew, fun _ => HS2, fun h => by cases h⟩
          · obtain ⟨m, rfl⟩ : ∃ m, ln = m + 1 := ⟨ln - 1, by omega⟩
            have hml : m < out.length := by rw [HLN.out]; omega
            have hca := clipAdd_some (r := tk.roll) (c := ⟨(q : Int), ci, co⟩) (show 0 < out.length by omega)
            obtain ⟨g, cap, hv, hgb, hgl⟩ := HO3.out.some_ (show 0 < out.length by omega)
            injection hv with hv1 hv2 hv3
            subst hv1
            have hxx : out[out.length - 1]'(by omega) = out[m]'hml := by congr 1; have := HLN.out; omega
            rw [hxx, show out.length - 1 = m by have := HLN.out; omega] at hca
            clear hxx hv2 hv3
            have o0 := (HO3.out.cellAt m hml 0 (by decide)).1
            have o2 := (HO3.out.cellAt m hml 2 (by decide)).1
            generalize out[m]'hml = y at *
            have o0' : w3.cell? ⟨g, m * 3, none⟩ = some (.string y.roll) := o0
            have o2' : w3.cell? ⟨g, m * 3 + 2, none⟩ = some (.int .i64 y.tout) := o2
            have hmk : m < 1000 := by omega
            have HCA := Lib.hid hca
            have k1 : (0 : Int) ≤ (m : Int) := by omega
            have k2 : (m : Int) < (m : Int) + 1 := by omega
            clear hml o0 o2 ho hca
            by_cases q1 : y.roll = tk.roll
            · have q1' : (y.roll.toList == tk.roll.toList) = true := by rw [q1]; exact beq_self_eq_true _
              by_cases q2 : y.tout = ci
              · have HS2 := Lib.hid (HST.out.trans (by rw [HCA.out, if_pos ⟨q1, q2⟩]))
                have q2' : (y.tout == ci) = true := by rw [q2]; exact beq_self_eq_true _
                clear HST HPUSH HCA q1 q2
                go_wp2
                go_region
                go_wp2
                go_meet
                exact ⟨true, _, rfl, by omega, rfl, Nat.le_refl _, (Below.refl _ _).drew, fun h => (by cases h), fun _ => ⟨by omega, HS2⟩⟩
              · have HS2 := HPUSH (HST.out.trans (by rw [HCA.out, if_neg (fun h => q2 h.2)]))
                have q2' : (y.tout == ci) = false := beq_eq_false_iff_ne.2 q2
                clear HST HPUSH HCA q1 q2
                go_wp2
                go_region
                go_wp2
                go_meet
                exact ⟨false, _, rfl, by omega, rfl, Nat.le_refl _, (Below.refl _ _).drew, fun _ => HS2, fun h => (by cases h)⟩
            · have HS2 := HPUSH (HST.out.trans (by rw [HCA.out, if_neg (fun h => q1 h.1)]))
              have q1' : (y.roll.toList == tk.roll.toList) = false := by rw [beqS]; simp [q1]
              clear HST HPUSH HCA q1
              go_wp2
              go_region
              go_wp2
              go_meet
              exact ⟨false, _, rfl, by omega, rfl, Nat.le_refl _, (Below.refl _ _).drew, fun _ => HS2, fun h => (by cases h)⟩
        case rest =>
          obtain ⟨bb, z15, rfl, hz15, rfl, hzx, HBW, HF1, HF2⟩ := hcut
          have X1 := (HBW.out.cell (p := ⟨wr.heap.size, 1, none⟩) hl1).trans x1
          have X2 := (HBW.out.cell (p := ⟨wr.heap.size, 2, none⟩) hl1).trans x2
          have Y3 := (HBW.out.cell (p := ⟨wr.heap.size + 1, 3, none⟩) hl2).trans y3
          have hl1' : wr.heap.size < wc.heap.size := by omega
          have hl2' : wr.heap.size + 1 < wc.heap.size := by omega
          have HB4 := Lib.hid (HB3.out.trans (HBW.out.mono (by omega)))
          have HO4 := Lib.hid (HO3.out.below HBW.out)
          clear x1 x2 y3 HBW HB3 HO3 HST HPUSH
          cases bb with
          | false =>
            have HS2 := HF1 rfl
            clear HF1 HF2
            go_wp2_with (at_builtin; (refine wpList_pushB (R := evR) rfl _ _ _ rfl w.heap.size w.heap.size 44 i0 _ 32 Tryz.underlying36 hi0 hz0 (by assumption) (by assumption) rfl (by decide) _ (.slice A5 ln c5) out rfl (HO4.out.alloc _) ⟨tk.roll, ci, co⟩ _ rfl (oneC rfl) wc.heap.size _ _ (heap_alloc_new wc _) rfl (by simp [maxLen]; have := HLN.out; omega) (by have := HLN.out; omega) (by simp; omega) ?_); intro g cap w4 hown4 hg4 hat4 hlt4)
            have hz4 := hg4.size
            simp at hz4
            have hl4 : out.length = ln := HLN.out
            go_roundw
            case rel => exact ⟨k + 1, out ++ [Ev.mk tk.roll ci co], by omega, intNum, by rw [List.length_append]; simp; omega, by omega, (HB4.out.alloc (by omega) _).grown hg4 (by simp; omega) HVB.out, hown4, HG.out, HS2.out⟩
            case measure => simp [intOf]; omega
          | true =>
            obtain ⟨hp, HS2⟩ := HF2 rfl
            obtain ⟨m, rfl⟩ : ∃ m, ln = m + 1 := ⟨ln - 1, by omega⟩
            obtain rfl : z15 = (m : Int) := by omega
            clear hz15
            have hml : m < out.length := by rw [HLN.out]; omega
            obtain ⟨g, cap, hv, hgb, hgl⟩ := HO4.out.some_ (show 0 < out.length by omega)
            injection hv with hv1 hv2 hv3
            subst hv1
            obtain ⟨o2, f2⟩ := HO4.out.cellAt m hml 2 (by decide)
            have HMM := Lib.hid (HO4.out.modify (fun e => { e with tout := co }) m 2 (.int .i64 co) (fun _ => rfl) (by decide) hml)
            have HBS := Lib.hid (belSet HB4.out hgb (p := ⟨g, m * 3 + 2, none⟩) (.int .i64 co))
            have o2' : wc.cell? ⟨g, m * 3 + 2, none⟩ = some (.int .i64 (out[m]'hml).tout) := o2
            generalize out[m]'hml = y at *
            have hmk : m < 1000 := by omega
            have k1 : (0 : Int) ≤ (m : Int) := by omega
            have k2 : (m : Int) < (m : Int) + 1 := by omega
            clear hml o2 hv2 hv3 hp HF1 HF2
            go_wp2
            go_roundw
            case rel => exact ⟨k + 1, out.modify m (fun e => { e with tout := co }), by omega, intNum, by rw [List.length_modify, HLN.out]; omega, by simp [World.setCell]; omega, HBS.out, HMM.out, HG.out, HS2.out⟩
            case measure => simp [intOf]; omega
    · have HE := Lib.hid (show mkErr rl (tl.map (·.1)) cs = 0 by
        unfold mkErr
        rw [if_neg (by rw [H0.out]; simp)]
        exact firstE_all (take_all (q := fun x => clipErr rl (tl.map (·.1)) x = 0) (by rw [HN.out]; exact hlt) HX.out))
      have HS2 := Lib.hid (HV.out.trans (evMake_end (tl.map (·.1)) cs k out (by rw [HN.out]; exact hlt)))
      go_wp2
      go_ret2
      exact MkP.yes HE.out HS2.out (HO.out.sli (fun q h1 h2 => ⟨h1, h2⟩) (fun g hg => HO.out.block g hg)) HB.out
end Go.Proofs.YtodlfdfkhdfblaaGreatDoor

