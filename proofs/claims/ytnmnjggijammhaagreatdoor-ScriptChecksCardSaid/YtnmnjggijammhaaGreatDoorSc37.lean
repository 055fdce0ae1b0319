/- Texts packed: LawScriptChecks. -/
import Derived.Test.YtnmnjggijammhaaGreatDoorRows
import Derived.Test.YtnmnjggijammhaaGreatDoorSc32
import Derived.Test.YtnmnjggijammhaaGreatDoorSc36
import Derived.Test.YtnmnjggijammhaaGreatDoorSc02
import Derived.Test.YtnmnjggijammhaaGreatDoorSc01
import Derived.Deep.DeepCutAuto
/- The law ScriptChecks walked: for every list of numbers it returns true and leaves what was there. -/
namespace Go.Proofs.YtnmnjggijammhaaGreatDoor
set_option linter.unusedVariables false
open Go.RowKit Go.Sort

set_option maxRecDepth 100000 in
set_option maxHeartbeats 8000000 in
theorem ScriptChecks_c (A : Option Addr) (l : List Int) (c : Nat) (w : World) (hr : Rs w 0 w.heap.size 1 intc A l) (hl : l.length ≤ 17592186044416) (ho : ∀ x ∈ l, okI x) (hp : PowLaid w) (hs : SpLaid w) (hm : MaxLaid w) :
    Calls Tryz.prog 5 #[.slice A l.length c] w fun e w' => e = .returned (.bool true) ∧ Below w.heap.size w w' := by
  have S0 := strNew w A l c hr hl ho
  have HW0 := Lib.hid (show (w.alloc (.cells #[.slice A l.length c, .int .i64 0] 25)).heap.size = w.heap.size + 1 by simp)
  have HP := Lib.hid (show PowS w.heap.size (w.alloc (.cells #[.slice A l.length c, .int .i64 0] 25)) from (PowS.start hp).keep fun b hb => Below.heap_alloc w _ b hb)
  have HG := Lib.hid (fun (n : Int) (wx : World) P (h : PvS (w.alloc (.cells #[.slice A l.length c, .int .i64 0] 25)) w.heap.size P n wx) => show Below w.heap.size w wx ∧ SpLaid wx ∧ MaxLaid wx from
    have hb := gEnd h.gr
    ⟨hb, sp_below hs hb (Nat.le_refl _), max_below hm hb (Nat.le_refl _)⟩)
  have G0 := Lib.hid (GS.start (R := dumR) (e := 3) S0)
  clear hr ho hp hs hm S0
  go_enter Tryz.func5, Tryz.ntmps5
  go_upto_region 2 with (fail)
  generalize w.alloc (.cells #[.slice A l.length c, .int .i64 0] 25) = W0 at *
  go_wp2_with fail
  refine (AnyScript_c w.heap.size 0 W0 G0.out.str (by decide) HP.out).mono ?_
  rintro e w1 ⟨v1, n1, rfl, ⟨t1, l1, sv1, rfl, hsp⟩, hn1, hs1, hg1⟩
  obtain ⟨A1, c1, hv1, _, _⟩ := hsp.1.form
  subst hv1
  obtain ⟨l2, hx⟩ := ScX.new (G0.out.turn hg1 hs1) ⟨t1, l1, _, rfl, hsp⟩
  generalize l1.length = L1 at *
  clear hsp hs1 hg1 G0
  rw [show xCs t1 (.slice A1 L1 c1) = #[.string t1, .slice A1 L1 c1] from rfl]
  go_upto_region 3 with (fail)
  generalize hW : w1.alloc (.cells #[.string t1, .slice A1 L1 c1] 40) = w2
  have X2 := Lib.hid (show ScX W0 w.heap.size w1.heap.size 10010 91 t1 l2 (.slice A1 L1 c1) n1 w2 by rw [← hW]; exact hx)
  clear hW hx
  generalize w1.heap.size = X at *
  go_wp2_with fail
  refine (flip_c w.heap.size n1 3 w2 X2.out.pv.str (by omega) (by decide) (by decide)).mono ?_
  rintro e w3 ⟨v3, n3, rfl, ⟨b3, rfl⟩, hn3, hs3, hg3⟩
  have X3 := Lib.hid (X2.out.turn hg3 hs3)
  clear hs3 hg3 X2
  go_upto_if 11 with (fail)
  go_cut [] (fun wx => ∃ (t : ByteArray) (l : List (Scene × Value)) (A : Option Addr) (L c : Nat) (n : Int), Hid (ScX W0 w.heap.size X 10020 92 t l (.slice A L c) n wx))
  case first =>
    obtain ⟨⟨x0, x1⟩, f0, f1⟩ := X3.out.cells
    cases b3 with
    | false =>
      go_wp2
      go_meet
      exact ⟨t1, l2, A1, L1, c1, n3, ⟨X3.out.pv, X3.out.sli, X3.out.par, X3.out.tl, Nat.le_trans X3.out.len (by decide), fun y hy => (X3.out.bd y hy).up (by decide)⟩⟩
    | true =>
      obtain ⟨A', c', hf, _, _⟩ := X3.out.sli.form
      injection hf with hf1 hf2 hf3
      have HSC := Lib.hid (SpoiledScript_c w.heap.size 10010 91 n3 t1 l2 (.slice A1 L1 c1) w3 X3.out.pv.str (by omega) X3.out.sli X3.out.par (fun q hq => ⟨hq.2.1, by have := HW0.out; have := hq.1; omega⟩) X3.out.tl X3.out.len (by decide) X3.out.bd (by decide) (by decide))
      clear hf1 hf2 hf3
      go_wp2_with fail
      refine HSC.out.mono ?_
      rintro e w4 ⟨v4, n4, rfl, ⟨t4, l4, sv4, rfl, hsp⟩, hn4, hs4, hg4⟩
      obtain ⟨A4, c4, hv4, _, _⟩ := hsp.1.form
      subst hv4
      obtain ⟨⟨y0, y1⟩, g0, g1⟩ := (X3.out.turn hg4 hs4).cells
      obtain ⟨l5, hx⟩ := X3.out.put hg4 hs4 ⟨t4, l4, _, rfl, hsp⟩
      have X5 := Lib.hid hx
      generalize l4.length = L4 at *
      clear hx hsp hs4 hg4 X3 x0 x1 f0 f1 HSC
      rw [show xCs t4 (.slice A4 L4 c4) = #[.string t4, .slice A4 L4 c4] from rfl]
      go_wp2
      go_meet
      exact ⟨t4, l5, A4, L4, c4, n4, X5⟩
  case rest =>
  clear X3 HP
  obtain ⟨t5, l5, A5, L5, c5, n5, X5⟩ := hcut
  obtain ⟨⟨x0, x1⟩, _⟩ := X5.out.cells
  obtain ⟨ι, ff, hne, hff, hfS⟩ := family (fun W => W.cell? ⟨X, 0, none⟩ = some (.string t5) ∧ W.cell? ⟨X, 1, none⟩ = some (.slice A5 L5 c5)) wc ⟨x0, x1⟩
  have q0 := fun p => (hff p).1
  have q1 := fun p => (hff p).2
  have HFS := Lib.hid hfS
  have HZ := Lib.hid (And.intro x0 x1)
  clear hff hfS x0 x1
  have h6 := X5.out.drew
  have HSC := Lib.hid (scripts_c wc.drew (HG.out _ _ _ h6.pv).2.2)
  have X6 := Lib.hid h6
  clear h6 X5
  go_upto_region 5 with (fail)
  refine wp_region_segs3 [0, 3, 5] [6, 7, 8] [] [([], [], 0), ([1], [2, 4], 3), ([], [], 5)] (by kernel_rfl) (by kernel_rfl) (fun _ _ _ dd _ h => by cases dd <;> exact h) (fun W => ∃ p : ι, W = ff p) (HFS.out _ HZ.out) ?_
  refine wpSegs3_step (by simp only [pick, List.getElem?_cons_succ, List.getElem?_cons_zero]; rfl) (by simp only [pick, List.getElem?_cons_succ, List.getElem?_cons_zero]; rfl) rfl (fun K0 hK0 L0 hL0 => ?_)
  repeat (first | go_big_quiet_step (fail) | quiet_step (fail))
  refine wpQuiet_nil (hL0 _ ?_)
  repeat (first | go_big_quiet_step (fail) | quiet_step (fail))
  refine wpQuiet_nil ?_
  refine Or.inl ⟨by kernel_rfl, ?_⟩
  go_simp
  refine HSC.out.mono ?_
  rintro e w7 ⟨rfl, hb7⟩
  have X7 := Lib.hid (X6.out.below hb7)
  have z7 := X7.out.cells.1
  refine hK0 (fun W => ∃ p : ι, W = ff p) _ _ (fun _ h => h) (HFS.out _ z7) ?_
  have HC7 := Lib.hid (Check_c t5 l5 (.slice A5 L5 c5) w7 (X7.out.scl (by decide) (by decide)) (HG.out _ _ _ X7.out.pv).2.2)
  clear X6 HSC hb7 z7 HZ
  refine wpSegs3_step (by simp only [pick, List.getElem?_cons_succ, List.getElem?_cons_zero]; rfl) (by simp only [pick, List.getElem?_cons_succ, List.getElem?_cons_zero]; rfl) rfl (fun K1 hK1 L1 hL1 => ?_)
  repeat (first | go_big_quiet_step (fail) | quiet_step (fail))
  refine wpQuiet_nil (hL1 _ ?_)
  repeat (first | go_big_quiet_step (fail) | quiet_step (fail))
  refine wpQuiet_nil ?_
  refine Or.inl ⟨by kernel_rfl, ?_⟩
  go_simp
  refine HC7.out.mono ?_
  rintro e w8 ⟨rfl, hb8⟩
  have X8 := Lib.hid (X7.out.below hb8)
  have z8 := X8.out.cells.1
  refine hK1 (fun W => ∃ p : ι, W = ff p) _ _ (fun _ h => h) (HFS.out _ z8) ?_
  have HC8 := Lib.hid (ScriptFault_c t5 l5 (.slice A5 L5 c5) w8 (X8.out.scl (by decide) (by decide)) (HG.out _ _ _ X8.out.pv).2.1 (HG.out _ _ _ X8.out.pv).2.2)
  clear X7 HC7 hb8 z8
  refine wpSegs3_step (by simp only [pick, List.getElem?_cons_succ, List.getElem?_cons_zero]; rfl) (by simp only [pick, List.getElem?_cons_succ, List.getElem?_cons_zero]; rfl) rfl (fun K2 hK2 L2 hL2 => ?_)
  repeat (first | go_big_quiet_step (fail) | quiet_step (fail))
  refine wpQuiet_nil (hL2 _ ?_)
  repeat (first | go_big_quiet_step (fail) | quiet_step (fail))
  refine wpQuiet_nil ?_
  refine Or.inl ⟨by kernel_rfl, ?_⟩
  go_simp
  refine HC8.out.mono ?_
  rintro e w9 ⟨rfl, hb9⟩
  have X9 := Lib.hid (X8.out.below hb9)
  have z9 := X9.out.cells.1
  have HEND := Lib.hid (HG.out _ _ _ X9.out.pv).1
  refine hK2 (fun W => ∃ p : ι, W = ff p) _ _ (fun _ h => h) (HFS.out _ z9) ?_
  have HBE := Lib.hid (show (chkE ⟨t5, l5.map (·.1)⟩ == chkE ⟨t5, l5.map (·.1)⟩) = true from beq_self_eq_true _)
  clear X8 X9 HC8 hb9 z9
  generalize chkE ⟨t5, l5.map (·.1)⟩ = E at *
  have hbe := HBE.out
  refine wpSegs3_fin (by simp only [pick, List.getElem?_cons_succ, List.getElem?_cons_zero]; rfl) (by simp only [pick, List.getElem?_cons_succ, List.getElem?_cons_zero]; rfl) (fun L3 hL3 => ?_)
  repeat (first | go_big_quiet_step (fail) | quiet_step (fail))
  refine wpQuiet_nil (hL3 _ ?_)
  repeat (first | go_big_quiet_step (fail) | quiet_step (fail))
  refine wpQuiet_nil ?_
  go_wp2
  go_ret
  exact ⟨rfl, HEND.out⟩
end Go.Proofs.YtnmnjggijammhaaGreatDoor

