/- Texts packed: LawScriptCuts. -/
import Derived.Test.YtejggkpbdnijaaaGreatDoorRows
import Derived.Test.YtejggkpbdnijaaaGreatDoorCu37
import Derived.Test.YtejggkpbdnijaaaGreatDoorCu29
import Derived.Test.YtejggkpbdnijaaaGreatDoorCu23
import Derived.Test.YtejggkpbdnijaaaGreatDoorCu41
import Derived.Test.YtejggkpbdnijaaaGreatDoorCu02
import Derived.Test.YtejggkpbdnijaaaGreatDoorCu01
import Derived.Deep.DeepCutAuto
/- The law ScriptCuts walked: for every list of numbers it returns true and leaves what was there. -/
namespace Go.Proofs.YtejggkpbdnijaaaGreatDoor
set_option linter.unusedVariables false
open Go.RowKit Go.Sort

set_option maxRecDepth 100000 in
set_option maxHeartbeats 8000000 in
theorem ScriptCuts_c (A : Option Addr) (l : List Int) (c : Nat) (w : World) (hr : Rs w 0 w.heap.size 1 intc A l) (hl : l.length ≤ 17592186044416) (ho : ∀ x ∈ l, okI x) (hp : PowLaid w) (hs : SpLaid w) (hm : MaxLaid w) :
    Calls Tryz.prog 7 #[.slice A l.length c] w fun e w' => e = .returned (.bool true) ∧ Below w.heap.size w w' := by
  have S0 := strNew w A l c hr hl ho
  have HW0 := Lib.hid (show (w.alloc (.cells #[.slice A l.length c, .int .i64 0] 25)).heap.size = w.heap.size + 1 by simp)
  have HP := Lib.hid (show PowS w.heap.size (w.alloc (.cells #[.slice A l.length c, .int .i64 0] 25)) from (PowS.start hp).keep fun b hb => Below.heap_alloc w _ b hb)
  have HG := Lib.hid (fun (n : Int) (wx : World) P (h : PvS (w.alloc (.cells #[.slice A l.length c, .int .i64 0] 25)) w.heap.size P n wx) => show Below w.heap.size w wx ∧ SpLaid wx ∧ MaxLaid wx from
    have hb := gEnd h.gr
    ⟨hb, sp_below hs hb (Nat.le_refl _), max_below hm hb (Nat.le_refl _)⟩)
  have G0 := Lib.hid (GS.start (R := dumR) (e := 3) S0)
  clear hr ho hp hs hm S0
  go_enter Tryz.func7, Tryz.ntmps7
  go_upto_region 2 with (fail)
  generalize w.alloc (.cells #[.slice A l.length c, .int .i64 0] 25) = W0 at *
  go_wp2_with fail
  refine (AnyScript_c w.heap.size 0 W0 G0.out.str (by decide) HP.out).mono ?_
  rintro e w1 ⟨v1, n1, rfl, ⟨t1, l1, sv1, rfl, hsp⟩, hn1, hs1, hg1⟩
  obtain ⟨A1, c1, hv1, _, _⟩ := hsp.1.form
  subst hv1
  obtain ⟨l2, hx⟩ := Sct.any ⟨t1, l1, _, rfl, hsp⟩
  have hG1 := G0.out.turn hg1 hs1
  generalize hL1 : l1.length = Lx at *
  have hG2 := (hG1.new (xCs t1 (.slice A1 Lx c1)) 40).new (xCs t1 (.slice A1 Lx c1)) 40
  rw [show (w1.alloc (.cells (xCs t1 (.slice A1 Lx c1)) 40)).heap.size = w1.heap.size + 1 by simp] at hG2
  have hx2 := (hx.alloc (E' := fun q => q = w1.heap.size) (.cells (xCs t1 (.slice A1 Lx c1)) 40) (fun q h e => by omega)).alloc (E' := fun q => q = w1.heap.size ∨ q = w1.heap.size + 1) (.cells (xCs t1 (.slice A1 Lx c1)) 40) (fun q h e => e.elim id (fun e => by simp at h; omega))
  have hL2 : l2.length = Lx := by
    obtain ⟨_, _, e, _⟩ := hx.sli.form
    injection e with _ e _
    exact e.symm
  have hXs : W0.heap.size ≤ w1.heap.size := hG1.size
  clear hsp hs1 hg1 G0 hG1 hx hL1
  rw [show xCs t1 (.slice A1 Lx c1) = #[.string t1, .slice A1 Lx c1] from rfl]
  go_upto_region 4 with (fail)
  generalize hW : (w1.alloc (.cells #[.string t1, .slice A1 Lx c1] 40)).alloc (.cells #[.string t1, .slice A1 Lx c1] 40) = w2
  have G2 := Lib.hid (show PvS W0 w.heap.size [(w1.heap.size + 1, xCs t1 (.slice A1 Lx c1), 40), (w1.heap.size, xCs t1 (.slice A1 Lx c1), 40)] n1 w2 by rw [← hW]; exact hG2)
  have X2 := Lib.hid (show Sct W0 (fun q => q = w1.heap.size ∨ q = w1.heap.size + 1) 10010 91 t1 l2 (.slice A1 Lx c1) w2 by rw [← hW]; exact hx2)
  have HL2 := Lib.hid hL2
  clear hW hG2 hx2 hL2
  generalize w1.heap.size = X at *
  go_wp2_with fail
  refine (flip_c w.heap.size n1 2 w2 G2.out.str (by omega) (by decide) (by decide)).mono ?_
  rintro e w3 ⟨v3, n3, rfl, ⟨b3, rfl⟩, hn3, hs3, hg3⟩
  have hsb : w.heap.size < W0.heap.size := by have := HW0.out; omega
  have G3 := Lib.hid (G2.out.turn hg3 hs3)
  have X3 := Lib.hid (X2.out.turn hsb hg3)
  clear hs3 hg3 G2 X2
  go_upto_if 18 with (fail)
  go_cut [] (fun wx => ∃ (t : ByteArray) (l : List (Scene × Value)) (A : Option Addr) (L c : Nat) (n : Int), n ≤ n3 + 20 ∧ Hid (PvS W0 w.heap.size [(X + 1, xCs t (.slice A L c), 40), (X, xCs t1 (.slice A1 Lx c1), 40)] n wx) ∧ Hid (Sct W0 (fun q => q = X ∨ q = X + 1) 10010 91 t1 l2 (.slice A1 Lx c1) wx) ∧ Hid (Sct W0 (fun q => q = X ∨ q = X + 1) 10020 92 t l (.slice A L c) wx))
  case first =>
    have hx3 := (G3.out.cell (p := (X, xCs t1 (.slice A1 Lx c1), 40)) (by simp)).1
    obtain ⟨hy3, fy3⟩ := G3.out.cell (p := (X + 1, xCs t1 (.slice A1 Lx c1), 40)) (by simp)
    have x0 : w3.cell? ⟨X, 0, none⟩ = some (.string t1) := hx3 0
    have x1 : w3.cell? ⟨X, 1, none⟩ = some (.slice A1 Lx c1) := hx3 1
    clear hx3 hy3 fy3
    cases b3 with
    | false =>
      go_wp2
      go_meet
      exact ⟨t1, l2, A1, Lx, c1, n3, by omega, G3, X3, Lib.hid (X3.out.up (by decide) (by decide))⟩
    | true =>
      have hXp : X + 1 < w3.heap.size := G3.out.plt (p := (X + 1, xCs t1 (.slice A1 Lx c1), 40)) (by simp)
      have hzz : W0.heap.size ≤ w3.heap.size := G3.out.size
      have HSC := Lib.hid (SpoiledScript_c w.heap.size 10010 91 n3 t1 l2 (.slice A1 Lx c1) w3 G3.out.str (by omega) X3.out.sli X3.out.par (fun q hq => ⟨hq.2.1, by have := hq.1; omega⟩) X3.out.tl X3.out.len (by decide) X3.out.bd (by decide) (by decide))
      go_wp2_with fail
      refine HSC.out.mono ?_
      rintro e w4 ⟨v4, n4, rfl, ⟨t4, l4, sv4, rfl, hsp⟩, hn4, hs4, hg4⟩
      obtain ⟨A4, c4, hv4, _, _⟩ := hsp.1.form
      subst hv4
      have hG4 := G3.out.turn hg4 hs4
      have hX4 := X3.out.turn hsb hg4
      obtain ⟨l5, hx5⟩ := Sct.spoil (E := fun q => q = X ∨ q = X + 1) hzz (fun q hq => by rcases hq with rfl | rfl <;> omega) hg4.size ⟨t4, l4, _, rfl, hsp⟩
      obtain ⟨hy3, fy3⟩ := hG4.cell (p := (X + 1, xCs t1 (.slice A1 Lx c1), 40)) (by simp)
      have y0 : w4.cell? ⟨X + 1, 0, none⟩ = some (.string t1) := hy3 0
      have y1 : w4.cell? ⟨X + 1, 1, none⟩ = some (.slice A1 Lx c1) := hy3 1
      have f0 : w4.frozen? ⟨X + 1, 0, none⟩ = false := fy3 0
      have f1 : w4.frozen? ⟨X + 1, 1, none⟩ = false := fy3 1
      have G5 := Lib.hid ((hG4.set (i := 0) (fun h => h) (.string t4) (by simp)).set (i := 1) (fun h => h) (.slice A4 l4.length c4) (by simp))
      have X5 := Lib.hid ((hX4.set (X + 1) 0 (.string t4) (.inr rfl)).set (X + 1) 1 (.slice A4 l4.length c4) (.inr rfl))
      have Y5 := Lib.hid ((hx5.set (X + 1) 0 (.string t4) (.inr rfl)).set (X + 1) 1 (.slice A4 l4.length c4) (.inr rfl))
      generalize l4.length = L4 at *
      clear hx5 hsp hs4 hg4 X3 G3 x0 x1 HSC hG4 hX4 hy3 fy3
      rw [show xCs t4 (.slice A4 L4 c4) = #[.string t4, .slice A4 L4 c4] from rfl]
      go_wp2
      go_meet
      exact ⟨t4, l5, A4, L4, c4, n4, by omega, G5, X5, Y5⟩
  case rest =>
  clear X3 HP G3
  obtain ⟨t5, l5, A5, L5, c5, n5, hn5, G5, X5, Y5⟩ := hcut
  have HPC := Lib.hid (fun (n : Int) (W : World) (hW : PvS W0 w.heap.size [(X + 1, xCs t5 (.slice A5 L5 c5), 40), (X, xCs t1 (.slice A1 Lx c1), 40)] n W) => show W.cell? ⟨X, 0, none⟩ = some (.string t1) ∧ W.cell? ⟨X, 1, none⟩ = some (.slice A1 Lx c1) ∧ W.cell? ⟨X + 1, 0, none⟩ = some (.string t5) ∧ W.cell? ⟨X + 1, 1, none⟩ = some (.slice A5 L5 c5) from by
    obtain ⟨x, _⟩ := hW.cell (p := (X, xCs t1 (.slice A1 Lx c1), 40)) (by simp)
    obtain ⟨y, _⟩ := hW.cell (p := (X + 1, xCs t5 (.slice A5 L5 c5), 40)) (by simp)
    exact ⟨x 0, x 1, y 0, y 1⟩)
  obtain ⟨ι, ff, hne, hff, hfS⟩ := family (fun W => W.cell? ⟨X, 0, none⟩ = some (.string t1) ∧ W.cell? ⟨X, 1, none⟩ = some (.slice A1 Lx c1) ∧ W.cell? ⟨X + 1, 0, none⟩ = some (.string t5) ∧ W.cell? ⟨X + 1, 1, none⟩ = some (.slice A5 L5 c5)) wc (HPC.out _ _ G5.out)
  have q0 := fun p => (hff p).1
  have q1 := fun p => (hff p).2.1
  have q2 := fun p => (hff p).2.2.1
  have q3 := fun p => (hff p).2.2.2
  have HFS := Lib.hid hfS
  have HS1 := Lib.hid (Same_c t1 t5 l2 l5 _ _ wc.drew X5.out.drew.sc2 Y5.out.drew.sc2)
  obtain ⟨d, hd⟩ : ∃ d, decide ((⟨t1, l2.map (·.1)⟩ : Script) = ⟨t5, l5.map (·.1)⟩) = d := ⟨_, rfl⟩
  have HD := Lib.hid hd
  rw [hd] at HS1
  have hdd : (d != d) = false := by cases d <;> rfl
  clear hff hfS hd
  go_upto_region 6 with (fail)
  refine wp_region_segs3 [2, 5] [6] [] [([], [0, 1, 3, 4], 2), ([], [], 5)] (by kernel_rfl) (by kernel_rfl) (fun _ _ _ dd _ h => by cases dd <;> exact h) (fun W => ∃ p : ι, W = ff p) (HFS.out _ (HPC.out _ _ G5.out.drew)) ?_
  refine wpSegs3_step (by simp only [pick, List.getElem?_cons_succ, List.getElem?_cons_zero]; rfl) (by simp only [pick, List.getElem?_cons_succ, List.getElem?_cons_zero]; rfl) rfl (fun K0 hK0 L0 hL0 => ?_)
  repeat (first | go_big_quiet_step (fail) | quiet_step (fail))
  refine wpQuiet_nil (hL0 _ ?_)
  repeat (first | go_big_quiet_step (fail) | quiet_step (fail))
  refine wpQuiet_nil ?_
  refine Or.inl ⟨by kernel_rfl, ?_⟩
  go_simp
  refine HS1.out.mono ?_
  rintro e w6 ⟨rfl, hb6⟩
  have G6 := Lib.hid (G5.out.drew.below hb6)
  have X6 := Lib.hid (X5.out.drew.below hb6)
  have Y6 := Lib.hid (Y5.out.drew.below hb6)
  clear G5 X5 Y5 HS1 hb6
  have HS2 := Lib.hid (SameScripts_c t1 t5 l2 l5 _ _ w6 X6.out.sc2 Y6.out.sc2)
  rw [HD.out] at HS2
  refine hK0 (fun W => ∃ p : ι, W = ff p) _ _ (fun _ h => h) (HFS.out _ (HPC.out _ _ G6.out)) ?_
  refine wpSegs3_step (by simp only [pick, List.getElem?_cons_succ, List.getElem?_cons_zero]; rfl) (by simp only [pick, List.getElem?_cons_succ, List.getElem?_cons_zero]; rfl) rfl (fun K1 hK1 L1 hL1 => ?_)
  repeat (first | go_big_quiet_step (fail) | quiet_step (fail))
  refine wpQuiet_nil (hL1 _ ?_)
  repeat (first | go_big_quiet_step (fail) | quiet_step (fail))
  refine wpQuiet_nil ?_
  refine Or.inl ⟨by kernel_rfl, ?_⟩
  go_simp
  refine HS2.out.mono ?_
  rintro e w7 ⟨rfl, hb7⟩
  have G7 := Lib.hid ((G6.out.below hb7).less (Q := [(X, xCs t1 (.slice A1 Lx c1), 40)]) (by simp))
  have X7 := Lib.hid (X6.out.below hb7)
  have hS7 := HFS.out _ (HPC.out _ _ (G6.out.below hb7))
  clear G6 X6 Y6 HS2 hb7
  refine hK1 (fun W => ∃ p : ι, W = ff p) _ _ (fun _ h => h) hS7 ?_
  clear hS7 HD
  refine wpSegs3_fin (by simp only [pick, List.getElem?_cons_succ, List.getElem?_cons_zero]; rfl) (by simp only [pick, List.getElem?_cons_succ, List.getElem?_cons_zero]; rfl) (fun L2 hL2 => ?_)
  repeat (first | go_big_quiet_step (fail) | quiet_step (fail))
  refine wpQuiet_nil (hL2 _ ?_)
  repeat (first | go_big_quiet_step (fail) | quiet_step (fail))
  refine wpQuiet_nil ?_
  clear q0 q1 q2 q3 HFS HPC
  go_upto_region 8 with (fail)
  have HP8 := Lib.hid (fun (n : Int) (W : World) (hW : PvS W0 w.heap.size [(X, xCs t1 (.slice A1 Lx c1), 40)] n W) => show W.cell? ⟨X, 1, none⟩ = some (.slice A1 Lx c1) from (hW.cell (p := (X, xCs t1 (.slice A1 Lx c1), 40)) (by simp)).1 1)
  obtain ⟨ι8, f8, hne8, hf8, hS8⟩ := family (fun W => W.cell? ⟨X, 1, none⟩ = some (.slice A1 Lx c1)) w7 (HP8.out _ _ G7.out)
  have HF8 := Lib.hid hS8
  have G8 := Lib.hid G7.out.drew
  have X8 := Lib.hid X7.out.drew
  have H8 := Lib.hid (HF8.out _ (HP8.out _ _ G8.out))
  have hLx : Lx ≤ 91 := by have h := X7.out.len; rw [HL2.out] at h; exact h
  clear hS8 G7 X7
  go_cut [6, 7] (fun s6 s7 wx => ∃ (a b n : Int), s6 = .int .i64 a ∧ s7 = .int .i64 b ∧ (-1 ≤ a ∧ a ≤ (Lx : Int) + 1) ∧ (-1 ≤ b ∧ b ≤ (Lx : Int) + 1) ∧ n ≤ n5 + 2 ∧ Hid (PvS W0 w.heap.size [(X, xCs t1 (.slice A1 Lx c1), 40)] n wx) ∧ Hid (Sct W0 (fun q => q = X ∨ q = X + 1) 10010 91 t1 l2 (.slice A1 Lx c1) wx))
  case first =>
    refine stp_start [3, 5, 9, 11] (by kernel_rfl) (fun W => ∃ p : ι8, W = f8 p) ?_
    refine stp_reads (n := 8) [0, 1, 6, 7] [2, 8] (by simp only [pick, List.getElem?_cons_succ, List.getElem?_cons_zero]; rfl) (by simp only [pick, List.getElem?_cons_succ, List.getElem?_cons_zero]; rfl) (by rfl) (by kernel_rfl) (by rfl) (fun _ _ _ dd _ h => by cases dd <;> exact h) H8.out (fun K21 hK21 M21 hM21 => ?_)
    repeat (first | go_big_quiet_step (fail) | quiet_step (fail))
    refine wpQuiet_nil (hM21 _ ?_)
    repeat (first | go_big_quiet_step (fail) | quiet_step (fail))
    refine wpQuiet_nil ?_
    refine hK21 _ ?_
    refine stp_two (i := 3) (j := 9) (by kernel_rfl) rfl rfl (by kernel_rfl) (by kernel_rfl) (by rfl) (by rfl) (fun K22 hK22 => ?_) (fun K23 hK23 => ?_)
    · refine Or.inl ⟨by kernel_rfl, ?_⟩
      go_simp
      refine hK22 (fun W => ∃ p : ι8, W = f8 p) _ _ (fun _ h => h) (fun _ => H8.out) ?_
      refine stp_reads (n := 6) [4] [] (by simp only [pick, List.getElem?_cons_succ, List.getElem?_cons_zero]; rfl) (by simp only [pick, List.getElem?_cons_succ, List.getElem?_cons_zero]; rfl) (by rfl) (by kernel_rfl) (by rfl) (fun _ _ _ dd _ h => by cases dd <;> exact h) H8.out (fun K24 hK24 M24 hM24 => ?_)
      repeat (first | go_big_quiet_step (fail) | quiet_step (fail))
      refine wpQuiet_nil (hM24 _ ?_)
      repeat (first | go_big_quiet_step (fail) | quiet_step (fail))
      refine wpQuiet_nil ?_
      refine hK24 _ ?_
      refine stp_two (i := 5) (j := 9) (by kernel_rfl) rfl rfl (by kernel_rfl) (by kernel_rfl) (by rfl) (by rfl) (fun K25 hK25 => ?_) (fun K26 hK26 => ?_)
      · refine Or.inl ⟨by kernel_rfl, ?_⟩
        go_simp
        refine (range_c w.heap.size n5 (-1) ((Lx : Int) + 1) _ G8.out.str (by omega) (by omega) (by decide) (by omega)).mono ?_
        rintro e w8 ⟨v8, n8, rfl, ⟨y8, hy8, rfl⟩, hn8, hs8, hg8⟩
        have G9 := Lib.hid (G8.out.turn hg8 hs8)
        have X9 := Lib.hid (X8.out.turn hsb hg8)
        have H9 := Lib.hid (HF8.out _ (HP8.out _ _ G9.out))
        refine hK25 (fun W => ∃ p : ι8, W = f8 p) _ _ (fun _ h => h) (fun _ => H9.out) ?_
        refine stp_one (i := 9) (by kernel_rfl) rfl (by kernel_rfl) (by rfl) (fun K27 hK27 => ?_)
        refine Or.inl ⟨by kernel_rfl, ?_⟩
        go_simp
        refine hK27 (fun W => ∃ p : ι8, W = f8 p) _ _ (fun _ h => h) (fun _ => H9.out) ?_
        refine stp_reads (n := 3) [10] [] (by simp only [pick, List.getElem?_cons_succ, List.getElem?_cons_zero]; rfl) (by simp only [pick, List.getElem?_cons_succ, List.getElem?_cons_zero]; rfl) (by rfl) (by kernel_rfl) (by rfl) (fun _ _ _ dd _ h => by cases dd <;> exact h) H9.out (fun K29 hK29 M29 hM29 => ?_)
        repeat (first | go_big_quiet_step (fail) | quiet_step (fail))
        refine wpQuiet_nil (hM29 _ ?_)
        repeat (first | go_big_quiet_step (fail) | quiet_step (fail))
        refine wpQuiet_nil ?_
        refine hK29 _ ?_
        refine stp_one (i := 11) (by kernel_rfl) rfl (by kernel_rfl) (by rfl) (fun K28 hK28 => ?_)
        refine Or.inl ⟨by kernel_rfl, ?_⟩
        go_simp
        refine (range_c w.heap.size n8 (-1) ((Lx : Int) + 1) _ G9.out.str (by omega) (by omega) (by decide) (by omega)).mono ?_
        rintro e w9 ⟨v9, n9, rfl, ⟨y9, hy9, rfl⟩, hn9, hs9, hg9⟩
        have Ga := Lib.hid (G9.out.turn hg9 hs9)
        have Xa := Lib.hid (X9.out.turn hsb hg9)
        have Ha := Lib.hid (HF8.out _ (HP8.out _ _ Ga.out))
        refine hK28 (fun W => ∃ p : ι8, W = f8 p) _ _ (fun _ h => h) (fun _ => Ha.out) ?_
        refine stp_reads (n := 0) [12, 13] [] (by simp only [pick, List.getElem?_cons_succ, List.getElem?_cons_zero]; rfl) (by simp only [pick, List.getElem?_cons_succ, List.getElem?_cons_zero]; rfl) (by rfl) (by kernel_rfl) (by rfl) (fun _ _ _ dd _ h => by cases dd <;> exact h) Ha.out (fun K30 hK30 M30 hM30 => ?_)
        repeat (first | go_big_quiet_step (fail) | quiet_step (fail))
        refine wpQuiet_nil (hM30 _ ?_)
        repeat (first | go_big_quiet_step (fail) | quiet_step (fail))
        refine wpQuiet_nil ?_
        refine hK30 _ ?_
        refine stp_end (by kernel_rfl) ?_
        go_wp2
        go_meet
        exact ⟨y8, y9, n9, rfl, rfl, hy8, hy9, by omega, Ga, Xa⟩
      · refine Or.inl ⟨by kernel_rfl, ?_⟩
        go_simp
        refine hK26 (fun W => ∃ p : ι8, W = f8 p) _ _ (fun _ h => h) (fun _ => H8.out) ?_
        refine stp_reads (n := 4) [10] [] (by simp only [pick, List.getElem?_cons_succ, List.getElem?_cons_zero]; rfl) (by simp only [pick, List.getElem?_cons_succ, List.getElem?_cons_zero]; rfl) (by rfl) (by kernel_rfl) (by rfl) (fun _ _ _ dd _ h => by cases dd <;> exact h) H8.out (fun K33 hK33 M33 hM33 => ?_)
        repeat (first | go_big_quiet_step (fail) | quiet_step (fail))
        refine wpQuiet_nil (hM33 _ ?_)
        repeat (first | go_big_quiet_step (fail) | quiet_step (fail))
        refine wpQuiet_nil ?_
        refine hK33 _ ?_
        refine stp_one (i := 5) (by kernel_rfl) rfl (by kernel_rfl) (by rfl) (fun K31 hK31 => ?_)
        refine Or.inl ⟨by kernel_rfl, ?_⟩
        go_simp
        refine (range_c w.heap.size n5 (-1) ((Lx : Int) + 1) _ G8.out.str (by omega) (by omega) (by decide) (by omega)).mono ?_
        rintro e w8 ⟨v8, n8, rfl, ⟨y8, hy8, rfl⟩, hn8, hs8, hg8⟩
        have G9 := Lib.hid (G8.out.turn hg8 hs8)
        have X9 := Lib.hid (X8.out.turn hsb hg8)
        have H9 := Lib.hid (HF8.out _ (HP8.out _ _ G9.out))
        refine hK31 (fun W => ∃ p : ι8, W = f8 p) _ _ (fun _ h => h) (fun _ => H9.out) ?_
        refine stp_one (i := 11) (by kernel_rfl) rfl (by kernel_rfl) (by rfl) (fun K32 hK32 => ?_)
        refine Or.inl ⟨by kernel_rfl, ?_⟩
        go_simp
        refine (range_c w.heap.size n8 (-1) ((Lx : Int) + 1) _ G9.out.str (by omega) (by omega) (by decide) (by omega)).mono ?_
        rintro e w9 ⟨v9, n9, rfl, ⟨y9, hy9, rfl⟩, hn9, hs9, hg9⟩
        have Ga := Lib.hid (G9.out.turn hg9 hs9)
        have Xa := Lib.hid (X9.out.turn hsb hg9)
        have Ha := Lib.hid (HF8.out _ (HP8.out _ _ Ga.out))
        refine hK32 (fun W => ∃ p : ι8, W = f8 p) _ _ (fun _ h => h) (fun _ => Ha.out) ?_
        refine stp_reads (n := 0) [12, 13] [] (by simp only [pick, List.getElem?_cons_succ, List.getElem?_cons_zero]; rfl) (by simp only [pick, List.getElem?_cons_succ, List.getElem?_cons_zero]; rfl) (by rfl) (by kernel_rfl) (by rfl) (fun _ _ _ dd _ h => by cases dd <;> exact h) Ha.out (fun K34 hK34 M34 hM34 => ?_)
        repeat (first | go_big_quiet_step (fail) | quiet_step (fail))
        refine wpQuiet_nil (hM34 _ ?_)
        repeat (first | go_big_quiet_step (fail) | quiet_step (fail))
        refine wpQuiet_nil ?_
        refine hK34 _ ?_
        refine stp_end (by kernel_rfl) ?_
        go_wp2
        go_meet
        exact ⟨y8, y9, n9, rfl, rfl, hy8, hy9, by omega, Ga, Xa⟩
    · refine Or.inl ⟨by kernel_rfl, ?_⟩
      go_simp
      refine hK23 (fun W => ∃ p : ι8, W = f8 p) _ _ (fun _ h => h) (fun _ => H8.out) ?_
      refine stp_reads (n := 6) [10] [] (by simp only [pick, List.getElem?_cons_succ, List.getElem?_cons_zero]; rfl) (by simp only [pick, List.getElem?_cons_succ, List.getElem?_cons_zero]; rfl) (by rfl) (by kernel_rfl) (by rfl) (fun _ _ _ dd _ h => by cases dd <;> exact h) H8.out (fun K38 hK38 M38 hM38 => ?_)
      repeat (first | go_big_quiet_step (fail) | quiet_step (fail))
      refine wpQuiet_nil (hM38 _ ?_)
      repeat (first | go_big_quiet_step (fail) | quiet_step (fail))
      refine wpQuiet_nil ?_
      refine hK38 _ ?_
      refine stp_one (i := 3) (by kernel_rfl) rfl (by kernel_rfl) (by rfl) (fun K35 hK35 => ?_)
      refine Or.inl ⟨by kernel_rfl, ?_⟩
      go_simp
      refine hK35 (fun W => ∃ p : ι8, W = f8 p) _ _ (fun _ h => h) (fun _ => H8.out) ?_
      refine stp_reads (n := 4) [4] [] (by simp only [pick, List.getElem?_cons_succ, List.getElem?_cons_zero]; rfl) (by simp only [pick, List.getElem?_cons_succ, List.getElem?_cons_zero]; rfl) (by rfl) (by kernel_rfl) (by rfl) (fun _ _ _ dd _ h => by cases dd <;> exact h) H8.out (fun K39 hK39 M39 hM39 => ?_)
      repeat (first | go_big_quiet_step (fail) | quiet_step (fail))
      refine wpQuiet_nil (hM39 _ ?_)
      repeat (first | go_big_quiet_step (fail) | quiet_step (fail))
      refine wpQuiet_nil ?_
      refine hK39 _ ?_
      refine stp_one (i := 5) (by kernel_rfl) rfl (by kernel_rfl) (by rfl) (fun K36 hK36 => ?_)
      refine Or.inl ⟨by kernel_rfl, ?_⟩
      go_simp
      refine (range_c w.heap.size n5 (-1) ((Lx : Int) + 1) _ G8.out.str (by omega) (by omega) (by decide) (by omega)).mono ?_
      rintro e w8 ⟨v8, n8, rfl, ⟨y8, hy8, rfl⟩, hn8, hs8, hg8⟩
      have G9 := Lib.hid (G8.out.turn hg8 hs8)
      have X9 := Lib.hid (X8.out.turn hsb hg8)
      have H9 := Lib.hid (HF8.out _ (HP8.out _ _ G9.out))
      refine hK36 (fun W => ∃ p : ι8, W = f8 p) _ _ (fun _ h => h) (fun _ => H9.out) ?_
      refine stp_one (i := 11) (by kernel_rfl) rfl (by kernel_rfl) (by rfl) (fun K37 hK37 => ?_)
      refine Or.inl ⟨by kernel_rfl, ?_⟩
      go_simp
      refine (range_c w.heap.size n8 (-1) ((Lx : Int) + 1) _ G9.out.str (by omega) (by omega) (by decide) (by omega)).mono ?_
      rintro e w9 ⟨v9, n9, rfl, ⟨y9, hy9, rfl⟩, hn9, hs9, hg9⟩
      have Ga := Lib.hid (G9.out.turn hg9 hs9)
      have Xa := Lib.hid (X9.out.turn hsb hg9)
      have Ha := Lib.hid (HF8.out _ (HP8.out _ _ Ga.out))
      refine hK37 (fun W => ∃ p : ι8, W = f8 p) _ _ (fun _ h => h) (fun _ => Ha.out) ?_
      refine stp_reads (n := 0) [12, 13] [] (by simp only [pick, List.getElem?_cons_succ, List.getElem?_cons_zero]; rfl) (by simp only [pick, List.getElem?_cons_succ, List.getElem?_cons_zero]; rfl) (by rfl) (by kernel_rfl) (by rfl) (fun _ _ _ dd _ h => by cases dd <;> exact h) Ha.out (fun K40 hK40 M40 hM40 => ?_)
      repeat (first | go_big_quiet_step (fail) | quiet_step (fail))
      refine wpQuiet_nil (hM40 _ ?_)
      repeat (first | go_big_quiet_step (fail) | quiet_step (fail))
      refine wpQuiet_nil ?_
      refine hK40 _ ?_
      refine stp_end (by kernel_rfl) ?_
      go_wp2
      go_meet
      exact ⟨y8, y9, n9, rfl, rfl, hy8, hy9, by omega, Ga, Xa⟩
  case rest =>
  clear G8 X8 H8 HF8 HP8 hf8
  obtain ⟨fa, ta, n9, rfl, rfl, hfa, hta, hn9, G9, X9⟩ := hcut
  obtain ⟨x9, _⟩ := G9.out.cell (p := (X, xCs t1 (.slice A1 Lx c1), 40)) (by simp)
  have x0 : wc.cell? ⟨X, 0, none⟩ = some (.string t1) := x9 0
  have x1 : wc.cell? ⟨X, 1, none⟩ = some (.slice A1 Lx c1) := x9 1
  have HCT := Lib.hid (Cut_c t1 l2 (.slice A1 Lx c1) wc (X9.out.scl (by decide) (by decide)) (by rw [HL2.out]; omega) (HG.out _ _ _ G9.out).2.2 fa ta ⟨by omega, by omega⟩ ⟨by omega, by omega⟩)
  clear x9
  go_wp2_with fail
  refine HCT.out.mono ?_
  rintro e w10 ⟨tz, lz, vz, E, rfl, hBz, hcs⟩
  have HB10 := Lib.hid hBz.bo.bel
  have HCS := Lib.hid hcs
  have hG10 := G9.out.below hBz.bo.bel
  have hX10 := X9.out.below hBz.bo.bel
  have hz10 : Sc2 w10 (fun q => q < w10.heap.size) lz vz := ⟨hBz.bo.own.sliF (enc := fun x : Scene × Value => x.1.cells x.2) (hn := fun _ => rfl) (fun g e => (hBz.bo.own.block g e).2), fun y hy => (hBz.inn y hy).more fun q hq => hq.2.1, fun q hq => hq⟩
  have hx10 : Sc2 w10 (fun q => q < w10.heap.size) l2 (.slice A1 Lx c1) := ⟨hX10.sli.more fun q hq => hq.2.1, fun y hy => (hX10.par y hy).more fun q hq => hq.2.1, fun q hq => hq⟩
  obtain ⟨Az, cz, hvz, _, _⟩ := hz10.sli.form
  subst hvz
  have HZ10 := Lib.hid hz10
  have HX10 := Lib.hid hx10
  have G11 := Lib.hid (hG10.new (xCs tz (.slice Az lz.length cz)) 40)
  have hXw : X < w10.heap.size := hG10.plt (p := (X, xCs t1 (.slice A1 Lx c1), 40)) (by simp)
  have X10 := Lib.hid hX10
  clear hBz hcs hG10 hX10 hz10 hx10 HCT G9 X9 x0 x1
  obtain ⟨Lz, hLz⟩ : ∃ Lz, lz.length = Lz := ⟨_, rfl⟩
  rw [hLz] at G11 HZ10
  rw [show xCs tz (.slice Az lz.length cz) = #[.string tz, .slice Az Lz cz] by rw [hLz]; rfl]
  clear hLz
  go_upto_region 10 with (fail)
  generalize hW : w10.alloc (.cells #[.string tz, .slice Az Lz cz] 40) = w11
  have hG11 : PvS W0 w.heap.size [(w10.heap.size, xCs tz (.slice Az Lz cz), 40), (X, xCs t1 (.slice A1 Lx c1), 40)] n9 w11 := by rw [← hW]; exact G11.out
  have hb11 : Below w10.heap.size w10 w11 := by rw [← hW]; exact (Below.refl _ _).alloc (Nat.le_refl _) _
  have HZ11 := Lib.hid (HZ10.out.below hb11)
  have HX11 := Lib.hid (HX10.out.below hb11)
  have X11 := Lib.hid (X10.out.below hb11)
  clear hW G11 HZ10 HX10 X10
  have HSF := Lib.hid (ScriptFault_c t1 l2 (.slice A1 Lx c1) w11 (X11.out.scl (by decide) (by decide)) (HG.out _ _ _ hG11).2.1 (HG.out _ _ _ hG11).2.2)
  obtain ⟨x9, _⟩ := hG11.cell (p := (X, xCs t1 (.slice A1 Lx c1), 40)) (by simp)
  have x0 : w11.cell? ⟨X, 0, none⟩ = some (.string t1) := x9 0
  have x1 : w11.cell? ⟨X, 1, none⟩ = some (.slice A1 Lx c1) := x9 1
  have G11 := Lib.hid hG11
  clear x9 hG11 hb11
  go_wp2_with fail
  refine HSF.out.mono ?_
  rintro e w12 ⟨rfl, hb12⟩
  have G12 := Lib.hid (G11.out.below hb12)
  have HZ12 := Lib.hid (HZ11.out.below hb12)
  have HX12 := Lib.hid (HX11.out.below hb12)
  clear G11 HZ11 HX11 X11 HSF x0 x1 hb12
  have HNO := Lib.hid (chkE_first (t := t1) (l := l2.map fun x : Scene × Value => x.1))
  generalize chkE ⟨t1, l2.map (·.1)⟩ = C at *
  have HSC := Lib.hid (scripts_c w12 (HG.out _ _ _ G12.out).2.2)
  have HEN := Lib.hid (HG.out _ _ _ G12.out).1
  have hlen2 : (l2.map fun x : Scene × Value => x.1).length = Lx := by rw [List.length_map]; exact HL2.out
  have HEND := Lib.hid (fun (W : World) (hW : Below w12.heap.size w12 W) => show Below w.heap.size w W from HEN.out.trans (hW.mono HEN.out.size))
  by_cases hC : C = 0
  case neg =>
    have hE : E = C := by
      rcases HCS.out with h | h | h
      · exact h.2
      · exact absurd h.1 hC
      · exact absurd h.1 hC
    subst hE
    have hne : (E == 0) = false := beq_eq_false_iff_ne.2 hC
    have hee : (E == E) = true := beq_self_eq_true _
    clear hC HNO HZ12 HX12 hlen2
    go_wp2_with fail
    refine HSC.out.mono ?_
    rintro e w13 ⟨rfl, hb13⟩
    have HE := Lib.hid (HEND.out _ hb13)
    clear hb13 HEND HEN HSC
    go_wp2
    go_ret
    exact ⟨rfl, HE.out⟩
  subst hC
  have HNO2 := Lib.hid (HNO.out rfl)
  obtain ⟨x9, _⟩ := G12.out.cell (p := (X, xCs t1 (.slice A1 Lx c1), 40)) (by simp)
  have x1 : w12.cell? ⟨X, 1, none⟩ = some (.slice A1 Lx c1) := x9 1
  clear x9 HNO
  have hbad : (fa < 0 ∨ ta < fa ∨ (Lx : Int) < ta) → E = 1 := fun hb => by
    rcases HCS.out with h | h | h
    · exact absurd rfl h.1
    · exact h.2.2
    · have h2 := h.2.2.2.1
      have h3 := h.2.1
      have h4 := h.2.2.1
      rw [hlen2] at h2
      omega
  have HBAD := Lib.hid hbad
  clear hbad
  by_cases hfa0 : fa < 0
  case pos =>
    obtain rfl : E = 1 := HBAD.out (.inl hfa0)
    clear HZ12 HX12 hlen2 HBAD HCS
    go_wp2_with fail
    refine HSC.out.mono ?_
    rintro e w13 ⟨rfl, hb13⟩
    have HE := Lib.hid (HEND.out _ hb13)
    clear hb13 HEND HEN HSC
    go_wp2
    go_ret
    exact ⟨rfl, HE.out⟩
  by_cases htf : ta < fa
  case pos =>
    obtain rfl : E = 1 := HBAD.out (.inr (.inl htf))
    clear HZ12 HX12 hlen2 HBAD HCS
    go_wp2_with fail
    refine HSC.out.mono ?_
    rintro e w13 ⟨rfl, hb13⟩
    have HE := Lib.hid (HEND.out _ hb13)
    clear hb13 HEND HEN HSC
    go_wp2
    go_ret
    exact ⟨rfl, HE.out⟩
  by_cases hLt : (Lx : Int) < ta
  case pos =>
    obtain rfl : E = 1 := HBAD.out (.inr (.inr hLt))
    clear HZ12 HX12 hlen2 HBAD HCS
    go_wp2_with fail
    refine HSC.out.mono ?_
    rintro e w13 ⟨rfl, hb13⟩
    have HE := Lib.hid (HEND.out _ hb13)
    clear hb13 HEND HEN HSC
    go_wp2
    go_ret
    exact ⟨rfl, HE.out⟩
  obtain ⟨f, rfl⟩ := Int.eq_ofNat_of_zero_le (show 0 ≤ fa by omega)
  obtain ⟨g, rfl⟩ := Int.eq_ofNat_of_zero_le (show 0 ≤ ta by omega)
  obtain ⟨hE0, htz, hlz⟩ : E = 0 ∧ tz = t1 ∧ lz.map (·.1) = cutS (l2.map fun x : Scene × Value => x.1) f g := by
    rcases HCS.out with h | h | h
    · exact absurd rfl h.1
    · have h2 := h.2.1
      rw [hlen2] at h2
      omega
    · exact h.2.2.2.2
  subst hE0
  subst htz
  have HLZ := Lib.hid hlz
  have hgl : g ≤ l2.length := by rw [HL2.out]; omega
  have hfg : f ≤ g := by omega
  have HCO := Lib.hid (fun (W : World) (hW : Below w12.heap.size w12 W) => CutOf_any tz l2 (.slice A1 Lx c1) W (HX12.out.below hW) (by rw [HL2.out]; omega) HNO2.out f g hfg hgl)
  have HPC := Lib.hid (fun (W : World) (hW : Below w12.heap.size w12 W) => show (W.cell? ⟨w10.heap.size, 0, none⟩ = some (.string tz) ∧ W.cell? ⟨w10.heap.size, 1, none⟩ = some (.slice Az Lz cz)) ∧ W.cell? ⟨X, 0, none⟩ = some (.string tz) ∧ W.cell? ⟨X, 1, none⟩ = some (.slice A1 Lx c1) from by
    have hb := G12.out.below hW
    obtain ⟨x, _⟩ := hb.cell (p := (X, xCs tz (.slice A1 Lx c1), 40)) (by simp)
    obtain ⟨y, _⟩ := hb.cell (p := (w10.heap.size, xCs tz (.slice Az Lz cz), 40)) (by simp)
    exact ⟨⟨y 0, y 1⟩, x 0, x 1⟩)
  obtain ⟨ι9, f9, hne9, hp9, hf9, hS9⟩ := growFam w12
  have q0 := fun p => (HPC.out _ (hf9 p)).1.1
  have q1 := fun p => (HPC.out _ (hf9 p)).1.2
  have q2 := fun p => (HPC.out _ (hf9 p)).2.1
  have q3 := fun p => (HPC.out _ (hf9 p)).2.2
  have HS9 := Lib.hid hS9
  have HSD := Lib.hid (scripts_c w12.drew (max_below (HG.out _ _ _ G12.out).2.2 ((Below.refl _ w12).drew) (Nat.le_refl _)))
  clear HCS hlz hlen2 HBAD HSC hS9 hf9
  go_upto_region 15 with (fail)
  refine wp_region_segs3 [0, 10, 11] [12, 13] [] [([], [], 0), ([1, 2, 3, 4, 5, 8, 9], [6, 7], 10), ([], [], 11)] (by kernel_rfl) (by kernel_rfl) (fun _ _ _ dd _ h => by cases dd <;> exact h) (fun W => ∃ p : ι9, W = f9 p) (HS9.out _ ((Below.refl _ w12).drew)) ?_
  refine wpSegs3_step (by simp only [pick, List.getElem?_cons_succ, List.getElem?_cons_zero]; rfl) (by simp only [pick, List.getElem?_cons_succ, List.getElem?_cons_zero]; rfl) rfl (fun K0 hK0 L0 hL0 => ?_)
  repeat (first | go_big_quiet_step (fail) | quiet_step (fail))
  refine wpQuiet_nil (hL0 _ ?_)
  repeat (first | go_big_quiet_step (fail) | quiet_step (fail))
  refine wpQuiet_nil ?_
  refine Or.inl ⟨by kernel_rfl, ?_⟩
  go_simp
  refine HSD.out.mono ?_
  rintro e w13 ⟨rfl, hb13⟩
  have hb1 := (Below.refl _ w12).drew.trans hb13
  have HB1 := Lib.hid hb1
  refine hK0 (fun W => ∃ p : ι9, W = f9 p) _ _ (fun _ h => h) (HS9.out _ hb1) ?_
  have HC1 := Lib.hid (HCO.out w13 hb1)
  clear hb1 hb13 HSD
  refine wpSegs3_step (by simp only [pick, List.getElem?_cons_succ, List.getElem?_cons_zero]; rfl) (by simp only [pick, List.getElem?_cons_succ, List.getElem?_cons_zero]; rfl) rfl (fun K1 hK1 L1 hL1 => ?_)
  repeat (first | go_big_quiet_step (fail) | quiet_step (fail))
  refine wpQuiet_nil (hL1 _ ?_)
  repeat (first | go_big_quiet_step (fail) | quiet_step (fail))
  refine wpQuiet_nil ?_
  refine Or.inl ⟨by kernel_rfl, ?_⟩
  go_simp
  refine HC1.out.mono ?_
  rintro e w14 ⟨lc, vc, rfl, hlc, hBO, hpar⟩
  have hb2 := HB1.out.trans (hBO.bel.mono HB1.out.size)
  have hc2 : Sc2 w14 (fun q => q < w14.heap.size) lc vc := ⟨hBO.own.sliF (enc := fun x : Scene × Value => x.1.cells x.2) (hn := fun _ => rfl) (fun g e => (hBO.own.block g e).2), fun y hy => (hpar y hy).more fun q hq => (HX12.out.below hb2).lt q hq, fun q hq => hq⟩
  have hz2 := HZ12.out.below hb2
  have hz3 : Sc2 w14 (fun q => q < w14.heap.size) lz (.slice Az Lz cz) := ⟨hz2.sli.more fun q hq => hz2.lt q hq, fun y hy => (hz2.par y hy).more fun q hq => hz2.lt q hq, fun q hq => hq⟩
  have HSS := SameScripts_c tz tz lz lc (.slice Az Lz cz) vc w14 hz3 hc2
  rw [show decide ((⟨tz, lz.map (·.1)⟩ : Script) = ⟨tz, lc.map (·.1)⟩) = true from decide_eq_true (by rw [HLZ.out, hlc])] at HSS
  have HSS := Lib.hid HSS
  have HB2 := Lib.hid hb2
  refine hK1 (fun W => ∃ p : ι9, W = f9 p) _ _ (fun _ h => h) (HS9.out _ hb2) ?_
  clear hlc hBO hpar hb2 hc2 hz2 hz3 HC1 HCO
  refine wpSegs3_step (by simp only [pick, List.getElem?_cons_succ, List.getElem?_cons_zero]; rfl) (by simp only [pick, List.getElem?_cons_succ, List.getElem?_cons_zero]; rfl) rfl (fun K2 hK2 L2 hL2 => ?_)
  repeat (first | go_big_quiet_step (fail) | quiet_step (fail))
  refine wpQuiet_nil (hL2 _ ?_)
  repeat (first | go_big_quiet_step (fail) | quiet_step (fail))
  refine wpQuiet_nil ?_
  refine Or.inl ⟨by kernel_rfl, ?_⟩
  go_simp
  refine HSS.out.mono ?_
  rintro e w15 ⟨rfl, hb15⟩
  have hb3 := HB2.out.trans (hb15.mono HB2.out.size)
  have HE := Lib.hid (HEND.out _ hb3)
  refine hK2 (fun W => ∃ p : ι9, W = f9 p) _ _ (fun _ h => h) (HS9.out _ hb3) ?_
  clear hb15 hb3 HEND HEN HSS
  refine wpSegs3_fin (by simp only [pick, List.getElem?_cons_succ, List.getElem?_cons_zero]; rfl) (by simp only [pick, List.getElem?_cons_succ, List.getElem?_cons_zero]; rfl) (fun L3 hL3 => ?_)
  repeat (first | go_big_quiet_step (fail) | quiet_step (fail))
  refine wpQuiet_nil (hL3 _ ?_)
  repeat (first | go_big_quiet_step (fail) | quiet_step (fail))
  refine wpQuiet_nil ?_
  go_wp2
  go_ret
  exact ⟨rfl, HE.out⟩
end Go.Proofs.YtejggkpbdnijaaaGreatDoor

