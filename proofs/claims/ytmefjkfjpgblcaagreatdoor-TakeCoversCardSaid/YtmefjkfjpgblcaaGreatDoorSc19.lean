/- Texts packed: CloneW, NextG, RdA. -/
import Derived.Test.YtmefjkfjpgblcaaGreatDoorSc18
import Derived.Test.YtmefjkfjpgblcaaGreatDoorSc02
import Derived.Lib.SliceRun
import Derived.Lib.Walk
import Derived.Test.YtmefjkfjpgblcaaGreatDoorSc09
import Derived.Deep.RegionHeld3
import Derived.Deep.DeepCutAuto
import Derived.RegionTactic
import Derived.Test.YtmefjkfjpgblcaaGreatDoorSc13
import Derived.Test.YtmefjkfjpgblcaaGreatDoorSc14
import Derived.Deep.QuietTactic
import Derived.BigQuiet
/- slices.Clone at the elements of scripts and takes. -/
namespace Go.Proofs.YtmefjkfjpgblcaaGreatDoor
set_option linter.unusedVariables false
open Go.RowKit

theorem Lay.oneM {α : Type} {R : Rep α} {w : World} {F : Nat → Prop} {l : List α} {cs : List Value} (h : Lay R w F l cs) (h1 : ∀ x ∈ l, ∀ a, R.rel w F x a → ∀ u ∈ a, u.oneCell' = true) : ∀ u ∈ cs, u.oneCell' = true := by
  intro u hu
  obtain ⟨j, hj, rfl⟩ := List.mem_iff_getElem.1 hu
  by_cases hn : R.n = 0
  · rw [h.1, hn] at hj; omega
  · have hq : j / R.n < l.length := (Nat.div_lt_iff_lt_mul (by omega)).2 (by rw [← h.1]; exact hj)
    refine h1 _ (List.getElem_mem hq) _ (h.2 _ _ (List.getElem?_eq_getElem hq)) _ ?_
    rw [List.mem_iff_getElem?]
    refine ⟨j % R.n, ?_⟩
    rw [List.getElem?_take, List.getElem?_drop, if_pos (Nat.mod_lt _ (by omega)), Nat.mul_comm, Nat.div_add_mod]
    exact List.getElem?_eq_getElem hj

set_option maxHeartbeats 2000000 in
set_option maxRecDepth 100000 in
theorem cloneScene_c {F : Nat → Prop} (l : List (Scene × Value)) (v : Value) (w : World) (h : Sli svR w F l v) (hl : l.length ≤ 1000000) (ho : ∀ x ∈ l, ∃ A n c, x.2 = .slice A n c) :
    Calls Tryz.prog 161 #[v] w (fun e w' => ∃ v', e = .returned v' ∧ Own svR w' w.heap.size w.heap.size 119 l v' ∧ Below w.heap.size w w') := by
  obtain ⟨A, c, rfl, hc1, hc2, h3⟩ := h
  obtain ⟨i0, hi0, hz0, hz1, hz2⟩ := info_parts (show (Tryz.prog.info? 119).map (fun i => (i.zero, i.size, i.bytes)) = some (some (.agg #[.string ⟨#[]⟩, .int .i64 0, .string ⟨#[]⟩, .int .i64 0, .slice none 0 0]), 5, 72) by kernel_rfl)
  have q22 : ∀ (w : World) (a : Option Addr) (n c n' c' : Nat), (binOp .eql 42 (.slice a n c) (.slice none n' c')).run Tryz.prog w = .ok (.bool a.isNone) w := fun w a n c n' c' => Lib.run_eql_slice_nil w _ _ a n c n' c' Tryz.underlying42
  cases A with
  | none =>
    have h0 : ¬ 0 < l.length := fun h0 => by obtain ⟨b, off, cs, e, _⟩ := h3 h0; cases e
    obtain rfl : l = [] := List.length_eq_zero_iff.1 (by omega)
    clear h3
    go_enter Tryz.func161, Tryz.ntmps161
    go_wp2
    go_ret
    exact ⟨_, rfl, Own.nil_, Below.refl _ _⟩
  | some ad =>
    obtain ⟨cs, hcs, hcell⟩ : ∃ cs, Lay svR w F l cs ∧ ∀ j u, cs[j]? = some u → w.cell? (ad.add j) = some u := by
      by_cases h0 : 0 < l.length
      · obtain ⟨b, off, cs, e, hb, hl, hc⟩ := h3 h0
        injection e with e
        subst e
        exact ⟨cs, hl, fun j u hj => by rw [Addr.add_lit]; exact hc j u hj⟩
      · obtain rfl : l = [] := List.length_eq_zero_iff.1 (by omega)
        exact ⟨[], Lay.nil_, fun j u hj => by simp at hj⟩
    clear h3
    have HC := Lib.hid hcell
    have HL := Lib.hid hcs
    clear hcell hcs
    go_enter Tryz.func161, Tryz.ntmps161
    go_wp2_with (at_builtin; refine wpList_append_own _ rfl _ _ 42 rfl w.heap.size 119 i0 _ 5 72 Tryz.underlying42 hi0 hz0 hz1 hz2 rfl (by decide) _ _ _ rfl (World.ownsRow_made w #[] 0 (Nat.le_refl _) (Nat.zero_le _) (by simp)) ad l.length c cs rfl ?qc1 ?qc2 ?qc3 ?qc4 ?qc5 ?qc6 ?_)
    case qc1 => exact HL.out.1
    case qc2 => exact fun j u hj => Lib.cell?_alloc_some _ (HC.out j u hj)
    case qc3 => exact HL.out.oneM (fun x hm a hx => by have e : a = x.1.cells x.2 := hx; subst e; obtain ⟨A, n, c, e⟩ := ho x hm; rw [e]; exact oneC rfl)
    case qc4 => unfold maxLen; omega
    case qc5 => omega
    case qc6 => simp
    intro v' w1 hown hgrow hnil
    go_wp2
    go_ret
    have hown2 : w1.ownsRow w.heap.size 119 5 v' l.length cs := by simpa using hown
    refine ⟨v', rfl, ⟨_, hown2, ⟨HL.out.1, fun k x hx => HL.out.2 k x hx⟩⟩, ?_⟩
    exact ((Below.refl _ w).alloc (Nat.le_refl _) _).grown hgrow (by simp) (by intro k hk; simp [Value.ownBlock] at hk; omega)

set_option maxHeartbeats 2000000 in
set_option maxRecDepth 100000 in
theorem clonePara_c {F : Nat → Prop} (l : List (Para)) (v : Value) (w : World) (h : Sli paraR w F l v) (hl : l.length ≤ 1000000) :
    Calls Tryz.prog 162 #[v] w (fun e w' => ∃ v', e = .returned v' ∧ Own paraR w' w.heap.size w.heap.size 198 l v' ∧ Below w.heap.size w w') := by
  obtain ⟨A, c, rfl, hc1, hc2, h3⟩ := h
  obtain ⟨i0, hi0, hz0, hz1, hz2⟩ := info_parts (show (Tryz.prog.info? 198).map (fun i => (i.zero, i.size, i.bytes)) = some (some (.agg #[.int .i64 0, .string ⟨#[]⟩]), 2, 24) by kernel_rfl)
  have q22 : ∀ (w : World) (a : Option Addr) (n c n' c' : Nat), (binOp .eql 117 (.slice a n c) (.slice none n' c')).run Tryz.prog w = .ok (.bool a.isNone) w := fun w a n c n' c' => Lib.run_eql_slice_nil w _ _ a n c n' c' Tryz.underlying117
  cases A with
  | none =>
    have h0 : ¬ 0 < l.length := fun h0 => by obtain ⟨b, off, cs, e, _⟩ := h3 h0; cases e
    obtain rfl : l = [] := List.length_eq_zero_iff.1 (by omega)
    clear h3
    go_enter Tryz.func162, Tryz.ntmps162
    go_wp2
    go_ret
    exact ⟨_, rfl, Own.nil_, Below.refl _ _⟩
  | some ad =>
    obtain ⟨cs, hcs, hcell⟩ : ∃ cs, Lay paraR w F l cs ∧ ∀ j u, cs[j]? = some u → w.cell? (ad.add j) = some u := by
      by_cases h0 : 0 < l.length
      · obtain ⟨b, off, cs, e, hb, hl, hc⟩ := h3 h0
        injection e with e
        subst e
        exact ⟨cs, hl, fun j u hj => by rw [Addr.add_lit]; exact hc j u hj⟩
      · obtain rfl : l = [] := List.length_eq_zero_iff.1 (by omega)
        exact ⟨[], Lay.nil_, fun j u hj => by simp at hj⟩
    clear h3
    have HC := Lib.hid hcell
    have HL := Lib.hid hcs
    clear hcell hcs
    go_enter Tryz.func162, Tryz.ntmps162
    go_wp2_with (at_builtin; refine wpList_append_own _ rfl _ _ 117 rfl w.heap.size 198 i0 _ 2 24 Tryz.underlying117 hi0 hz0 hz1 hz2 rfl (by decide) _ _ _ rfl (World.ownsRow_made w #[] 0 (Nat.le_refl _) (Nat.zero_le _) (by simp)) ad l.length c cs rfl ?qc1 ?qc2 ?qc3 ?qc4 ?qc5 ?qc6 ?_)
    case qc1 => exact HL.out.1
    case qc2 => exact fun j u hj => Lib.cell?_alloc_some _ (HC.out j u hj)
    case qc3 => exact HL.out.oneM (fun x hm a hx => by have e : a = x.cells := hx; subst e; exact oneC rfl)
    case qc4 => unfold maxLen; omega
    case qc5 => omega
    case qc6 => simp
    intro v' w1 hown hgrow hnil
    go_wp2
    go_ret
    have hown2 : w1.ownsRow w.heap.size 198 2 v' l.length cs := by simpa using hown
    refine ⟨v', rfl, ⟨_, hown2, ⟨HL.out.1, fun k x hx => HL.out.2 k x hx⟩⟩, ?_⟩
    exact ((Below.refl _ w).alloc (Nat.le_refl _) _).grown hgrow (by simp) (by intro k hk; simp [Value.ownBlock] at hk; omega)

set_option maxHeartbeats 2000000 in
set_option maxRecDepth 100000 in
theorem cloneTake_c {F : Nat → Prop} (l : List (Tk × Value)) (v : Value) (w : World) (h : Sli tvR w F l v) (hl : l.length ≤ 1000000) (ho : ∀ x ∈ l, ∃ A n c, x.2 = .slice A n c) :
    Calls Tryz.prog 78 #[v] w (fun e w' => ∃ v', e = .returned v' ∧ Own tvR w' w.heap.size w.heap.size 122 l v' ∧ Below w.heap.size w w') := by
  obtain ⟨A, c, rfl, hc1, hc2, h3⟩ := h
  obtain ⟨i0, hi0, hz0, hz1, hz2⟩ := info_parts (show (Tryz.prog.info? 122).map (fun i => (i.zero, i.size, i.bytes)) = some (some (.agg #[.string ⟨#[]⟩, .string ⟨#[]⟩, .int .i64 0, .string ⟨#[]⟩, .string ⟨#[]⟩, .int .i64 0, .int .i64 0, .bool false, .slice none 0 0]), 9, 120) by kernel_rfl)
  have q22 : ∀ (w : World) (a : Option Addr) (n c n' c' : Nat), (binOp .eql 48 (.slice a n c) (.slice none n' c')).run Tryz.prog w = .ok (.bool a.isNone) w := fun w a n c n' c' => Lib.run_eql_slice_nil w _ _ a n c n' c' Tryz.underlying48
  cases A with
  | none =>
    have h0 : ¬ 0 < l.length := fun h0 => by obtain ⟨b, off, cs, e, _⟩ := h3 h0; cases e
    obtain rfl : l = [] := List.length_eq_zero_iff.1 (by omega)
    clear h3
    go_enter Tryz.func78, Tryz.ntmps78
    go_wp2
    go_ret
    exact ⟨_, rfl, Own.nil_, Below.refl _ _⟩
  | some ad =>
    obtain ⟨cs, hcs, hcell⟩ : ∃ cs, Lay tvR w F l cs ∧ ∀ j u, cs[j]? = some u → w.cell? (ad.add j) = some u := by
      by_cases h0 : 0 < l.length
      · obtain ⟨b, off, cs, e, hb, hl, hc⟩ := h3 h0
        injection e with e
        subst e
        exact ⟨cs, hl, fun j u hj => by rw [Addr.add_lit]; exact hc j u hj⟩
      · obtain rfl : l = [] := List.length_eq_zero_iff.1 (by omega)
        exact ⟨[], Lay.nil_, fun j u hj => by simp at hj⟩
    clear h3
    have HC := Lib.hid hcell
    have HL := Lib.hid hcs
    clear hcell hcs
    go_enter Tryz.func78, Tryz.ntmps78
    go_wp2_with (at_builtin; refine wpList_append_own _ rfl _ _ 48 rfl w.heap.size 122 i0 _ 9 120 Tryz.underlying48 hi0 hz0 hz1 hz2 rfl (by decide) _ _ _ rfl (World.ownsRow_made w #[] 0 (Nat.le_refl _) (Nat.zero_le _) (by simp)) ad l.length c cs rfl ?qc1 ?qc2 ?qc3 ?qc4 ?qc5 ?qc6 ?_)
    case qc1 => exact HL.out.1
    case qc2 => exact fun j u hj => Lib.cell?_alloc_some _ (HC.out j u hj)
    case qc3 => exact HL.out.oneM (fun x hm a hx => by have e : a = x.1.cells x.2 := hx; subst e; obtain ⟨A, n, c, e⟩ := ho x hm; rw [e]; exact oneC rfl)
    case qc4 => unfold maxLen; omega
    case qc5 => omega
    case qc6 => simp
    intro v' w1 hown hgrow hnil
    go_wp2
    go_ret
    have hown2 : w1.ownsRow w.heap.size 122 9 v' l.length cs := by simpa using hown
    refine ⟨v', rfl, ⟨_, hown2, ⟨HL.out.1, fun k x hx => HL.out.2 k x hx⟩⟩, ?_⟩
    exact ((Below.refl _ w).alloc (Nat.le_refl _) _).grown hgrow (by simp) (by intro k hk; simp [Value.ownBlock] at hk; omega)

set_option maxHeartbeats 2000000 in
set_option maxRecDepth 100000 in
theorem cloneCover_c {F : Nat → Prop} (l : List (Cov)) (v : Value) (w : World) (h : Sli covR w F l v) (hl : l.length ≤ 1000000) :
    Calls Tryz.prog 79 #[v] w (fun e w' => ∃ v', e = .returned v' ∧ Own covR w' w.heap.size w.heap.size 124 l v' ∧ Below w.heap.size w w') := by
  obtain ⟨A, c, rfl, hc1, hc2, h3⟩ := h
  obtain ⟨i0, hi0, hz0, hz1, hz2⟩ := info_parts (show (Tryz.prog.info? 124).map (fun i => (i.zero, i.size, i.bytes)) = some (some (.agg #[.int .i64 0, .int .i64 0, .int .i64 0, .bool false]), 4, 32) by kernel_rfl)
  have q22 : ∀ (w : World) (a : Option Addr) (n c n' c' : Nat), (binOp .eql 120 (.slice a n c) (.slice none n' c')).run Tryz.prog w = .ok (.bool a.isNone) w := fun w a n c n' c' => Lib.run_eql_slice_nil w _ _ a n c n' c' Tryz.underlying120
  cases A with
  | none =>
    have h0 : ¬ 0 < l.length := fun h0 => by obtain ⟨b, off, cs, e, _⟩ := h3 h0; cases e
    obtain rfl : l = [] := List.length_eq_zero_iff.1 (by omega)
    clear h3
    go_enter Tryz.func79, Tryz.ntmps79
    go_wp2
    go_ret
    exact ⟨_, rfl, Own.nil_, Below.refl _ _⟩
  | some ad =>
    obtain ⟨cs, hcs, hcell⟩ : ∃ cs, Lay covR w F l cs ∧ ∀ j u, cs[j]? = some u → w.cell? (ad.add j) = some u := by
      by_cases h0 : 0 < l.length
      · obtain ⟨b, off, cs, e, hb, hl, hc⟩ := h3 h0
        injection e with e
        subst e
        exact ⟨cs, hl, fun j u hj => by rw [Addr.add_lit]; exact hc j u hj⟩
      · obtain rfl : l = [] := List.length_eq_zero_iff.1 (by omega)
        exact ⟨[], Lay.nil_, fun j u hj => by simp at hj⟩
    clear h3
    have HC := Lib.hid hcell
    have HL := Lib.hid hcs
    clear hcell hcs
    go_enter Tryz.func79, Tryz.ntmps79
    go_wp2_with (at_builtin; refine wpList_append_own _ rfl _ _ 120 rfl w.heap.size 124 i0 _ 4 32 Tryz.underlying120 hi0 hz0 hz1 hz2 rfl (by decide) _ _ _ rfl (World.ownsRow_made w #[] 0 (Nat.le_refl _) (Nat.zero_le _) (by simp)) ad l.length c cs rfl ?qc1 ?qc2 ?qc3 ?qc4 ?qc5 ?qc6 ?_)
    case qc1 => exact HL.out.1
    case qc2 => exact fun j u hj => Lib.cell?_alloc_some _ (HC.out j u hj)
    case qc3 => exact HL.out.oneM (fun x hm a hx => by have e : a = x.cells := hx; subst e; exact oneC rfl)
    case qc4 => unfold maxLen; omega
    case qc5 => omega
    case qc6 => simp
    intro v' w1 hown hgrow hnil
    go_wp2
    go_ret
    have hown2 : w1.ownsRow w.heap.size 124 4 v' l.length cs := by simpa using hown
    refine ⟨v', rfl, ⟨_, hown2, ⟨HL.out.1, fun k x hx => HL.out.2 k x hx⟩⟩, ?_⟩
    exact ((Below.refl _ w).alloc (Nat.le_refl _) _).grown hgrow (by simp) (by intro k hk; simp [Value.ownBlock] at hk; omega)
end Go.Proofs.YtmefjkfjpgblcaaGreatDoor

/- The generator's number of a scene of a script. -/
namespace Go.Proofs.YtmefjkfjpgblcaaGreatDoor
set_option linter.unusedVariables false
open Go.RowKit Go.Sort

set_option maxRecDepth 100000 in
set_option maxHeartbeats 4000000 in
theorem noG_c {F : Nat → Prop} (sb : Nat) (k0 : Int) (t : ByteArray) (ls : List (Scene × Value)) (sv : Value) (w : World) (hs : Str w sb k0) (hk0 : k0 ≤ 3900000000000000000) (hS : Sli svR w F ls sv) (hF : ∀ q, F q → q < w.heap.size ∧ q ≠ sb) (hl : ls.length ≤ 1000) (hb : ∀ x ∈ ls, x.1.no.size ≤ 1000) :
    Calls Tryz.prog 102 #[.pointer (some ⟨sb, 0, none⟩), .agg (xCs t sv)] w (Took sb k0 10 (isStr (fun s => s.size ≤ 1000)) w) := by
  have S0 := Lib.hid hs
  have HS := Lib.hid hS
  have HB := Lib.hid hb
  have HF := Lib.hid hF
  have hsb := hs.lt
  obtain ⟨A0, c0, rfl, hc01, hc02⟩ := hS.form
  obtain ⟨L, hL⟩ : ∃ L, ls.length = L := ⟨_, rfl⟩
  have HL := Lib.hid hL
  rw [hL] at hl hc01 HS ⊢
  clear hs hS hb hF hL
  rw [show xCs t (.slice A0 L c0) = #[.string t, .slice A0 L c0] from rfl]
  have S1 := Lib.hid (S0.out.alloc (.cells #[.string t, .slice A0 L c0] 44))
  have G1 := Lib.hid (gAlloc (gRefl w sb) (.cells #[.string t, .slice A0 L c0] 44))
  go_enter Tryz.func102, Tryz.ntmps102
  by_cases h0 : L = 0
  · subst h0
    go_upto_region 2 with (fail)
    go_wp2_with fail
    refine (No_c sb k0 _ S1.out (by omega)).mono ?_
    rintro e w2 ⟨v2, k2, rfl, ⟨s2, hs2, rfl⟩, hk2, hst2, hg2⟩
    have HH := Lib.hid (And.intro hst2 (gTrans G1.out hg2))
    clear hst2 hg2
    go_wp2
    go_ret
    exact ⟨_, k2, rfl, ⟨s2, by omega, rfl⟩, by omega, HH.out.1, HH.out.2⟩
  · have h00 : ((L : Int) == 0) = false := beq_eq_false_iff_ne.2 (by omega)
    go_wp2_with fail
    refine (flip_c sb k0 12 _ S1.out (by omega) (by omega) (by omega)).mono ?_
    rintro e w2 ⟨v2, k2, rfl, ⟨b2, rfl⟩, hk2, hst2, hg2⟩
    have S2 := Lib.hid hst2
    have G2 := Lib.hid (gTrans G1.out hg2)
    have x1 : w2.cell? ⟨w.heap.size, 1, none⟩ = some (.slice A0 L c0) := (World.cell?_of_block (a := ⟨w.heap.size, 1, none⟩) (hg2.block w.heap.size (by simp) (by simp; omega))).trans ((str_cells (heap_alloc_new w _)).1 1)
    have hX : w.heap.size < w2.heap.size := by have := hg2.size; simp at this; omega
    clear hst2 hg2 S1 G1
    cases b2 with
    | true =>
      go_wp2_with fail
      refine (No_c sb k2 _ S2.out (by omega)).mono ?_
      rintro e w3 ⟨v3, k3, rfl, ⟨s3, hs3, rfl⟩, hk3, hst3, hg3⟩
      have HH := Lib.hid (And.intro hst3 (gTrans G2.out hg3))
      clear hst3 hg3
      go_wp2
      go_ret
      exact ⟨_, k3, rfl, ⟨s3, by omega, rfl⟩, by omega, HH.out.1, HH.out.2⟩
    | false =>
      obtain ⟨b0, off0, _, rfl, hFb, _, _⟩ := HS.out.at_ 0 (by rw [HL.out]; omega)
      obtain ⟨fs, hfs⟩ : ∃ fs : Nat → ByteArray, ∀ q (hq : q < ls.length), ls[q].1.no = fs q := ⟨fun q => if h : q < ls.length then ls[q].1.no else ⟨#[]⟩, fun q hq => by simp only [dif_pos hq]⟩
      have HFS := Lib.hid hfs
      clear hfs
      have hbw := (HF.out b0 hFb).1
      have HK := Lib.hid (fun (W : World) (hg : w2.grownBy W (some sb)) => show W.cell? ⟨w.heap.size, 1, none⟩ = some (.slice (some ⟨b0, off0, none⟩) L c0) ∧ ∀ q, q < L → W.cell? ⟨b0, off0 + q * 5, none⟩ = some (.string (fs q)) from
        ⟨(World.cell?_of_block (hg.block w.heap.size hX (by simp; omega))).trans x1, fun q hq => by
          have hq2 : q < ls.length := by rw [HL.out]; exact hq
          obtain ⟨b1, off1, cs, e1, hb1, e2, hc⟩ := (HS.out.keep (fun b hb => (gTrans G2.out hg).block b (HF.out b hb).1 (by have := (HF.out b hb).2; simp; omega))).at_ q hq2
          injection e1 with e1
          injection e1 with e1 e3
          subst e1; subst e3
          have e4 : cs = ls[q].1.cells ls[q].2 := e2
          subst e4
          rw [← HFS.out q hq2]
          exact hc 0 _ rfl⟩)
      clear x1
      go_upto_region 3 with (fail)
      go_region_held3 (fun W' => W'.cell? ⟨w.heap.size, 1, none⟩ = some (.slice (some ⟨b0, off0, none⟩) L c0) ∧ ∀ q, q < L → W'.cell? ⟨b0, off0 + q * 5, none⟩ = some (.string (fs q)))
        (first
          | (refine HK.out _ ?_; (repeat (first | with_reducible exact hw6 | with_reducible exact gRefl w2 sb | with_reducible refine gDrew ?_)); done)
          | fail)
        (first
          | (go_at_call 75; refine (next_c sb k2 L _ S2.out.drew (by omega) (by omega) (by omega)).mono ?_; rintro e w6 ⟨v6, n6, rfl, ⟨q6, hq0, hq1, rfl⟩, hn6, hs6, hg6⟩; obtain ⟨q, rfl⟩ := Int.eq_ofNat_of_zero_le hq0; have hq : q < L := (by omega); have hw6 : w2.grownBy w6 (some sb) := gTrans (gDrew (gRefl w2 sb)) hg6)
          | fail)
      have HH := Lib.hid (And.intro hs6 (gTrans G2.out hw6))
      have HZ := Lib.hid (show (fs q).size ≤ 1000 by
        have hq2 : q < ls.length := by rw [HL.out]; exact hq
        rw [← HFS.out q hq2]
        exact HB.out _ (List.getElem_mem hq2))
      go_wp2
      go_ret
      exact ⟨_, n6, rfl, ⟨fs q, HZ.out, rfl⟩, by omega, HH.out.1, HH.out.2⟩
theorem OfG_c {F : Nat → Prop} (sb : Nat) (k0 : Int) (t : ByteArray) (ls : List (Scene × Value)) (sv : Value) (w : World) (hs : Str w sb k0) (hk0 : k0 ≤ 3900000000000000000) (hS : Sli svR w F ls sv) (hF : ∀ q, F q → q < w.heap.size ∧ q ≠ sb) (hl : ls.length ≤ 1000) (hb : ∀ x ∈ ls, x.1.no.size ≤ 1000) :
    Calls Tryz.prog 30 #[.pointer (some ⟨sb, 0, none⟩), .agg (xCs t sv)] w (Took sb k0 10 (isStr (fun s => s.size ≤ 1000)) w) := by
  have HC := Lib.hid (noG_c (F := F) sb k0 t ls sv (w.alloc (.cells #[.string t, sv] 44)) (hs.alloc _) hk0 (hS.keep fun b hb => Below.heap_alloc w _ b (hF b hb).1) (fun q hq => ⟨by have := (hF q hq).1; simp; omega, (hF q hq).2⟩) hl hb)
  have G1 := Lib.hid (gAlloc (gRefl w sb) (.cells #[.string t, sv] 44))
  obtain ⟨A0, c0, rfl, _, _⟩ := hS.form
  rw [show xCs t (.slice A0 ls.length c0) = #[.string t, .slice A0 ls.length c0] from rfl] at HC ⊢
  clear hs hS hF hb
  go_enter Tryz.func30, Tryz.ntmps30
  go_wp2_with fail
  refine HC.out.mono ?_
  rintro e w2 ⟨v2, k2, rfl, ⟨s2, hs2, rfl⟩, hk2, hst2, hg2⟩
  have HH := Lib.hid (And.intro hst2 (gTrans G1.out hg2))
  clear hst2 hg2 HC
  go_wp2
  go_ret
  exact ⟨_, k2, rfl, ⟨s2, by omega, rfl⟩, by omega, HH.out.1, HH.out.2⟩
end Go.Proofs.YtmefjkfjpgblcaaGreatDoor

/- The reader of scripts: how it lies in memory, and a paragraph added. -/
namespace Go.Proofs.YtmefjkfjpgblcaaGreatDoor
set_option linter.unusedVariables false
open Go.RowKit Go.Sort

end Go.Proofs.YtmefjkfjpgblcaaGreatDoor

