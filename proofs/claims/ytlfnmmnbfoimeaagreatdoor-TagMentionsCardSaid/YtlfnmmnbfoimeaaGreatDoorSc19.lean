/- Texts packed: CloneW, RdA. -/
import Derived.Test.YtlfnmmnbfoimeaaGreatDoorSc18
import Derived.Test.YtlfnmmnbfoimeaaGreatDoorSc02
import Derived.Lib.SliceRun
import Derived.Lib.Walk
import Derived.Test.YtlfnmmnbfoimeaaGreatDoorSc13
import Derived.Test.YtlfnmmnbfoimeaaGreatDoorSc01
import Derived.Test.YtlfnmmnbfoimeaaGreatDoorSc14
import Derived.Deep.QuietTactic
import Derived.BigQuiet
import Derived.Deep.DeepCutAuto
import Derived.RegionTactic
/- slices.Clone at the elements of scripts and takes. -/
namespace Go.Proofs.YtlfnmmnbfoimeaaGreatDoor
set_option linter.unusedVariables false
open Go.RowKit

theorem Lay.oneM {α : Type} {R : Rep α} {w : World} {F : Nat → Prop} {l : List α} {cs : List Value} (h : Lay R w F l cs) (h1 : ∀ x ∈ l, ∀ a, R.rel w F x a → ∀ u ∈ a, u.oneCell' = true) : ∀ u ∈ cs, u.oneCell' = true := by
  intro u hu
  obtain ⟨j, hj, rfl⟩ := List.mem_iff_getElem.1 hu
  by_cases hn : R.n = 0
  · rw [h.1, hn] at hj; omega
  · have hq : j / R.n < l.length := (Nat.div_lt_iff_lt_mul (by omega)).2 (by rw [← h.1]; exact hj)
    refine h1 _ (List.getElem_mem hq) _ (h.2 _ _ (List.getElem?_eq_getElem hq)) _ ?_
    rw [List.mem_iff_getElem?]
    refine ⟨j % R.n, ?_⟩
    rw [List.getElem?_take, List.getElem?_drop, if_pos (Nat.mod_lt _ (by omega)), Nat.mul_comm, Nat.div_add_mod]
    exact List.getElem?_eq_getElem hj

set_option maxHeartbeats 2000000 in
set_option maxRecDepth 100000 in
theorem cloneScene_c {F : Nat → Prop} (l : List (Scene × Value)) (v : Value) (w : World) (h : Sli svR w F l v) (hl : l.length ≤ 1000000) (ho : ∀ x ∈ l, ∃ A n c, x.2 = .slice A n c) :
    Calls Tryz.prog 37 #[v] w (fun e w' => ∃ v', e = .returned v' ∧ Own svR w' w.heap.size w.heap.size 66 l v' ∧ Below w.heap.size w w') := by
  obtain ⟨A, c, rfl, hc1, hc2, h3⟩ := h
  obtain ⟨i0, hi0, hz0, hz1, hz2⟩ := info_parts (show (Tryz.prog.info? 66).map (fun i => (i.zero, i.size, i.bytes)) = some (some (.agg #[.string ⟨#[]⟩, .int .i64 0, .string ⟨#[]⟩, .int .i64 0, .slice none 0 0]), 5, 72) by kernel_rfl)
  have q22 : ∀ (w : World) (a : Option Addr) (n c n' c' : Nat), (binOp .eql 26 (.slice a n c) (.slice none n' c')).run Tryz.prog w = .ok (.bool a.isNone) w := fun w a n c n' c' => Lib.run_eql_slice_nil w _ _ a n c n' c' Tryz.underlying26
  cases A with
  | none =>
    have h0 : ¬ 0 < l.length := fun h0 => by obtain ⟨b, off, cs, e, _⟩ := h3 h0; cases e
    obtain rfl : l = [] := List.length_eq_zero_iff.1 (by omega)
    clear h3
    go_enter Tryz.func37, Tryz.ntmps37
    go_wp2
    go_ret
    exact ⟨_, rfl, Own.nil_, Below.refl _ _⟩
  | some ad =>
    obtain ⟨cs, hcs, hcell⟩ : ∃ cs, Lay svR w F l cs ∧ ∀ j u, cs[j]? = some u → w.cell? (ad.add j) = some u := by
      by_cases h0 : 0 < l.length
      · obtain ⟨b, off, cs, e, hb, hl, hc⟩ := h3 h0
        injection e with e
        subst e
        exact ⟨cs, hl, fun j u hj => by rw [Addr.add_lit]; exact hc j u hj⟩
      · obtain rfl : l = [] := List.length_eq_zero_iff.1 (by omega)
        exact ⟨[], Lay.nil_, fun j u hj => by simp at hj⟩
    clear h3
    have HC := Lib.hid hcell
    have HL := Lib.hid hcs
    clear hcell hcs
    go_enter Tryz.func37, Tryz.ntmps37
    go_wp2_with (at_builtin; refine wpList_append_own _ rfl _ _ 26 rfl w.heap.size 66 i0 _ 5 72 Tryz.underlying26 hi0 hz0 hz1 hz2 rfl (by decide) _ _ _ rfl (World.ownsRow_made w #[] 0 (Nat.le_refl _) (Nat.zero_le _) (by simp)) ad l.length c cs rfl ?qc1 ?qc2 ?qc3 ?qc4 ?qc5 ?qc6 ?_)
    case qc1 => exact HL.out.1
    case qc2 => exact fun j u hj => Lib.cell?_alloc_some _ (HC.out j u hj)
    case qc3 => exact HL.out.oneM (fun x hm a hx => by have e : a = x.1.cells x.2 := hx; subst e; obtain ⟨A, n, c, e⟩ := ho x hm; rw [e]; exact oneC rfl)
    case qc4 => unfold maxLen; omega
    case qc5 => omega
    case qc6 => simp
    intro v' w1 hown hgrow hnil
    go_wp2
    go_ret
    have hown2 : w1.ownsRow w.heap.size 66 5 v' l.length cs := by simpa using hown
    refine ⟨v', rfl, ⟨_, hown2, ⟨HL.out.1, fun k x hx => HL.out.2 k x hx⟩⟩, ?_⟩
    exact ((Below.refl _ w).alloc (Nat.le_refl _) _).grown hgrow (by simp) (by intro k hk; simp [Value.ownBlock] at hk; omega)

set_option maxHeartbeats 2000000 in
set_option maxRecDepth 100000 in
theorem clonePara_c {F : Nat → Prop} (l : List (Para)) (v : Value) (w : World) (h : Sli paraR w F l v) (hl : l.length ≤ 1000000) :
    Calls Tryz.prog 39 #[v] w (fun e w' => ∃ v', e = .returned v' ∧ Own paraR w' w.heap.size w.heap.size 68 l v' ∧ Below w.heap.size w w') := by
  obtain ⟨A, c, rfl, hc1, hc2, h3⟩ := h
  obtain ⟨i0, hi0, hz0, hz1, hz2⟩ := info_parts (show (Tryz.prog.info? 68).map (fun i => (i.zero, i.size, i.bytes)) = some (some (.agg #[.int .i64 0, .string ⟨#[]⟩]), 2, 24) by kernel_rfl)
  have q22 : ∀ (w : World) (a : Option Addr) (n c n' c' : Nat), (binOp .eql 64 (.slice a n c) (.slice none n' c')).run Tryz.prog w = .ok (.bool a.isNone) w := fun w a n c n' c' => Lib.run_eql_slice_nil w _ _ a n c n' c' Tryz.underlying64
  cases A with
  | none =>
    have h0 : ¬ 0 < l.length := fun h0 => by obtain ⟨b, off, cs, e, _⟩ := h3 h0; cases e
    obtain rfl : l = [] := List.length_eq_zero_iff.1 (by omega)
    clear h3
    go_enter Tryz.func39, Tryz.ntmps39
    go_wp2
    go_ret
    exact ⟨_, rfl, Own.nil_, Below.refl _ _⟩
  | some ad =>
    obtain ⟨cs, hcs, hcell⟩ : ∃ cs, Lay paraR w F l cs ∧ ∀ j u, cs[j]? = some u → w.cell? (ad.add j) = some u := by
      by_cases h0 : 0 < l.length
      · obtain ⟨b, off, cs, e, hb, hl, hc⟩ := h3 h0
        injection e with e
        subst e
        exact ⟨cs, hl, fun j u hj => by rw [Addr.add_lit]; exact hc j u hj⟩
      · obtain rfl : l = [] := List.length_eq_zero_iff.1 (by omega)
        exact ⟨[], Lay.nil_, fun j u hj => by simp at hj⟩
    clear h3
    have HC := Lib.hid hcell
    have HL := Lib.hid hcs
    clear hcell hcs
    go_enter Tryz.func39, Tryz.ntmps39
    go_wp2_with (at_builtin; refine wpList_append_own _ rfl _ _ 64 rfl w.heap.size 68 i0 _ 2 24 Tryz.underlying64 hi0 hz0 hz1 hz2 rfl (by decide) _ _ _ rfl (World.ownsRow_made w #[] 0 (Nat.le_refl _) (Nat.zero_le _) (by simp)) ad l.length c cs rfl ?qc1 ?qc2 ?qc3 ?qc4 ?qc5 ?qc6 ?_)
    case qc1 => exact HL.out.1
    case qc2 => exact fun j u hj => Lib.cell?_alloc_some _ (HC.out j u hj)
    case qc3 => exact HL.out.oneM (fun x hm a hx => by have e : a = x.cells := hx; subst e; exact oneC rfl)
    case qc4 => unfold maxLen; omega
    case qc5 => omega
    case qc6 => simp
    intro v' w1 hown hgrow hnil
    go_wp2
    go_ret
    have hown2 : w1.ownsRow w.heap.size 68 2 v' l.length cs := by simpa using hown
    refine ⟨v', rfl, ⟨_, hown2, ⟨HL.out.1, fun k x hx => HL.out.2 k x hx⟩⟩, ?_⟩
    exact ((Below.refl _ w).alloc (Nat.le_refl _) _).grown hgrow (by simp) (by intro k hk; simp [Value.ownBlock] at hk; omega)

end Go.Proofs.YtlfnmmnbfoimeaaGreatDoor

/- The reader of scripts: how it lies in memory, and a paragraph added. -/
namespace Go.Proofs.YtlfnmmnbfoimeaaGreatDoor
set_option linter.unusedVariables false
open Go.RowKit Go.Sort

end Go.Proofs.YtlfnmmnbfoimeaaGreatDoor

