/- Texts packed: CloneW, RdA, PtE, PtF, PtG. -/
import Derived.Test.YtihkkaeoijheoaaGreatDoorTt23
import Derived.Test.YtihkkaeoijheoaaGreatDoorTt03
import Derived.Lib.SliceRun
import Derived.Lib.Walk
import Derived.Test.YtihkkaeoijheoaaGreatDoorTt18
import Derived.Test.YtihkkaeoijheoaaGreatDoorTt02
import Derived.Test.YtihkkaeoijheoaaGreatDoorTt19
import Derived.Deep.QuietTactic
import Derived.BigQuiet
import Derived.Deep.DeepCutAuto
import Derived.RegionTactic
import Derived.Test.YtihkkaeoijheoaaGreatDoorTt14
import Derived.Test.YtihkkaeoijheoaaGreatDoorTt10
import Derived.BigRegion
import Derived.Deep.RegionLaw
import Derived.Test.YtihkkaeoijheoaaGreatDoorTt01
/- slices.Clone at the elements of scripts and takes. -/
namespace Go.Proofs.YtihkkaeoijheoaaGreatDoor
set_option linter.unusedVariables false
open Go.RowKit

theorem Lay.oneM {α : Type} {R : Rep α} {w : World} {F : Nat → Prop} {l : List α} {cs : List Value} (h : Lay R w F l cs) (h1 : ∀ x ∈ l, ∀ a, R.rel w F x a → ∀ u ∈ a, u.oneCell' = true) : ∀ u ∈ cs, u.oneCell' = true := by
  intro u hu
  obtain ⟨j, hj, rfl⟩ := List.mem_iff_getElem.1 hu
  by_cases hn : R.n = 0
  · rw [h.1, hn] at hj; omega
  · have hq : j / R.n < l.length := (Nat.div_lt_iff_lt_mul (by omega)).2 (by rw [← h.1]; exact hj)
    refine h1 _ (List.getElem_mem hq) _ (h.2 _ _ (List.getElem?_eq_getElem hq)) _ ?_
    rw [List.mem_iff_getElem?]
    refine ⟨j % R.n, ?_⟩
    rw [List.getElem?_take, List.getElem?_drop, if_pos (Nat.mod_lt _ (by omega)), Nat.mul_comm, Nat.div_add_mod]
    exact List.getElem?_eq_getElem hj

set_option maxHeartbeats 2000000 in
set_option maxRecDepth 100000 in
theorem cloneScene_c {F : Nat → Prop} (l : List (Scene × Value)) (v : Value) (w : World) (h : Sli svR w F l v) (hl : l.length ≤ 1000000) (ho : ∀ x ∈ l, ∃ A n c, x.2 = .slice A n c) :
    Calls Tryz.prog 78 #[v] w (fun e w' => ∃ v', e = .returned v' ∧ Own svR w' w.heap.size w.heap.size 29 l v' ∧ Below w.heap.size w w') := by
  obtain ⟨A, c, rfl, hc1, hc2, h3⟩ := h
  obtain ⟨i0, hi0, hz0, hz1, hz2⟩ := info_parts (show (Tryz.prog.info? 29).map (fun i => (i.zero, i.size, i.bytes)) = some (some (.agg #[.string ⟨#[]⟩, .int .i64 0, .string ⟨#[]⟩, .int .i64 0, .slice none 0 0]), 5, 72) by kernel_rfl)
  have q22 : ∀ (w : World) (a : Option Addr) (n c n' c' : Nat), (binOp .eql 38 (.slice a n c) (.slice none n' c')).run Tryz.prog w = .ok (.bool a.isNone) w := fun w a n c n' c' => Lib.run_eql_slice_nil w _ _ a n c n' c' Tryz.underlying38
  cases A with
  | none =>
    have h0 : ¬ 0 < l.length := fun h0 => by obtain ⟨b, off, cs, e, _⟩ := h3 h0; cases e
    obtain rfl : l = [] := List.length_eq_zero_iff.1 (by omega)
    clear h3
    go_enter Tryz.func78, Tryz.ntmps78
    go_wp2
    go_ret
    exact ⟨_, rfl, Own.nil_, Below.refl _ _⟩
  | some ad =>
    obtain ⟨cs, hcs, hcell⟩ : ∃ cs, Lay svR w F l cs ∧ ∀ j u, cs[j]? = some u → w.cell? (ad.add j) = some u := by
      by_cases h0 : 0 < l.length
      · obtain ⟨b, off, cs, e, hb, hl, hc⟩ := h3 h0
        injection e with e
        subst e
        exact ⟨cs, hl, fun j u hj => by rw [Addr.add_lit]; exact hc j u hj⟩
      · obtain rfl : l = [] := List.length_eq_zero_iff.1 (by omega)
        exact ⟨[], Lay.nil_, fun j u hj => by simp at hj⟩
    clear h3
    have HC := Lib.hid hcell
    have HL := Lib.hid hcs
    clear hcell hcs
    go_enter Tryz.func78, Tryz.ntmps78
    go_wp2_with (at_builtin; refine wpList_append_own _ rfl _ _ 38 rfl w.heap.size 29 i0 _ 5 72 Tryz.underlying38 hi0 hz0 hz1 hz2 rfl (by decide) _ _ _ rfl (World.ownsRow_made w #[] 0 (Nat.le_refl _) (Nat.zero_le _) (by simp)) ad l.length c cs rfl ?qc1 ?qc2 ?qc3 ?qc4 ?qc5 ?qc6 ?_)
    case qc1 => exact HL.out.1
    case qc2 => exact fun j u hj => Lib.cell?_alloc_some _ (HC.out j u hj)
    case qc3 => exact HL.out.oneM (fun x hm a hx => by have e : a = x.1.cells x.2 := hx; subst e; obtain ⟨A, n, c, e⟩ := ho x hm; rw [e]; exact oneC rfl)
    case qc4 => unfold maxLen; omega
    case qc5 => omega
    case qc6 => simp
    intro v' w1 hown hgrow hnil
    go_wp2
    go_ret
    have hown2 : w1.ownsRow w.heap.size 29 5 v' l.length cs := by simpa using hown
    refine ⟨v', rfl, ⟨_, hown2, ⟨HL.out.1, fun k x hx => HL.out.2 k x hx⟩⟩, ?_⟩
    exact ((Below.refl _ w).alloc (Nat.le_refl _) _).grown hgrow (by simp) (by intro k hk; simp [Value.ownBlock] at hk; omega)

set_option maxHeartbeats 2000000 in
set_option maxRecDepth 100000 in
theorem clonePara_c {F : Nat → Prop} (l : List (Para)) (v : Value) (w : World) (h : Sli paraR w F l v) (hl : l.length ≤ 1000000) :
    Calls Tryz.prog 81 #[v] w (fun e w' => ∃ v', e = .returned v' ∧ Own paraR w' w.heap.size w.heap.size 116 l v' ∧ Below w.heap.size w w') := by
  obtain ⟨A, c, rfl, hc1, hc2, h3⟩ := h
  obtain ⟨i0, hi0, hz0, hz1, hz2⟩ := info_parts (show (Tryz.prog.info? 116).map (fun i => (i.zero, i.size, i.bytes)) = some (some (.agg #[.int .i64 0, .string ⟨#[]⟩]), 2, 24) by kernel_rfl)
  have q22 : ∀ (w : World) (a : Option Addr) (n c n' c' : Nat), (binOp .eql 27 (.slice a n c) (.slice none n' c')).run Tryz.prog w = .ok (.bool a.isNone) w := fun w a n c n' c' => Lib.run_eql_slice_nil w _ _ a n c n' c' Tryz.underlying27
  cases A with
  | none =>
    have h0 : ¬ 0 < l.length := fun h0 => by obtain ⟨b, off, cs, e, _⟩ := h3 h0; cases e
    obtain rfl : l = [] := List.length_eq_zero_iff.1 (by omega)
    clear h3
    go_enter Tryz.func81, Tryz.ntmps81
    go_wp2
    go_ret
    exact ⟨_, rfl, Own.nil_, Below.refl _ _⟩
  | some ad =>
    obtain ⟨cs, hcs, hcell⟩ : ∃ cs, Lay paraR w F l cs ∧ ∀ j u, cs[j]? = some u → w.cell? (ad.add j) = some u := by
      by_cases h0 : 0 < l.length
      · obtain ⟨b, off, cs, e, hb, hl, hc⟩ := h3 h0
        injection e with e
        subst e
        exact ⟨cs, hl, fun j u hj => by rw [Addr.add_lit]; exact hc j u hj⟩
      · obtain rfl : l = [] := List.length_eq_zero_iff.1 (by omega)
        exact ⟨[], Lay.nil_, fun j u hj => by simp at hj⟩
    clear h3
    have HC := Lib.hid hcell
    have HL := Lib.hid hcs
    clear hcell hcs
    go_enter Tryz.func81, Tryz.ntmps81
    go_wp2_with (at_builtin; refine wpList_append_own _ rfl _ _ 27 rfl w.heap.size 116 i0 _ 2 24 Tryz.underlying27 hi0 hz0 hz1 hz2 rfl (by decide) _ _ _ rfl (World.ownsRow_made w #[] 0 (Nat.le_refl _) (Nat.zero_le _) (by simp)) ad l.length c cs rfl ?qc1 ?qc2 ?qc3 ?qc4 ?qc5 ?qc6 ?_)
    case qc1 => exact HL.out.1
    case qc2 => exact fun j u hj => Lib.cell?_alloc_some _ (HC.out j u hj)
    case qc3 => exact HL.out.oneM (fun x hm a hx => by have e : a = x.cells := hx; subst e; exact oneC rfl)
    case qc4 => unfold maxLen; omega
    case qc5 => omega
    case qc6 => simp
    intro v' w1 hown hgrow hnil
    go_wp2
    go_ret
    have hown2 : w1.ownsRow w.heap.size 116 2 v' l.length cs := by simpa using hown
    refine ⟨v', rfl, ⟨_, hown2, ⟨HL.out.1, fun k x hx => HL.out.2 k x hx⟩⟩, ?_⟩
    exact ((Below.refl _ w).alloc (Nat.le_refl _) _).grown hgrow (by simp) (by intro k hk; simp [Value.ownBlock] at hk; omega)

set_option maxHeartbeats 2000000 in
set_option maxRecDepth 100000 in
theorem cloneTake_c {F : Nat → Prop} (l : List (Tk × Value)) (v : Value) (w : World) (h : Sli tvR w F l v) (hl : l.length ≤ 1000000) (ho : ∀ x ∈ l, ∃ A n c, x.2 = .slice A n c) :
    Calls Tryz.prog 88 #[v] w (fun e w' => ∃ v', e = .returned v' ∧ Own tvR w' w.heap.size w.heap.size 125 l v' ∧ Below w.heap.size w w') := by
  obtain ⟨A, c, rfl, hc1, hc2, h3⟩ := h
  obtain ⟨i0, hi0, hz0, hz1, hz2⟩ := info_parts (show (Tryz.prog.info? 125).map (fun i => (i.zero, i.size, i.bytes)) = some (some (.agg #[.string ⟨#[]⟩, .string ⟨#[]⟩, .int .i64 0, .string ⟨#[]⟩, .string ⟨#[]⟩, .int .i64 0, .int .i64 0, .bool false, .slice none 0 0]), 9, 120) by kernel_rfl)
  have q22 : ∀ (w : World) (a : Option Addr) (n c n' c' : Nat), (binOp .eql 45 (.slice a n c) (.slice none n' c')).run Tryz.prog w = .ok (.bool a.isNone) w := fun w a n c n' c' => Lib.run_eql_slice_nil w _ _ a n c n' c' Tryz.underlying45
  cases A with
  | none =>
    have h0 : ¬ 0 < l.length := fun h0 => by obtain ⟨b, off, cs, e, _⟩ := h3 h0; cases e
    obtain rfl : l = [] := List.length_eq_zero_iff.1 (by omega)
    clear h3
    go_enter Tryz.func88, Tryz.ntmps88
    go_wp2
    go_ret
    exact ⟨_, rfl, Own.nil_, Below.refl _ _⟩
  | some ad =>
    obtain ⟨cs, hcs, hcell⟩ : ∃ cs, Lay tvR w F l cs ∧ ∀ j u, cs[j]? = some u → w.cell? (ad.add j) = some u := by
      by_cases h0 : 0 < l.length
      · obtain ⟨b, off, cs, e, hb, hl, hc⟩ := h3 h0
        injection e with e
        subst e
        exact ⟨cs, hl, fun j u hj => by rw [Addr.add_lit]; exact hc j u hj⟩
      · obtain rfl : l = [] := List.length_eq_zero_iff.1 (by omega)
        exact ⟨[], Lay.nil_, fun j u hj => by simp at hj⟩
    clear h3
    have HC := Lib.hid hcell
    have HL := Lib.hid hcs
    clear hcell hcs
    go_enter Tryz.func88, Tryz.ntmps88
    go_wp2_with (at_builtin; refine wpList_append_own _ rfl _ _ 45 rfl w.heap.size 125 i0 _ 9 120 Tryz.underlying45 hi0 hz0 hz1 hz2 rfl (by decide) _ _ _ rfl (World.ownsRow_made w #[] 0 (Nat.le_refl _) (Nat.zero_le _) (by simp)) ad l.length c cs rfl ?qc1 ?qc2 ?qc3 ?qc4 ?qc5 ?qc6 ?_)
    case qc1 => exact HL.out.1
    case qc2 => exact fun j u hj => Lib.cell?_alloc_some _ (HC.out j u hj)
    case qc3 => exact HL.out.oneM (fun x hm a hx => by have e : a = x.1.cells x.2 := hx; subst e; obtain ⟨A, n, c, e⟩ := ho x hm; rw [e]; exact oneC rfl)
    case qc4 => unfold maxLen; omega
    case qc5 => omega
    case qc6 => simp
    intro v' w1 hown hgrow hnil
    go_wp2
    go_ret
    have hown2 : w1.ownsRow w.heap.size 125 9 v' l.length cs := by simpa using hown
    refine ⟨v', rfl, ⟨_, hown2, ⟨HL.out.1, fun k x hx => HL.out.2 k x hx⟩⟩, ?_⟩
    exact ((Below.refl _ w).alloc (Nat.le_refl _) _).grown hgrow (by simp) (by intro k hk; simp [Value.ownBlock] at hk; omega)

set_option maxHeartbeats 2000000 in
set_option maxRecDepth 100000 in
theorem cloneCover_c {F : Nat → Prop} (l : List (Cov)) (v : Value) (w : World) (h : Sli covR w F l v) (hl : l.length ≤ 1000000) :
    Calls Tryz.prog 89 #[v] w (fun e w' => ∃ v', e = .returned v' ∧ Own covR w' w.heap.size w.heap.size 127 l v' ∧ Below w.heap.size w w') := by
  obtain ⟨A, c, rfl, hc1, hc2, h3⟩ := h
  obtain ⟨i0, hi0, hz0, hz1, hz2⟩ := info_parts (show (Tryz.prog.info? 127).map (fun i => (i.zero, i.size, i.bytes)) = some (some (.agg #[.int .i64 0, .int .i64 0, .int .i64 0, .bool false]), 4, 32) by kernel_rfl)
  have q22 : ∀ (w : World) (a : Option Addr) (n c n' c' : Nat), (binOp .eql 123 (.slice a n c) (.slice none n' c')).run Tryz.prog w = .ok (.bool a.isNone) w := fun w a n c n' c' => Lib.run_eql_slice_nil w _ _ a n c n' c' Tryz.underlying123
  cases A with
  | none =>
    have h0 : ¬ 0 < l.length := fun h0 => by obtain ⟨b, off, cs, e, _⟩ := h3 h0; cases e
    obtain rfl : l = [] := List.length_eq_zero_iff.1 (by omega)
    clear h3
    go_enter Tryz.func89, Tryz.ntmps89
    go_wp2
    go_ret
    exact ⟨_, rfl, Own.nil_, Below.refl _ _⟩
  | some ad =>
    obtain ⟨cs, hcs, hcell⟩ : ∃ cs, Lay covR w F l cs ∧ ∀ j u, cs[j]? = some u → w.cell? (ad.add j) = some u := by
      by_cases h0 : 0 < l.length
      · obtain ⟨b, off, cs, e, hb, hl, hc⟩ := h3 h0
        injection e with e
        subst e
        exact ⟨cs, hl, fun j u hj => by rw [Addr.add_lit]; exact hc j u hj⟩
      · obtain rfl : l = [] := List.length_eq_zero_iff.1 (by omega)
        exact ⟨[], Lay.nil_, fun j u hj => by simp at hj⟩
    clear h3
    have HC := Lib.hid hcell
    have HL := Lib.hid hcs
    clear hcell hcs
    go_enter Tryz.func89, Tryz.ntmps89
    go_wp2_with (at_builtin; refine wpList_append_own _ rfl _ _ 123 rfl w.heap.size 127 i0 _ 4 32 Tryz.underlying123 hi0 hz0 hz1 hz2 rfl (by decide) _ _ _ rfl (World.ownsRow_made w #[] 0 (Nat.le_refl _) (Nat.zero_le _) (by simp)) ad l.length c cs rfl ?qc1 ?qc2 ?qc3 ?qc4 ?qc5 ?qc6 ?_)
    case qc1 => exact HL.out.1
    case qc2 => exact fun j u hj => Lib.cell?_alloc_some _ (HC.out j u hj)
    case qc3 => exact HL.out.oneM (fun x hm a hx => by have e : a = x.cells := hx; subst e; exact oneC rfl)
    case qc4 => unfold maxLen; omega
    case qc5 => omega
    case qc6 => simp
    intro v' w1 hown hgrow hnil
    go_wp2
    go_ret
    have hown2 : w1.ownsRow w.heap.size 127 4 v' l.length cs := by simpa using hown
    refine ⟨v', rfl, ⟨_, hown2, ⟨HL.out.1, fun k x hx => HL.out.2 k x hx⟩⟩, ?_⟩
    exact ((Below.refl _ w).alloc (Nat.le_refl _) _).grown hgrow (by simp) (by intro k hk; simp [Value.ownBlock] at hk; omega)
end Go.Proofs.YtihkkaeoijheoaaGreatDoor

/- The reader of scripts: how it lies in memory, and a paragraph added. -/
namespace Go.Proofs.YtihkkaeoijheoaaGreatDoor
set_option linter.unusedVariables false
open Go.RowKit Go.Sort

abbrev ScN (w : World) (l : List (Scene × Value)) (v : Value) (P : List (Nat × Array Value × TypeId)) (wx : World) : Prop := NF 5 2 (fun x : Scene × Value => x.1.cells x.2) (fun _ => rfl) Para.cells (fun _ => rfl) (fun x : Scene × Value => x.1.paras) (fun x => x.2) 29 116 w l v P wx
def rdCs (t : ByteArray) (v : Value) (wh : Int) : Array Value := #[.string t, v, .int .i64 wh]
/-- The reader lies in block R0; since w it has made the scenes l. -/
abbrev RdG (w : World) (R0 : Nat) (t : ByteArray) (l : List (Scene × Value)) (v : Value) (wh : Int) (wx : World) : Prop := ScN w l v [(R0, rdCs t v wh, 188)] wx
def addL (l : List (Scene × Value)) (p : Para) (u : Value) : List (Scene × Value) := l.modify (l.length - 1) fun x => (addPara p x.1, u)
theorem addL_fst (l : List (Scene × Value)) (p : Para) (u : Value) : (addL l p u).map (·.1) = addTo (l.map (·.1)) p := by
  unfold addL addTo
  rw [List.length_map]
  generalize l.length - 1 = k
  apply List.ext_getElem?
  intro i
  simp only [List.getElem?_map, List.getElem?_modify]
  cases l[i]? with
  | none => rfl
  | some x =>
    by_cases e : k = i
    · subst e; simp
    · simp [e]
theorem addL_len (l : List (Scene × Value)) (p : Para) (u : Value) : (addL l p u).length = l.length := List.length_modify _ _ _
/-- How much has been read so far at the most. -/
def RdB (m : Nat) (l : List (Scene × Value)) : Prop := l.length ≤ m ∧ ∀ x ∈ l, x.1.paras.length ≤ m
def AddP (w : World) (R0 : Nat) (t : ByteArray) (l : List (Scene × Value)) (v : Value) (p : Para) (e : Ending) (w' : World) : Prop := e = .returned (.tuple #[]) ∧ ∃ u, RdG w R0 t (addL l p u) v (whOf p.kind) w'
theorem AddP.mk {w w' : World} {R0 : Nat} {t : ByteArray} {l : List (Scene × Value)} {v : Value} {p : Para} {u : Value} {q : Int} (h : whOf p.kind = q) (hg : RdG w R0 t (addL l p u) v q w') : AddP w R0 t l v p (.returned (.tuple #[])) w' := ⟨rfl, u, by rw [h]; exact hg⟩

set_option maxRecDepth 100000 in
set_option maxHeartbeats 4000000 in
theorem add_c (w wx : World) (R0 : Nat) (t : ByteArray) (l : List (Scene × Value)) (v : Value) (wh kind : Int) (text : ByteArray) (h : RdG w R0 t l v wh wx) (h0 : 0 < l.length) (hb : RdB 1000000 l) :
    Calls Tryz.prog 252 #[.pointer (some ⟨R0, 0, none⟩), .int .i64 kind, .string text] wx (AddP w R0 t l v ⟨kind, text⟩) := by
  obtain ⟨i0, hi0, hz0, hz1, hz2⟩ := info_parts (show (Tryz.prog.info? 116).map (fun i => (i.zero, i.size, i.bytes)) = some (some (.agg #[.int .i64 0, .string ⟨#[]⟩]), 2, 24) by kernel_rfl)
  obtain ⟨K, hK⟩ : ∃ K, l.length = K + 1 := ⟨l.length - 1, by omega⟩
  obtain ⟨g0, cap, rfl, hg01, hg02⟩ := Own.some_ h.bo.own h0
  have hkl : K < l.length := by omega
  have hrow := h.row K l[K] (List.getElem?_eq_getElem hkl)
  obtain ⟨AI, cI, hvI, hcI1, hcI2⟩ := (hrow.1.sliF (F := fun _ => True) (fun _ _ => trivial)).form
  have hli : (l[K]).1.paras.length ≤ 1000000 := hb.2 _ (List.getElem_mem hkl)
  have HPL := Lib.hid hli
  obtain ⟨pl, hpl⟩ : ∃ pl, (l[K]).1.paras.length = pl := ⟨_, rfl⟩
  rw [hpl] at hvI hli
  clear hpl
  have hl1 : K ≤ 1000000 := by have := hb.1; omega
  have c1 : wx.cell? ⟨R0, 1, none⟩ = some (.slice (some ⟨g0, 0, none⟩) l.length cap) := (h.cell (p := (R0, rdCs t (.slice (some ⟨g0, 0, none⟩) l.length cap) wh, 188)) (by simp)).1 1
  have c4 : wx.cell? ⟨g0, K * 5 + 4, none⟩ = some l[K].2 := (Own.cellAt h.bo.own K hkl 4 (by decide)).1
  have hR0 := h.bo.plt (p := (R0, rdCs t (.slice (some ⟨g0, 0, none⟩) l.length cap) wh, 188)) (by simp)
  have hRg : R0 ≠ g0 := fun e => (h.bo.prv (R0, rdCs t (.slice (some ⟨g0, 0, none⟩) l.length cap) wh, 188) (by simp)).2.2 (by dsimp only; rw [e]; rfl)
  have HN := Lib.hid h
  have HB := Lib.hid hrow
  rw [hvI] at c4
  rw [hK] at c1
  have q1 : (0 : Int) ≤ K := by omega
  have q2 : IntKind.i64.wrap ((K : Int) + 1 - 1) = K := by rw [show (K : Int) + 1 - 1 = K by omega]; exact IntWalk.i64_in _ (by omega)
  have q3 : (K : Int) < K + 1 := by omega
  dsimp only at hR0
  have HQ := Lib.hid hvI
  have HKL := Lib.hid hK
  clear h hb hrow hvI hcI1 hcI2 hK
  go_enter Tryz.func252, Tryz.ntmps252
  go_wp2_with fail
  go_quiet (fail)
  clear q1 q2 q3
  have hN2 := HN.out.below (Below.drew (Below.refl wx.heap.size wx))
  have hdn := fun (n : Nat) => HN.out.below (below_drewN (Below.refl wx.heap.size wx) n)
  have HN2 := Lib.hid (hdn nq)
  clear hN2 hdn
  have f4 : (wx.drewN nq).frozen? ⟨g0, K * 5 + 4, none⟩ = false := (Own.cellAt HN2.out.bo.own K hkl 4 (by decide)).2
  have c4' : (wx.drewN nq).cell? ⟨g0, K * 5 + 4, none⟩ = some (.slice AI pl cI) := c4
  have hsz : (wx.drewN nq).heap.size = wx.heap.size := rfl
  have f0 : (wx.drewN nq).frozen? ⟨R0, 2, none⟩ = false := (HN2.out.cell (p := (R0, rdCs t (.slice (some ⟨g0, 0, none⟩) l.length cap) wh, 188)) (by simp)).2 2
  have hRg1 : R0 < (wx.drewN nq).heap.size := hR0
  have hg03 : g0 < (wx.drewN nq).heap.size := hg02
  clear c1 c4 hR0 hg02 hsz HN
  generalize wx.drewN nq = wy at *
  have hrw := HN2.out.row K l[K] (List.getElem?_eq_getElem hkl)
  rw [HQ.out] at hrw
  have HNE := Lib.hid (show (Value.slice AI pl cI).ownBlock ≠ some g0 ∧ (Value.slice AI pl cI).ownBlock ≠ some R0 from ⟨fun e => (hrw.2 g0 e).1 rfl, fun e => (hrw.2 R0 e).2 (R0, rdCs t (.slice (some ⟨g0, 0, none⟩) l.length cap) wh, 188) (by simp) rfl⟩)
  have HNa := Lib.hid (HN2.out.alloc (.cells #[.int .i64 kind, .string text] 116))
  have HOI := Lib.hid (hrw.1.alloc (.cells #[.int .i64 kind, .string text] 116))
  clear hrw HN2
  go_upto_region 3 with (at_builtin; (refine wpList_pushB (R := paraR) rfl _ _ _ rfl w.heap.size w.heap.size 116 i0 _ 24 Tryz.underlying27 hi0 hz0 hz1 hz2 rfl (by decide) _ (.slice AI pl cI) (l[K]).1.paras rfl HOI.out (⟨kind, text⟩ : Para) _ rfl (oneC rfl) wy.heap.size _ _ (heap_alloc_new wy _) rfl (by have := HPL.out; unfold maxLen; omega) (by have := HPL.out; omega) (by simp; omega) ?_); intro g cap2 w8 hown8 hg8 hat8 hlt8; have hz8 := hg8.size; have f8 : w8.frozen? ⟨g0, K * 5 + 4, none⟩ = false := (World.frozen?_of_block (hg8.block g0 (by simp; omega) HNE.out.1.symm)).trans (Own.cellAt HNa.out.bo.own K hkl 4 (by decide)).2; have f9 : w8.frozen? ⟨R0, 2, none⟩ = false := (World.frozen?_of_block (hg8.block R0 (by simp; omega) HNE.out.2.symm)).trans ((HNa.out.cell (p := (R0, rdCs t (.slice (some ⟨g0, 0, none⟩) l.length cap) wh, 188)) (by simp)).2 2); have c9 : w8.cell? ⟨R0, 2, none⟩ = some (.int .i64 wh) := (World.cell?_of_block (hg8.block R0 (by simp; omega) HNE.out.2.symm)).trans ((HNa.out.cell (p := (R0, rdCs t (.slice (some ⟨g0, 0, none⟩) l.length cap) wh, 188)) (by simp)).1 2); obtain ⟨u8, c8⟩ : ∃ u, w8.cell? ⟨g0, K * 5 + 4, none⟩ = some u := ⟨_, (World.cell?_of_block (hg8.block g0 (by simp; omega) HNE.out.1.symm)).trans (Own.cellAt HNa.out.bo.own K hkl 4 (by decide)).1⟩)
  have hG9 := NS.inner (k := K) (j := 4) HNa.out hkl hown8 (by rw [HQ.out]; exact hg8) rfl (by rw [HQ.out]; exact hat8.imp id fun h => Nat.le_of_eq h.symm) (fun x => (addPara ⟨kind, text⟩ x.1, .slice (some ⟨g, 0, none⟩) ((l[K]).1.paras.length + 1) cap2)) (fun x => rfl) (by decide) rfl rfl
  have G9 := Lib.hid (show RdG w R0 t (addL l ⟨kind, text⟩ (.slice (some ⟨g, 0, none⟩) ((l[K]).1.paras.length + 1) cap2)) (.slice (some ⟨g0, 0, none⟩) l.length cap) 3 _ from (by
    have h := NS.set (i := 2) hG9 (.int .i64 3) (fun p hp => by cases hp)
    have e : addL l ⟨kind, text⟩ (.slice (some ⟨g, 0, none⟩) ((l[K]).1.paras.length + 1) cap2) = l.modify K fun x => (addPara ⟨kind, text⟩ x.1, .slice (some ⟨g, 0, none⟩) ((l[K]).1.paras.length + 1) cap2) := by unfold addL; rw [HKL.out]; rfl
    rw [e]
    exact h))
  clear hG9 HNa HOI hown8 hg8 hat8
  have G10 := Lib.hid (NS.set (i := 2) G9.out (.int .i64 4) (fun p hp => by cases hp))
  rcases eqF kind 2 with ⟨q, qa, qb⟩ | ⟨q, qa, qb⟩
  · have HR := Lib.hid (show whOf kind = 4 from if_pos (.inl q))
    clear q
    go_wp2
    go_end0
    exact AddP.mk HR.out G10.out
  rcases eqF kind 3 with ⟨r, ra, rb⟩ | ⟨r, ra, rb⟩
  · have HR := Lib.hid (show whOf kind = 4 from if_pos (.inr (.inl r)))
    clear q r
    go_wp2
    go_end0
    exact AddP.mk HR.out G10.out
  rcases eqF kind 4 with ⟨s, sa, sb⟩ | ⟨s, sa, sb⟩
  · have HR := Lib.hid (show whOf kind = 4 from if_pos (.inr (.inr s)))
    clear q r s
    go_wp2
    go_end0
    exact AddP.mk HR.out G10.out
  · have HR := Lib.hid (show whOf kind = 3 from if_neg (by rintro (h | h | h); exact q h; exact r h; exact s h))
    clear q r s
    go_wp2
    go_end0
    exact AddP.mk HR.out G9.out
end Go.Proofs.YtihkkaeoijheoaaGreatDoor

/- Takes read from a text: what is held while it is read. -/
namespace Go.Proofs.YtihkkaeoijheoaaGreatDoor
set_option linter.unusedVariables false
open Go.RowKit Go.Sort

abbrev TkN (w : World) (l : List (Tk × Value)) (v : Value) (P : List (Nat × Array Value × TypeId)) (wx : World) : Prop := NF 9 4 (fun x : Tk × Value => x.1.cells x.2) (fun _ => rfl) Cov.cells (fun _ => rfl) (fun x : Tk × Value => x.1.covers) (fun x => x.2) 125 127 w l v P wx
def tkAdd (c : Cov) (t : Tk) : Tk := { t with covers := t.covers ++ [c] }
def addC (l : List (Tk × Value)) (c : Cov) (u : Value) : List (Tk × Value) := l.modify (l.length - 1) fun x => (tkAdd c x.1, u)
theorem addC_fst (l : List (Tk × Value)) (c : Cov) (u : Value) : (addC l c u).map (·.1) = addCov c (l.map (·.1)) := by
  unfold addC addCov
  rw [List.length_map]
  generalize l.length - 1 = k
  apply List.ext_getElem?
  intro i
  simp only [List.getElem?_map, List.getElem?_modify]
  cases l[i]? with
  | none => rfl
  | some x =>
    by_cases e : k = i
    · subst e; simp [tkAdd]
    · simp [e]
/-- What takes that are read stay within. -/
def PtBd (m : Nat) (l : List (Tk × Value)) : Prop := l.length ≤ m ∧ ∀ x ∈ l, (x.1.scene.size ≤ 1000000 ∧ x.1.setup.size ≤ 1000000 ∧ x.1.roll.size ≤ 1000000 ∧ x.1.sound.size ≤ 1000000) ∧ x.1.covers.length ≤ m
theorem PtBd.add {m : Nat} {l : List (Tk × Value)} (h : PtBd m l) (c : Cov) (u : Value) : PtBd (m + 1) (addC l c u) := by
  refine ⟨by unfold addC; rw [List.length_modify]; have := h.1; omega, fun x hx => ?_⟩
  obtain ⟨i, hi⟩ := List.mem_iff_getElem?.1 hx
  unfold addC at hi
  rw [List.getElem?_modify] at hi
  cases hli : l[i]? with
  | none => rw [hli] at hi; simp at hi
  | some y =>
    rw [hli] at hi
    have hm := h.2 y (List.mem_iff_getElem?.2 ⟨i, hli⟩)
    simp at hi
    by_cases e : l.length - 1 = i
    · rw [if_pos e] at hi; subst hi
      refine ⟨hm.1, ?_⟩
      show (y.1.covers ++ [c]).length ≤ m + 1
      rw [List.length_append]; simp; omega
    · rw [if_neg e] at hi; subst hi; exact ⟨hm.1, by omega⟩
theorem PtBd.push {m : Nat} {l : List (Tk × Value)} (h : PtBd m l) {t : Tk} (ht : t.scene.size ≤ 1000000 ∧ t.setup.size ≤ 1000000 ∧ t.roll.size ≤ 1000000 ∧ t.sound.size ≤ 1000000) (hc : t.covers = []) (u : Value) : PtBd (m + 1) (l ++ [(t, u)]) := by
  refine ⟨by rw [List.length_append]; have := h.1; simp; omega, fun x hx => ?_⟩
  rcases List.mem_append.1 hx with hx | hx
  · have := h.2 x hx; exact ⟨this.1, by omega⟩
  · rw [List.mem_singleton.1 hx]; exact ⟨ht, by show t.covers.length ≤ _; rw [hc]; simp⟩
theorem slRd_sz {b : ByteArray} {p : ByteArray × ByteArray × Int} (h : slRd b = some p) : p.1.size ≤ 1000000 ∧ p.2.1.size ≤ 1000000 := by
  unfold slRd at h
  split at h
  · rename_i hex
    injection h with h
    subst h
    obtain ⟨h1, h2, _⟩ := slateE_bd hex.choose_spec.1
    have z1 := numB_size h1
    have z2 := setupB_size h2
    exact ⟨by omega, by omega⟩
  · cases h
theorem dashS_sz (s : ByteArray) : (dashS s).size ≤ s.size := by
  unfold dashS
  split
  · exact Nat.zero_le _
  · exact Nat.le_refl _
theorem takeRd_sz {s : ByteArray} {t : Tk} (h : takeRd (words s 32) = some t) (hs : s.size ≤ 1000000) : (t.scene.size ≤ 1000000 ∧ t.setup.size ≤ 1000000 ∧ t.roll.size ≤ 1000000 ∧ t.sound.size ≤ 1000000) ∧ t.covers = [] := by
  have h7 : (words s 32).length = 7 := Classical.byContradiction fun hn => by rw [takeRd_len hn] at h; cases h
  obtain ⟨a, b, c, d, e, f, g, hw⟩ := seven_eq h7
  rw [hw, takeRd_seven] at h
  have hc : c.size ≤ s.size := words_size (s := s) (c := 32) (by rw [hw]; simp)
  have hf : f.size ≤ s.size := words_size (s := s) (c := 32) (by rw [hw]; simp)
  have hd := dashS_sz f
  split at h
  · unfold tkMk at h
    cases hp : slRd b with
    | none => rw [hp] at h; cases h
    | some p =>
      cases hq : nmRd d with
      | none => rw [hp, hq] at h; cases h
      | some q =>
        cases hr : nmRd e with
        | none => rw [hp, hq, hr] at h; cases h
        | some r =>
          rw [hp, hq, hr] at h
          simp only [Option.bind_some] at h
          injection h with h
          subst h
          obtain ⟨z1, z2⟩ := slRd_sz hp
          exact ⟨⟨z1, z2, by show c.size ≤ _; omega, by show (dashS f).size ≤ _; omega⟩, rfl⟩
  · cases h
/-- The takes under way as they are read at the end. -/
theorem TkN.tkw {w wx : World} {l : List (Tk × Value)} {v : Value} {P : List (Nat × Array Value × TypeId)} {m : Nat} (h : TkN w l v P wx) (hb : PtBd m l) (hm : m ≤ 300000) : TkW wx (fun q => w.heap.size ≤ q ∧ q < wx.heap.size) l v :=
  ⟨h.bo.own.sliF (fun g hg => h.bo.own.block g hg), fun y hy => by
    obtain ⟨i, hi⟩ := List.mem_iff_getElem?.1 hy
    have hr := (h.row i y hi).1
    exact hr.sliF (fun g hg => hr.block g hg), fun b hb => hb.2, by have := hb.1; omega, fun y hy => by
    obtain ⟨⟨h1, h2, h3, h4⟩, h5⟩ := hb.2 y hy
    exact ⟨h1, h2, h3, h4, by omega⟩⟩
end Go.Proofs.YtihkkaeoijheoaaGreatDoor

/- take.ParseTakes, walked. -/
namespace Go.Proofs.YtihkkaeoijheoaaGreatDoor
set_option linter.unusedVariables false
open Go.RowKit Go.Sort

/-- A text read: the takes, the number of a wrong line, the error. -/
def PrT (t : ByteArray) (w : World) (e : Ending) (w' : World) : Prop :=
  ∃ (v : Value) (tl : List (Tk × Value)), e = .returned (.tuple #[v, .int .i64 (tkParse t).line, .int .i64 (tkParse t).err]) ∧ tl.map (·.1) = (tkParse t).list ∧ TkW w' (fun b => w.heap.size ≤ b ∧ b < w'.heap.size) tl v ∧ Below w.heap.size w w'
theorem tkwNil {w : World} {F : Nat → Prop} (h : ∀ b, F b → b < w.heap.size) : TkW w F [] (.slice none 0 0) := ⟨Sli.nil_, fun y hy => (by cases hy), h, by simp, fun y hy => (by cases hy)⟩
theorem PrT.no {t : ByteArray} {w w' : World} {e : Ending} {a b : Int} (h : tkParse t = ⟨[], a, b⟩) (he : e = .returned (.tuple #[.slice none 0 0, .int .i64 a, .int .i64 b])) (hb : Below w.heap.size w w') : PrT t w e w' := by
  refine ⟨.slice none 0 0, [], ?_, ?_, tkwNil (fun b h => h.2), hb⟩
  · rw [h]; exact he
  · rw [h]; rfl
theorem PrT.yes {t : ByteArray} {w w' : World} {e : Ending} {tl : List (Tk × Value)} {v : Value} (h : tkParse t = ⟨tl.map (·.1), 0, 0⟩) (he : e = .returned (.tuple #[v, .int .i64 0, .int .i64 0])) (hs : TkW w' (fun b => w.heap.size ≤ b ∧ b < w'.heap.size) tl v) (hb : Below w.heap.size w w') : PrT t w e w' := by
  refine ⟨v, tl, ?_, ?_, hs, hb⟩
  · rw [h]; exact he
  · rw [h]
set_option maxRecDepth 100000 in
set_option maxHeartbeats 2000000 in
theorem ParseTakes_c (t : ByteArray) (w : World) (hs : t.size ≤ 4000000000) (hl : ErrsLaid w) (hm : MaxLaid w) :
    Calls Tryz.prog 27 #[.string t] w (PrT t w) := by
  have HE0 := Lib.hid hl
  have HM := Lib.hid hm
  clear hl hm
  by_cases h1 : 200000 < t.size
  · have HE := Lib.hid (tkParse_long h1)
    go_enter Tryz.func27, Tryz.ntmps27
    go_wp2
    go_ret3
    exact PrT.no HE.out rfl (Below.refl _ _)
  have HE := tkParse_mid h1
  obtain ⟨i0, hi0, hz0, hz1, hz2⟩ := info_parts (show (Tryz.prog.info? 125).map (fun i => (i.zero, i.size, i.bytes)) = some (some (.agg #[.string ⟨#[]⟩, .string ⟨#[]⟩, .int .i64 0, .string ⟨#[]⟩, .string ⟨#[]⟩, .int .i64 0, .int .i64 0, .bool false, .slice none 0 0]), 9, 120) by kernel_rfl)
  obtain ⟨i1, hi1, hy0, hy1, hy2⟩ := info_parts (show (Tryz.prog.info? 127).map (fun i => (i.zero, i.size, i.bytes)) = some (some (.agg #[.int .i64 0, .int .i64 0, .int .i64 0, .bool false]), 4, 32) by kernel_rfl)
  go_enter Tryz.func27, Tryz.ntmps27
  go_wp2_with fail
  refine (words_c t 10 _ (by omega) HM.out).mono ?_
  rintro e w2 ⟨rfl, hw2, hb2, hzz2⟩
  have hwl := words_le t 10
  have hws : ∀ x ∈ words t 10, x.size ≤ t.size := fun x hx => words_size hx
  obtain ⟨n, hn⟩ : ∃ n, (words t 10).length = n + 1 := ⟨_, words_len t 10⟩
  have HWS := Lib.hid hws
  have HW2 := Lib.hid hw2
  have HB2 := Lib.hid hb2
  have hzz1 : w.heap.size ≤ w2.heap.size := by omega
  generalize hWW : words t 10 = W at *
  obtain ⟨last, hlast⟩ : ∃ s, W[n]'(by omega) = s := ⟨_, rfl⟩
  rw [List.dropLast_eq_take, getLast_at _ n hn, hlast] at HE
  have HL := Lib.hid (show W[n]? = some last by rw [List.getElem?_eq_getElem (by omega), hlast])
  clear hlast
  have HE2 := Lib.hid (show tkParse t = match ptRead (W.take n) 0 [] with
    | .inr i => ⟨[], i, 9⟩
    | .inl a => if ¬ last = ⟨#[]⟩ then ⟨[], n, 9⟩ else if ¬ tksE a = 0 then ⟨[], 0, tksE a⟩ else ⟨a, 0, 0⟩ by
      have q1 : W.length - 1 = n := by omega
      have q2 : ((W.length : Int) - 1) = (n : Int) := by omega
      rw [HE, q1, q2]
      rfl)
  rw [hn] at hwl HW2 ⊢
  have HN := Lib.hid hn
  clear hws hw2 hb2 hn hWW HE
  have hn1 : (0 : Int) ≤ (n : Int) := by omega
  have hn2 : (n : Int) ≤ (n : Int) + 1 := by omega
  have hn200 : n ≤ 200000 := by omega
  have hts : t.size ≤ 200000 := by omega
  go_wp2
  go_loopw [5, 28] (fun v i wr => ∃ (k : Nat) (tl : List (Tk × Value)), k ≤ n ∧ i = .int .i64 k ∧ Hid (PtBd k tl) ∧ Hid (TkN w2 tl v [] wr) ∧ Hid (ptRead (W.take n) 0 [] = ptRead ((W.take n).drop k) k (tl.map (·.1)))) (fun _ i _ => n - (intOf i).toNat)
  case atStart => exact ⟨0, [], by omega, rfl, ⟨Nat.le_refl _, fun x hx => (by cases hx)⟩, NS.start w2, by rw [List.drop_zero]; exact Lib.hid rfl⟩
  case round =>
    obtain ⟨k, tl, hk, rfl, HPB, HG, HV⟩ := hrel
    have hz := HG.out.bo.size
    obtain ⟨Ao, co, hvo, _, _⟩ := (HG.out.bo.own.sliF (F := fun _ => True) (fun _ _ => trivial)).form
    subst hvo
    obtain ⟨M, hM⟩ : ∃ M, tl.length = M := ⟨_, rfl⟩
    have HMM := Lib.hid hM
    have hMk : M ≤ k := by rw [← hM]; exact HPB.out.1
    rw [hM] at HG ⊢
    clear hM
    have HBW := Lib.hid (HB2.out.trans (HG.out.bo.bel.mono hzz1))
    by_cases hlt : k < n
    · have hkW : k < W.length := by rw [HN.out]; omega
      have hkT : k < (W.take n).length := by rw [List.length_take]; omega
      have hc0 : wr.cell? ⟨w.heap.size, k, none⟩ = some (.string W[k]) := (HG.out.bo.bel.cell (p := ⟨w.heap.size, k, none⟩) (by show w.heap.size < _; omega)).trans (strAtB HW2.out k hkW)
      have hst := ptRead_step (W.take n) k (tl.map (·.1)) hkT
      rw [List.getElem_take] at hst
      have hws := HWS.out W[k] (List.getElem_mem hkW)
      have HST := Lib.hid (HV.out.trans hst)
      clear hst
      generalize W[k] = s at *
      clear hkT hkW
      go_wp2_with fail
      refine (words_c s 32 _ (by omega) (max_below HM.out HBW.out (Nat.le_refl _))).mono ?_
      rintro e w3 ⟨rfl, hw3, hb3, hz3⟩
      have hsz3 : ∀ x ∈ words s 32, x.size ≤ 1000000 := fun x hx => by have := words_size hx; omega
      have G3 := Lib.hid (HG.out.below hb3)
      have HB3 := Lib.hid (HBW.out.trans (hb3.mono HBW.out.size))
      have HSL3 := Lib.hid hw3
      have HSZ := Lib.hid hsz3
      have hlt3 : wr.heap.size < w3.heap.size := by omega
      have HCV := Lib.hid (coverLine_c wr.heap.size (words s 32).length (words s 32) w3 hw3 hlt3 hsz3 (HE0.out.below HB3.out (Nat.le_refl _)))
      have HSTP := Lib.hid (fun (c : Cov) (h : covRd (words s 32) = some c) => show (¬ (tl.map (·.1)).length = 0 → ptStep (tl.map (·.1)) s = some (addCov c (tl.map (·.1)))) ∧ ((tl.map (·.1)).length = 0 → takeRd (words s 32) = none) from ⟨fun h0 => ptStep_cov h h0, fun _ => cov_notake h⟩)
      have HSTQ := Lib.hid (fun (h : covRd (words s 32) = none) => ptStep_tk (acc := tl.map (·.1)) h)
      have HSC0 := Lib.hid (fun (c : Cov) (h : covRd (words s 32) = some c) (h0 : (tl.map (·.1)).length = 0) => ptStep_cov0 h h0)
      have HTSZ := Lib.hid (fun (t : Tk) (h : takeRd (words s 32) = some t) => takeRd_sz h (by omega))
      obtain ⟨WL, hWL⟩ : ∃ WL, words s 32 = WL := ⟨_, rfl⟩
      rw [hWL] at HSL3 HSZ HCV HSTP HSTQ HSC0 HTSZ ⊢
      have HWLE := Lib.hid hWL
      clear hb3 hw3 hsz3 hc0 HG hWL
      go_wp2_with fail
      refine HCV.out.mono ?_
      rintro e w4 ⟨x, ok, rfl, hcv, hb4⟩
      rw [show x.val = .agg #[.int .i64 x.para, .int .i64 x.tin, .int .i64 x.tout, .bool x.on] from rfl]
      have HCR := Lib.hid hcv
      have HB4 := Lib.hid (HB3.out.trans (hb4.mono HB3.out.size))
      have G5 := Lib.hid ((G3.out.below hb4).new #[.int .i64 x.para, .int .i64 x.tin, .int .i64 x.tout, .bool x.on] 127)
      have HB5 := Lib.hid (HB4.out.alloc HB4.out.size (.cells #[.int .i64 x.para, .int .i64 x.tin, .int .i64 x.tout, .bool x.on] 127))
      have HSL5 := Lib.hid ((HSL3.out.below hb4 (fun q hq => by rw [show q = _ from hq]; exact hlt3)).alloc (.cells #[.int .i64 x.para, .int .i64 x.tin, .int .i64 x.tout, .bool x.on] 127) (fun q hq => by rw [show q = _ from hq]; have := hb4.size; omega))
      have hlt5 : wr.heap.size < (w4.alloc (.cells #[.int .i64 x.para, .int .i64 x.tin, .int .i64 x.tout, .bool x.on] 127)).heap.size := by have := hb4.size; simp; omega
      clear hcv hb4 HCV HB4 G3 HSL3 HB3 hlt3
      go_upto_region 11 with (fail)
      generalize w4.alloc (.cells #[.int .i64 x.para, .int .i64 x.tin, .int .i64 x.tout, .bool x.on] 127) = w5 at *
      generalize w4.heap.size = X at *
      by_cases hyes : ok = true ∧ 0 < M
      · obtain ⟨rfl, hM0⟩ := hyes
        obtain ⟨K, rfl⟩ : ∃ K, M = K + 1 := ⟨M - 1, by omega⟩
        have hcv : covRd WL = some x := HCR.out
        have HPS := Lib.hid ((HSTP.out x hcv).1 (by rw [List.length_map, HMM.out]; omega))
        have hKl : K < tl.length := by rw [HMM.out]; omega
        obtain ⟨g0, cap0, hv0, hg01, hg02⟩ := Own.some_ G5.out.bo.own (by omega : 0 < tl.length)
        rw [HMM.out] at hv0
        injection hv0 with hA hn0 hc0
        subst hA; subst hc0
        have hrow := G5.out.row K tl[K] (List.getElem?_eq_getElem hKl)
        obtain ⟨AI, cI, hvI, hcI1, hcI2⟩ := (hrow.1.sliF (F := fun _ => True) (fun _ _ => trivial)).form
        have hli := (HPB.out.2 _ (List.getElem_mem hKl)).2
        obtain ⟨pl, hpl⟩ : ∃ pl, (tl[K]).1.covers.length = pl := ⟨_, rfl⟩
        have HPLL := Lib.hid hpl
        rw [hpl] at hvI hli
        have hcc := Own.cellAt G5.out.bo.own K hKl 8 (by decide)
        have c8 : w5.cell? ⟨g0, K * 9 + 8, none⟩ = some tl[K].2 := hcc.1
        have f8 : w5.frozen? ⟨g0, K * 9 + 8, none⟩ = false := hcc.2
        rw [hvI] at c8
        obtain ⟨gx, _⟩ := G5.out.cell (p := (X, #[.int .i64 x.para, .int .i64 x.tin, .int .i64 x.tout, .bool x.on], 127)) (by simp)
        have e0 : w5.cell? ⟨X, 0, none⟩ = some (.int .i64 x.para) := gx 0
        have e1 : w5.cell? ⟨X, 1, none⟩ = some (.int .i64 x.tin) := gx 1
        have e2 : w5.cell? ⟨X, 2, none⟩ = some (.int .i64 x.tout) := gx 2
        have e3 : w5.cell? ⟨X, 3, none⟩ = some (.bool x.on) := gx 3
        have q1 : (0 : Int) ≤ K := by omega
        have q2 : IntKind.i64.wrap (K : Int) = K := IntWalk.i64_in _ (by omega)
        have q3 : (K : Int) < K + 1 := by omega
        have q4 : (0 : Int) < (K : Int) + 1 := by omega
        have HQ := Lib.hid hvI
        have HRW := Lib.hid hrow
        have HOWI := Lib.hid (show Own covR w5 w2.heap.size w2.heap.size 127 (tl[K]).1.covers (.slice AI pl cI) by rw [← hvI]; exact hrow.1)
        have hpl2 : pl ≤ 300000 := by omega
        have hz5' : w2.heap.size ≤ w5.heap.size := G5.out.bo.size
        have HGR := Lib.hid (fun (W w7 : World) (hW : W.heap[g0]? = w5.heap[g0]?) (hlt : g0 < W.heap.size) (hg : W.grownBy w7 (Value.slice AI pl cI).ownBlock) => show w7.cell? ⟨g0, K * 9 + 8, none⟩ = some (.slice AI pl cI) ∧ w7.frozen? ⟨g0, K * 9 + 8, none⟩ = false from
          have e : w7.heap[g0]? = w5.heap[g0]? := (hg.block g0 hlt (fun e => (hrow.2 g0 (by rw [hvI]; exact e.symm)).1 rfl)).trans hW
          ⟨(World.cell?_of_block (a := ⟨g0, K * 9 + 8, none⟩) e).trans c8, by rw [← f8]; unfold World.frozen?; rw [e]⟩)
        clear hcv hpl hrow hcI1 hcI2 hcc gx hvI hn0
        go_wp2_with fail
        go_region_law (refine step_push (R := covR) rfl _ _ _ rfl w2.heap.size w2.heap.size 127 i1 _ 32 Tryz.underlying123 hi1 hy0 (by assumption) (by assumption) rfl (by decide) _ (.slice AI pl cI) _ rfl (by first | exact (HOWI.out.drew.alloc _) | exact (HOWI.out.alloc _).drew | exact HOWI.out.alloc _) x _ rfl (oneC rfl) w5.heap.size _ _ (by first | exact heap_alloc_new w5 _ | exact heap_alloc_new w5.drew _) rfl (by rw [HPLL.out]; simp [maxLen]; omega) (by rw [HPLL.out]; omega) (by simp; omega) ?_; intro g7 cap7 w7 hown7 hg7 hat7 hlt7; obtain ⟨c7, f7⟩ := HGR.out _ w7 (by first | exact Below.heap_alloc w5 _ g0 hg02 | exact Below.heap_alloc w5.drew _ g0 hg02) (by first | (simp; omega) | (show g0 < (w5.alloc _).heap.size; simp; omega)) hg7)
        all_goals
          have GI := NS.inner (G5.out.drew.alloc (.cells #[.int .i64 x.para, .int .i64 x.tin, .int .i64 x.tout, .bool x.on] 127)) hKl (g' := g7) (u := .slice (some ⟨g7, 0, none⟩) ((tl[K]).1.covers.length + 1) cap7) hown7 (by rw [HQ.out]; exact hg7) rfl (by rw [HQ.out]; rcases hat7 with h | h; exact .inl h; exact .inr (Nat.le_of_eq h.symm)) (j := 8) (fun y => (tkAdd x y.1, .slice (some ⟨g7, 0, none⟩) ((tl[K]).1.covers.length + 1) cap7)) (fun y => rfl) (by decide) rfl rfl
          have HGI := Lib.hid GI
          have HAE := Lib.hid (show tl.modify K (fun y => (tkAdd x y.1, Value.slice (some ⟨g7, 0, none⟩) ((tl[K]).1.covers.length + 1) cap7)) = addC tl x (.slice (some ⟨g7, 0, none⟩) ((tl[K]).1.covers.length + 1) cap7) by unfold addC; rw [HMM.out]; rfl)
          clear GI hown7 hg7 hat7
          rw [HAE.out] at HGI
          go_wp2
          go_roundw
          · exact ⟨k + 1, addC tl x _, by omega, intNum, HPB.out.add x _, HGI.out.less (by simp), by rw [addC_fst]; exact Lib.hid (HST.out.trans (by rw [HPS.out]))⟩
          · simp [intOf]; omega
      · have HSTM := Lib.hid (show ptStep (tl.map (·.1)) s = (takeRd WL).map fun t => tl.map (·.1) ++ [t] by
          cases ok with
          | false => exact HSTQ.out HCR.out
          | true =>
            have hM0 : (tl.map (·.1)).length = 0 := by rw [List.length_map, HMM.out]; exact Classical.byContradiction fun h => hyes ⟨rfl, by omega⟩
            rw [HSC0.out x HCR.out hM0, (HSTP.out x HCR.out).2 hM0]
            rfl)
        have HTL := Lib.hid (takeLine_c wr.heap.size WL.length WL w5 HSL5.out hlt5 HSZ.out (HE0.out.below HB5.out (Nat.le_refl _)))
        have HNY := Lib.hid hyes
        clear HSTP HSTQ HSC0 HCR hyes
        go_cut [45] (fun b wx => b = .bool false ∧ wx = w5)
        case first =>
          cases ok with
          | false =>
            go_wp2
            go_meet
            exact ⟨rfl, rfl⟩
          | true =>
            obtain rfl : M = 0 := Classical.byContradiction fun h => HNY.out ⟨rfl, by omega⟩
            go_wp2
            go_meet
            exact ⟨by first | rfl | simp, rfl⟩
        case rest =>
        obtain ⟨rfl, rfl⟩ := hcut
        go_wp2_with fail
        refine HTL.out.mono ?_
        rintro e w6 ⟨tk, ok2, hcov, rfl, htk, hb6⟩
        rw [show tkCs tk none 0 0 = #[.string tk.scene, .string tk.setup, .int .i64 tk.number, .string tk.roll, .string tk.sound, .int .i64 tk.tin, .int .i64 tk.tout, .bool tk.good, .slice none 0 0] from rfl]
        have G7 := Lib.hid (((G5.out.below hb6).less (Q := []) (by simp)).alloc (.cells #[.string tk.scene, .string tk.setup, .int .i64 tk.number, .string tk.roll, .string tk.sound, .int .i64 tk.tin, .int .i64 tk.tout, .bool tk.good, .slice none 0 0] 125))
        have HB6 := Lib.hid (HB5.out.trans (hb6.mono HB5.out.size))
        have HTK := Lib.hid htk
        have HCO := Lib.hid hcov
        have HTW := Lib.hid (heap_alloc_new w6 (.cells #[.string tk.scene, .string tk.setup, .int .i64 tk.number, .string tk.roll, .string tk.sound, .int .i64 tk.tin, .int .i64 tk.tout, .bool tk.good, .slice none 0 0] 125))
        clear htk hcov hb6 HTL G5 HB5 HSL5
        cases ok2 with
        | false =>
          have HEE := Lib.hid (show tkParse t = ⟨[], k, 9⟩ by rw [HE2.out, HST.out, HSTM.out, HTK.out]; rfl)
          go_wp2
          go_ret3
          exact PrT.no HEE.out rfl (HB6.out.alloc HB6.out.size _)
        | true =>
          have HPS := Lib.hid (show ptStep (tl.map (·.1)) s = some ((tl ++ [(tk, Value.slice none 0 0)]).map (·.1)) by rw [HSTM.out, HTK.out, List.map_append]; rfl)
          have HSZT := Lib.hid (HTSZ.out tk HTK.out).1
          go_upto_region 16 with (fail)
          generalize w6.alloc (.cells #[.string tk.scene, .string tk.setup, .int .i64 tk.number, .string tk.roll, .string tk.sound, .int .i64 tk.tin, .int .i64 tk.tout, .bool tk.good, .slice none 0 0] 125) = w7 at *
          generalize w6.heap.size = Y at *
          obtain ⟨z0, z1, z2, z3, z4, z5, z6, z7, z8⟩ := tk_cells (x := tk) (A := none) (n := 0) (c := 0) HTW.out
          have hz7 : w2.heap.size ≤ w7.heap.size := G7.out.bo.size
          have HML := Lib.hid (show tl.length ≤ 300000 by rw [HMM.out]; omega)
          clear HTW
          go_wp2_with (at_builtin; (refine wpList_pushB (R := tvR) rfl _ _ _ rfl w2.heap.size w2.heap.size 125 i0 _ 120 Tryz.underlying45 hi0 hz0 (by assumption) (by assumption) rfl (by decide) _ (.slice Ao M co) tl rfl (G7.out.bo.own.alloc _) (tk, .slice none 0 0) _ rfl (oneC rfl) w7.heap.size _ _ (heap_alloc_new w7 _) rfl (by have := HML.out; simp [maxLen]; omega) (by have := HML.out; omega) (by simp; omega) ?_); intro g8 cap8 w8 hown8 hg8 hat8 hlt8)
          have GP := Lib.hid (NS.push (G7.out.alloc (.cells #[.string tk.scene, .string tk.setup, .int .i64 tk.number, .string tk.roll, .string tk.sound, .int .i64 tk.tin, .int .i64 tk.tout, .bool tk.good, .slice none 0 0] 125)) hown8 hg8 rfl hat8 HCO.out rfl)
          clear hown8 hg8 hat8
          go_roundw
          case rel => exact ⟨k + 1, tl ++ [(tk, .slice none 0 0)], by omega, intNum, HPB.out.push HSZT.out HCO.out _, GP, Lib.hid (HST.out.trans (by rw [HPS.out]))⟩
          case measure => simp [intOf]; omega
    · have hkn : k = n := by omega
      have HEV := Lib.hid (show ptRead (W.take n) 0 [] = .inl (tl.map (·.1)) by rw [HV.out]; exact ptRead_end _ k _ (by rw [List.length_take]; omega))
      have hcl : wr.cell? ⟨w.heap.size, n, none⟩ = some (.string last) := by
        rw [HG.out.bo.bel.cell (p := ⟨w.heap.size, n, none⟩) (by show w.heap.size < _; omega), strAtB HW2.out n (by rw [HN.out]; omega)]
        have := HL.out
        rw [List.getElem?_eq_getElem (by rw [HN.out]; omega)] at this
        injection this with this
        rw [this]
      have hn3 : (n : Int) < (n : Int) + 1 := by omega
      have HBW2 := Lib.hid (show tkParse t = if ¬ last = ⟨#[]⟩ then ⟨[], n, 9⟩ else if ¬ tksE (tl.map (·.1)) = 0 then ⟨[], 0, tksE (tl.map (·.1))⟩ else ⟨tl.map (·.1), 0, 0⟩ by rw [HE2.out, HEV.out])
      clear hkn HV HEV
      by_cases hl0 : last = ⟨#[]⟩
      case neg =>
        have HEE := Lib.hid (HBW2.out.trans (if_pos hl0))
        have hle : last.toList.isEmpty = false := by
          cases hq : last.toList.isEmpty with
          | true => exact absurd ((empty_iff last).1 hq) hl0
          | false => rfl
        have hle2 : ¬ last.toList = [] := by intro h; rw [h] at hle; cases hle
        clear hl0
        go_wp2
        go_ret3
        exact PrT.no HEE.out rfl HBW.out
      subst hl0
      have HEE := Lib.hid (HBW2.out.trans (if_neg (by simp)))
      have HTW := Lib.hid (HG.out.tkw HPB.out (m := k) (show k ≤ 300000 by omega))
      have HTF := Lib.hid (takesFault_c tl (.slice Ao M co) wr HTW.out)
      clear HBW2
      go_wp2_with fail
      refine HTF.out.mono ?_
      rintro e w3 ⟨rfl, hb3⟩
      have HB3 := Lib.hid (HBW.out.trans (hb3.mono HBW.out.size))
      have HT3 := Lib.hid (TkW.below HTW.out hb3)
      have hz3 := hb3.size
      clear hb3 HTF HTW
      by_cases he0 : tksE (tl.map (·.1)) = 0
      · have HE5 := Lib.hid (HEE.out.trans (if_neg (by rw [he0]; simp)))
        rw [he0]
        clear he0
        go_wp2
        go_ret3
        exact PrT.yes HE5.out rfl ⟨HT3.out.sli.more fun q hq => ⟨by omega, by omega⟩, fun y hy => (HT3.out.cov y hy).more fun q hq => ⟨by omega, by omega⟩, fun q hq => hq.2, HT3.out.len, HT3.out.bd⟩ HB3.out
      · have HE5 := Lib.hid (HEE.out.trans (if_pos he0))
        have hne : (tksE (tl.map (·.1)) != 0) = true := bne_iff_ne.2 he0
        generalize tksE (tl.map (·.1)) = te at *
        clear he0
        go_wp2
        go_ret3
        exact PrT.no HE5.out rfl HB3.out
end Go.Proofs.YtihkkaeoijheoaaGreatDoor

/- R.TakesFrom, walked. -/
namespace Go.Proofs.YtihkkaeoijheoaaGreatDoor
set_option linter.unusedVariables false
open Go.RowKit Go.Sort

set_option maxRecDepth 100000 in
set_option maxHeartbeats 2000000 in
theorem TakesFrom_c (t : ByteArray) (w : World) (hs : t.size ≤ 4000000000) (hl : ErrsLaid w) (hp : PowLaid w) (hm : MaxLaid w) :
    Calls Tryz.prog 28 #[.string t] w (PrT t w) := by
  have HE0 := Lib.hid hl
  have HM := Lib.hid hm
  have HP := Lib.hid hp
  clear hl hm hp
  by_cases h1 : 200000 < t.size
  · have HE := Lib.hid (tkParse_long h1)
    go_enter Tryz.func28, Tryz.ntmps28
    go_wp2
    go_ret3
    exact PrT.no HE.out rfl (Below.refl _ _)
  have HE := tkParse_mid h1
  obtain ⟨i0, hi0, hz0, hz1, hz2⟩ := info_parts (show (Tryz.prog.info? 125).map (fun i => (i.zero, i.size, i.bytes)) = some (some (.agg #[.string ⟨#[]⟩, .string ⟨#[]⟩, .int .i64 0, .string ⟨#[]⟩, .string ⟨#[]⟩, .int .i64 0, .int .i64 0, .bool false, .slice none 0 0]), 9, 120) by kernel_rfl)
  obtain ⟨i1, hi1, hy0, hy1, hy2⟩ := info_parts (show (Tryz.prog.info? 127).map (fun i => (i.zero, i.size, i.bytes)) = some (some (.agg #[.int .i64 0, .int .i64 0, .int .i64 0, .bool false]), 4, 32) by kernel_rfl)
  go_enter Tryz.func28, Tryz.ntmps28
  go_wp2_with fail
  refine (words_c t 10 _ (by omega) HM.out).mono ?_
  rintro e w2 ⟨rfl, hw2, hb2, hzz2⟩
  have hwl := words_le t 10
  have hws : ∀ x ∈ words t 10, x.size ≤ t.size := fun x hx => words_size hx
  obtain ⟨n, hn⟩ : ∃ n, (words t 10).length = n + 1 := ⟨_, words_len t 10⟩
  have HWS := Lib.hid hws
  have HW2 := Lib.hid hw2
  have HB2 := Lib.hid hb2
  have hzz1 : w.heap.size ≤ w2.heap.size := by omega
  generalize hWW : words t 10 = W at *
  obtain ⟨last, hlast⟩ : ∃ s, W[n]'(by omega) = s := ⟨_, rfl⟩
  rw [List.dropLast_eq_take, getLast_at _ n hn, hlast] at HE
  have HL := Lib.hid (show W[n]? = some last by rw [List.getElem?_eq_getElem (by omega), hlast])
  clear hlast
  have HE2 := Lib.hid (show tkParse t = match ptRead (W.take n) 0 [] with
    | .inr i => ⟨[], i, 9⟩
    | .inl a => if ¬ last = ⟨#[]⟩ then ⟨[], n, 9⟩ else if ¬ tksE a = 0 then ⟨[], 0, tksE a⟩ else ⟨a, 0, 0⟩ by
      have q1 : W.length - 1 = n := by omega
      have q2 : ((W.length : Int) - 1) = (n : Int) := by omega
      rw [HE, q1, q2]
      rfl)
  rw [hn] at hwl HW2 ⊢
  have HN := Lib.hid hn
  clear hws hw2 hb2 hn hWW HE
  have hn1 : (0 : Int) ≤ (n : Int) := by omega
  have hn2 : (n : Int) ≤ (n : Int) + 1 := by omega
  have hn200 : n ≤ 200000 := by omega
  have hts : t.size ≤ 200000 := by omega
  go_wp2
  go_loopw [5, 27] (fun v i wr => ∃ (k : Nat) (tl : List (Tk × Value)), k ≤ n ∧ i = .int .i64 k ∧ Hid (PtBd k tl) ∧ Hid (TkN w2 tl v [] wr) ∧ Hid (ptRead (W.take n) 0 [] = ptRead ((W.take n).drop k) k (tl.map (·.1)))) (fun _ i _ => n - (intOf i).toNat)
  case atStart => exact ⟨0, [], by omega, rfl, ⟨Nat.le_refl _, fun x hx => (by cases hx)⟩, NS.start w2, by rw [List.drop_zero]; exact Lib.hid rfl⟩
  case round =>
    obtain ⟨k, tl, hk, rfl, HPB, HG, HV⟩ := hrel
    have hz := HG.out.bo.size
    obtain ⟨Ao, co, hvo, _, _⟩ := (HG.out.bo.own.sliF (F := fun _ => True) (fun _ _ => trivial)).form
    subst hvo
    obtain ⟨M, hM⟩ : ∃ M, tl.length = M := ⟨_, rfl⟩
    have HMM := Lib.hid hM
    have hMk : M ≤ k := by rw [← hM]; exact HPB.out.1
    rw [hM] at HG ⊢
    clear hM
    have HBW := Lib.hid (HB2.out.trans (HG.out.bo.bel.mono hzz1))
    by_cases hlt : k < n
    · have hkW : k < W.length := by rw [HN.out]; omega
      have hkT : k < (W.take n).length := by rw [List.length_take]; omega
      have hc0 : wr.cell? ⟨w.heap.size, k, none⟩ = some (.string W[k]) := (HG.out.bo.bel.cell (p := ⟨w.heap.size, k, none⟩) (by show w.heap.size < _; omega)).trans (strAtB HW2.out k hkW)
      have hst := ptRead_step (W.take n) k (tl.map (·.1)) hkT
      rw [List.getElem_take] at hst
      have hws := HWS.out W[k] (List.getElem_mem hkW)
      have HST := Lib.hid (HV.out.trans hst)
      clear hst
      generalize W[k] = s at *
      clear hkT hkW
      go_wp2_with fail
      refine (words_c s 32 _ (by omega) (max_below HM.out HBW.out (Nat.le_refl _))).mono ?_
      rintro e w3 ⟨rfl, hw3, hb3, hz3⟩
      have hsz3 : ∀ x ∈ words s 32, x.size ≤ 1000000 := fun x hx => by have := words_size hx; omega
      have G3 := Lib.hid (HG.out.below hb3)
      have HB3 := Lib.hid (HBW.out.trans (hb3.mono HBW.out.size))
      have HSL3 := Lib.hid hw3
      have HSZ := Lib.hid hsz3
      have hlt3 : wr.heap.size < w3.heap.size := by omega
      have HTL := Lib.hid (takeFrom_c wr.heap.size (words s 32).length (words s 32) w3 hw3 hlt3 hsz3 (HE0.out.below HB3.out (Nat.le_refl _)) (pow_below HP.out HB3.out (Nat.le_refl _)))
      have HSTC := Lib.hid (fun (t : Tk) (h : takeRd (words s 32) = some t) => show ptStep (tl.map (·.1)) s = some (tl.map (·.1) ++ [t]) by rw [ptStep_tk (tk_nocov h), h]; rfl)
      have HSTN := Lib.hid (fun (h : takeRd (words s 32) = none) (h2 : covRd (words s 32) = none) => show ptStep (tl.map (·.1)) s = none by rw [ptStep_tk h2, h]; rfl)
      have HSC0 := Lib.hid (fun (c : Cov) (h : covRd (words s 32) = some c) (h0 : (tl.map (·.1)).length = 0) => ptStep_cov0 h h0)
      have HSCY := Lib.hid (fun (c : Cov) (h : covRd (words s 32) = some c) (h0 : ¬ (tl.map (·.1)).length = 0) => ptStep_cov h h0)
      have HTSZ := Lib.hid (fun (t : Tk) (h : takeRd (words s 32) = some t) => takeRd_sz h (by omega))
      obtain ⟨WL, hWL⟩ : ∃ WL, words s 32 = WL := ⟨_, rfl⟩
      rw [hWL] at HSL3 HSZ HTL HSTC HSTN HSC0 HSCY HTSZ ⊢
      have HRB := Lib.hid (fun (i : Nat) (y : Tk × Value) (hy : tl[i]? = some y) (q : Nat) (hq : y.2.ownBlock = some q) => show q < wr.heap.size from ((HG.out.row i y hy).1.block q hq).2)
      clear hb3 hw3 hsz3 hc0 HG hWL
      go_wp2_with fail
      refine HTL.out.mono ?_
      rintro e w6 ⟨tk, ok2, hcov, rfl, htk, hb6⟩
      rw [show tkCs tk none 0 0 = #[.string tk.scene, .string tk.setup, .int .i64 tk.number, .string tk.roll, .string tk.sound, .int .i64 tk.tin, .int .i64 tk.tout, .bool tk.good, .slice none 0 0] from rfl]
      have G7 := Lib.hid ((G3.out.below hb6).alloc (.cells #[.string tk.scene, .string tk.setup, .int .i64 tk.number, .string tk.roll, .string tk.sound, .int .i64 tk.tin, .int .i64 tk.tout, .bool tk.good, .slice none 0 0] 125))
      have HB7 := Lib.hid ((HB3.out.trans (hb6.mono HB3.out.size)).alloc (by have := HB3.out.size; have := hb6.size; omega) (.cells #[.string tk.scene, .string tk.setup, .int .i64 tk.number, .string tk.roll, .string tk.sound, .int .i64 tk.tin, .int .i64 tk.tout, .bool tk.good, .slice none 0 0] 125))
      have HSL7 := Lib.hid ((HSL3.out.below hb6 (fun q hq => by rw [show q = _ from hq]; exact hlt3)).alloc (.cells #[.string tk.scene, .string tk.setup, .int .i64 tk.number, .string tk.roll, .string tk.sound, .int .i64 tk.tin, .int .i64 tk.tout, .bool tk.good, .slice none 0 0] 125) (fun q hq => by rw [show q = _ from hq]; have := hb6.size; omega))
      have hlt7 : wr.heap.size < (w6.alloc (.cells #[.string tk.scene, .string tk.setup, .int .i64 tk.number, .string tk.roll, .string tk.sound, .int .i64 tk.tin, .int .i64 tk.tout, .bool tk.good, .slice none 0 0] 125)).heap.size := by have := hb6.size; simp; omega
      have HTK := Lib.hid htk
      have HCO := Lib.hid hcov
      have HTW := Lib.hid (heap_alloc_new w6 (.cells #[.string tk.scene, .string tk.setup, .int .i64 tk.number, .string tk.roll, .string tk.sound, .int .i64 tk.tin, .int .i64 tk.tout, .bool tk.good, .slice none 0 0] 125))
      clear htk hcov hb6 HTL G3 HB3 HSL3 hlt3
      cases ok2 with
      | true =>
        have HPS := Lib.hid (show ptStep (tl.map (·.1)) s = some ((tl ++ [(tk, Value.slice none 0 0)]).map (·.1)) by rw [HSTC.out tk HTK.out, List.map_append]; rfl)
        have HSZT := Lib.hid (HTSZ.out tk HTK.out).1
        clear HSTC HSTN HSC0 HSCY HSL7
        go_upto_region 11 with (fail)
        generalize w6.alloc (.cells #[.string tk.scene, .string tk.setup, .int .i64 tk.number, .string tk.roll, .string tk.sound, .int .i64 tk.tin, .int .i64 tk.tout, .bool tk.good, .slice none 0 0] 125) = w7 at *
        generalize w6.heap.size = Y at *
        obtain ⟨z0, z1, z2, z3, z4, z5, z6, z7, z8⟩ := tk_cells (x := tk) (A := none) (n := 0) (c := 0) HTW.out
        have hz7 : w2.heap.size ≤ w7.heap.size := G7.out.bo.size
        have HML := Lib.hid (show tl.length ≤ 300000 by rw [HMM.out]; omega)
        clear HTW
        go_wp2_with (at_builtin; (refine wpList_pushB (R := tvR) rfl _ _ _ rfl w2.heap.size w2.heap.size 125 i0 _ 120 Tryz.underlying45 hi0 hz0 (by assumption) (by assumption) rfl (by decide) _ (.slice Ao M co) tl rfl (G7.out.bo.own.alloc _) (tk, .slice none 0 0) _ rfl (oneC rfl) w7.heap.size _ _ (heap_alloc_new w7 _) rfl (by have := HML.out; simp [maxLen]; omega) (by have := HML.out; omega) (by simp; omega) ?_); intro g8 cap8 w8 hown8 hg8 hat8 hlt8)
        have GP := Lib.hid (NS.push (G7.out.alloc (.cells #[.string tk.scene, .string tk.setup, .int .i64 tk.number, .string tk.roll, .string tk.sound, .int .i64 tk.tin, .int .i64 tk.tout, .bool tk.good, .slice none 0 0] 125)) hown8 hg8 rfl hat8 HCO.out rfl)
        clear hown8 hg8 hat8
        go_roundw
        case rel => exact ⟨k + 1, tl ++ [(tk, .slice none 0 0)], by omega, intNum, HPB.out.push HSZT.out HCO.out _, GP, Lib.hid (HST.out.trans (by rw [HPS.out]))⟩
        case measure => simp [intOf]; omega
      | false =>
      have HTN : Hid (takeRd WL = none) := HTK
      clear HSTC HTSZ HTW HCO HTK
      go_upto_region 12 with (fail)
      generalize w6.alloc (.cells #[.string tk.scene, .string tk.setup, .int .i64 tk.number, .string tk.roll, .string tk.sound, .int .i64 tk.tin, .int .i64 tk.tout, .bool tk.good, .slice none 0 0] 125) = w7 at *
      by_cases h5 : WL.length = 5
      case neg =>
        have HEE := Lib.hid (show tkParse t = ⟨[], k, 9⟩ by rw [HE2.out, HST.out, HSTN.out HTN.out (covRd_len h5)])
        have e5 : ((WL.length : Int) != 5) = true := by rw [bne_iff_ne]; omega
        generalize WL.length = wl at *
        clear h5 HSL7
        go_wp2
        go_ret3
        exact PrT.no HEE.out rfl HB7.out
      obtain ⟨a, b, cc, d, e, rfl⟩ := five_eq h5
      rw [show ([a, b, cc, d, e] : List ByteArray).length = 5 from rfl] at HSL7 ⊢
      have HRD := Lib.hid (@covRd_five a b cc d e)
      have hsl7 := HSL7.out
      have HQ7 := Lib.hid (show w7.cell? ⟨wr.heap.size, 0, none⟩ = some (.string a) ∧ w7.cell? ⟨wr.heap.size, 1, none⟩ = some (.string b) ∧ w7.cell? ⟨wr.heap.size, 2, none⟩ = some (.string cc) ∧ w7.cell? ⟨wr.heap.size, 3, none⟩ = some (.string d) ∧ w7.cell? ⟨wr.heap.size, 4, none⟩ = some (.string e) from
        ⟨strAtB hsl7 0 (by simp), strAtB hsl7 1 (by simp), strAtB hsl7 2 (by simp), strAtB hsl7 3 (by simp), strAtB hsl7 4 (by simp)⟩)
      obtain ⟨q0, q1, q2, q3, q4⟩ := HQ7.out
      clear h5 hsl7
      go_cut [69] (fun x wx => ∃ bb : Bool, x = .bool bb ∧ wx = w7 ∧ Hid (bb = false ↔ (cvHead a e ∧ 0 < M)))
      case first =>
        by_cases ha : a = coverWd
        case neg =>
          have hab : (a.toList == [99, 111, 118, 101, 114]) = false := (beqL a _).trans (decide_eq_false ha)
          have HI := Lib.hid (show ¬ (cvHead a e ∧ 0 < M) from fun h => absurd h.1.1 ha)
          clear ha
          go_wp2
          go_meet
          exact ⟨true, by first | rfl | simp, rfl, ⟨fun h => (by cases h), fun h => absurd h HI.out⟩⟩
        have hab : (a.toList == [99, 111, 118, 101, 114]) = true := (beqL a _).trans (decide_eq_true ha)
        by_cases hM0 : M = 0
        · have HI := Lib.hid (show ¬ (cvHead a e ∧ 0 < M) from fun h => by omega)
          have hMb : ((M : Int) == 0) = true := by rw [hM0]; rfl
          clear ha hM0
          go_wp2
          go_meet
          exact ⟨true, by first | rfl | simp, rfl, ⟨fun h => (by cases h), fun h => absurd h HI.out⟩⟩
        have hMb : ((M : Int) == 0) = false := beq_eq_false_iff_ne.2 (by omega)
        have hMp : 0 < M := by omega
        by_cases he : e = onT
        · have heb : (e.toList == [111, 110]) = true := (beqL e _).trans (decide_eq_true he)
          have HI := Lib.hid (show cvHead a e ∧ 0 < M from ⟨⟨ha, .inl he⟩, hMp⟩)
          clear ha he hM0
          go_wp2
          go_meet
          exact ⟨false, by first | rfl | simp, rfl, ⟨fun _ => HI.out, fun _ => rfl⟩⟩
        have heb : (e.toList == [111, 110]) = false := (beqL e _).trans (decide_eq_false he)
        by_cases hf : e = offT
        · have hfb : (e.toList == [111, 102, 102]) = true := (beqL e _).trans (decide_eq_true hf)
          have HI := Lib.hid (show cvHead a e ∧ 0 < M from ⟨⟨ha, .inr hf⟩, hMp⟩)
          clear ha he hf hM0
          go_wp2
          go_meet
          exact ⟨false, by first | rfl | simp, rfl, ⟨fun _ => HI.out, fun _ => rfl⟩⟩
        · have hfb : (e.toList == [111, 102, 102]) = false := (beqL e _).trans (decide_eq_false hf)
          have HI := Lib.hid (show ¬ (cvHead a e ∧ 0 < M) from fun h => absurd h.1.2 (fun h => h.elim he hf))
          clear ha he hf hM0
          go_wp2
          go_meet
          exact ⟨true, by first | rfl | simp, rfl, ⟨fun h => (by cases h), fun h => absurd h HI.out⟩⟩
      case rest =>
      obtain ⟨bb, rfl, rfl, HI⟩ := hcut
      cases bb with
      | true =>
        have HPN := Lib.hid (show ptStep (tl.map (·.1)) s = none by
          have hno : ¬ (cvHead a e ∧ 0 < M) := fun h => by have := HI.out.2 h; cases this
          cases hcr : covRd [a, b, cc, d, e] with
          | none => exact HSTN.out HTN.out hcr
          | some c =>
            refine HSC0.out c hcr ?_
            rw [List.length_map, HMM.out]
            apply Classical.byContradiction
            intro hM
            refine hno ⟨?_, by omega⟩
            apply Classical.byContradiction
            intro hh
            rw [HRD.out, if_neg hh] at hcr
            cases hcr)
        have HEE := Lib.hid (show tkParse t = ⟨[], k, 9⟩ by rw [HE2.out, HST.out, HPN.out])
        clear HSTN HSC0 HSCY HPN
        go_wp2
        go_ret3
        exact PrT.no HEE.out rfl HB7.out
      | false =>
      obtain ⟨hh, hM0⟩ := HI.out.1 rfl
      obtain ⟨on, hon⟩ : ∃ on : Bool, decide (e = onT) = on := ⟨_, rfl⟩
      have he1 : (e.toList == [111, 110]) = on := (beqL e _).trans hon
      have HRE := Lib.hid (show covRd [a, b, cc, d, e] = cvMk on (nmRd b) (nmRd cc) (nmRd d) by rw [HRD.out, if_pos hh, hon])
      clear hh hon HRD HI HSC0
      have hsub := (HSL7.out.drop_ 1 (by simp) 4 4 rfl rfl).take_ 3 (by simp)
      have HNS := Lib.hid (numbersOf_c [b, cc, d] _ wc hsub (fun q hq => by rw [show q = _ from hq]; exact hlt7) (show 3 ≤ 10 by omega) (fun x hx => HSZ.out x (by simp at hx; rcases hx with rfl | rfl | rfl <;> simp)) (HE0.out.below HB7.out (Nat.le_refl _)) (pow_below HP.out HB7.out (Nat.le_refl _)))
      clear hsub
      go_wp2_with fail
      refine HNS.out.mono ?_
      rintro e' w8 ⟨v9, ns, ok9, rfl, hb8, hown8, hns8⟩
      have G8 := Lib.hid (G7.out.below hb8)
      have HB8 := Lib.hid (HB7.out.trans (hb8.mono HB7.out.size))
      have q4' : w8.cell? ⟨wr.heap.size, 4, none⟩ = some (.string e) := (hb8.cell (p := ⟨wr.heap.size, 4, none⟩) hlt7).trans HQ7.out.2.2.2.2
      have hlt8 : wr.heap.size < w8.heap.size := Nat.lt_of_lt_of_le hlt7 hb8.size
      cases ok9 with
      | false =>
        have HCN := Lib.hid (show covRd [a, b, cc, d, e] = none by rw [HRE.out]; exact nms_three_none hns8)
        have HEE := Lib.hid (show tkParse t = ⟨[], k, 9⟩ by rw [HE2.out, HST.out, HSTN.out HTN.out HCN.out])
        clear hown8 hns8 hb8 HNS
        go_wp2
        go_ret3
        exact PrT.no HEE.out rfl HB8.out
      | true =>
      obtain ⟨n1, n2, n3, rfl, r1, r2, r3⟩ := nms_three hns8
      have HCR := Lib.hid (show covRd [a, b, cc, d, e] = some ⟨n1, n2, n3, on⟩ by rw [HRE.out, r1, r2, r3]; rfl)
      obtain ⟨g9, cap9, hv9, hg91, hg92⟩ := Own.some_ (enc := fun x : Int => [.int .i64 x]) (hn := fun _ => rfl) hown8 (show 0 < 3 by omega)
      subst hv9
      have j0 : w8.cell? ⟨g9, 0, none⟩ = some (.int .i64 n1) := (Own.cellAt (n := 1) (enc := fun x : Int => [.int .i64 x]) (hn := fun _ => rfl) hown8 0 (show 0 < 3 by omega) 0 (by decide)).1
      have j1 : w8.cell? ⟨g9, 1, none⟩ = some (.int .i64 n2) := (Own.cellAt (n := 1) (enc := fun x : Int => [.int .i64 x]) (hn := fun _ => rfl) hown8 1 (show 1 < 3 by omega) 0 (by decide)).1
      have j2 : w8.cell? ⟨g9, 2, none⟩ = some (.int .i64 n3) := (Own.cellAt (n := 1) (enc := fun x : Int => [.int .i64 x]) (hn := fun _ => rfl) hown8 2 (show 2 < 3 by omega) 0 (by decide)).1
      rw [show ([n1, n2, n3] : List Int).length = 3 from rfl]
      obtain ⟨K, rfl⟩ : ∃ K, M = K + 1 := ⟨M - 1, by omega⟩
      obtain ⟨x, hx⟩ : ∃ x : Cov, (⟨n1, n2, n3, on⟩ : Cov) = x := ⟨_, rfl⟩
      have HX := Lib.hid hx
      have HPS := Lib.hid (HSCY.out _ HCR.out (by rw [List.length_map, HMM.out]; omega))
      rw [hx] at HPS
      have hKl : K < tl.length := by rw [HMM.out]; omega
      obtain ⟨g0, cap0, hv0, hg01, hg02⟩ := Own.some_ G8.out.bo.own (by omega : 0 < tl.length)
      rw [HMM.out] at hv0
      injection hv0 with hA hn0 hc0
      subst hA; subst hc0
      have hrow := G8.out.row K tl[K] (List.getElem?_eq_getElem hKl)
      obtain ⟨AI, cI, hvI, hcI1, hcI2⟩ := (hrow.1.sliF (F := fun _ => True) (fun _ _ => trivial)).form
      have hli := (HPB.out.2 _ (List.getElem_mem hKl)).2
      obtain ⟨pl, hpl⟩ : ∃ pl, (tl[K]).1.covers.length = pl := ⟨_, rfl⟩
      have HPLL := Lib.hid hpl
      rw [hpl] at hvI hli
      have hcc := Own.cellAt G8.out.bo.own K hKl 8 (by decide)
      have c8 : w8.cell? ⟨g0, K * 9 + 8, none⟩ = some tl[K].2 := hcc.1
      have f8 : w8.frozen? ⟨g0, K * 9 + 8, none⟩ = false := hcc.2
      rw [hvI] at c8
      have p1 : (0 : Int) ≤ K := by omega
      have p2 : IntKind.i64.wrap (K : Int) = K := IntWalk.i64_in _ (by omega)
      have p3 : (K : Int) < K + 1 := by omega
      have HQ := Lib.hid hvI
      have HOWI := Lib.hid (show Own covR w8 w2.heap.size w2.heap.size 127 (tl[K]).1.covers (.slice AI pl cI) by rw [← hvI]; exact hrow.1)
      have hpl2 : pl ≤ 300000 := by omega
      have hz8' : w2.heap.size ≤ w8.heap.size := G8.out.bo.size
      have HGR := Lib.hid (fun (W w7 : World) (hW : ∀ q, q < w8.heap.size → W.heap[q]? = w8.heap[q]?) (hlt : w8.heap.size ≤ W.heap.size) (hg : W.grownBy w7 (Value.slice AI pl cI).ownBlock) => show (w7.cell? ⟨g0, K * 9 + 8, none⟩ = some (.slice AI pl cI) ∧ w7.frozen? ⟨g0, K * 9 + 8, none⟩ = false) from
        have e : w7.heap[g0]? = w8.heap[g0]? := (hg.block g0 (by omega) (fun e => (hrow.2 g0 (by rw [hvI]; exact e.symm)).1 rfl)).trans (hW g0 hg02)
        ⟨(World.cell?_of_block (a := ⟨g0, K * 9 + 8, none⟩) e).trans c8, by rw [← f8]; unfold World.frozen?; rw [e]⟩)
      have HGB := Lib.hid (fun (W w7 : World) (hW : ∀ q, q < w8.heap.size → W.heap[q]? = w8.heap[q]?) (hlt : w8.heap.size ≤ W.heap.size) (hg : W.grownBy w7 (Value.slice AI pl cI).ownBlock) (q : Nat) (hq1 : wr.heap.size ≤ q) (hq2 : q < w8.heap.size) => show w7.heap[q]? = w8.heap[q]? from
        (hg.block q (by omega) (fun e => by have := HRB.out K _ (List.getElem?_eq_getElem hKl) q (by rw [hvI]; exact e.symm); omega)).trans (hW q hq2))
      obtain ⟨ι, ff, hne, hff, hfS⟩ := family (fun W => W.cell? ⟨g0, K * 9 + 8, none⟩ = some (.slice AI pl cI) ∧ W.cell? ⟨g9, 0, none⟩ = some (.int .i64 n1) ∧ W.cell? ⟨g9, 1, none⟩ = some (.int .i64 n2) ∧ W.cell? ⟨g9, 2, none⟩ = some (.int .i64 n3) ∧ W.cell? ⟨wr.heap.size, 4, none⟩ = some (.string e)) w8.drew ⟨c8, j0, j1, j2, q4'⟩
      have s0 := fun p => (hff p).1
      have s1 := fun p => (hff p).2.1
      have s2 := fun p => (hff p).2.2.1
      have s3 := fun p => (hff p).2.2.2.1
      have s4 := fun p => (hff p).2.2.2.2
      have HFS := Lib.hid hfS
      have HW8 := Lib.hid (show w8.drew.cell? ⟨g0, K * 9 + 8, none⟩ = some (.slice AI pl cI) ∧ w8.drew.cell? ⟨g9, 0, none⟩ = some (.int .i64 n1) ∧ w8.drew.cell? ⟨g9, 1, none⟩ = some (.int .i64 n2) ∧ w8.drew.cell? ⟨g9, 2, none⟩ = some (.int .i64 n3) ∧ w8.drew.cell? ⟨wr.heap.size, 4, none⟩ = some (.string e) from ⟨c8, j0, j1, j2, q4'⟩)
      have HW9 := Lib.hid (fun (o : Obj) => show (w8.alloc o).drew.cell? ⟨g0, K * 9 + 8, none⟩ = some (.slice AI pl cI) ∧ (w8.alloc o).drew.cell? ⟨g9, 0, none⟩ = some (.int .i64 n1) ∧ (w8.alloc o).drew.cell? ⟨g9, 1, none⟩ = some (.int .i64 n2) ∧ (w8.alloc o).drew.cell? ⟨g9, 2, none⟩ = some (.int .i64 n3) ∧ (w8.alloc o).drew.cell? ⟨wr.heap.size, 4, none⟩ = some (.string e) from
        ⟨(World.cell?_alloc_lt w8 _ ⟨g0, K * 9 + 8, none⟩ hg02).trans c8, (World.cell?_alloc_lt w8 _ ⟨g9, 0, none⟩ hg92).trans j0, (World.cell?_alloc_lt w8 _ ⟨g9, 1, none⟩ hg92).trans j1, (World.cell?_alloc_lt w8 _ ⟨g9, 2, none⟩ hg92).trans j2, (World.cell?_alloc_lt w8 _ ⟨wr.heap.size, 4, none⟩ hlt8).trans q4'⟩)
      have HJ := Lib.hid (And.intro j0 (And.intro j1 (And.intro j2 q4')))
      clear hff hfS hrow hcI1 hcI2 hcc hvI hn0 hpl c8 j0 j1 j2 q4' q0 q1 q2 q3 q4 hown8 hns8 r1 r2 r3 hb8 HNS HSTN HSCY HRE
      go_upto_region 18 with (fail)
      refine wp_region_segs3 [19, 20] [] [] [([0, 1, 2, 3, 5, 6, 8, 9, 11, 12, 14, 15], [4, 7, 10, 13, 16, 17, 18], 19), ([], [], 20), ([21, 22], [], 23)] (by kernel_rfl) (by kernel_rfl) (fun _ _ _ dd _ h => by cases dd <;> exact h) (fun W => ∃ p : ι, W = ff p) (HFS.out _ HW8.out) ?_
      refine wpSegs3_step (by simp only [pick, List.getElem?_cons_succ, List.getElem?_cons_zero]; rfl) (by simp only [pick, List.getElem?_cons_succ, List.getElem?_cons_zero]; rfl) rfl (fun K0 hK0 L0 hL0 => ?_)
      repeat (first | go_big_quiet_step (fail) | quiet_step (fail))
      refine wpQuiet_nil (hL0 _ ?_)
      repeat (first | go_big_quiet_step (fail) | quiet_step (fail))
      refine wpQuiet_nil ?_
      refine Or.inl ⟨by kernel_rfl, ?_⟩
      go_simp
      refine hK0 (fun W => ∃ p : ι, W = ff p) _ _ (fun _ h => h) (HFS.out _ (HW9.out _)) ?_
      refine wpSegs3_step (by simp only [pick, List.getElem?_cons_succ, List.getElem?_cons_zero]; rfl) (by simp only [pick, List.getElem?_cons_succ, List.getElem?_cons_zero]; rfl) rfl (fun K1 hK1 L1 hL1 => ?_)
      repeat (first | go_big_quiet_step (fail) | quiet_step (fail))
      refine wpQuiet_nil (hL1 _ ?_)
      repeat (first | go_big_quiet_step (fail) | quiet_step (fail))
      refine wpQuiet_nil ?_
      refine Or.inl ⟨by kernel_rfl, ?_⟩
      refine oper_push (R := covR) rfl _ _ _ rfl w2.heap.size w2.heap.size 127 i1 _ 32 Tryz.underlying123 hi1 hy0 (by assumption) (by assumption) rfl (by decide) _ (.slice AI pl cI) _ rfl (HOWI.out.alloc _).drew ⟨n1, n2, n3, on⟩ _ rfl (oneC rfl) w8.heap.size _ _ (heap_alloc_new w8 _) rfl (by rw [HPLL.out]; simp [maxLen]; omega) (by rw [HPLL.out]; omega) (by show w2.heap.size ≤ (w8.alloc _).heap.size; simp; omega) ?_
      intro g7 cap7 w7 hown7 hg7 hat7 hlt7'
      have hWA : ∀ q, q < w8.heap.size → (w8.alloc (.cells #[.int .i64 n1, .int .i64 n2, .int .i64 n3, .bool on] 127)).drew.heap[q]? = w8.heap[q]? := fun q hq => Below.heap_alloc w8 _ q hq
      have hWS : w8.heap.size ≤ (w8.alloc (.cells #[.int .i64 n1, .int .i64 n2, .int .i64 n3, .bool on] 127)).drew.heap.size := by show _ ≤ (w8.alloc _).heap.size; simp
      obtain ⟨c7, f7⟩ := HGR.out _ w7 hWA hWS hg7
      have hb9 := HGB.out _ w7 hWA hWS hg7 g9 (by omega) hg92
      have hbw := HGB.out _ w7 hWA hWS hg7 wr.heap.size (Nat.le_refl _) hlt8
      refine hK1 (fun W => ∃ p : ι, W = ff p) _ _ (fun _ h => h) (HFS.out _ ⟨c7, (World.cell?_of_block (a := ⟨g9, 0, none⟩) hb9).trans HJ.out.1, (World.cell?_of_block (a := ⟨g9, 1, none⟩) hb9).trans HJ.out.2.1, (World.cell?_of_block (a := ⟨g9, 2, none⟩) hb9).trans HJ.out.2.2.1, (World.cell?_of_block (a := ⟨wr.heap.size, 4, none⟩) hbw).trans HJ.out.2.2.2⟩) ?_
      have GI := NS.inner ((G8.out.alloc (.cells #[.int .i64 n1, .int .i64 n2, .int .i64 n3, .bool on] 127)).drew) hKl (g' := g7) (u := .slice (some ⟨g7, 0, none⟩) ((tl[K]).1.covers.length + 1) cap7) hown7 (by rw [HQ.out]; exact hg7) rfl (by rw [HQ.out]; rcases hat7 with h | h; exact .inl h; exact .inr (Nat.le_of_eq h.symm)) (j := 8) (fun y => (tkAdd ⟨n1, n2, n3, on⟩ y.1, .slice (some ⟨g7, 0, none⟩) ((tl[K]).1.covers.length + 1) cap7)) (fun y => rfl) (by decide) rfl rfl
      have HGI := Lib.hid GI
      have HAE := Lib.hid (show tl.modify K (fun y => (tkAdd ⟨n1, n2, n3, on⟩ y.1, Value.slice (some ⟨g7, 0, none⟩) ((tl[K]).1.covers.length + 1) cap7)) = addC tl x (.slice (some ⟨g7, 0, none⟩) ((tl[K]).1.covers.length + 1) cap7) by unfold addC; rw [HMM.out, ← hx]; rfl)
      clear GI hown7 hg7 hat7 hWA hWS hb9 hbw hx
      rw [HAE.out] at HGI
      refine wpSegs3_last (by simp only [pick, List.getElem?_cons_succ, List.getElem?_cons_zero]; rfl) (by simp only [pick, List.getElem?_cons_succ, List.getElem?_cons_zero]; rfl) rfl (by rfl) (fun K2 hK2 L2 hL2 => ?_)
      repeat (first | go_big_quiet_step (fail) | quiet_step (fail))
      refine wpQuiet_nil (hL2 _ ?_)
      repeat (first | go_big_quiet_step (fail) | quiet_step (fail))
      refine wpQuiet_nil ?_
      refine Or.inl ⟨by kernel_rfl, ?_⟩
      go_simp
      refine hK2 _ _ (wpSegs3_end ?_)
      clear s0 s1 s2 s3 s4
      go_wp2
      go_roundw
      case rel => exact ⟨k + 1, addC tl x _, by omega, intNum, HPB.out.add x _, HGI.out.less (by simp), by rw [addC_fst]; exact Lib.hid (HST.out.trans (by rw [HPS.out]))⟩
      case measure => simp [intOf]; omega
    · have hkn : k = n := by omega
      have HEV := Lib.hid (show ptRead (W.take n) 0 [] = .inl (tl.map (·.1)) by rw [HV.out]; exact ptRead_end _ k _ (by rw [List.length_take]; omega))
      have hcl : wr.cell? ⟨w.heap.size, n, none⟩ = some (.string last) := by
        rw [HG.out.bo.bel.cell (p := ⟨w.heap.size, n, none⟩) (by show w.heap.size < _; omega), strAtB HW2.out n (by rw [HN.out]; omega)]
        have := HL.out
        rw [List.getElem?_eq_getElem (by rw [HN.out]; omega)] at this
        injection this with this
        rw [this]
      have hn3 : (n : Int) < (n : Int) + 1 := by omega
      have HBW2 := Lib.hid (show tkParse t = if ¬ last = ⟨#[]⟩ then ⟨[], n, 9⟩ else if ¬ tksE (tl.map (·.1)) = 0 then ⟨[], 0, tksE (tl.map (·.1))⟩ else ⟨tl.map (·.1), 0, 0⟩ by rw [HE2.out, HEV.out])
      clear hkn HV HEV
      by_cases hl0 : last = ⟨#[]⟩
      case neg =>
        have HEE := Lib.hid (HBW2.out.trans (if_pos hl0))
        have hle : last.toList.isEmpty = false := by
          cases hq : last.toList.isEmpty with
          | true => exact absurd ((empty_iff last).1 hq) hl0
          | false => rfl
        have hle2 : ¬ last.toList = [] := by intro h; rw [h] at hle; cases hle
        clear hl0
        go_wp2
        go_ret3
        exact PrT.no HEE.out rfl HBW.out
      subst hl0
      have HEE := Lib.hid (HBW2.out.trans (if_neg (by simp)))
      have HTW := Lib.hid (HG.out.tkw HPB.out (m := k) (show k ≤ 300000 by omega))
      have HTF := Lib.hid (TellTakesFault_c tl (.slice Ao M co) wr HTW.out)
      clear HBW2
      go_wp2_with fail
      refine HTF.out.mono ?_
      rintro e w3 ⟨rfl, hb3⟩
      have HB3 := Lib.hid (HBW.out.trans (hb3.mono HBW.out.size))
      have HT3 := Lib.hid (TkW.below HTW.out hb3)
      have hz3 := hb3.size
      clear hb3 HTF HTW
      by_cases he0 : tksE (tl.map (·.1)) = 0
      · have HE5 := Lib.hid (HEE.out.trans (if_neg (by rw [he0]; simp)))
        rw [he0]
        clear he0
        go_wp2
        go_ret3
        exact PrT.yes HE5.out rfl ⟨HT3.out.sli.more fun q hq => ⟨by omega, by omega⟩, fun y hy => (HT3.out.cov y hy).more fun q hq => ⟨by omega, by omega⟩, fun q hq => hq.2, HT3.out.len, HT3.out.bd⟩ HB3.out
      · have HE5 := Lib.hid (HEE.out.trans (if_pos he0))
        have hne : (tksE (tl.map (·.1)) != 0) = true := bne_iff_ne.2 he0
        generalize tksE (tl.map (·.1)) = te at *
        clear he0
        go_wp2
        go_ret3
        exact PrT.no HE5.out rfl HB3.out
end Go.Proofs.YtihkkaeoijheoaaGreatDoor

