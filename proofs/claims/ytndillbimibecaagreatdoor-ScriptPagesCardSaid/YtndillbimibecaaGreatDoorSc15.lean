/- Texts packed: CloneW, RdA. -/
import Derived.Test.YtndillbimibecaaGreatDoorSc14
import Derived.Test.YtndillbimibecaaGreatDoorSc02
import Derived.Lib.SliceRun
import Derived.Lib.Walk
import Derived.Test.YtndillbimibecaaGreatDoorSc09
import Derived.Test.YtndillbimibecaaGreatDoorSc01
import Derived.Test.YtndillbimibecaaGreatDoorSc10
import Derived.Deep.QuietTactic
import Derived.BigQuiet
import Derived.Deep.DeepCutAuto
import Derived.RegionTactic
/- slices.Clone at the elements of scripts and takes. -/
namespace Go.Proofs.YtndillbimibecaaGreatDoor
set_option linter.unusedVariables false
open Go.RowKit

theorem Lay.oneM {α : Type} {R : Rep α} {w : World} {F : Nat → Prop} {l : List α} {cs : List Value} (h : Lay R w F l cs) (h1 : ∀ x ∈ l, ∀ a, R.rel w F x a → ∀ u ∈ a, u.oneCell' = true) : ∀ u ∈ cs, u.oneCell' = true := by
  intro u hu
  obtain ⟨j, hj, rfl⟩ := List.mem_iff_getElem.1 hu
  by_cases hn : R.n = 0
  · rw [h.1, hn] at hj; omega
  · have hq : j / R.n < l.length := (Nat.div_lt_iff_lt_mul (by omega)).2 (by rw [← h.1]; exact hj)
    refine h1 _ (List.getElem_mem hq) _ (h.2 _ _ (List.getElem?_eq_getElem hq)) _ ?_
    rw [List.mem_iff_getElem?]
    refine ⟨j % R.n, ?_⟩
    rw [List.getElem?_take, List.getElem?_drop, if_pos (Nat.mod_lt _ (by omega)), Nat.mul_comm, Nat.div_add_mod]
    exact List.getElem?_eq_getElem hj

set_option maxHeartbeats 2000000 in
set_option maxRecDepth 100000 in
theorem cloneScene_c {F : Nat → Prop} (l : List (Scene × Value)) (v : Value) (w : World) (h : Sli svR w F l v) (hl : l.length ≤ 1000000) (ho : ∀ x ∈ l, ∃ A n c, x.2 = .slice A n c) :
    Calls Tryz.prog 33 #[v] w (fun e w' => ∃ v', e = .returned v' ∧ Own svR w' w.heap.size w.heap.size 49 l v' ∧ Below w.heap.size w w') := by
  obtain ⟨A, c, rfl, hc1, hc2, h3⟩ := h
  obtain ⟨i0, hi0, hz0, hz1, hz2⟩ := info_parts (show (Tryz.prog.info? 49).map (fun i => (i.zero, i.size, i.bytes)) = some (some (.agg #[.string ⟨#[]⟩, .int .i64 0, .string ⟨#[]⟩, .int .i64 0, .slice none 0 0]), 5, 72) by kernel_rfl)
  have q22 : ∀ (w : World) (a : Option Addr) (n c n' c' : Nat), (binOp .eql 26 (.slice a n c) (.slice none n' c')).run Tryz.prog w = .ok (.bool a.isNone) w := fun w a n c n' c' => Lib.run_eql_slice_nil w _ _ a n c n' c' Tryz.underlying26
  cases A with
  | none =>
    have h0 : ¬ 0 < l.length := fun h0 => by obtain ⟨b, off, cs, e, _⟩ := h3 h0; cases e
    obtain rfl : l = [] := List.length_eq_zero_iff.1 (by omega)
    clear h3
    go_enter Tryz.func33, Tryz.ntmps33
    go_wp2
    go_ret
    exact ⟨_, rfl, Own.nil_, Below.refl _ _⟩
  | some ad =>
    obtain ⟨cs, hcs, hcell⟩ : ∃ cs, Lay svR w F l cs ∧ ∀ j u, cs[j]? = some u → w.cell? (ad.add j) = some u := by
      by_cases h0 : 0 < l.length
      · obtain ⟨b, off, cs, e, hb, hl, hc⟩ := h3 h0
        injection e with e
        subst e
        exact ⟨cs, hl, fun j u hj => by rw [Addr.add_lit]; exact hc j u hj⟩
      · obtain rfl : l = [] := List.length_eq_zero_iff.1 (by omega)
        exact ⟨[], Lay.nil_, fun j u hj => by simp at hj⟩
    clear h3
    have HC := Lib.hid hcell
    have HL := Lib.hid hcs
    clear hcell hcs
    go_enter Tryz.func33, Tryz.ntmps33
    go_wp2_with (at_builtin; refine wpList_append_own _ rfl _ _ 26 rfl w.heap.size 49 i0 _ 5 72 Tryz.underlying26 hi0 hz0 hz1 hz2 rfl (by decide) _ _ _ rfl (World.ownsRow_made w #[] 0 (Nat.le_refl _) (Nat.zero_le _) (by simp)) ad l.length c cs rfl ?qc1 ?qc2 ?qc3 ?qc4 ?qc5 ?qc6 ?_)
    case qc1 => exact HL.out.1
    case qc2 => exact fun j u hj => Lib.cell?_alloc_some _ (HC.out j u hj)
    case qc3 => exact HL.out.oneM (fun x hm a hx => by have e : a = x.1.cells x.2 := hx; subst e; obtain ⟨A, n, c, e⟩ := ho x hm; rw [e]; exact oneC rfl)
    case qc4 => unfold maxLen; omega
    case qc5 => omega
    case qc6 => simp
    intro v' w1 hown hgrow hnil
    go_wp2
    go_ret
    have hown2 : w1.ownsRow w.heap.size 49 5 v' l.length cs := by simpa using hown
    refine ⟨v', rfl, ⟨_, hown2, ⟨HL.out.1, fun k x hx => HL.out.2 k x hx⟩⟩, ?_⟩
    exact ((Below.refl _ w).alloc (Nat.le_refl _) _).grown hgrow (by simp) (by intro k hk; simp [Value.ownBlock] at hk; omega)

set_option maxHeartbeats 2000000 in
set_option maxRecDepth 100000 in
theorem clonePara_c {F : Nat → Prop} (l : List (Para)) (v : Value) (w : World) (h : Sli paraR w F l v) (hl : l.length ≤ 1000000) :
    Calls Tryz.prog 36 #[v] w (fun e w' => ∃ v', e = .returned v' ∧ Own paraR w' w.heap.size w.heap.size 81 l v' ∧ Below w.heap.size w w') := by
  obtain ⟨A, c, rfl, hc1, hc2, h3⟩ := h
  obtain ⟨i0, hi0, hz0, hz1, hz2⟩ := info_parts (show (Tryz.prog.info? 81).map (fun i => (i.zero, i.size, i.bytes)) = some (some (.agg #[.int .i64 0, .string ⟨#[]⟩]), 2, 24) by kernel_rfl)
  have q22 : ∀ (w : World) (a : Option Addr) (n c n' c' : Nat), (binOp .eql 47 (.slice a n c) (.slice none n' c')).run Tryz.prog w = .ok (.bool a.isNone) w := fun w a n c n' c' => Lib.run_eql_slice_nil w _ _ a n c n' c' Tryz.underlying47
  cases A with
  | none =>
    have h0 : ¬ 0 < l.length := fun h0 => by obtain ⟨b, off, cs, e, _⟩ := h3 h0; cases e
    obtain rfl : l = [] := List.length_eq_zero_iff.1 (by omega)
    clear h3
    go_enter Tryz.func36, Tryz.ntmps36
    go_wp2
    go_ret
    exact ⟨_, rfl, Own.nil_, Below.refl _ _⟩
  | some ad =>
    obtain ⟨cs, hcs, hcell⟩ : ∃ cs, Lay paraR w F l cs ∧ ∀ j u, cs[j]? = some u → w.cell? (ad.add j) = some u := by
      by_cases h0 : 0 < l.length
      · obtain ⟨b, off, cs, e, hb, hl, hc⟩ := h3 h0
        injection e with e
        subst e
        exact ⟨cs, hl, fun j u hj => by rw [Addr.add_lit]; exact hc j u hj⟩
      · obtain rfl : l = [] := List.length_eq_zero_iff.1 (by omega)
        exact ⟨[], Lay.nil_, fun j u hj => by simp at hj⟩
    clear h3
    have HC := Lib.hid hcell
    have HL := Lib.hid hcs
    clear hcell hcs
    go_enter Tryz.func36, Tryz.ntmps36
    go_wp2_with (at_builtin; refine wpList_append_own _ rfl _ _ 47 rfl w.heap.size 81 i0 _ 2 24 Tryz.underlying47 hi0 hz0 hz1 hz2 rfl (by decide) _ _ _ rfl (World.ownsRow_made w #[] 0 (Nat.le_refl _) (Nat.zero_le _) (by simp)) ad l.length c cs rfl ?qc1 ?qc2 ?qc3 ?qc4 ?qc5 ?qc6 ?_)
    case qc1 => exact HL.out.1
    case qc2 => exact fun j u hj => Lib.cell?_alloc_some _ (HC.out j u hj)
    case qc3 => exact HL.out.oneM (fun x hm a hx => by have e : a = x.cells := hx; subst e; exact oneC rfl)
    case qc4 => unfold maxLen; omega
    case qc5 => omega
    case qc6 => simp
    intro v' w1 hown hgrow hnil
    go_wp2
    go_ret
    have hown2 : w1.ownsRow w.heap.size 81 2 v' l.length cs := by simpa using hown
    refine ⟨v', rfl, ⟨_, hown2, ⟨HL.out.1, fun k x hx => HL.out.2 k x hx⟩⟩, ?_⟩
    exact ((Below.refl _ w).alloc (Nat.le_refl _) _).grown hgrow (by simp) (by intro k hk; simp [Value.ownBlock] at hk; omega)

end Go.Proofs.YtndillbimibecaaGreatDoor

/- The reader of scripts: how it lies in memory, and a paragraph added. -/
namespace Go.Proofs.YtndillbimibecaaGreatDoor
set_option linter.unusedVariables false
open Go.RowKit Go.Sort

abbrev ScN (w : World) (l : List (Scene × Value)) (v : Value) (P : List (Nat × Array Value × TypeId)) (wx : World) : Prop := NF 5 2 (fun x : Scene × Value => x.1.cells x.2) (fun _ => rfl) Para.cells (fun _ => rfl) (fun x : Scene × Value => x.1.paras) (fun x => x.2) 49 81 w l v P wx
def rdCs (t : ByteArray) (v : Value) (wh : Int) : Array Value := #[.string t, v, .int .i64 wh]
/-- The reader lies in block R0; since w it has made the scenes l. -/
abbrev RdG (w : World) (R0 : Nat) (t : ByteArray) (l : List (Scene × Value)) (v : Value) (wh : Int) (wx : World) : Prop := ScN w l v [(R0, rdCs t v wh, 97)] wx
def addL (l : List (Scene × Value)) (p : Para) (u : Value) : List (Scene × Value) := l.modify (l.length - 1) fun x => (addPara p x.1, u)
theorem addL_fst (l : List (Scene × Value)) (p : Para) (u : Value) : (addL l p u).map (·.1) = addTo (l.map (·.1)) p := by
  unfold addL addTo
  rw [List.length_map]
  generalize l.length - 1 = k
  apply List.ext_getElem?
  intro i
  simp only [List.getElem?_map, List.getElem?_modify]
  cases l[i]? with
  | none => rfl
  | some x =>
    by_cases e : k = i
    · subst e; simp
    · simp [e]
theorem addL_len (l : List (Scene × Value)) (p : Para) (u : Value) : (addL l p u).length = l.length := List.length_modify _ _ _
/-- How much has been read so far at the most. -/
def RdB (m : Nat) (l : List (Scene × Value)) : Prop := l.length ≤ m ∧ ∀ x ∈ l, x.1.paras.length ≤ m
def AddP (w : World) (R0 : Nat) (t : ByteArray) (l : List (Scene × Value)) (v : Value) (p : Para) (e : Ending) (w' : World) : Prop := e = .returned (.tuple #[]) ∧ ∃ u, RdG w R0 t (addL l p u) v (whOf p.kind) w'
theorem AddP.mk {w w' : World} {R0 : Nat} {t : ByteArray} {l : List (Scene × Value)} {v : Value} {p : Para} {u : Value} {q : Int} (h : whOf p.kind = q) (hg : RdG w R0 t (addL l p u) v q w') : AddP w R0 t l v p (.returned (.tuple #[])) w' := ⟨rfl, u, by rw [h]; exact hg⟩

set_option maxRecDepth 100000 in
set_option maxHeartbeats 4000000 in
theorem add_c (w wx : World) (R0 : Nat) (t : ByteArray) (l : List (Scene × Value)) (v : Value) (wh kind : Int) (text : ByteArray) (h : RdG w R0 t l v wh wx) (h0 : 0 < l.length) (hb : RdB 1000000 l) :
    Calls Tryz.prog 136 #[.pointer (some ⟨R0, 0, none⟩), .int .i64 kind, .string text] wx (AddP w R0 t l v ⟨kind, text⟩) := by
  obtain ⟨i0, hi0, hz0, hz1, hz2⟩ := info_parts (show (Tryz.prog.info? 81).map (fun i => (i.zero, i.size, i.bytes)) = some (some (.agg #[.int .i64 0, .string ⟨#[]⟩]), 2, 24) by kernel_rfl)
  obtain ⟨K, hK⟩ : ∃ K, l.length = K + 1 := ⟨l.length - 1, by omega⟩
  obtain ⟨g0, cap, rfl, hg01, hg02⟩ := Own.some_ h.bo.own h0
  have hkl : K < l.length := by omega
  have hrow := h.row K l[K] (List.getElem?_eq_getElem hkl)
  obtain ⟨AI, cI, hvI, hcI1, hcI2⟩ := (hrow.1.sliF (F := fun _ => True) (fun _ _ => trivial)).form
  have hli : (l[K]).1.paras.length ≤ 1000000 := hb.2 _ (List.getElem_mem hkl)
  have HPL := Lib.hid hli
  obtain ⟨pl, hpl⟩ : ∃ pl, (l[K]).1.paras.length = pl := ⟨_, rfl⟩
  rw [hpl] at hvI hli
  clear hpl
  have hl1 : K ≤ 1000000 := by have := hb.1; omega
  have c1 : wx.cell? ⟨R0, 1, none⟩ = some (.slice (some ⟨g0, 0, none⟩) l.length cap) := (h.cell (p := (R0, rdCs t (.slice (some ⟨g0, 0, none⟩) l.length cap) wh, 97)) (by simp)).1 1
  have c4 : wx.cell? ⟨g0, K * 5 + 4, none⟩ = some l[K].2 := (Own.cellAt h.bo.own K hkl 4 (by decide)).1
  have hR0 := h.bo.plt (p := (R0, rdCs t (.slice (some ⟨g0, 0, none⟩) l.length cap) wh, 97)) (by simp)
  have hRg : R0 ≠ g0 := fun e => (h.bo.prv (R0, rdCs t (.slice (some ⟨g0, 0, none⟩) l.length cap) wh, 97) (by simp)).2.2 (by dsimp only; rw [e]; rfl)
  have HN := Lib.hid h
  have HB := Lib.hid hrow
  rw [hvI] at c4
  rw [hK] at c1
  have q1 : (0 : Int) ≤ K := by omega
  have q2 : IntKind.i64.wrap ((K : Int) + 1 - 1) = K := by rw [show (K : Int) + 1 - 1 = K by omega]; exact IntWalk.i64_in _ (by omega)
  have q3 : (K : Int) < K + 1 := by omega
  dsimp only at hR0
  have HQ := Lib.hid hvI
  have HKL := Lib.hid hK
  clear h hb hrow hvI hcI1 hcI2 hK
  go_enter Tryz.func136, Tryz.ntmps136
  go_wp2_with fail
  go_quiet (fail)
  clear q1 q2 q3
  have hN2 := HN.out.below (Below.drew (Below.refl wx.heap.size wx))
  have hdn := fun (n : Nat) => HN.out.below (below_drewN (Below.refl wx.heap.size wx) n)
  have HN2 := Lib.hid (hdn nq)
  clear hN2 hdn
  have f4 : (wx.drewN nq).frozen? ⟨g0, K * 5 + 4, none⟩ = false := (Own.cellAt HN2.out.bo.own K hkl 4 (by decide)).2
  have c4' : (wx.drewN nq).cell? ⟨g0, K * 5 + 4, none⟩ = some (.slice AI pl cI) := c4
  have hsz : (wx.drewN nq).heap.size = wx.heap.size := rfl
  have f0 : (wx.drewN nq).frozen? ⟨R0, 2, none⟩ = false := (HN2.out.cell (p := (R0, rdCs t (.slice (some ⟨g0, 0, none⟩) l.length cap) wh, 97)) (by simp)).2 2
  have hRg1 : R0 < (wx.drewN nq).heap.size := hR0
  have hg03 : g0 < (wx.drewN nq).heap.size := hg02
  clear c1 c4 hR0 hg02 hsz HN
  generalize wx.drewN nq = wy at *
  have hrw := HN2.out.row K l[K] (List.getElem?_eq_getElem hkl)
  rw [HQ.out] at hrw
  have HNE := Lib.hid (show (Value.slice AI pl cI).ownBlock ≠ some g0 ∧ (Value.slice AI pl cI).ownBlock ≠ some R0 from ⟨fun e => (hrw.2 g0 e).1 rfl, fun e => (hrw.2 R0 e).2 (R0, rdCs t (.slice (some ⟨g0, 0, none⟩) l.length cap) wh, 97) (by simp) rfl⟩)
  have HNa := Lib.hid (HN2.out.alloc (.cells #[.int .i64 kind, .string text] 81))
  have HOI := Lib.hid (hrw.1.alloc (.cells #[.int .i64 kind, .string text] 81))
  clear hrw HN2
  go_upto_region 3 with (at_builtin; (refine wpList_pushB (R := paraR) rfl _ _ _ rfl w.heap.size w.heap.size 81 i0 _ 24 Tryz.underlying47 hi0 hz0 hz1 hz2 rfl (by decide) _ (.slice AI pl cI) (l[K]).1.paras rfl HOI.out (⟨kind, text⟩ : Para) _ rfl (oneC rfl) wy.heap.size _ _ (heap_alloc_new wy _) rfl (by have := HPL.out; unfold maxLen; omega) (by have := HPL.out; omega) (by simp; omega) ?_); intro g cap2 w8 hown8 hg8 hat8 hlt8; have hz8 := hg8.size; have f8 : w8.frozen? ⟨g0, K * 5 + 4, none⟩ = false := (World.frozen?_of_block (hg8.block g0 (by simp; omega) HNE.out.1.symm)).trans (Own.cellAt HNa.out.bo.own K hkl 4 (by decide)).2; have f9 : w8.frozen? ⟨R0, 2, none⟩ = false := (World.frozen?_of_block (hg8.block R0 (by simp; omega) HNE.out.2.symm)).trans ((HNa.out.cell (p := (R0, rdCs t (.slice (some ⟨g0, 0, none⟩) l.length cap) wh, 97)) (by simp)).2 2); have c9 : w8.cell? ⟨R0, 2, none⟩ = some (.int .i64 wh) := (World.cell?_of_block (hg8.block R0 (by simp; omega) HNE.out.2.symm)).trans ((HNa.out.cell (p := (R0, rdCs t (.slice (some ⟨g0, 0, none⟩) l.length cap) wh, 97)) (by simp)).1 2); obtain ⟨u8, c8⟩ : ∃ u, w8.cell? ⟨g0, K * 5 + 4, none⟩ = some u := ⟨_, (World.cell?_of_block (hg8.block g0 (by simp; omega) HNE.out.1.symm)).trans (Own.cellAt HNa.out.bo.own K hkl 4 (by decide)).1⟩)
  have hG9 := NS.inner (k := K) (j := 4) HNa.out hkl hown8 (by rw [HQ.out]; exact hg8) rfl (by rw [HQ.out]; exact hat8.imp id fun h => Nat.le_of_eq h.symm) (fun x => (addPara ⟨kind, text⟩ x.1, .slice (some ⟨g, 0, none⟩) ((l[K]).1.paras.length + 1) cap2)) (fun x => rfl) (by decide) rfl rfl
  have G9 := Lib.hid (show RdG w R0 t (addL l ⟨kind, text⟩ (.slice (some ⟨g, 0, none⟩) ((l[K]).1.paras.length + 1) cap2)) (.slice (some ⟨g0, 0, none⟩) l.length cap) 3 _ from (by
    have h := NS.set (i := 2) hG9 (.int .i64 3) (fun p hp => by cases hp)
    have e : addL l ⟨kind, text⟩ (.slice (some ⟨g, 0, none⟩) ((l[K]).1.paras.length + 1) cap2) = l.modify K fun x => (addPara ⟨kind, text⟩ x.1, .slice (some ⟨g, 0, none⟩) ((l[K]).1.paras.length + 1) cap2) := by unfold addL; rw [HKL.out]; rfl
    rw [e]
    exact h))
  clear hG9 HNa HOI hown8 hg8 hat8
  have G10 := Lib.hid (NS.set (i := 2) G9.out (.int .i64 4) (fun p hp => by cases hp))
  rcases eqF kind 2 with ⟨q, qa, qb⟩ | ⟨q, qa, qb⟩
  · have HR := Lib.hid (show whOf kind = 4 from if_pos (.inl q))
    clear q
    go_wp2
    go_end0
    exact AddP.mk HR.out G10.out
  rcases eqF kind 3 with ⟨r, ra, rb⟩ | ⟨r, ra, rb⟩
  · have HR := Lib.hid (show whOf kind = 4 from if_pos (.inr (.inl r)))
    clear q r
    go_wp2
    go_end0
    exact AddP.mk HR.out G10.out
  rcases eqF kind 4 with ⟨s, sa, sb⟩ | ⟨s, sa, sb⟩
  · have HR := Lib.hid (show whOf kind = 4 from if_pos (.inr (.inr s)))
    clear q r s
    go_wp2
    go_end0
    exact AddP.mk HR.out G10.out
  · have HR := Lib.hid (show whOf kind = 3 from if_neg (by rintro (h | h | h); exact q h; exact r h; exact s h))
    clear q r s
    go_wp2
    go_end0
    exact AddP.mk HR.out G9.out
end Go.Proofs.YtndillbimibecaaGreatDoor

