/- Texts packed: RdA. -/
import Derived.Test.YtnemcnpilngblaaDoorSc12
import Derived.Test.YtnemcnpilngblaaDoorSc01
import Derived.Test.YtnemcnpilngblaaDoorSc17
import Derived.Test.YtnemcnpilngblaaDoorSc13
import Derived.Deep.QuietTactic
import Derived.BigQuiet
import Derived.Deep.DeepCutAuto
import Derived.RegionTactic
/- The reader of scripts: how it lies in memory, and a paragraph added. -/
namespace Go.Proofs.YtnemcnpilngblaaDoor
set_option linter.unusedVariables false
open Go.RowKit Go.Sort

abbrev ScN (w : World) (l : List (Scene × Value)) (v : Value) (P : List (Nat × Array Value × TypeId)) (wx : World) : Prop := NF 5 2 (fun x : Scene × Value => x.1.cells x.2) (fun _ => rfl) Para.cells (fun _ => rfl) (fun x : Scene × Value => x.1.paras) (fun x => x.2) 40 75 w l v P wx
def rdCs (t : ByteArray) (v : Value) (wh : Int) : Array Value := #[.string t, v, .int .i64 wh]
/-- The reader lies in block R0; since w it has made the scenes l. -/
abbrev RdG (w : World) (R0 : Nat) (t : ByteArray) (l : List (Scene × Value)) (v : Value) (wh : Int) (wx : World) : Prop := ScN w l v [(R0, rdCs t v wh, 50)] wx
def addL (l : List (Scene × Value)) (p : Para) (u : Value) : List (Scene × Value) := l.modify (l.length - 1) fun x => (addPara p x.1, u)
theorem addL_fst (l : List (Scene × Value)) (p : Para) (u : Value) : (addL l p u).map (·.1) = addTo (l.map (·.1)) p := by
  unfold addL addTo
  rw [List.length_map]
  generalize l.length - 1 = k
  apply List.ext_getElem?
  intro i
  simp only [List.getElem?_map, List.getElem?_modify]
  cases l[i]? with
  | none => rfl
  | some x =>
    by_cases e : k = i
    · subst e; simp
    · simp [e]
theorem addL_len (l : List (Scene × Value)) (p : Para) (u : Value) : (addL l p u).length = l.length := List.length_modify _ _ _
/-- How much has been read so far at the most. -/
def RdB (m : Nat) (l : List (Scene × Value)) : Prop := l.length ≤ m ∧ ∀ x ∈ l, x.1.paras.length ≤ m
def AddP (w : World) (R0 : Nat) (t : ByteArray) (l : List (Scene × Value)) (v : Value) (p : Para) (e : Ending) (w' : World) : Prop := e = .returned (.tuple #[]) ∧ ∃ u, RdG w R0 t (addL l p u) v (whOf p.kind) w'
theorem AddP.mk {w w' : World} {R0 : Nat} {t : ByteArray} {l : List (Scene × Value)} {v : Value} {p : Para} {u : Value} {q : Int} (h : whOf p.kind = q) (hg : RdG w R0 t (addL l p u) v q w') : AddP w R0 t l v p (.returned (.tuple #[])) w' := ⟨rfl, u, by rw [h]; exact hg⟩

set_option maxRecDepth 100000 in
set_option maxHeartbeats 4000000 in
theorem add_c (w wx : World) (R0 : Nat) (t : ByteArray) (l : List (Scene × Value)) (v : Value) (wh kind : Int) (text : ByteArray) (h : RdG w R0 t l v wh wx) (h0 : 0 < l.length) (hb : RdB 1000000 l) :
    Calls Tryd.prog 50 #[.pointer (some ⟨R0, 0, none⟩), .int .i64 kind, .string text] wx (AddP w R0 t l v ⟨kind, text⟩) := by
  obtain ⟨i0, hi0, hz0, hz1, hz2⟩ := info_parts (show (Tryd.prog.info? 75).map (fun i => (i.zero, i.size, i.bytes)) = some (some (.agg #[.int .i64 0, .string ⟨#[]⟩]), 2, 24) by kernel_rfl)
  obtain ⟨K, hK⟩ : ∃ K, l.length = K + 1 := ⟨l.length - 1, by omega⟩
  obtain ⟨g0, cap, rfl, hg01, hg02⟩ := Own.some_ h.bo.own h0
  have hkl : K < l.length := by omega
  have hrow := h.row K l[K] (List.getElem?_eq_getElem hkl)
  obtain ⟨AI, cI, hvI, hcI1, hcI2⟩ := (hrow.1.sliF (F := fun _ => True) (fun _ _ => trivial)).form
  have hli : (l[K]).1.paras.length ≤ 1000000 := hb.2 _ (List.getElem_mem hkl)
  have HPL := Lib.hid hli
  obtain ⟨pl, hpl⟩ : ∃ pl, (l[K]).1.paras.length = pl := ⟨_, rfl⟩
  rw [hpl] at hvI hli
  clear hpl
  have hl1 : K ≤ 1000000 := by have := hb.1; omega
  have c1 : wx.cell? ⟨R0, 1, none⟩ = some (.slice (some ⟨g0, 0, none⟩) l.length cap) := (h.cell (p := (R0, rdCs t (.slice (some ⟨g0, 0, none⟩) l.length cap) wh, 50)) (by simp)).1 1
  have c4 : wx.cell? ⟨g0, K * 5 + 4, none⟩ = some l[K].2 := (Own.cellAt h.bo.own K hkl 4 (by decide)).1
  have hR0 := h.bo.plt (p := (R0, rdCs t (.slice (some ⟨g0, 0, none⟩) l.length cap) wh, 50)) (by simp)
  have hRg : R0 ≠ g0 := fun e => (h.bo.prv (R0, rdCs t (.slice (some ⟨g0, 0, none⟩) l.length cap) wh, 50) (by simp)).2.2 (by dsimp only; rw [e]; rfl)
  have HN := Lib.hid h
  have HB := Lib.hid hrow
  rw [hvI] at c4
  rw [hK] at c1
  have q1 : (0 : Int) ≤ K := by omega
  have q2 : IntKind.i64.wrap ((K : Int) + 1 - 1) = K := by rw [show (K : Int) + 1 - 1 = K by omega]; exact IntWalk.i64_in _ (by omega)
  have q3 : (K : Int) < K + 1 := by omega
  dsimp only at hR0
  have HQ := Lib.hid hvI
  have HKL := Lib.hid hK
  clear h hb hrow hvI hcI1 hcI2 hK
  go_enter Tryd.func50, Tryd.ntmps50
  go_wp2_with fail
  go_quiet (fail)
  clear q1 q2 q3
  have hN2 := HN.out.below (Below.drew (Below.refl wx.heap.size wx))
  have hdn := fun (n : Nat) => HN.out.below (below_drewN (Below.refl wx.heap.size wx) n)
  have HN2 := Lib.hid (hdn nq)
  clear hN2 hdn
  have f4 : (wx.drewN nq).frozen? ⟨g0, K * 5 + 4, none⟩ = false := (Own.cellAt HN2.out.bo.own K hkl 4 (by decide)).2
  have c4' : (wx.drewN nq).cell? ⟨g0, K * 5 + 4, none⟩ = some (.slice AI pl cI) := c4
  have hsz : (wx.drewN nq).heap.size = wx.heap.size := rfl
  have f0 : (wx.drewN nq).frozen? ⟨R0, 2, none⟩ = false := (HN2.out.cell (p := (R0, rdCs t (.slice (some ⟨g0, 0, none⟩) l.length cap) wh, 50)) (by simp)).2 2
  have hRg1 : R0 < (wx.drewN nq).heap.size := hR0
  have hg03 : g0 < (wx.drewN nq).heap.size := hg02
  clear c1 c4 hR0 hg02 hsz HN
  generalize wx.drewN nq = wy at *
  have hrw := HN2.out.row K l[K] (List.getElem?_eq_getElem hkl)
  rw [HQ.out] at hrw
  have HNE := Lib.hid (show (Value.slice AI pl cI).ownBlock ≠ some g0 ∧ (Value.slice AI pl cI).ownBlock ≠ some R0 from ⟨fun e => (hrw.2 g0 e).1 rfl, fun e => (hrw.2 R0 e).2 (R0, rdCs t (.slice (some ⟨g0, 0, none⟩) l.length cap) wh, 50) (by simp) rfl⟩)
  have HNa := Lib.hid (HN2.out.alloc (.cells #[.int .i64 kind, .string text] 75))
  have HOI := Lib.hid (hrw.1.alloc (.cells #[.int .i64 kind, .string text] 75))
  clear hrw HN2
  go_upto_region 3 with (at_builtin; (refine wpList_pushB (R := paraR) rfl _ _ _ rfl w.heap.size w.heap.size 75 i0 _ 24 Tryd.underlying38 hi0 hz0 hz1 hz2 rfl (by decide) _ (.slice AI pl cI) (l[K]).1.paras rfl HOI.out (⟨kind, text⟩ : Para) _ rfl (oneC rfl) wy.heap.size _ _ (heap_alloc_new wy _) rfl (by have := HPL.out; unfold maxLen; omega) (by have := HPL.out; omega) (by simp; omega) ?_); intro g cap2 w8 hown8 hg8 hat8 hlt8; have hz8 := hg8.size; have f8 : w8.frozen? ⟨g0, K * 5 + 4, none⟩ = false := (World.frozen?_of_block (hg8.block g0 (by simp; omega) HNE.out.1.symm)).trans (Own.cellAt HNa.out.bo.own K hkl 4 (by decide)).2; have f9 : w8.frozen? ⟨R0, 2, none⟩ = false := (World.frozen?_of_block (hg8.block R0 (by simp; omega) HNE.out.2.symm)).trans ((HNa.out.cell (p := (R0, rdCs t (.slice (some ⟨g0, 0, none⟩) l.length cap) wh, 50)) (by simp)).2 2); have c9 : w8.cell? ⟨R0, 2, none⟩ = some (.int .i64 wh) := (World.cell?_of_block (hg8.block R0 (by simp; omega) HNE.out.2.symm)).trans ((HNa.out.cell (p := (R0, rdCs t (.slice (some ⟨g0, 0, none⟩) l.length cap) wh, 50)) (by simp)).1 2); obtain ⟨u8, c8⟩ : ∃ u, w8.cell? ⟨g0, K * 5 + 4, none⟩ = some u := ⟨_, (World.cell?_of_block (hg8.block g0 (by simp; omega) HNE.out.1.symm)).trans (Own.cellAt HNa.out.bo.own K hkl 4 (by decide)).1⟩)
  have hG9 := NS.inner (k := K) (j := 4) HNa.out hkl hown8 (by rw [HQ.out]; exact hg8) rfl (by rw [HQ.out]; exact hat8.imp id fun h => Nat.le_of_eq h.symm) (fun x => (addPara ⟨kind, text⟩ x.1, .slice (some ⟨g, 0, none⟩) ((l[K]).1.paras.length + 1) cap2)) (fun x => rfl) (by decide) rfl rfl
  have G9 := Lib.hid (show RdG w R0 t (addL l ⟨kind, text⟩ (.slice (some ⟨g, 0, none⟩) ((l[K]).1.paras.length + 1) cap2)) (.slice (some ⟨g0, 0, none⟩) l.length cap) 3 _ from (by
    have h := NS.set (i := 2) hG9 (.int .i64 3) (fun p hp => by cases hp)
    have e : addL l ⟨kind, text⟩ (.slice (some ⟨g, 0, none⟩) ((l[K]).1.paras.length + 1) cap2) = l.modify K fun x => (addPara ⟨kind, text⟩ x.1, .slice (some ⟨g, 0, none⟩) ((l[K]).1.paras.length + 1) cap2) := by unfold addL; rw [HKL.out]; rfl
    rw [e]
    exact h))
  clear hG9 HNa HOI hown8 hg8 hat8
  have G10 := Lib.hid (NS.set (i := 2) G9.out (.int .i64 4) (fun p hp => by cases hp))
  rcases eqF kind 2 with ⟨q, qa, qb⟩ | ⟨q, qa, qb⟩
  · have HR := Lib.hid (show whOf kind = 4 from if_pos (.inl q))
    clear q
    go_wp2
    go_end0
    exact AddP.mk HR.out G10.out
  rcases eqF kind 3 with ⟨r, ra, rb⟩ | ⟨r, ra, rb⟩
  · have HR := Lib.hid (show whOf kind = 4 from if_pos (.inr (.inl r)))
    clear q r
    go_wp2
    go_end0
    exact AddP.mk HR.out G10.out
  rcases eqF kind 4 with ⟨s, sa, sb⟩ | ⟨s, sa, sb⟩
  · have HR := Lib.hid (show whOf kind = 4 from if_pos (.inr (.inr s)))
    clear q r s
    go_wp2
    go_end0
    exact AddP.mk HR.out G10.out
  · have HR := Lib.hid (show whOf kind = 3 from if_neg (by rintro (h | h | h); exact q h; exact r h; exact s h))
    clear q r s
    go_wp2
    go_end0
    exact AddP.mk HR.out G9.out
end Go.Proofs.YtnemcnpilngblaaDoor

