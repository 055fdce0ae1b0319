/- Texts packed: SheG. -/
import Derived.Test.YtndillbimibecaaGreatDoorSc47
/- R.LayoutOf, walked. -/
namespace Go.Proofs.YtndillbimibecaaGreatDoor
set_option linter.unusedVariables false
open Go.RowKit Go.Sort

def LofP (xs : List Scene) (w : World) (e : Ending) (w' : World) : Prop := ∃ (v sV : Value), e = .returned (.tuple #[v, sV]) ∧ Below w.heap.size w w' ∧ PgO w w' (pagesB ((xs.map blocksS).flatten)) v ∧ Sli intR w' (fun q => w.heap.size ≤ q ∧ q < w'.heap.size) ((stR (xs.map blocksS) ([], [])).map fun k : Nat => (k : Int)) sV
set_option maxRecDepth 100000 in
set_option maxHeartbeats 8000000 in
theorem LayoutOf_c {F : Nat → Prop} (t : ByteArray) (ls : List (Scene × Value)) (v : Value) (w : World) (h : ScL w F t ls v) (hok : ∀ y ∈ ls, LnOk y.1) (hln : ls.length ≤ 91) (hpn : ∀ y ∈ ls, y.1.paras.length ≤ 61) (hsp : SpLaid w) :
    Calls Tryz.prog 9 #[.agg #[.string t, v]] w (LofP (ls.map (·.1)) w) := by
  obtain ⟨i0, hi0, hz0, hz1, hz2⟩ := info_parts (show (Tryz.prog.info? 57).map (fun i => (i.zero, i.size, i.bytes)) = some (some (.agg #[.int .i64 0, .slice none 0 0]), 2, 32) by kernel_rfl)
  obtain ⟨A, c, rfl, hlc, hcm⟩ := h.sli.form
  have hxok : ∀ x ∈ ls.map (·.1), LnOk x := fun x hx => by
    obtain ⟨y, hy, rfl⟩ := List.mem_map.1 hx
    exact hok y hy
  have hxpn : ∀ x ∈ ls.map (·.1), x.paras.length ≤ 61 := fun x hx => by
    obtain ⟨y, hy, rfl⟩ := List.mem_map.1 hx
    exact hpn y hy
  have hxln : (ls.map (·.1)).length ≤ 91 := by rw [List.length_map]; exact hln
  have HXO := Lib.hid (And.intro hxok (And.intro hxpn hxln))
  have HB := Lib.hid ((Below.refl w.heap.size w).alloc (Nat.le_refl _) (.cells #[.string t, .slice A ls.length c] 28))
  have h1 := h.below HB.out
  have hsp1 := sp_below hsp HB.out (Nat.le_refl _)
  have HSB := Lib.hid (sceneBlocks_c t ls (.slice A ls.length c) (w.alloc (.cells #[.string t, .slice A ls.length c] 28)) h1 hok hln hsp1)
  have HPF := Lib.hid (pages_few (xs := ls.map (·.1)) hxok hxpn hxln).1
  have y := (str_cells (heap_alloc_new w (.cells #[.string t, .slice A ls.length c] 28))).1
  have HY := Lib.hid y
  have hzw : w.heap.size < (w.alloc (.cells #[.string t, .slice A ls.length c] 28)).heap.size := by simp
  clear h h1 hok hpn hsp hsp1 hxok hxpn y
  obtain ⟨L, hL⟩ : ∃ L, ls.length = L := ⟨_, rfl⟩
  rw [hL] at HSB HY hlc HB hzw ⊢
  clear hL hln hxln
  go_enter Tryz.func9, Tryz.ntmps9
  go_upto_region 1 with (fail)
  generalize w.alloc (.cells #[.string t, .slice A L c] 28) = w1 at *
  have y0 : w1.cell? ⟨w.heap.size, 0, none⟩ = some (.string t) := HY.out 0
  have y1 : w1.cell? ⟨w.heap.size, 1, none⟩ = some (.slice A L c) := HY.out 1
  obtain ⟨xs, hxs⟩ : ∃ xs, ls.map (·.1) = xs := ⟨_, rfl⟩
  have HXS := Lib.hid hxs
  rw [hxs] at HXO HSB HPF
  clear hxs
  go_wp2_with fail
  refine HSB.out.mono ?_
  rintro e w2 ⟨M, vM, rfl, hM, hb2, hRB⟩
  obtain ⟨A2, c2, e2, _, _⟩ := hRB.sli.form
  rw [List.length_map] at e2
  subst e2
  have HLD := Lib.hid (laidR_c M A2 c2 w2 hRB (fun q hq => hq.2) xs hM HXO.out.2.2 HXO.out.1 HXO.out.2.1)
  have HB2 := Lib.hid (HB.out.trans (hb2.mono HB.out.size))
  have hz12 := hb2.size
  clear hRB hM hb2 HSB y0 y1
  go_wp2_with fail
  refine HLD.out.mono ?_
  rintro e w3 ⟨Qs, v3, sV, tV, tp, rfl, hQs, hMR⟩
  obtain ⟨A1, c1, e1⟩ := own_sl (hMR.own _ (List.mem_cons_self ..))
  dsimp only at e1
  rw [List.length_map] at e1
  subst e1
  have HPS := Lib.hid hQs
  have hpf := HPF.out
  rw [← hQs, List.length_map] at hpf
  have HB3 := Lib.hid (HB2.out.trans (hMR.bel.mono HB2.out.size))
  have hz23 := hMR.size
  have HP1 := Lib.hid (show Sli valR w3 (fun q => w2.heap.size ≤ q ∧ q < w3.heap.size) (Qs.map (·.2)) (.slice A1 Qs.length c1) from by
    have ho := hMR.own (55, Qs.map (·.2), .slice A1 Qs.length c1) (List.mem_cons_self ..)
    exact ho.sliF (enc := fun v : Value => [v]) (hn := fun _ => rfl) (fun g hg => ho.block g hg))
  have HP2 := Lib.hid (show ∀ q ∈ Qs, Sli strR w3 (fun q => w2.heap.size ≤ q ∧ q < w3.heap.size) q.1 q.2 from fun q hq => by
    have hr := hMR.own (rowP q) (List.mem_cons_of_mem _ (List.mem_append_left _ (List.mem_map_of_mem hq)))
    have hs := Own.strs hr
    exact hs.sliF (enc := fun x : ByteArray => [.string x]) (hn := fun _ => rfl) (fun g hg => hs.block g hg))
  have HSS := Lib.hid (show Own intR w3 w2.heap.size w2.heap.size 3 ((stR (xs.map blocksS) ([], [])).map fun k : Nat => (k : Int)) sV from by
    have hr := hMR.own (stRow (stR (xs.map blocksS) ([], [])) sV) (List.mem_cons_of_mem _ (List.mem_append_right _ (by simp)))
    have hr2 : Own valR w3 w2.heap.size w2.heap.size 3 ((stR (xs.map blocksS) ([], [])).map (fun k : Nat => Value.int .i64 (k : Int))) sV := hr
    exact Own.recode hr2 (by simp) fun i x x' hx hx' => by
      rw [List.getElem?_map] at hx hx'
      cases hz : (stR (xs.map blocksS) ([], []))[i]? with
      | none => rw [hz] at hx; cases hx
      | some k =>
        rw [hz] at hx hx'
        cases hx
        cases hx'
        rfl)
  clear hQs hMR HLD
  obtain ⟨L2, hL2⟩ : ∃ n, Qs.length = n := ⟨_, rfl⟩
  have HL2 := Lib.hid hL2
  rw [hL2] at HP1 hpf ⊢
  clear hL2
  have hz4 := HB3.out.size
  go_wp2
  go_loopw [7, 19] (fun v i wr => ∃ (k : Nat) (l : List PgT), k ≤ L2 ∧ i = .int .i64 k ∧ Hid (l.map (·.1) = numP ((Qs.take k).map (·.1))) ∧ Hid (∀ y ∈ l, Sli strR w3 (fun q => w2.heap.size ≤ q ∧ q < w3.heap.size) y.1.2 y.2) ∧ Hid (BO pgR 57 w3 l v [] wr)) (fun _ i _ => L2 - (intOf i).toNat)
  case atStart => exact ⟨0, [], Nat.zero_le _, rfl, rfl, (fun y hy => by cases hy), BO.start w3⟩
  case round =>
    obtain ⟨k, l, hk, rfl, HK, HY, HG⟩ := hrel
    have hll : l.length = k := by
      have := congrArg List.length HK.out
      rw [List.length_map] at this
      rw [this]
      unfold numP
      simp
      rw [HL2.out]; omega
    by_cases hlt : k < L2
    · have hkl : k < Qs.length := by rw [HL2.out]; exact hlt
      have hkm : k < (Qs.map (·.2)).length := by rw [List.length_map]; exact hkl
      have hP1 := HP1.out.below HG.out.bel (fun q hq => hq.2)
      obtain ⟨b, off, rfl, hfb, c0⟩ := valAt hP1 k hkm
      rw [List.getElem_map] at c0
      obtain ⟨A5, c5, e5, _, _⟩ := (HP2.out _ (List.getElem_mem hkl)).form
      have HY2 := Lib.hid (HP2.out _ (List.getElem_mem hkl))
      rw [e5] at c0 HY2
      have HTK := Lib.hid (show numP ((Qs.take (k + 1)).map (·.1)) = numP ((Qs.take k).map (·.1)) ++ [(k + 1, (Qs[k]'hkl).1)] by
        rw [List.take_succ_eq_append_getElem hkl, List.map_append, List.map_cons, List.map_nil, numP_snoc]
        rw [List.length_map, List.length_take, Nat.min_eq_left (by omega)])
      generalize (Qs[k]'hkl).1 = x at *
      clear hkl hkm hP1 e5
      have GA := Lib.hid (HG.out.alloc (.cells #[.int .i64 ((k + 1 : Nat) : Int), .slice A5 x.length c5] 57))
      obtain ⟨A6, c6, hv6, _, _⟩ := (Own.sliF (n := 2) (enc := pgCs) (hn := fun _ => rfl) (F := fun _ => True) HG.out.own (fun _ _ => trivial)).form
      subst hv6
      have hw1 : IntKind.i64.wrap ((k : Int) + 1) = ((k + 1 : Nat) : Int) := by rw [IntWalk.i64_in _ (by omega)]; rfl
      have hzr := HG.out.bel.size
      clear HG
      go_wp2_with (at_builtin; (refine wpList_pushB (R := pgR) rfl _ _ _ rfl w3.heap.size w3.heap.size 57 i0 _ 32 Tryz.underlying30 hi0 hz0 hz1 hz2 rfl (by decide) _ (.slice A6 l.length c6) l rfl GA.out.own (((k + 1, x), .slice A5 x.length c5) : PgT) _ rfl (oneC rfl) wr.heap.size _ _ (heap_alloc_new wr _) rfl (by unfold maxLen; omega) (by omega) (by simp; omega) ?_); intro g cap8 w8 hown8 hg8 hat8 hlt8)
      go_roundw
      case rel =>
        rw [hll] at hown8
        exact ⟨k + 1, l ++ [((k + 1, x), .slice A5 x.length c5)], by omega, intNum, Lib.hid (by rw [List.map_append, HK.out, HTK.out]; rfl), Lib.hid (fun y hy => by
          rcases List.mem_append.1 hy with hy | hy
          · exact HY.out y hy
          · rw [List.mem_singleton.1 hy]; exact HY2.out), Lib.hid (GA.out.more hown8 hg8 rfl hat8)⟩
      case measure => simp [intOf]; omega
    · have hkL : k = L2 := by omega
      subst hkL
      have hall : Qs.take k = Qs := List.take_of_length_le (by rw [HL2.out]; omega)
      have hlk := HK.out
      rw [hall, HPS.out] at hlk
      have hss := HSS.out.below HG.out.bel
      have HR := Lib.hid (show LofP (ls.map (·.1)) w (.returned (.tuple #[u7, sV])) wr from by
        rw [HXS.out]
        exact ⟨_, _, rfl, HB3.out.trans (HG.out.bel.mono hz4), ⟨l, hlk, Own.sliF (n := 2) (enc := pgCs) (hn := fun _ => rfl) HG.out.own (fun g hg => by have := HG.out.own.block g hg; exact ⟨by omega, this.2⟩), fun y hy => ((HY.out y hy).below HG.out.bel (fun q hq => hq.2)).more fun q hq => ⟨by have := hq.1; omega, by have := hq.2; have := HG.out.bel.size; omega⟩⟩, hss.sliF (enc := fun x : Int => [.int .i64 x]) (hn := fun _ => rfl) (fun g hg => by have := hss.block g hg; exact ⟨by omega, this.2⟩)⟩)
      clear hss hlk
      go_wp2
      go_ret2
      exact HR.out
end Go.Proofs.YtndillbimibecaaGreatDoor

