/- Texts packed: RdC. -/
import Derived.Test.YtndillbimibecaaGreatDoorSc20
import Derived.Test.YtndillbimibecaaGreatDoorSc01
/- The reader of scripts: a line behind an empty one. -/
namespace Go.Proofs.YtndillbimibecaaGreatDoor
set_option linter.unusedVariables false
open Go.RowKit Go.Sort

theorem trimPre {s p : ByteArray} (h : Lib.hasPrefix s.data.toList p.data.toList = true) : (⟨(Lib.trimPrefix s.data.toList p.data.toList).toArray⟩ : ByteArray) = s.extract p.size s.size := by
  unfold Lib.trimPrefix
  rw [if_pos h]
  apply ba_ext
  rw [extract_list]
  show s.data.toList.drop p.data.toList.length = (s.data.toList.drop p.size).take (s.size - p.size)
  rw [List.take_of_length_le (by simp)]
  simp
theorem trimNo {s p : ByteArray} (h : Lib.hasPrefix s.data.toList p.data.toList = false) : (⟨(Lib.trimPrefix s.data.toList p.data.toList).toArray⟩ : ByteArray) = s := by
  unfold Lib.trimPrefix
  rw [if_neg (by rw [h]; decide)]
/-- A scene more has come. -/
theorem RdO.head {w w' : World} {R0 m : Nat} {o : Option Rd} {t : ByteArray} {l : List (Scene × Value)} {v u : Value} {x : Scene} (hb : RdB m l) (hx : x.paras = []) (hG : RdG w R0 t (l ++ [(x, u)]) v 3 w') (ho : o = some ⟨t, l.map (·.1) ++ [x], 3⟩) : RdO w R0 (m + 1) o (.returned (.bool true)) w' :=
  .inl ⟨_, l ++ [(x, u)], v, ho, rfl, by simp, ⟨by rw [List.length_append]; have := hb.1; simp; omega, fun y hy => by
    rcases List.mem_append.1 hy with hy | hy
    · have := hb.2 y hy; omega
    · rw [List.mem_singleton] at hy; subst hy; show x.paras.length ≤ m + 1; rw [hx]; simp⟩, hG⟩
theorem headFrom_paras {line : ByteArray} {x : Scene} (h : headFrom line = some x) : x.paras = [] := by
  unfold headFrom headR at h
  split at h
  · cases h
  · split at h
    · cases h
    · injection h with h; rw [← h]

set_option maxRecDepth 100000 in
set_option maxHeartbeats 8000000 in
theorem beginsH_c (w wx : World) (R0 m : Nat) (t : ByteArray) (l : List (Scene × Value)) (v : Value) (wh : Int) (s : ByteArray) (h : RdG w R0 t l v wh wx) (hb : RdB m l) (hm : m ≤ 1000000) (hs0 : 0 < s.size) (hs : s.size ≤ 1000000) (hml : MaxLaid wx) (hq : s[0] = 35) :
    Calls Tryz.prog 98 #[.pointer (some ⟨R0, 0, none⟩), .string s] wx (RdO w R0 (m + 1) (beginsR ⟨t, l.map (·.1), wh⟩ s)) := by
  obtain ⟨i0, hi0, hz0, hz1, hz2⟩ := info_parts (show (Tryz.prog.info? 49).map (fun i => (i.zero, i.size, i.bytes)) = some (some (.agg #[.string ⟨#[]⟩, .int .i64 0, .string ⟨#[]⟩, .int .i64 0, .slice none 0 0]), 5, 72) by kernel_rfl)
  have HB := Lib.hid hb
  have HBE := Lib.hid h.bo.bel
  have hll : l.length ≤ 1000000 := Nat.le_trans hb.1 hm
  have e0 := byteAt_eq hs0
  have HS := Lib.hid (show beginsR ⟨t, l.map (·.1), wh⟩ s = if Lib.hasPrefix s.data.toList (⟨#[35, 32]⟩ : ByteArray).data.toList = true then Rd.scene ⟨t, l.map (·.1), wh⟩ (headFrom (s.extract 2 s.size)) else none from if_pos (e0.trans hq))
  have p0 : (0 : Int) < s.size := by omega
  have qa : ((s[0].toNat : Int) == 35) = true := by rw [hq]; rfl
  have HG := Lib.hid h
  have HCP := Lib.hid (Tryz.strings_CutPrefix s ⟨#[35, 32]⟩ wx)
  have HPR := Lib.hid (@trimPre s ⟨#[35, 32]⟩)
  have HPN := Lib.hid (@trimNo s ⟨#[35, 32]⟩)
  clear h hb e0 hq
  cases hp : Lib.hasPrefix s.data.toList (⟨#[35, 32]⟩ : ByteArray).data.toList with
  | false =>
    have HR := Lib.hid (HS.out.trans (if_neg (by rw [hp]; decide)))
    have HPE := Lib.hid (HPN.out hp)
    have HRH := Lib.hid (ReadHeading_c s wx hs hml)
    have HP := Lib.hid hp
    clear hp
    cases hh : headFrom s with
    | none =>
      have HH := Lib.hid hh
      clear hh
      go_enter Tryz.func98, Tryz.ntmps98
      go_wp2_with (first | (go_at_call 53; refine HCP.out.mono ?_; rintro e w' ⟨rfl, rfl⟩; rw [HPE.out, HP.out]) | (go_at_call 138; refine HRH.out.mono ?_; rintro e w2 ⟨rfl, hb2⟩; rw [HH.out]; rw [show rhV none = .tuple #[.agg #[.string ⟨#[]⟩, .int .i64 0, .string ⟨#[]⟩, .int .i64 0, .slice none 0 0], .int .i64 9] from rfl]) | fail)
      go_ret
      exact RdO.no HR.out ((HBE.out.trans (hb2.mono HBE.out.size)).alloc (by have := HBE.out.size; have := hb2.size; omega) _)
    | some x =>
      have HH := Lib.hid hh
      clear hh
      go_enter Tryz.func98, Tryz.ntmps98
      go_wp2_with (first | (go_at_call 53; refine HCP.out.mono ?_; rintro e w' ⟨rfl, rfl⟩; rw [HPE.out, HP.out]) | (go_at_call 138; refine HRH.out.mono ?_; rintro e w2 ⟨rfl, hb2⟩; rw [HH.out]; rw [show rhV (some x) = .tuple #[.agg #[.string x.no, .int .i64 x.place, .string x.set, .int .i64 x.time, .slice none 0 0], .int .i64 0] from rfl]) | fail)
      go_ret
      exact RdO.no HR.out ((HBE.out.trans (hb2.mono HBE.out.size)).alloc (by have := HBE.out.size; have := hb2.size; omega) _)
  | true =>
    have HS1 := Lib.hid (HS.out.trans (if_pos hp))
    have HPE := Lib.hid (show (⟨(Lib.trimPrefix s.data.toList (⟨#[35, 32]⟩ : ByteArray).data.toList).toArray⟩ : ByteArray) = s.extract 2 s.size from HPR.out hp)
    have hqs : (s.extract 2 s.size).size ≤ 1000000 := by rw [ByteArray.size_extract]; omega
    have HRH := Lib.hid (ReadHeading_c (s.extract 2 s.size) wx hqs hml)
    have HP := Lib.hid hp
    clear hp HS HPR HPN
    generalize s.extract 2 s.size = q at *
    cases hh : headFrom q with
    | none =>
      have HR := Lib.hid (HS1.out.trans (by rw [hh]; first | done | rfl))
      have HH := Lib.hid hh
      clear hh
      go_enter Tryz.func98, Tryz.ntmps98
      go_wp2_with (first | (go_at_call 53; refine HCP.out.mono ?_; rintro e w' ⟨rfl, rfl⟩; rw [HPE.out, HP.out]) | (go_at_call 138; refine HRH.out.mono ?_; rintro e w2 ⟨rfl, hb2⟩; rw [HH.out]; rw [show rhV none = .tuple #[.agg #[.string ⟨#[]⟩, .int .i64 0, .string ⟨#[]⟩, .int .i64 0, .slice none 0 0], .int .i64 9] from rfl]) | fail)
      go_ret
      exact RdO.no HR.out ((HBE.out.trans (hb2.mono HBE.out.size)).alloc (by have := HBE.out.size; have := hb2.size; omega) _)
    | some x =>
      have HR := Lib.hid (HS1.out.trans (by rw [hh]; first | done | rfl))
      have HX := Lib.hid (headFrom_paras hh)
      have HH := Lib.hid hh
      clear hh HS1
      go_enter Tryz.func98, Tryz.ntmps98
      go_upto_region 6 with (first | (go_at_call 53; refine HCP.out.mono ?_; rintro e w' ⟨rfl, rfl⟩; rw [HPE.out, HP.out]) | (go_at_call 138; refine HRH.out.mono ?_; rintro e w2 ⟨rfl, hb2⟩; rw [HH.out]; rw [show rhV (some x) = .tuple #[.agg #[.string x.no, .int .i64 x.place, .string x.set, .int .i64 x.time, .slice none 0 0], .int .i64 0] from rfl]) | fail)
      have hG2 := (HG.out.below hb2).new (scC x.no x.place x.set x.time (.slice none 0 0)) 49
      generalize hW : w2.alloc (.cells #[.string x.no, .int .i64 x.place, .string x.set, .int .i64 x.time, .slice none 0 0] 49) = w3
      have G3 := Lib.hid (show ScN w l v [(w2.heap.size, scC x.no x.place x.set x.time (.slice none 0 0), 49), (R0, rdCs t v wh, 97)] w3 by rw [← hW]; exact hG2)
      clear hG2 hW HG HRH HCP hb2
      generalize w2.heap.size = X at *
      obtain ⟨z0, z1, z2, z3, z4⟩ := sc_cells (G3.out.cell (p := (X, scC x.no x.place x.set x.time (.slice none 0 0), 49)) (by simp))
      have r1 : w3.cell? ⟨R0, 1, none⟩ = some v := (G3.out.cell (p := (R0, rdCs t v wh, 97)) (by simp)).1 1
      have hX := G3.out.bo.plt (p := (X, scC x.no x.place x.set x.time (.slice none 0 0), 49)) (by simp)
      have hR0 := G3.out.bo.plt (p := (R0, rdCs t v wh, 97)) (by simp)
      have hXv := (G3.out.bo.prv (X, scC x.no x.place x.set x.time (.slice none 0 0), 49) (by simp)).2.2
      have hRv := (G3.out.bo.prv (R0, rdCs t v wh, 97) (by simp)).2.2
      dsimp only at hX hR0 hXv hRv
      have HXV := Lib.hid hXv
      have HRV := Lib.hid hRv
      have HW3 := Lib.hid G3.out.bo.size
      clear hXv hRv
      obtain ⟨ι, ff, hne, hff, hfS⟩ := family (fun W => W.cell? ⟨R0, 1, none⟩ = some v ∧ W.cell? ⟨X, 0, none⟩ = some (.string x.no) ∧ W.cell? ⟨X, 1, none⟩ = some (.int .i64 x.place) ∧ W.cell? ⟨X, 2, none⟩ = some (.string x.set) ∧ W.cell? ⟨X, 3, none⟩ = some (.int .i64 x.time) ∧ W.cell? ⟨X, 4, none⟩ = some (.slice none 0 0)) w3 ⟨r1, z0, z1, z2, z3, z4⟩
      have hneW : Nonempty World := ⟨w⟩
      have s0 := fun p => (hff p).1
      have s1 := fun p => (hff p).2.1
      have s2 := fun p => (hff p).2.2.1
      have s3 := fun p => (hff p).2.2.2.1
      have s4 := fun p => (hff p).2.2.2.2.1
      have s5 := fun p => (hff p).2.2.2.2.2
      have HFS := Lib.hid hfS
      have HZ := Lib.hid (show w3.cell? ⟨R0, 1, none⟩ = some v ∧ w3.cell? ⟨X, 0, none⟩ = some (.string x.no) ∧ w3.cell? ⟨X, 1, none⟩ = some (.int .i64 x.place) ∧ w3.cell? ⟨X, 2, none⟩ = some (.string x.set) ∧ w3.cell? ⟨X, 3, none⟩ = some (.int .i64 x.time) ∧ w3.cell? ⟨X, 4, none⟩ = some (.slice none 0 0) from ⟨r1, z0, z1, z2, z3, z4⟩)
      clear hff hfS r1 z0 z1 z2 z3 z4
      refine wp_region_segs2 [7, 8] [] [] [([0, 1, 2, 3, 4], [5, 6], 7), ([], [], 8), ([9, 10, 11], [], 12)] (by kernel_rfl) (by kernel_rfl) (fun _ _ _ dd _ h => by cases dd <;> exact h) (fun W => ∃ p : ι, W = ff p) (HFS.out _ HZ.out) ?_
      refine wpSegs2_step (by simp only [pick, List.getElem?_cons_succ, List.getElem?_cons_zero]; rfl) (by simp only [pick, List.getElem?_cons_succ, List.getElem?_cons_zero]; rfl) rfl (fun K0 hK0 L0 hL0 => ?_)
      repeat (first | go_big_quiet_step (fail) | quiet_step (fail))
      refine wpQuiet_nil (hL0 _ ?_)
      repeat (first | go_big_quiet_step (fail) | quiet_step (fail))
      refine wpQuiet_nil ?_
      go_simp
      have G4 := Lib.hid ((G3.out.alloc (.cells #[.string x.no, .int .i64 x.place, .string x.set, .int .i64 x.time, .slice none 0 0] 49)).drew)
      have hz3 : (w3.alloc (.cells #[.string x.no, .int .i64 x.place, .string x.set, .int .i64 x.time, .slice none 0 0] 49)).drew.heap.size = w3.heap.size + 1 := (show (w3.alloc (.cells #[.string x.no, .int .i64 x.place, .string x.set, .int .i64 x.time, .slice none 0 0] 49)).heap.size = w3.heap.size + 1 by simp)
      have HZ4 := Lib.hid (show ∀ (b i : Nat), b < w3.heap.size → (w3.alloc (.cells #[.string x.no, .int .i64 x.place, .string x.set, .int .i64 x.time, .slice none 0 0] 49)).drew.cell? ⟨b, i, none⟩ = w3.cell? ⟨b, i, none⟩ from fun b i hb => World.cell?_alloc_lt w3 _ ⟨b, i, none⟩ hb)
      have hnew : (w3.alloc (.cells #[.string x.no, .int .i64 x.place, .string x.set, .int .i64 x.time, .slice none 0 0] 49)).drew.heap[w3.heap.size]? = some (.cells #[.string x.no, .int .i64 x.place, .string x.set, .int .i64 x.time, .slice none 0 0] 49 (0, 0)) := heap_alloc_new w3 (.cells #[.string x.no, .int .i64 x.place, .string x.set, .int .i64 x.time, .slice none 0 0] 49)
      generalize (w3.alloc (.cells #[.string x.no, .int .i64 x.place, .string x.set, .int .i64 x.time, .slice none 0 0] 49)).drew = w4 at *
      have HK4 := Lib.hid (show w4.cell? ⟨R0, 1, none⟩ = some v ∧ w4.cell? ⟨X, 0, none⟩ = some (.string x.no) ∧ w4.cell? ⟨X, 1, none⟩ = some (.int .i64 x.place) ∧ w4.cell? ⟨X, 2, none⟩ = some (.string x.set) ∧ w4.cell? ⟨X, 3, none⟩ = some (.int .i64 x.time) ∧ w4.cell? ⟨X, 4, none⟩ = some (.slice none 0 0) from ⟨(HZ4.out _ _ hR0).trans HZ.out.1, (HZ4.out _ _ hX).trans HZ.out.2.1, (HZ4.out _ _ hX).trans HZ.out.2.2.1, (HZ4.out _ _ hX).trans HZ.out.2.2.2.1, (HZ4.out _ _ hX).trans HZ.out.2.2.2.2.1, (HZ4.out _ _ hX).trans HZ.out.2.2.2.2.2⟩)
      have HNEW := Lib.hid hnew
      have hw3 := HW3.out
      clear hnew
      refine hK0 (fun W => ∃ p : ι, W = ff p) _ _ (fun _ h => h) (HFS.out _ HK4.out) ?_
      refine wpSegs2_step (by simp only [pick, List.getElem?_cons_succ, List.getElem?_cons_zero]; rfl) (by simp only [pick, List.getElem?_cons_succ, List.getElem?_cons_zero]; rfl) rfl (fun K1 hK1 L1 hL1 => ?_)
      repeat (first | go_big_quiet_step (fail) | quiet_step (fail))
      refine wpQuiet_nil (hL1 _ ?_)
      repeat (first | go_big_quiet_step (fail) | quiet_step (fail))
      refine wpQuiet_nil ?_
      refine oper_push (R := svR) rfl _ _ _ rfl w.heap.size w.heap.size 49 i0 _ 72 Tryz.underlying26 hi0 hz0 hz1 hz2 rfl (by decide) w4 v l rfl G4.out.bo.own ((x, .slice none 0 0) : Scene × Value) _ rfl (oneC rfl) w3.heap.size _ _ HNEW.out rfl (by unfold maxLen; omega) (by omega) (by omega) ?_
      intro g cap w8 hown8 hg8 hat8 hlt8
      have hR8 := hg8.block R0 (by omega) HRV.out.symm
      have hX8 := hg8.block X (by omega) HXV.out.symm
      have f8 : w8.frozen? ⟨R0, 1, none⟩ = false := (World.frozen?_of_block hR8).trans ((G4.out.cell (p := (R0, rdCs t v wh, 97)) (by simp)).2 1)
      have f9 : w8.frozen? ⟨R0, 2, none⟩ = false := (World.frozen?_of_block hR8).trans ((G4.out.cell (p := (R0, rdCs t v wh, 97)) (by simp)).2 2)
      have c8 : w8.cell? ⟨R0, 1, none⟩ = some v := (World.cell?_of_block hR8).trans HK4.out.1
      have c9 : w8.cell? ⟨R0, 2, none⟩ = some (.int .i64 wh) := (World.cell?_of_block hR8).trans ((G4.out.cell (p := (R0, rdCs t v wh, 97)) (by simp)).1 2)
      refine hK1 (fun W => ∃ p : ι, W = ff p) _ _ (fun _ h => h) (HFS.out _ ⟨c8, (World.cell?_of_block hX8).trans HK4.out.2.1, (World.cell?_of_block hX8).trans HK4.out.2.2.1, (World.cell?_of_block hX8).trans HK4.out.2.2.2.1, (World.cell?_of_block hX8).trans HK4.out.2.2.2.2.1, (World.cell?_of_block hX8).trans HK4.out.2.2.2.2.2⟩) ?_
      have hG8 := NS.push G4.out hown8 hg8 rfl hat8 HX.out rfl
      have hG9 := NS.set (i := 1) (NS.less (Q := [(R0, rdCs t v wh, 97)]) hG8 (by simp)) (.slice (some ⟨g, 0, none⟩) (l.length + 1) cap) (fun p hp => by cases hp)
      have G10 := Lib.hid (show RdG w R0 t (l ++ [(x, .slice none 0 0)]) (.slice (some ⟨g, 0, none⟩) (l.length + 1) cap) 3 _ from NS.set (i := 2) hG9 (.int .i64 3) (fun p hp => by cases hp))
      clear hG8 hG9 hown8 hg8 hat8 hR8 hX8 HK4 HZ4 HZ HNEW
      refine wpSegs2_last (by simp only [pick, List.getElem?_cons_succ, List.getElem?_cons_zero]; rfl) (by simp only [pick, List.getElem?_cons_succ, List.getElem?_cons_zero]; rfl) rfl (by rfl) (fun K2 hK2 L2 hL2 => ?_)
      repeat (first | go_big_quiet_step (fail) | quiet_step (fail))
      refine wpQuiet_nil (hL2 _ ?_)
      repeat (first | go_big_quiet_step (fail) | quiet_step (fail))
      refine wpQuiet_nil ?_
      go_simp
      refine hK2 _ _ (wpSegs2_end ?_)
      clear s0 s1 s2 s3 s4 s5
      go_wp2
      go_ret
      exact RdO.head HB.out HX.out G10.out HR.out
end Go.Proofs.YtndillbimibecaaGreatDoor

