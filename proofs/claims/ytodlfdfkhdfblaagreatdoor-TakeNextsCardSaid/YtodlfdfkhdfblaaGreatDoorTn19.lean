/- Texts packed: NextW. -/
import Derived.Test.YtodlfdfkhdfblaaGreatDoorRows
import Derived.Test.YtodlfdfkhdfblaaGreatDoorTn02
import Derived.Test.YtodlfdfkhdfblaaGreatDoorTn15
import Derived.Test.YtodlfdfkhdfblaaGreatDoorTn14
import Derived.Test.YtodlfdfkhdfblaaGreatDoorTn11
import Derived.RegionTactic
/- The next number of a slate's takes: the program's and the reference's, walked. -/
namespace Go.Proofs.YtodlfdfkhdfblaaGreatDoor
set_option linter.unusedVariables false
open Go.RowKit

/-- A list of takes as the next number's and the next setup's walks want it. -/
structure TkL (w : World) (F : Nat → Prop) (tl : List (Tk × Value)) (v : Value) : Prop where
  sli : Sli tvR w F tl v
  out : ∀ x ∈ tl, ∃ A n c, x.2 = .slice A n c
  lt : ∀ b, F b → b < w.heap.size
  len : tl.length ≤ 1000
  bd : ∀ x ∈ tl, x.1.setup.size ≤ 1000 ∧ -1000 ≤ x.1.number ∧ x.1.number ≤ 10000
theorem TkL.below {w w' : World} {F : Nat → Prop} {tl : List (Tk × Value)} {v : Value} (h : TkL w F tl v) (hb : Below w.heap.size w w') : TkL w' F tl v :=
  ⟨h.sli.below hb h.lt, h.out, fun b hF => Nat.lt_of_lt_of_le (h.lt b hF) hb.size, h.len, h.bd⟩

theorem ret_ii {a b a' b' : Int} (h : a = a') (g : b = b') : Ending.returned (.tuple #[.int .i64 a, .int .i64 b]) = .returned (.tuple #[.int .i64 a', .int .i64 b']) := by rw [h, g]
set_option maxHeartbeats 4000000 in
theorem NextNumber_c {F : Nat → Prop} (tl : List (Tk × Value)) (tv : Value) (sc su : ByteArray) (w : World) (ht : TkL w F tl tv) (h1 : sc.size ≤ 140737488355328) (h2 : su.size ≤ 140737488355328) :
    Calls Tryz.prog 24 #[tv, .string sc, .string su] w fun e w' => e = .returned (.tuple #[.int .i64 (nnV (slateF sc su) (topN sc su (tl.map (·.1)))), .int .i64 (nnE (slateF sc su) (topN sc su (tl.map (·.1))))]) ∧ Below w.heap.size w w' := by
  obtain ⟨A2, c2, rfl, hl2, hc2⟩ := ht.sli.form
  have HT := Lib.hid ht; clear ht
  by_cases h0 : slateF sc su = 0
  case neg =>
    have hne : (slateF sc su != 0) = true := by rw [bne_iff_ne]; exact h0
    have HV := Lib.hid (show nnV (slateF sc su) (topN sc su (tl.map (·.1))) = 0 from if_neg h0)
    have HE := Lib.hid (show nnE (slateF sc su) (topN sc su (tl.map (·.1))) = slateF sc su from if_neg h0)
    clear h0
    go_enter Tryz.func24, Tryz.ntmps24
    go_wp2_with fail
    refine (slateFault_c sc su _ h1 h2).mono ?_
    rintro e w' ⟨rfl, rfl⟩
    go_wp2
    go_ret2
    exact ⟨ret_ii HV.out.symm HE.out.symm, Below.refl _ _⟩
  obtain ⟨L, hL⟩ : ∃ L, tl.length = L := ⟨_, rfl⟩
  have HL := Lib.hid hL
  rw [hL] at hl2 ⊢
  have hLL : L ≤ 1000 := by rw [← hL]; exact HT.out.len
  rw [h0]
  have H0 := Lib.hid h0
  clear hL
  go_enter Tryz.func24, Tryz.ntmps24
  go_wp2_with fail
  refine (slateFault_c sc su _ h1 h2).mono ?_
  rintro e w' ⟨rfl, rfl⟩
  rw [h0]
  clear h0
  go_wp2
  go_loopw [9, 10, 21] (fun n s i wr => ∃ k : Nat, k ≤ L ∧ i = .int .i64 k ∧ (∃ b : Bool, s = .bool b ∧ Hid (b = true ↔ numsOf sc su ((tl.take k).map (·.1)) ≠ [])) ∧ (∃ z : Int, n = .int .i64 z ∧ -1000 ≤ z ∧ z ≤ 10000 ∧ Hid (topN sc su ((tl.take k).map (·.1)) = z)) ∧ Hid (Below w.heap.size w wr) ∧ w.heap.size ≤ wr.heap.size) (fun _ _ i _ => L - (intOf i).toNat)
  case atStart => exact ⟨0, Nat.zero_le _, rfl, ⟨false, rfl, by simp [Hid, numsOf]⟩, ⟨0, rfl, by omega, by omega, rfl⟩, Below.refl _ _, Nat.le_refl _⟩
  case round =>
    obtain ⟨k, hk, rfl, ⟨b, rfl, HS⟩, ⟨z, rfl, hz1, hz2, HZ⟩, HB, hzw⟩ := hrel
    by_cases hlt : k < L
    · obtain ⟨b5, off5, rfl, hfb5, t0, t1, t2, t3, t4, t5, t6, t7, t8⟩ := tkAt (HT.out.below HB.out).sli k (by rw [HL.out]; exact hlt)
      obtain ⟨A8, n8, c8, h8⟩ := HT.out.out _ (List.getElem_mem (show k < tl.length by rw [HL.out]; exact hlt))
      have hbd := HT.out.bd _ (List.getElem_mem (show k < tl.length by rw [HL.out]; exact hlt))
      rw [h8] at t8
      have htk := List.take_succ_eq_append_getElem (show k < tl.length by rw [HL.out]; exact hlt)
      have hsn : (tl.take (k + 1)).map (·.1) = (tl.take k).map (·.1) ++ [(tl[k]'(by rw [HL.out]; exact hlt)).1] := by rw [htk, List.map_append]; rfl
      clear h8 htk
      generalize (tl[k]'(by rw [HL.out]; exact hlt)).1 = tk at *
      have HN := Lib.hid (numsOf_snoc sc su ((tl.take k).map (·.1)) tk)
      have HSN := Lib.hid hsn
      have hb5 : b5 < wr.heap.size := Nat.lt_of_lt_of_le (HT.out.lt b5 hfb5) (by omega)
      have HB1 := Lib.hid (HB.out.alloc hzw (.cells #[.string tk.scene, .string tk.setup, .int .i64 tk.number, .string tk.roll, .string tk.sound, .int .i64 tk.tin, .int .i64 tk.tout, .bool tk.good, .slice A8 n8 c8] 52))
      clear hsn HB
      by_cases q : tk.scene = sc ∧ tk.setup = su
      · have hN1 := HN.out
        rw [if_pos q] at hN1
        have HN1 := Lib.hid hN1
        have q1' : (tk.scene.toList == sc.toList) = true := by rw [q.1]; exact beq_self_eq_true _
        have q2' : (tk.setup.toList == su.toList) = true := by rw [q.2]; exact beq_self_eq_true _
        clear q hN1 HN
        cases b with
        | false =>
          have hnil : numsOf sc su ((tl.take k).map (·.1)) = [] := by
            by_cases h : numsOf sc su ((tl.take k).map (·.1)) = []
            · exact h
            · exact absurd (HS.out.2 h) (by simp)
          have HT2 := Lib.hid (show topN sc su ((tl.take (k + 1)).map (·.1)) = tk.number by
            unfold topN
            rw [HSN.out, HN1.out, maxOf_snoc, if_pos hnil])
          have HS2 := Lib.hid (show true = true ↔ numsOf sc su ((tl.take (k + 1)).map (·.1)) ≠ [] by rw [HSN.out, HN1.out]; simp)
          clear hnil HSN HN1 HS HZ
          go_wp2
          go_roundw
          case rel => exact ⟨k + 1, by omega, intNum, ⟨true, rfl, HS2⟩, ⟨tk.number, rfl, by omega, by omega, HT2⟩, HB1, by simp; omega⟩
          case measure => simp [intOf]; omega
        | true =>
          have hnn : numsOf sc su ((tl.take k).map (·.1)) ≠ [] := HS.out.1 rfl
          have hmx : topN sc su ((tl.take (k + 1)).map (·.1)) = max z tk.number := by
            have hz := HZ.out
            unfold topN at hz ⊢
            rw [HSN.out, HN1.out, maxOf_snoc, if_neg hnn, hz]
          have HS2 := Lib.hid (show true = true ↔ numsOf sc su ((tl.take (k + 1)).map (·.1)) ≠ [] by rw [HSN.out, HN1.out]; simp)
          by_cases hgt : z < tk.number
          · have HT2 := Lib.hid (show topN sc su ((tl.take (k + 1)).map (·.1)) = tk.number by rw [hmx]; omega)
            clear hnn hmx HSN HN1 HS HZ
            go_wp2
            go_roundw
            case rel => exact ⟨k + 1, by omega, intNum, ⟨true, rfl, HS2⟩, ⟨tk.number, rfl, by omega, by omega, HT2⟩, HB1, by simp; omega⟩
            case measure => simp [intOf]; omega
          · have HT2 := Lib.hid (show topN sc su ((tl.take (k + 1)).map (·.1)) = z by rw [hmx]; omega)
            have hle : tk.number ≤ z := by omega
            clear hnn hmx HSN HN1 HS HZ hgt
            go_wp2
            go_roundw
            case rel => exact ⟨k + 1, by omega, intNum, ⟨true, rfl, HS2⟩, ⟨z, rfl, hz1, hz2, HT2⟩, HB1, by simp; omega⟩
            case measure => simp [intOf]; omega
      · have hN1 := HN.out
        rw [if_neg q] at hN1
        have HS2 := Lib.hid (show b = true ↔ numsOf sc su ((tl.take (k + 1)).map (·.1)) ≠ [] by rw [HSN.out, hN1]; exact HS.out)
        have HT2 := Lib.hid (show topN sc su ((tl.take (k + 1)).map (·.1)) = z by
          have hz := HZ.out
          unfold topN at hz ⊢
          rw [HSN.out, hN1, hz])
        clear hN1 HN HSN HS HZ
        by_cases q1 : tk.scene = sc
        · have q1' : (tk.scene.toList == sc.toList) = true := by rw [q1]; exact beq_self_eq_true _
          have q2' : (tk.setup.toList == su.toList) = false := by rw [beqS]; simp; exact fun h => q ⟨q1, h⟩
          clear q q1
          go_wp2
          go_roundw
          case rel => exact ⟨k + 1, by omega, intNum, ⟨b, rfl, HS2⟩, ⟨z, rfl, hz1, hz2, HT2⟩, HB1, by simp; omega⟩
          case measure => simp [intOf]; omega
        · have q1' : (tk.scene.toList == sc.toList) = false := by rw [beqS]; simp [q1]
          clear q q1
          go_wp2
          go_roundw
          case rel => exact ⟨k + 1, by omega, intNum, ⟨b, rfl, HS2⟩, ⟨z, rfl, hz1, hz2, HT2⟩, HB1, by simp; omega⟩
          case measure => simp [intOf]; omega
    · have HT2 := Lib.hid (show topN sc su (tl.map (·.1)) = z by
        have h := HZ.out
        rw [List.take_of_length_le (by rw [HL.out]; omega)] at h
        exact h)
      by_cases h99 : 99 ≤ z
      · have HV := Lib.hid (show nnV 0 (topN sc su (tl.map (·.1))) = 0 by rw [HT2.out, nnV, if_pos rfl, if_pos h99])
        have HE := Lib.hid (show nnE 0 (topN sc su (tl.map (·.1))) = 11 by rw [HT2.out, nnE, if_pos rfl, if_pos h99])
        go_wp2
        go_ret2
        exact ⟨ret_ii HV.out.symm HE.out.symm, HB.out⟩
      · have h99' : z < 99 := by omega
        have HV := Lib.hid (show nnV 0 (topN sc su (tl.map (·.1))) = z + 1 by rw [HT2.out, nnV, if_pos rfl, if_neg h99])
        have HE := Lib.hid (show nnE 0 (topN sc su (tl.map (·.1))) = 0 by rw [HT2.out, nnE, if_pos rfl, if_neg h99])
        clear h99
        go_wp2
        go_ret2
        exact ⟨ret_ii HV.out.symm HE.out.symm, HB.out⟩

theorem le_foldl_max (l : List Int) : ∀ a : Int, a ≤ l.foldl max a := by
  induction l with
  | nil => intro a; exact Int.le_refl a
  | cons y r ih => intro a; exact Int.le_trans (Int.le_max_left a y) (ih (max a y))
theorem maxOf_ge {l : List Int} {B : Int} (h0 : 0 < l.length) (h : ∀ x ∈ l, B ≤ x) : B ≤ Lib.maxOf l := by
  cases l with
  | nil => simp at h0
  | cons y r => exact Int.le_trans (h y (by simp)) (le_foldl_max _ _)
theorem numsOf_bd {sc su : ByteArray} {l : List (Tk × Value)} {B : Int} (h : ∀ x ∈ l, B ≤ x.1.number) : ∀ z ∈ numsOf sc su (l.map (·.1)), B ≤ z := by
  intro z hz
  simp only [numsOf, List.mem_map, List.mem_filter] at hz
  obtain ⟨t, ⟨⟨x, hx, rfl⟩, _⟩, rfl⟩ := hz
  exact h x hx
set_option maxRecDepth 100000 in
set_option maxHeartbeats 4000000 in
theorem NextNumberOf_c {F : Nat → Prop} (tl : List (Tk × Value)) (tv : Value) (sc su : ByteArray) (w : World) (ht : TkL w F tl tv) :
    Calls Tryz.prog 27 #[tv, .string sc, .string su] w fun e w' => e = .returned (.int .i64 (nextN sc su (tl.map (·.1)))) ∧ Below w.heap.size w w' := by
  obtain ⟨A2, c2, rfl, hl2, hc2⟩ := ht.sli.form
  have HT := Lib.hid ht
  obtain ⟨L, hL⟩ : ∃ L, tl.length = L := ⟨_, rfl⟩
  have HL := Lib.hid hL
  have hLL : L ≤ 1000 := by rw [← hL]; exact ht.len
  rw [hL] at hl2 ⊢
  have hmn := @run_min Tryz.prog
  obtain ⟨i0, hi0, hz0, hz1, hz2⟩ := info_parts (show (Tryz.prog.info? 3).map (fun i => (i.zero, i.size, i.bytes)) = some (some (.int .i64 0), 1, 8) by kernel_rfl)
  clear hL ht
  go_enter Tryz.func27, Tryz.ntmps27
  go_wp2
  go_loopw [7, 12] (fun v i wr => ∃ k : Nat, k ≤ L ∧ i = .int .i64 k ∧ Hid (BO intR 3 w (numsOf sc su ((tl.take k).map (·.1))) v [] wr) ∧ (numsOf sc su ((tl.take k).map (·.1))).length ≤ k ∧ w.heap.size ≤ wr.heap.size) (fun _ i _ => L - (intOf i).toNat)
  case atStart => exact ⟨0, Nat.zero_le _, rfl, BO.start w, by simp [numsOf], Nat.le_refl _⟩
  case round =>
    obtain ⟨k, hk, rfl, HG, hnl, hzw⟩ := hrel
    by_cases hlt : k < L
    · obtain ⟨b5, off5, rfl, hfb5, t0, t1, t2, t3, t4, t5, t6, t7, t8⟩ := tkAt (HT.out.below HG.out.bel).sli k (by rw [HL.out]; exact hlt)
      obtain ⟨A8, n8, c8, h8⟩ := HT.out.out _ (List.getElem_mem (show k < tl.length by rw [HL.out]; exact hlt))
      rw [h8] at t8
      have htk := List.take_succ_eq_append_getElem (show k < tl.length by rw [HL.out]; exact hlt)
      have hsn : (tl.take (k + 1)).map (·.1) = (tl.take k).map (·.1) ++ [(tl[k]'(by rw [HL.out]; exact hlt)).1] := by rw [htk, List.map_append]; rfl
      clear h8 htk
      generalize (tl[k]'(by rw [HL.out]; exact hlt)).1 = tk at *
      have hN := numsOf_snoc sc su ((tl.take k).map (·.1)) tk
      rw [← hsn] at hN
      generalize numsOf sc su ((tl.take k).map (·.1)) = nk at *
      have hb5 : b5 < wr.heap.size := Nat.lt_of_lt_of_le (HT.out.lt b5 hfb5) (by omega)
      have HB1 := Lib.hid (HG.out.alloc (.cells #[.string tk.scene, .string tk.setup, .int .i64 tk.number, .string tk.roll, .string tk.sound, .int .i64 tk.tin, .int .i64 tk.tout, .bool tk.good, .slice A8 n8 c8] 52))
      clear hsn
      by_cases q : tk.scene = sc ∧ tk.setup = su
      · rw [if_pos q] at hN
        have HN1 := Lib.hid hN
        have q1' : (tk.scene.toList == sc.toList) = true := by rw [q.1]; exact beq_self_eq_true _
        have q2' : (tk.setup.toList == su.toList) = true := by rw [q.2]; exact beq_self_eq_true _
        clear q hN
        go_upto_region 6 with (fail)
        generalize hW : wr.alloc (.cells #[.string tk.scene, .string tk.setup, .int .i64 tk.number, .string tk.roll, .string tk.sound, .int .i64 tk.tin, .int .i64 tk.tout, .bool tk.good, .slice A8 n8 c8] 52) = w5 at *
        have d2 : w5.cell? ⟨wr.heap.size, 2, none⟩ = some (.int .i64 tk.number) := by rw [← hW]; exact ((str_cells (heap_alloc_new wr _)).1 2).trans rfl
        have hz5 : w5.heap.size = wr.heap.size + 1 := by rw [← hW]; simp
        have hw5 : wr.heap.size < w5.heap.size := by omega
        clear hW hz5 t0 t1 t2 t3 t4 t5 t6 t7 t8
        go_wp2_with (at_builtin; (refine wpList_pushB (R := intR) rfl _ _ _ rfl w.heap.size w.heap.size 3 i0 _ 8 Tryz.underlying22 hi0 hz0 (by assumption) (by assumption) rfl (by decide) _ u7 nk rfl (HB1.out.own.alloc _) tk.number _ rfl (oneC rfl) w5.heap.size _ _ (heap_alloc_new w5 _) rfl (by simp [maxLen]; omega) (by omega) (by simp; omega) ?_); intro g cap w6 hown6 hg6 hat6 hlt6)
        have hz6 := hg6.size
        simp at hz6
        go_roundw
        case rel => exact ⟨k + 1, by omega, intNum, by rw [HN1.out]; exact (HB1.out.alloc _).more hown6 hg6 rfl hat6, by rw [HN1.out, List.length_append]; simp; omega, by omega⟩
        case measure => simp [intOf]; omega
      · rw [if_neg q] at hN
        have HN1 := Lib.hid hN
        clear hN
        by_cases q1 : tk.scene = sc
        · have q1' : (tk.scene.toList == sc.toList) = true := by rw [q1]; exact beq_self_eq_true _
          have q2' : (tk.setup.toList == su.toList) = false := by rw [beqS]; simp; exact fun h => q ⟨q1, h⟩
          clear q q1
          go_wp2
          go_roundw
          case rel => exact ⟨k + 1, by omega, intNum, by rw [HN1.out]; exact HB1, by rw [HN1.out]; omega, by simp; omega⟩
          case measure => simp [intOf]; omega
        · have q1' : (tk.scene.toList == sc.toList) = false := by rw [beqS]; simp [q1]
          clear q q1
          go_wp2
          go_roundw
          case rel => exact ⟨k + 1, by omega, intNum, by rw [HN1.out]; exact HB1, by rw [HN1.out]; omega, by simp; omega⟩
          case measure => simp [intOf]; omega
    · have HE := Lib.hid (show numsOf sc su (tl.map (·.1)) = numsOf sc su ((tl.take k).map (·.1)) by rw [List.take_of_length_le (by rw [HL.out]; omega)])
      generalize numsOf sc su ((tl.take k).map (·.1)) = nk at *
      have HV := Lib.hid (nextN_top sc su (tl.map (·.1)))
      have HNX := Lib.hid (show numsOf sc su (tl.map (·.1)) = [] → nextN sc su (tl.map (·.1)) = 1 from fun h => if_pos h)
      rcases Nat.eq_zero_or_pos nk.length with h0 | h0
      · obtain rfl : nk = [] := List.length_eq_zero_iff.1 h0
        have HR := Lib.hid (HNX.out HE.out)
        obtain ⟨A5, c5, rfl, _, _⟩ := (HG.out.own.sli (F := fun _ => True) (fun _ _ _ => trivial) (fun _ _ => trivial)).form
        go_wp2
        go_ret
        exact ⟨ret_int HR.out.symm, HG.out.bel⟩
      · obtain ⟨g, cap, rfl, hgb, hgl, hlc, hcm⟩ : ∃ g cap, u7 = .slice (some ⟨g, 0, none⟩) nk.length cap ∧ w.heap.size ≤ g ∧ g < wr.heap.size ∧ nk.length ≤ cap ∧ cap ≤ 9223372036854775807 := by
          rcases HG.out.own.form with ⟨_, h⟩ | h
          · rw [h] at h0; simp at h0
          · exact h
        have HC := Lib.hid (show ∀ j, j < nk.length → wr.cell? ⟨g, 0 + j, none⟩ = some (.int .i64 (nk.getD j 0)) from fun j hj => by
          have h := (Own.cellAt (n := 1) (enc := fun x => [.int .i64 x]) (hn := fun _ => rfl) HG.out.own j hj 0 (by decide)).1
          rw [show j * 1 + 0 = 0 + j by omega] at h
          rw [h, List.getD_eq_getElem?_getD, List.getElem?_eq_getElem hj]
          rfl)
        have HR := Lib.hid (show nextN sc su (tl.map (·.1)) = minI (Lib.maxOf (nk.take nk.length)) 99 + 1 by rw [HV.out, minI_eq]; unfold topN; rw [HE.out, List.take_length])
        have hbd : minI (Lib.maxOf (nk.take nk.length)) 99 ≤ 99 ∧ -1000 ≤ minI (Lib.maxOf (nk.take nk.length)) 99 := by
          have h := maxOf_ge (l := nk) (B := -1000) h0 (by rw [← HE.out]; exact numsOf_bd (fun x hx => (HT.out.bd x hx).2.1))
          rw [minI_eq, List.take_length]; omega
        have hc := Tryz.slices_Max_int g 0 nk.length cap nk wr h0 (Nat.le_refl _) (by omega) HC.out
        have HCC := Lib.hid hc
        generalize Lib.maxOf (nk.take nk.length) = mo at *
        generalize hmm : minI mo 99 = mm at *
        have HB := Lib.hid HG.out.bel
        clear hc HG
        go_wp2_with fail
        refine HCC.out.mono ?_
        rintro e w7 ⟨rfl, rfl⟩
        go_wp2
        go_ret
        exact ⟨ret_int HR.out.symm, HB.out⟩
end Go.Proofs.YtodlfdfkhdfblaaGreatDoor

