/- Texts packed: CodeU. -/
import Derived.Test.YtnjbbkocobegiaaGreatDoorRows
import Derived.Test.YtnjbbkocobegiaaGreatDoorPe06
import Derived.Test.YtnjbbkocobegiaaGreatDoorPe13
import Derived.Test.YtnjbbkocobegiaaGreatDoorPe03
import Derived.Test.YtnjbbkocobegiaaGreatDoorPe02
import Derived.Shelf.Strings.FieldsFuncGrows
/- The reference's reader of codes. -/
namespace Go.Proofs.YtnjbbkocobegiaaGreatDoor
set_option linter.unusedVariables false
open Go.RowKit Go.Sort

/-- A slice of strings that a library's call hands back, as a list. -/
theorem own_strs {w : World} {B e n : Nat} {A : Nat} {l : List ByteArray} (h : w.ownsRow B e 1 (.slice (some ⟨A, 0, none⟩) n n) n (l.map Value.string)) (hn : n = l.length) : (∀ (k : Nat) (hk : k < l.length), w.cell? ⟨A, k, none⟩ = some (.string l[k])) ∧ (0 < n → B ≤ A ∧ A < w.heap.size) := by
  subst hn
  obtain ⟨_, h⟩ := h
  rcases h with ⟨hv, _⟩ | ⟨g, cap, cur, hv, hb, hg, _, _, _, ht⟩
  · cases hv
  · injection hv with hv _ hc
    injection hv with hv
    injection hv with hv
    subst hv
    refine ⟨fun k hk => ?_, fun _ => ⟨hb, heap_lt hg⟩⟩
    rw [(str_cells hg).1]
    have : (cur.toList.take (l.length * 1))[k]? = some (.string l[k]) := by rw [ht]; simp [hk]
    rw [List.getElem?_take] at this
    split at this
    · simpa using this
    · cases this

theorem fig_eq (s : ByteArray) : allB (([48, 49, 50, 51, 52, 53, 54, 55, 56, 57] : List UInt8).contains ·) s = allB figB s := allB_congr (by decide +kernel) s

theorem codeFrom1_p (w : World) : PredGrows Tryz.prog 152 #[] isCol w := by
  intro W x hx hb
  show Calls Tryz.prog _ #[.int .i32 (x : Int)] W _
  by_cases h1 : x = 58
  · subst h1
    go_enter Tryz.func152, Tryz.ntmps152
    go_wp2
    go_ret
    exact ⟨rfl, Below.refl _ _⟩
  · have e1 : ((x : Int) == 58) = false := by rw [beq_eq_false_iff_ne]; omega
    by_cases h2 : x = 59
    · subst h2
      go_enter Tryz.func152, Tryz.ntmps152
      go_wp2
      go_ret
      exact ⟨rfl, Below.refl _ _⟩
    · have e2 : ((x : Int) == 59) = false := by rw [beq_eq_false_iff_ne]; omega
      go_enter Tryz.func152, Tryz.ntmps152
      go_wp2
      go_ret
      exact ⟨ret_bool (by simp [isCol, h1, h2]), Below.refl _ _⟩
theorem fld_size {p : Nat → Bool} {s f : ByteArray} (h : f ∈ Lib.goFieldsP p s) : f.size ≤ s.size := by
  unfold Lib.goFieldsP at h
  obtain ⟨x, _, rfl⟩ := List.mem_map.1 h
  rw [ByteArray.size_extract]
  omega
def fldsOk (F : List ByteArray) (k : Nat) (l : List Int) : Prop := ∀ j, j < k → ∀ f, F[j]? = some f → fldOk f ∧ l[j]? = some (fldV f)
theorem fldsOk.next {F : List ByteArray} {k : Nat} {l : List Int} (h : fldsOk F k l) (hk : k < l.length) (hF : k < F.length) (hp : fldOk F[k]) : fldsOk F (k + 1) (l.set k (fldV F[k])) := by
  intro j hj f hf
  by_cases e : j = k
  · subst e
    rw [List.getElem?_eq_getElem hF] at hf
    injection hf with hf
    subst hf
    exact ⟨hp, by simp [hk]⟩
  · obtain ⟨a, b⟩ := h j (by omega) f hf
    exact ⟨a, by rw [List.getElem?_set_ne (by omega)]; exact b⟩

set_option maxRecDepth 100000 in
set_option maxHeartbeats 4000000 in
theorem CodeFrom_c (r : Int) (s : ByteArray) (w : World) (hr : isRateB r = true) (hs : s.size ≤ 1000000000) (hl : ErrsLaid w) :
    Calls Tryz.prog 114 #[.int .i64 r, .string s] w fun e w' => readR r s e ∧ Below w.heap.size w w' := by
  have HR := Lib.hid hr
  have HL := Lib.hid hl
  clear hl
  obtain ⟨F, hF⟩ : ∃ F, Lib.goFieldsP isCol s = F := ⟨_, rfl⟩
  have hFs : ∀ f ∈ F, f.size ≤ s.size := fun f hf => fld_size (p := isCol) (by rw [hF]; exact hf)
  have HFS := Lib.hid hFs
  clear hFs
  go_enter Tryz.func114, Tryz.ntmps114
  go_wp2_with fail
  refine (rateOf_c r _).mono ?_
  rintro e w' ⟨rfl, rfl⟩
  go_wp2_with fail
  refine (Tryz.strings_FieldsFunc_grows 152 #[] (fun _ _ => by kernel_rfl) isCol s _ (by omega) (codeFrom1_p _)).mono ?_
  rintro e w1 ⟨A, rfl, hA, hown, hb⟩
  rw [hF] at hown ⊢
  have HF := Lib.hid hF; clear hF
  obtain ⟨hfc, hfb⟩ := own_strs hown rfl
  have HFC := Lib.hid hfc; clear hfc hown
  by_cases h4 : F.length = 4
  · have hz := hb.size
    have hA1 := (hfb (by omega)).2
    have HB := Lib.hid hb
    clear hb hfb
    have H4 := Lib.hid h4
    rw [h4]
    clear h4
    go_wp2
    go_loopw [34] (fun i wr => ∃ (k : Nat) (l : List Int), k ≤ 4 ∧ i = .int .i64 k ∧ Below w1.heap.size w1 wr ∧ w1.heap.size < wr.heap.size ∧ Hid (FourL wr w1.heap.size l) ∧ Hid (fldsOk F k l)) (fun i _ => 4 - (intOf i).toNat)
    case atStart => exact ⟨0, [0, 0, 0, 0], by omega, rfl, (Below.refl _ _).alloc (Nat.le_refl _) _, by simp, ⟨rfl, _, heap_alloc_new w1 _⟩, fun j hj => absurd hj (by omega)⟩
    case round =>
      obtain ⟨k, l, hk, rfl, hb, hlt, HFL, HO⟩ := hrel
      by_cases hk4 : k < 4
      · have hkF : k < F.length := by rw [H4.out]; exact hk4
        have hkl : k < l.length := by rw [HFL.out.1]; exact hk4
        obtain ⟨f, hf⟩ : ∃ f, F[k] = f := ⟨_, rfl⟩
        have hfk := HFC.out k hkF
        rw [hf, ← hb.cell (p := ⟨A, k, none⟩) hA1] at hfk
        have hfs := HFS.out _ (List.getElem_mem hkF)
        rw [hf] at hfs
        have HFk := Lib.hid (show F[k]? = some f by rw [List.getElem?_eq_getElem hkF, hf])
        have HLr := Lib.hid ((HL.out.below HB.out (Nat.le_refl _)).below hb (Nat.le_refl _))
        go_wp2_with fail
        refine (atoi_c f _ (by omega) HLr.out).mono ?_
        rintro e w2 ⟨n, ev, hP, rfl, hb2⟩
        have hz2 := hb2.size
        have HB2 := Lib.hid (hb.trans (hb2.mono hb.size))
        have HFL2 := Lib.hid (show FourL w2 w1.heap.size l from ⟨HFL.out.1, by obtain ⟨T, hT⟩ := HFL.out.2; exact ⟨T, (hb2.block _ hlt).trans hT⟩⟩)
        have hlt2 : w1.heap.size < w2.heap.size := by omega
        clear hb2
        rcases hP with ⟨ha, rfl⟩ | ⟨ha, t, N, rfl⟩
        · by_cases h2 : f.size = 2
          · have HA := Lib.hid ha; clear ha
            have HM := fun W => made_c f ⟨#[48, 49, 50, 51, 52, 53, 54, 55, 56, 57]⟩ W (by omega) (by decide) (by decide)
            have H2 := Lib.hid h2
            cases hm : allB figB f with
            | false =>
              have HZ := Lib.hid (readF_none HR.out (s := s) (.inr ⟨k, f, by rw [HF.out]; exact HFk.out, fun h => by rw [h.2] at hm; cases hm⟩) 0)
              have HE := Lib.hid hm; clear hm
              go_wp2_with fail
              refine (HM _).mono ?_
              rintro e w3 ⟨rfl, hb3⟩
              rw [fig_eq, HE.out]
              have HB3 := Lib.hid (HB.out.trans ((HB2.out.trans (hb3.mono HB2.out.size)).mono hz))
              clear hb3
              go_wp2
              go_ret2
              exact ⟨.of HZ.out rfl, HB3.out⟩
            | true =>
              have hok : fldOk f := ⟨h2, hm⟩
              have HK := Lib.hid hok
              obtain rfl : n = fldV f := by have := HA.out.symm.trans (fld_atoi hok); injection this
              have HE := Lib.hid hm; clear hm hok
              go_wp2_with fail
              refine (HM _).mono ?_
              rintro e w3 ⟨rfl, hb3⟩
              rw [fig_eq, HE.out]
              have HB3 := Lib.hid (HB2.out.trans (hb3.mono HB2.out.size))
              have HFL3 := Lib.hid (show FourL w3 w1.heap.size l from ⟨HFL2.out.1, by obtain ⟨T, hT⟩ := HFL2.out.2; exact ⟨T, (hb3.block _ hlt2).trans hT⟩⟩)
              have hlt3 : w1.heap.size < w3.heap.size := by have := hb3.size; omega
              obtain ⟨c0, f0⟩ := HFL3.out.cell k hkl
              clear hb3 HFL2 HFL
              go_wp2
              go_roundw
              case rel => exact ⟨k + 1, _, by omega, by simp, HB3.out.setCell (Nat.le_refl _) _, by show _ < (World.setCell _ _ _).heap.size; simpa [World.setCell] using hlt3, HFL3.out.set k _, by have := HO.out.next hkl hkF (by rw [hf]; exact HK.out); rw [hf] at this; exact this⟩
              case measure => simp [intOf]; omega
          · have HZ := Lib.hid (readF_none HR.out (s := s) (.inr ⟨k, f, by rw [HF.out]; exact HFk.out, fun h => h2 h.1⟩) 0)
            have hn : (((f.size : Nat) : Int) != 2) = true := by rw [bne_iff_ne]; omega
            have HB3 := Lib.hid (HB.out.trans (HB2.out.mono hz))
            clear ha
            go_wp2
            go_ret2
            exact ⟨.of HZ.out rfl, HB3.out⟩
        · have HZ := Lib.hid (readF_none HR.out (s := s) (.inr ⟨k, f, by rw [HF.out]; exact HFk.out, fun h => ha _ (fld_atoi h)⟩) 0)
          have HB3 := Lib.hid (HB.out.trans (HB2.out.mono hz))
          clear ha
          go_wp2
          go_ret2
          exact ⟨.of HZ.out rfl, HB3.out⟩
      · obtain rfl : k = 4 := by omega
        obtain ⟨l4, _⟩ := HFL.out
        obtain ⟨a, b, c, d, rfl⟩ := four_eq l4
        obtain ⟨f0, f1, f2, f3, rfl⟩ : ∃ f0 f1 f2 f3, F = [f0, f1, f2, f3] := by
          match F, H4.out with
          | [f0, f1, f2, f3], _ => exact ⟨_, _, _, _, rfl⟩
        have o0 := HO.out 0 (by omega) f0 rfl
        have o1 := HO.out 1 (by omega) f1 rfl
        have o2 := HO.out 2 (by omega) f2 rfl
        have o3 := HO.out 3 (by omega) f3 rfl
        simp at o0 o1 o2 o3
        have ha := fld_bd o0.1
        have hb1 := fld_bd o1.1
        have hc := fld_bd o2.1
        have hd := fld_bd o3.1
        rw [← o0.2] at ha; rw [← o1.2] at hb1; rw [← o2.2] at hc; rw [← o3.2] at hd
        have HE := Lib.hid (And.intro o0.2 (And.intro o1.2 (And.intro o2.2 o3.2)))
        clear o0 o1 o2 o3 l4
        have c0 := (HFL.out.cell 0 (by simp)).1
        have c1 := (HFL.out.cell 1 (by simp)).1
        have c2 := (HFL.out.cell 2 (by simp)).1
        have c3 := (HFL.out.cell 3 (by simp)).1
        simp only [List.getElem_cons_zero, List.getElem_cons_succ] at c0 c1 c2 c3
        have HV := Lib.hid (show frameOf r (fldV f0) (fldV f1) (fldV f2) (fldV f3) = (60 * (60 * a + b) + c) * countedN r + d - dropN r (60 * a + b) by
          obtain ⟨e1, e2, e3, e4⟩ := HE.out
          rw [← e1, ← e2, ← e3, ← e4]; unfold frameOf; rfl)
        have HBB := Lib.hid (HB.out.trans (hb.mono hz))
        have hbz := hb.size
        clear HE HO HFS H4 hs HB hb
        rcases rate_cases HR.out with rfl | rfl | rfl | rfl
        · rw [show countedN 1 = 24 from rfl]
          have HW := Lib.hid (show ((a * 60 + b) * 60 + c) * 24 + d = frameOf 1 (fldV f0) (fldV f1) (fldV f2) (fldV f3) by rw [HV.out, show countedN 1 = 24 from rfl, show dropN 1 (60 * a + b) = 0 from rfl]; omega)
          have k0 : 0 ≤ ((a * 60 + b) * 60 + c) * 24 + d := by omega
          by_cases k1 : ((a * 60 + b) * 60 + c) * 24 + d < 2073600
          · have HRB := Lib.hid (show rightB 1 (((a * 60 + b) * 60 + c) * 24 + d) = true by simp [rightB, k0, show isRateB 1 = true from rfl, show framesN 1 = 2073600 from rfl, k1])
            have HP := Lib.hid (readF_some (r := 1) (ok := ((codeS 1 (((a * 60 + b) * 60 + c) * 24 + d)).toList == s.toList)) HR.out HF.out HW.out (by rw [beqS]; simp [k0, show framesN 1 = 2073600 from rfl, k1]))
            go_wp2_with fail
            refine (RightFrame_c _ _ _).mono ?_
            rintro e w' ⟨rfl, rfl⟩
            rw [HRB.out]
            go_wp2_with fail
            refine (CodeOf_c 1 _ _ HR.out k0 k1).mono ?_
            rintro e w2 ⟨rfl, hb2⟩
            have HB2 := Lib.hid (HBB.out.trans (hb2.mono (by omega)))
            clear hb2
            go_wp2
            go_ret2
            exact ⟨.of HP.out rfl, HB2.out⟩
          · have HRB := Lib.hid (show rightB 1 (((a * 60 + b) * 60 + c) * 24 + d) = false by simp [rightB, show framesN 1 = 2073600 from rfl, k1])
            have HP := Lib.hid (readF_some (ok := false) HR.out HF.out HW.out (by simp [show framesN 1 = 2073600 from rfl, k1]))
            go_wp2_with fail
            refine (RightFrame_c _ _ _).mono ?_
            rintro e w' ⟨rfl, rfl⟩
            rw [HRB.out]
            go_wp2
            go_ret2
            exact ⟨.of HP.out rfl, HBB.out⟩
        · rw [show countedN 2 = 25 from rfl]
          have HW := Lib.hid (show ((a * 60 + b) * 60 + c) * 25 + d = frameOf 2 (fldV f0) (fldV f1) (fldV f2) (fldV f3) by rw [HV.out, show countedN 2 = 25 from rfl, show dropN 2 (60 * a + b) = 0 from rfl]; omega)
          have k0 : 0 ≤ ((a * 60 + b) * 60 + c) * 25 + d := by omega
          by_cases k1 : ((a * 60 + b) * 60 + c) * 25 + d < 2160000
          · have HRB := Lib.hid (show rightB 2 (((a * 60 + b) * 60 + c) * 25 + d) = true by simp [rightB, k0, show isRateB 2 = true from rfl, show framesN 2 = 2160000 from rfl, k1])
            have HP := Lib.hid (readF_some (r := 2) (ok := ((codeS 2 (((a * 60 + b) * 60 + c) * 25 + d)).toList == s.toList)) HR.out HF.out HW.out (by rw [beqS]; simp [k0, show framesN 2 = 2160000 from rfl, k1]))
            go_wp2_with fail
            refine (RightFrame_c _ _ _).mono ?_
            rintro e w' ⟨rfl, rfl⟩
            rw [HRB.out]
            go_wp2_with fail
            refine (CodeOf_c 2 _ _ HR.out k0 k1).mono ?_
            rintro e w2 ⟨rfl, hb2⟩
            have HB2 := Lib.hid (HBB.out.trans (hb2.mono (by omega)))
            clear hb2
            go_wp2
            go_ret2
            exact ⟨.of HP.out rfl, HB2.out⟩
          · have HRB := Lib.hid (show rightB 2 (((a * 60 + b) * 60 + c) * 25 + d) = false by simp [rightB, show framesN 2 = 2160000 from rfl, k1])
            have HP := Lib.hid (readF_some (ok := false) HR.out HF.out HW.out (by simp [show framesN 2 = 2160000 from rfl, k1]))
            go_wp2_with fail
            refine (RightFrame_c _ _ _).mono ?_
            rintro e w' ⟨rfl, rfl⟩
            rw [HRB.out]
            go_wp2
            go_ret2
            exact ⟨.of HP.out rfl, HBB.out⟩
        · rw [show countedN 3 = 30 from rfl]
          have HW := Lib.hid (show ((a * 60 + b) * 60 + c) * 30 + d = frameOf 3 (fldV f0) (fldV f1) (fldV f2) (fldV f3) by rw [HV.out, show countedN 3 = 30 from rfl, show dropN 3 (60 * a + b) = 0 from rfl]; omega)
          have k0 : 0 ≤ ((a * 60 + b) * 60 + c) * 30 + d := by omega
          by_cases k1 : ((a * 60 + b) * 60 + c) * 30 + d < 2592000
          · have HRB := Lib.hid (show rightB 3 (((a * 60 + b) * 60 + c) * 30 + d) = true by simp [rightB, k0, show isRateB 3 = true from rfl, show framesN 3 = 2592000 from rfl, k1])
            have HP := Lib.hid (readF_some (r := 3) (ok := ((codeS 3 (((a * 60 + b) * 60 + c) * 30 + d)).toList == s.toList)) HR.out HF.out HW.out (by rw [beqS]; simp [k0, show framesN 3 = 2592000 from rfl, k1]))
            go_wp2_with fail
            refine (RightFrame_c _ _ _).mono ?_
            rintro e w' ⟨rfl, rfl⟩
            rw [HRB.out]
            go_wp2_with fail
            refine (CodeOf_c 3 _ _ HR.out k0 k1).mono ?_
            rintro e w2 ⟨rfl, hb2⟩
            have HB2 := Lib.hid (HBB.out.trans (hb2.mono (by omega)))
            clear hb2
            go_wp2
            go_ret2
            exact ⟨.of HP.out rfl, HB2.out⟩
          · have HRB := Lib.hid (show rightB 3 (((a * 60 + b) * 60 + c) * 30 + d) = false by simp [rightB, show framesN 3 = 2592000 from rfl, k1])
            have HP := Lib.hid (readF_some (ok := false) HR.out HF.out HW.out (by simp [show framesN 3 = 2592000 from rfl, k1]))
            go_wp2_with fail
            refine (RightFrame_c _ _ _).mono ?_
            rintro e w' ⟨rfl, rfl⟩
            rw [HRB.out]
            go_wp2
            go_ret2
            exact ⟨.of HP.out rfl, HBB.out⟩
        · rw [show countedN 4 = 30 from rfl]
          have HW := Lib.hid (show ((a * 60 + b) * 60 + c) * 30 + d - 2 * (a * 60 + b - (a * 60 + b) / 10) = frameOf 4 (fldV f0) (fldV f1) (fldV f2) (fldV f3) by rw [HV.out, show countedN 4 = 30 from rfl, show dropN 4 (60 * a + b) = 2 * (60 * a + b - (60 * a + b) / 10) from rfl, Int.mul_comm 60 a]; omega)
          have k00 : 0 ≤ a * 60 + b := by omega
          have k01 : (a * 60 + b).tdiv 10 = (a * 60 + b) / 10 := Int.tdiv_eq_ediv_of_nonneg k00
          by_cases k0 : 0 ≤ ((a * 60 + b) * 60 + c) * 30 + d - 2 * (a * 60 + b - (a * 60 + b) / 10)
          · by_cases k1 : ((a * 60 + b) * 60 + c) * 30 + d - 2 * (a * 60 + b - (a * 60 + b) / 10) < 2589408
            · have HRB := Lib.hid (show rightB 4 (((a * 60 + b) * 60 + c) * 30 + d - 2 * (a * 60 + b - (a * 60 + b) / 10)) = true by simp only [rightB, show isRateB 4 = true from rfl, show framesN 4 = 2589408 from rfl, decide_eq_true k0, decide_eq_true k1]; rfl)
              have HP := Lib.hid (readF_some (r := 4) (ok := ((codeS 4 (((a * 60 + b) * 60 + c) * 30 + d - 2 * (a * 60 + b - (a * 60 + b) / 10))).toList == s.toList)) HR.out HF.out HW.out (by rw [beqS, decide_eq_true_iff]; exact ⟨fun h => ⟨k0, k1, h⟩, fun h => h.2.2⟩))
              go_wp2_with fail
              refine (RightFrame_c _ _ _).mono ?_
              rintro e w' ⟨rfl, rfl⟩
              rw [HRB.out]
              go_wp2_with fail
              refine (CodeOf_c 4 _ _ HR.out k0 k1).mono ?_
              rintro e w2 ⟨rfl, hb2⟩
              have HB2 := Lib.hid (HBB.out.trans (hb2.mono (by omega)))
              clear hb2
              go_wp2
              go_ret2
              exact ⟨.of HP.out rfl, HB2.out⟩
            · have HRB := Lib.hid (show rightB 4 (((a * 60 + b) * 60 + c) * 30 + d - 2 * (a * 60 + b - (a * 60 + b) / 10)) = false by simp only [rightB, show framesN 4 = 2589408 from rfl, decide_eq_false k1, Bool.and_false])
              have HP := Lib.hid (readF_some (ok := false) HR.out HF.out HW.out ⟨fun h => (by cases h), fun h => absurd h.2.1 k1⟩)
              go_wp2_with fail
              refine (RightFrame_c _ _ _).mono ?_
              rintro e w' ⟨rfl, rfl⟩
              rw [HRB.out]
              go_wp2
              go_ret2
              exact ⟨.of HP.out rfl, HBB.out⟩
          · have HRB := Lib.hid (show rightB 4 (((a * 60 + b) * 60 + c) * 30 + d - 2 * (a * 60 + b - (a * 60 + b) / 10)) = false by simp only [rightB, decide_eq_false k0, Bool.and_false, Bool.false_and])
            have HP := Lib.hid (readF_some (ok := false) HR.out HF.out HW.out ⟨fun h => (by cases h), fun h => absurd h.1 k0⟩)
            go_wp2_with fail
            refine (RightFrame_c _ _ _).mono ?_
            rintro e w' ⟨rfl, rfl⟩
            rw [HRB.out]
            go_wp2
            go_ret2
            exact ⟨.of HP.out rfl, HBB.out⟩
  · have HZ := Lib.hid (readF_none HR.out (s := s) (.inl (by rw [HF.out]; exact h4)) 0)
    have hn : (((F.length : Nat) : Int) != 4) = true := by rw [bne_iff_ne]; omega
    go_wp2
    go_ret2
    exact ⟨.of HZ.out rfl, hb⟩
end Go.Proofs.YtnjbbkocobegiaaGreatDoor

