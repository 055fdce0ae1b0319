/- Texts packed: TgR. -/
import Derived.Test.YtlfnmmnbfoimeaaGreatDoorSc40
import Derived.Test.YtlfnmmnbfoimeaaGreatDoorSc35
/- The reference's Match, walked. -/
namespace Go.Proofs.YtlfnmmnbfoimeaaGreatDoor
set_option linter.unusedVariables false
open Go.RowKit

theorem pat_all {p : ByteArray} (h : patB p = true) : ∀ s ∈ partsP p, (rdItm s).2 = true := by
  unfold patB at h
  simp only [Bool.and_eq_true] at h
  exact fun s hs => List.all_eq_true.1 h.1.1 s hs
set_option maxRecDepth 100000 in
set_option maxHeartbeats 8000000 in
theorem MatchOf_c (p t : ByteArray) (w : World) (hs : p.size ≤ 100000) (ht : t.size ≤ 100000) (hp : patB p = true) (hm : MaxLaid w) (hE : ErrsLaid w) (hS : SpLaid w) :
    Calls Tryz.prog 32 #[.string p, .string t] w fun e w' => ∃ v, e = .returned v ∧ Own (hitR (partsP p).length) w' w.heap.size w.heap.size 75 (hitsAt (itmsP p) (wordsT t) 0) v ∧ Below w.heap.size w w' := by
  obtain ⟨i0, hi0, hz0, hz1, hz2⟩ := info_parts (show (Tryz.prog.info? 75).map (fun i => (i.zero, i.size, i.bytes)) = some (some (.agg #[.int .i64 0, .int .i64 0, .int .i64 0]), 3, 24) by kernel_rfl)
  have hmx := @run_max Tryz.prog
  have HLD := Lib.hid (And.intro hm (And.intro hE hS))
  have HAL := Lib.hid (pat_all hp)
  have HPS := Lib.hid (fun s (hs : s ∈ partsP p) => show s.size ≤ p.size from words_size hs)
  have HWS := Lib.hid (show Calls Tryz.prog 47 #[.string p, .string ⟨#[32]⟩] w (WordsP p 32 w) from words_c p 32 w (by omega) hm)
  have HL1 := partsP_pos p
  have HL2 : (partsP p).length ≤ p.size + 1 := words_le p 32
  have HWL := wordsT_len t
  have HWZ := Lib.hid (fun s (hs : s ∈ wordsT t) => show s.size ≤ t.size from wordsT_sz hs)
  have HIL := Lib.hid (itmsP_len p)
  have HRA := Lib.hid (fun (k : Nat) (hk : k + (partsP p).length ≤ (wordsT t).length) => show hitA (itmsP p) (wordsT t) k = refA (partsP p) (wordsT t) k from refA_eq (HAL.out) hk)
  clear hp hm hE hS
  go_enter Tryz.func32, Tryz.ntmps32
  go_wp2_with fail
  refine HWS.out.mono ?_
  rintro e w1 ⟨rfl, hw1, hb1, hz1'⟩
  have HL := Lib.hid (show Sli strR w1 (fun b => b = w.heap.size) (partsP p) (.slice (some ⟨w.heap.size, 0, none⟩) (partsP p).length (partsP p).length) from hw1)
  have HB := Lib.hid hb1
  have hgt : w.heap.size < w1.heap.size := by omega
  rw [show (words p 32).length = (partsP p).length from rfl]
  clear hw1 hb1 hz1' HWS
  go_wp2_with fail
  refine (WordsOf_c t w1 (by omega)).mono ?_
  rintro e w2 ⟨v2, rfl, hown, hb2⟩
  have HX := Lib.hid (HL.out.below hb2 (fun b hb => by omega))
  obtain ⟨A2, c2, rfl, hlc2, hcm2⟩ := (hown.sli (F := fun b => b < w2.heap.size) (fun b _ h => h) (fun g hg => (hown.block g hg).2)).form
  have HY := Lib.hid (hown.sli (F := fun b => b < w2.heap.size) (fun b _ h => h) (fun g hg => (hown.block g hg).2))
  have HB2 := Lib.hid (HB.out.trans (hb2.mono HB.out.size))
  have hg2 : w.heap.size < w2.heap.size := Nat.lt_of_lt_of_le hgt hb2.size
  clear hown hb2 HL HB hgt
  obtain ⟨n, hn⟩ : ∃ n, (partsP p).length = n := ⟨_, rfl⟩
  obtain ⟨m, hm⟩ : ∃ m, (wordsT t).length = m := ⟨_, rfl⟩
  have HN := Lib.hid hn
  have HM := Lib.hid hm
  rw [hn] at HX HL1 HL2 HIL HRA ⊢
  rw [hm] at HY HWL hlc2 HRA ⊢
  have HG0 := Lib.hid (BO.start (R := hitR n) (e := 75) w2)
  have HOWN := Lib.hid (fun (acc : List (Nat × Int)) (v : Value) (wr : World) (h : BO (hitR n) 75 w2 acc v [] wr) => show Own (hitR n) wr w.heap.size w.heap.size 75 acc v ∧ Below w.heap.size w wr from
    ⟨h.own.less (enc := fun x : Nat × Int => [.int .i64 (x.1 : Int), .int .i64 (n : Int), .int .i64 x.2]) (hn := fun _ => rfl) HB2.out.size, HB2.out.trans (h.bel.mono HB2.out.size)⟩)
  clear hn hm
  go_wp2
  go_loopw [7, 8] (fun v a wr => ∃ (k : Nat) (acc : List (Nat × Int)), k ≤ m ∧ a = .int .i64 k ∧ acc.length ≤ k ∧ Hid (hitsAt (itmsP p) (wordsT t) 0 = acc ++ hitsAt (itmsP p) (wordsT t) k) ∧ Hid (BO (hitR n) 75 w2 acc v [] wr)) (fun _ a _ => m + 1 - (intOf a).toNat)
  case atStart => exact ⟨0, [], Nat.zero_le _, rfl, Nat.le_refl _, rfl, HG0.out⟩
  case round =>
    clear HG0
    obtain ⟨k, acc, hk, rfl, hal, HA, HG⟩ := hrel
    have ew : IntKind.i64.wrap ((k : Int) + (n : Int)) = (k : Int) + (n : Int) := IntWalk.i64_in _ (by omega)
    by_cases hle : k + n ≤ m
    · have hle' : (k : Int) + (n : Int) ≤ (m : Int) := by omega
      have HRK := Lib.hid (HRA.out k hle)
      go_wp2
      go_loopw [9, 10, 29] (fun av cv iv wx => ∃ (i : Nat) (a : Bool) (c : Int), i ≤ n ∧ av = .bool a ∧ cv = .int .i64 c ∧ iv = .int .i64 i ∧ Hid (refH ((partsP p).drop i) ((wordsT t).drop (k + i)) a c = refH (partsP p) ((wordsT t).drop k) true 0) ∧ Hid (BO (hitR n) 75 w2 acc u7 [] wx)) (fun _ _ iv _ => n - (intOf iv).toNat)
      case atStart => exact ⟨0, true, 0, Nat.zero_le _, rfl, rfl, rfl, rfl, HG.out⟩
      case round =>
        clear HG
        obtain ⟨i, a, c, hi, rfl, rfl, rfl, HH, HG⟩ := hrel
        by_cases hlt : i < n
        · have hi2 : i < (partsP p).length := by rw [HN.out]; exact hlt
          obtain ⟨q, hq⟩ : ∃ q, k + i = q := ⟨_, rfl⟩
          have hqm : q < m := by omega
          have hq2 : q < (wordsT t).length := by rw [HM.out]; exact hqm
          rw [hq] at HH
          have ewq : IntKind.i64.wrap ((k : Int) + (i : Int)) = (q : Int) := (IntWalk.i64_in _ (by omega)).trans (by omega)
          have HST := Lib.hid ((refH_step hi2 hq2 a c).symm.trans HH.out)
          have HNQ := Lib.hid (show k + (i + 1) = q + 1 by omega)
          have d0 := strAtP (HX.out.below HG.out.bel (fun b hb => by omega)) i hi2
          obtain ⟨b2, off2, rfl, hfb2, e0⟩ := strAt (HY.out.below HG.out.bel (fun b hb => hb)) q hq2
          have hxz := HPS.out _ (List.getElem_mem hi2)
          have hyz := HWZ.out _ (List.getElem_mem hq2)
          generalize (partsP p)[i] = x at *
          generalize (wordsT t)[q] = y at *
          clear HH hi2 hq2
          go_upto_region 11 with (fail)
          clear d0 e0 hfb2 ewq hq
          go_cut [9] (fun s9 wx => ∃ f : Bool, s9 = .bool f ∧ Hid ((a && fitT x y) = f) ∧ Hid (BO (hitR n) 75 w2 acc u7 [] wx))
          case first =>
            cases a with
            | true =>
              have HF := Lib.hid (fits_c x y wr (by omega) (by omega) (HLD.out.2.1.below (HB2.out.trans (HG.out.bel.mono HB2.out.size)) (Nat.le_refl _)) (sp_below HLD.out.2.2 (HB2.out.trans (HG.out.bel.mono HB2.out.size)) (Nat.le_refl _)) (max_below HLD.out.1 (HB2.out.trans (HG.out.bel.mono HB2.out.size)) (Nat.le_refl _)))
              go_wp2_with fail
              refine HF.out.mono ?_
              rintro e w8 ⟨rfl, hb8⟩
              have HG8 := Lib.hid (HG.out.below hb8)
              clear hb8 HF
              go_wp2
              go_meet
              exact ⟨_, rfl, rfl, HG8.out⟩
            | false =>
              go_wp2
              go_meet
              exact ⟨_, rfl, rfl, HG.out⟩
          case rest =>
            clear HG
            obtain ⟨f, rfl, HF, HG⟩ := hcut
            rw [HF.out] at HST
            clear HF
            have HTC := Lib.hid (rCounted_c y wc (by omega) (HLD.out.2.1.below (HB2.out.trans (HG.out.bel.mono HB2.out.size)) (Nat.le_refl _)) (sp_below HLD.out.2.2 (HB2.out.trans (HG.out.bel.mono HB2.out.size)) (Nat.le_refl _)))
            by_cases hh : x.toList = [35]
            · have hb : (x.toList == [35]) = true := beq_iff_eq.2 hh
              by_cases hc : c = 0
              · rw [if_pos ⟨hh, hc⟩] at HST
                have HS3 := Lib.hid (show refH ((partsP p).drop (i + 1)) ((wordsT t).drop (k + (i + 1))) f (cntW y) = refH (partsP p) ((wordsT t).drop k) true 0 by rw [HNQ.out]; exact HST.out)
                subst hc
                clear hh
                go_wp2_with fail
                refine HTC.out.mono ?_
                rintro e w8 ⟨rfl, hb8⟩
                have HG8 := Lib.hid (HG.out.below hb8)
                clear hb8 HG HTC
                generalize cntW y = cy at *
                go_wp2
                go_roundw
                · exact ⟨i + 1, f, cy, by omega, rfl, rfl, intNum, HS3.out, HG8.out⟩
                · simp [intOf]; omega
              · rw [if_neg (fun h => hc h.2)] at HST
                have HS3 := Lib.hid (show refH ((partsP p).drop (i + 1)) ((wordsT t).drop (k + (i + 1))) f c = refH (partsP p) ((wordsT t).drop k) true 0 by rw [HNQ.out]; exact HST.out)
                have hc0 : (c == 0) = false := beq_eq_false_iff_ne.2 hc
                clear hh hc HTC
                go_wp2
                go_roundw
                · exact ⟨i + 1, f, c, by omega, rfl, rfl, intNum, HS3.out, HG.out⟩
                · simp [intOf]; omega
            · rw [if_neg (fun h => hh h.1)] at HST
              have HS3 := Lib.hid (show refH ((partsP p).drop (i + 1)) ((wordsT t).drop (k + (i + 1))) f c = refH (partsP p) ((wordsT t).drop k) true 0 by rw [HNQ.out]; exact HST.out)
              have hb : (x.toList == [35]) = false := beq_eq_false_iff_ne.2 hh
              clear hh HTC
              go_wp2
              go_roundw
              · exact ⟨i + 1, f, c, by omega, rfl, rfl, intNum, HS3.out, HG.out⟩
              · simp [intOf]; omega
        · have HE := Lib.hid ((refH_end (p := partsP p) (i := i) (by rw [HN.out]; exact hlt) ((wordsT t).drop (k + i)) a c).symm.trans HH.out)
          clear HH
          have hkm : k < m := by omega
          cases a with
          | true =>
            have hh : hitA (itmsP p) (wordsT t) k = some (maxI c 1) := by rw [HRK.out]; unfold refA; rw [← HE.out, maxI_eq]; rfl
            have HN2 := Lib.hid (show hitsAt (itmsP p) (wordsT t) 0 = (acc ++ [(k, maxI c 1)]) ++ hitsAt (itmsP p) (wordsT t) (k + n) by rw [HA.out, hitsAt_yes (by rw [HM.out]; exact hkm) (by rw [HIL.out]; exact HL1) hh, HIL.out]; simp)
            have ew1 : IntKind.i64.wrap ((n : Int) - 1) = (n : Int) - 1 := IntWalk.i64_in _ (by omega)
            have ew2 : IntKind.i64.wrap ((k : Int) + ((n : Int) - 1)) = (k : Int) + ((n : Int) - 1) := IntWalk.i64_in _ (by omega)
            have ew3 : IntKind.i64.wrap ((k : Int) + ((n : Int) - 1) + 1) = ((k + n : Nat) : Int) := (IntWalk.i64_in _ (by omega)).trans (by omega)
            clear hh HE HA HRK
            go_wp2_with (at_builtin; (refine wpList_pushB (R := hitR n) rfl _ _ _ rfl w2.heap.size w2.heap.size 75 i0 _ 24 Tryz.underlying72 hi0 hz0 (by assumption) (by assumption) rfl (Nat.succ_pos 2) _ u7 acc rfl (HG.out.own.alloc _) ((k, maxI c 1) : Nat × Int) _ rfl (oneC rfl) wr.heap.size _ _ (heap_alloc_new wr _) rfl (by simp [maxLen]; omega) (by omega) (by have := HG.out.size; simp; omega) ?_); intro g7 cap7 w7 hown7 hg7 hat7 hlt7)
            have HG7 := Lib.hid ((HG.out.alloc _).more hown7 hg7 rfl (hat7.imp id fun h => h))
            clear hown7 hg7 hat7 hlt7 HG
            go_roundw
            · exact ⟨k + n, acc ++ [(k, maxI c 1)], hle, rfl, by rw [List.length_append]; simp; omega, HN2.out, HG7.out⟩
            · simp [intOf]; omega
          | false =>
            have hh : hitA (itmsP p) (wordsT t) k = none := by rw [HRK.out]; unfold refA; rw [← HE.out]; rfl
            have HN2 := Lib.hid (HA.out.trans (congrArg (acc ++ ·) (hitsAt_no (by rw [HM.out]; exact hkm) (by rw [HIL.out]; exact HL1) hh)))
            have ew1 : IntKind.i64.wrap ((k : Int) + 1) = (k : Int) + 1 := IntWalk.i64_in _ (by omega)
            clear hh HE HA HRK hmx
            go_wp2
            go_roundw
            · exact ⟨k + 1, acc, by omega, intNum, by omega, HN2.out, HG.out⟩
            · simp [intOf]; omega
    · have hle' : ¬ (k : Int) + (n : Int) ≤ (m : Int) := by omega
      have HR := Lib.hid (show hitsAt (itmsP p) (wordsT t) 0 = acc by rw [HA.out, hitsAt_over (by rw [HIL.out]; exact HL1) _ k rfl (by rw [HIL.out, HM.out]; omega), List.append_nil])
      have HF := Lib.hid (HOWN.out _ _ _ HG.out)
      clear HOWN hmx
      go_wp2
      go_ret
      exact ⟨_, rfl, by rw [HR.out, HN.out]; exact HF.out.1, HF.out.2⟩
end Go.Proofs.YtlfnmmnbfoimeaaGreatDoor

