/- The reference's manifests. -/
import Derived.Test.YtnjbbkocobegiaaDoorFilesC
namespace Go.Proofs.YtnjbbkocobegiaaDoor
set_option linter.unusedVariables false
open Go.RowKit

set_option maxRecDepth 100000 in
set_option maxHeartbeats 1600000 in
theorem ManifestOf_c (names data : List ByteArray) (v1 v2 : Value) (F : Nat → Prop) (w : World) (h1 : Sli strR w F names v1) (h2 : Sli strR w F data v2) (hF : ∀ b, F b → b < w.heap.size) (n1 : NamSz names) (n2 : NamSz data) (hl1 : names.length ≤ 140737488355328) (hl2 : data.length ≤ 140737488355328) :
    Calls Tryd.prog 8 #[v1, v2] w (ManP names data w) := by
  obtain ⟨A1, c1, rfl, hlc1, hc1⟩ := h1.form
  obtain ⟨A2, c2, rfl, hlc2, hc2⟩ := h2.form
  have H1 := Lib.hid h1; clear h1
  have H2 := Lib.hid h2; clear h2
  have HF := Lib.hid hF; clear hF
  have N1 := Lib.hid n1; clear n1
  have N2 := Lib.hid n2; clear n2
  by_cases hne : names.length = data.length
  · by_cases hlg : 500 < names.length
    · have HE := Lib.hid (show manE names data = 2 by unfold manE; rw [if_neg (by simp [hne]), if_pos hlg])
      have HL := Lib.hid (show manL names data = [] by unfold manL; rw [HE.out]; rfl)
      have hnz : ((names.length : Int)) = data.length := by omega
      go_enter Tryd.func8, Tryd.ntmps8
      go_wp2
      go_ret2
      exact ⟨_, by rw [HE.out]; rfl, by rw [HL.out]; exact Sli.nil_, Below.refl _ _⟩
    · have HE := Lib.hid (show manE names data = namesF names by unfold manE; rw [if_neg (by simp [hne]), if_neg hlg])
      have HL := Lib.hid (show manL names data = if namesF names = 0 then manAll names data else [] by unfold manL; rw [HE.out])
      have hlm : (manAll names data).length = names.length := by unfold manAll; simp [hne]
      obtain ⟨n, hn1⟩ : ∃ n, names.length = n := ⟨_, rfl⟩
      have hn2 : data.length = n := by omega
      rw [hn1] at H1 hl1 hlg hlm ⊢
      rw [hn2] at H2 ⊢
      clear hne hlc1 hlc2
      obtain ⟨i0, hi0, hz0, hz1, hz2⟩ := info_parts (show (Tryd.prog.info? 35).map (fun i => (i.zero, i.size, i.bytes)) = some (some (.agg #[.string ⟨#[]⟩, .int .i64 0, .string ⟨#[]⟩]), 3, 40) by kernel_rfl)
      have HNF := Lib.hid (namesFault_c names _ F w H1.out HF.out N1.out)
      by_cases n0 : namesF names = 0
      · rw [n0] at HNF
        rw [n0, if_pos rfl] at HL
        have HE2 := Lib.hid (HE.out.trans n0)
        clear n0
        go_enter Tryd.func8, Tryd.ntmps8
        go_wp2_with fail
        refine HNF.out.mono ?_
        rintro e w0 ⟨rfl, hb0⟩
        go_wp2
        go_loopw [7, 27] (fun v i wr => ∃ k : Nat, k ≤ n ∧ i = .int .i64 k ∧ Below w.heap.size w wr ∧ Hid (Own copR wr w.heap.size w.heap.size 35 ((manAll names data).take k) v)) (fun _ i _ => n - (intOf i).toNat)
        case atStart => exact ⟨0, Nat.zero_le _, rfl, hb0, Own.nil_⟩
        case round =>
          obtain ⟨k, hk, rfl, hb, HO⟩ := hrel
          by_cases hlt : k < n
          · obtain ⟨b, off, rfl, hfb, c0⟩ := strAt (H1.out.below hb HF.out) k (by omega)
            obtain ⟨b2, off2, rfl, hfb2, d0⟩ := strAt (H2.out.below hb HF.out) k (by omega)
            have s2 := N2.out (data[k]'(by omega)) (List.getElem_mem _)
            have hma : (manAll names data)[k]'(by omega) = ⟨names[k]'(by omega), ((data[k]'(by omega)).size : Int), digestB (data[k]'(by omega))⟩ := by unfold manAll; simp
            obtain ⟨x, hx⟩ : ∃ x, names[k]'(by omega) = x := ⟨names[k]'(by omega), rfl⟩
            obtain ⟨d, hd⟩ : ∃ d, data[k]'(by omega) = d := ⟨data[k]'(by omega), rfl⟩
            rw [hx] at c0 hma
            rw [hd] at d0 s2 hma
            have HMX := Lib.hid (show (manAll names data).take (k + 1) = (manAll names data).take k ++ [⟨x, (d.size : Int), digestB d⟩] by rw [List.take_succ_eq_append_getElem (by omega), hma])
            clear hma
            have hmk : ((manAll names data).take k).length = k := by rw [List.length_take]; omega
            generalize (manAll names data).take k = ml at *
            have hws := hb.size
            have HBW := Lib.hid hb
            have hb2b := HF.out b2 hfb2
            have HVB := Lib.hid (fun g e => (HO.out.block g e).1)
            have HDW := Lib.hid ((hb.cell (p := ⟨b2, off2 + k, none⟩) hb2b).symm.trans d0)
            have HDG := Lib.hid (fun W (hW : Below wr.heap.size wr W) => (DigestOf_c d W s2).mono
              (fun e w' (h : e = .returned (.string (digestB d)) ∧ Below W.heap.size W w') => (⟨h.1, hW.trans (h.2.mono hW.size)⟩ : e = .returned (.string (digestB d)) ∧ Below wr.heap.size wr w')))
            go_wp2_with fail
            go_region_held3 (fun W => W.cell? ⟨b2, off2 + k, none⟩ = some (.string d) ∧ Below w.heap.size w W)
              (first
                | exact ⟨d0, HBW.out.drew⟩
                | exact ⟨hd3, hb3⟩
                | exact (fun (h : Below w.heap.size w _) => ⟨(h.cell (p := ⟨b2, off2 + k, none⟩) hb2b).trans HDW.out, h⟩) (hb3.alloc hb3.size _)
                | exact ⟨hd4, hb4⟩
                | fail)
              (first
                | (go_at_call 5; refine (HDG.out _ (Below.refl _ _).drew).mono ?_; rintro e w3 ⟨rfl, hb32⟩; have hz3 := hb32.size; have hb3 := HBW.out.trans (hb32.mono HBW.out.size); have hd3 := (hb32.cell (p := ⟨b2, off2 + k, none⟩) (by simp; omega)).trans d0)
                | (refine step_push rfl _ _ _ rfl w.heap.size w.heap.size 35 i0 _ 40 Tryd.underlying29 hi0 hz0 hz1 hz2 rfl (by decide) _ u7 ml rfl ((HO.out.below hb32).alloc _) ⟨x, (d.size : Int), digestB d⟩ _ rfl (oneC rfl) w3.heap.size _ _ (heap_alloc_new w3 _) rfl (by simp [maxLen]; omega) (by omega) (by simp; omega) ?_
                   intro g cap w4 hown4 hg4 hat4 hlt4
                   have hb4 := (hb3.alloc hb3.size _).grown hg4 (by simp; omega) (HVB.out)
                   have hd4 : w4.cell? ⟨b2, off2 + k, none⟩ = some (.string d) := (hb4.cell (p := ⟨b2, off2 + k, none⟩) hb2b).trans HDW.out)
                | fail)
            go_wp2
            go_roundw
            case rel => exact ⟨k + 1, by omega, intNum, hb4, by rw [HMX.out]; rw [hmk] at hown4; exact hown4⟩
            case measure => simp [intOf]; omega
          · have e : k = n := by omega
            have HO2 := Lib.hid (show Own copR wr w.heap.size w.heap.size 35 (manL names data) _ by rw [HL.out]; have := HO.out; rw [List.take_of_length_le (by omega)] at this; exact this)
            go_wp2
            go_ret2
            exact ⟨_, by rw [HE2.out]; rfl, HO2.out.sli (fun b h1 h2 => ⟨h1, h2⟩) (fun g hg => HO2.out.block g hg), hb⟩
      · rw [if_neg n0] at HL
        generalize namesF names = q at *
        go_enter Tryd.func8, Tryd.ntmps8
        go_wp2_with fail
        refine HNF.out.mono ?_
        rintro e w0 ⟨rfl, hb0⟩
        go_wp2
        go_ret2
        exact ⟨_, by rw [HE.out]; rfl, by rw [HL.out]; exact Sli.nil_, hb0⟩
  · have HE := Lib.hid (show manE names data = 3 by unfold manE; rw [if_pos hne])
    have HL := Lib.hid (show manL names data = [] by unfold manL; rw [HE.out]; rfl)
    have hnz : ¬ ((names.length : Int)) = data.length := by omega
    go_enter Tryd.func8, Tryd.ntmps8
    go_wp2
    go_ret2
    exact ⟨_, by rw [HE.out]; rfl, by rw [HL.out]; exact Sli.nil_, Below.refl _ _⟩
end Go.Proofs.YtnjbbkocobegiaaDoor
