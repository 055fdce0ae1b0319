/- Manifests made. -/
import Derived.Test.YtnjbbkocobegiaaDoorFilesX
import Derived.Test.YtnjbbkocobegiaaDoorOwn2
namespace Go.Proofs.YtnjbbkocobegiaaDoor
set_option linter.unusedVariables false
open Go.RowKit

def NamSz (l : List ByteArray) : Prop := ∀ x ∈ l, x.size ≤ 140737488355328
def ManP (names data : List ByteArray) (w : World) (e : Ending) (w' : World) : Prop :=
  ∃ v, e = .returned (.tuple #[v, .int .i64 (manE names data)]) ∧ Sli copR w' (fun b => w.heap.size ≤ b ∧ b < w'.heap.size) (manL names data) v ∧ Below w.heap.size w w'
set_option maxRecDepth 100000 in
set_option maxHeartbeats 1600000 in
theorem Manifest_c (names data : List ByteArray) (v1 v2 : Value) (F : Nat → Prop) (w : World) (h1 : Sli strR w F names v1) (h2 : Sli strR w F data v2) (hF : ∀ b, F b → b < w.heap.size) (n1 : NamSz names) (n2 : NamSz data) (hl1 : names.length ≤ 140737488355328) (hl2 : data.length ≤ 140737488355328) (ht : TzLaid w) :
    Calls Tryd.prog 7 #[v1, v2] w (ManP names data w) := by
  obtain ⟨A1, c1, rfl, hlc1, hc1⟩ := h1.form
  obtain ⟨A2, c2, rfl, hlc2, hc2⟩ := h2.form
  have H1 := Lib.hid h1; clear h1
  have H2 := Lib.hid h2; clear h2
  have HF := Lib.hid hF; clear hF
  have N1 := Lib.hid n1; clear n1
  have N2 := Lib.hid n2; clear n2
  have HT := Lib.hid ht; clear ht
  by_cases hne : names.length = data.length
  · by_cases hlg : 500 < names.length
    · have HE := Lib.hid (show manE names data = 2 by unfold manE; rw [if_neg (by simp [hne]), if_pos hlg])
      have HL := Lib.hid (show manL names data = [] by unfold manL; rw [HE.out]; rfl)
      have hnz : ((names.length : Int)) = data.length := by omega
      go_enter Tryd.func7, Tryd.ntmps7
      go_wp2
      go_ret2
      exact ⟨_, by rw [HE.out]; rfl, by rw [HL.out]; exact Sli.nil_, Below.refl _ _⟩
    · have HE := Lib.hid (show manE names data = namesF names by unfold manE; rw [if_neg (by simp [hne]), if_neg hlg])
      have HL := Lib.hid (show manL names data = if namesF names = 0 then manAll names data else [] by unfold manL; rw [HE.out])
      have hlm : (manAll names data).length = names.length := by unfold manAll; simp [hne]
      obtain ⟨n, hn1⟩ : ∃ n, names.length = n := ⟨_, rfl⟩
      have hn2 : data.length = n := by omega
      rw [hn1] at H1 hl1 hlg hlm ⊢
      rw [hn2] at H2 ⊢
      clear hne hlc1 hlc2
      have hmm := @run_makeMap Tryd.prog
      obtain ⟨i0, hi0, hz0, hz1, hz2⟩ := info_parts (show (Tryd.prog.info? 35).map (fun i => (i.zero, i.size, i.bytes)) = some (some (.agg #[.string ⟨#[]⟩, .int .i64 0, .string ⟨#[]⟩]), 3, 40) by kernel_rfl)
      go_enter Tryd.func7, Tryd.ntmps7
      go_wp2
      go_loopw [7, 24] (fun v i wr => ∃ (k : Nat) (m : List (ByteArray × Value)), k ≤ n ∧ i = .int .i64 k ∧ Below w.heap.size w wr ∧ w.heap.size < wr.heap.size ∧ Hid (MapL wr w.heap.size Value.string m) ∧ Hid (seenN (names.take k) m) ∧ Hid (namesFrom (names.take k) (names.drop k) = namesF names) ∧ Hid (Own copR wr (w.heap.size + 1) (w.heap.size + 1) 35 ((manAll names data).take k) v)) (fun _ i _ => n - (intOf i).toNat)
      case atStart => exact ⟨0, [], Nat.zero_le _, rfl, (Below.refl _ _).alloc (Nat.le_refl _) _, by simp, MapL.made _, seenN_nil, rfl, Own.nil_⟩
      case round =>
        obtain ⟨k, m, hk, rfl, hb, hz, HM, HS, HN, HO⟩ := hrel
        by_cases hlt : k < n
        · have hst := namesFrom_step names k (by omega)
          obtain ⟨b, off, a, rfl, hfb, hr, hcc⟩ := (H1.out.below hb HF.out).at_ k (by omega)
          obtain ⟨b2, off2, a2, rfl, hfb2, hr2, hcc2⟩ := (H2.out.below hb HF.out).at_ k (by omega)
          have s1 := N1.out (names[k]'(by omega)) (List.getElem_mem _)
          have s2 := N2.out (data[k]'(by omega)) (List.getElem_mem _)
          have hma : (manAll names data)[k]'(by omega) = ⟨names[k]'(by omega), ((data[k]'(by omega)).size : Int), digestB (data[k]'(by omega))⟩ := by unfold manAll; simp
          obtain ⟨x, hx⟩ : ∃ x, names[k]'(by omega) = x := ⟨names[k]'(by omega), rfl⟩
          obtain ⟨d, hd⟩ : ∃ d, data[k]'(by omega) = d := ⟨data[k]'(by omega), rfl⟩
          rw [hx] at hr s1 hst hma
          rw [hd] at hr2 s2 hma
          have ha : a = [.string x] := hr
          have ha2 : a2 = [.string d] := hr2
          subst ha; subst ha2
          have c0 : wr.cell? ⟨b, off + k, none⟩ = some (.string x) := by have h := hcc 0 _ rfl; rw [show off + k * strR.n + 0 = off + k from by show off + k * 1 + 0 = _; omega] at h; exact h
          have cd : wr.cell? ⟨b2, off2 + k, none⟩ = some (.string d) := by have h := hcc2 0 _ rfl; rw [show off2 + k * strR.n + 0 = off2 + k from by show off2 + k * 1 + 0 = _; omega] at h; exact h
          have HNX := Lib.hid (show names.take (k + 1) = names.take k ++ [x] by rw [List.take_succ_eq_append_getElem (by omega), hx])
          have HMX := Lib.hid (show (manAll names data).take (k + 1) = (manAll names data).take k ++ [⟨x, (d.size : Int), digestB d⟩] by rw [List.take_succ_eq_append_getElem (by omega), hma])
          have HST := Lib.hid hst; clear hst hcc hcc2 hr hr2 hma
          have hmk : ((manAll names data).take k).length = k := by rw [List.length_take]; omega
          generalize hpre : names.take k = pre at *
          generalize (manAll names data).take k = ml at *
          clear hpre
          have HFF := Lib.hid (fun W (hW : MapL W w.heap.size Value.string m) => fileFault_c pre x w.heap.size m W s1 hW HS.out)
          go_wp2_with fail
          refine (HFF.out _ HM.out).mono ?_
          rintro e w2 ⟨rfl, hg, hsn⟩
          have HSN := Lib.hid hsn; clear hsn
          have hw2 := hg.size
          have HB2 := Lib.hid (hb.grown hg (by omega) (by simp))
          have hb2b := HF.out b2 hfb2
          have d0 : w2.cell? ⟨b2, off2 + k, none⟩ = some (.string d) := by rw [hg.cell_far _ (by have := hb.size; simp; omega) (by simp; omega)]; exact cd
          have HO3 := Lib.hid (HO.out.grown hg (fun k e => by injection e; omega) (Or.inr fun e => by have := HO.out.block _ e; omega))
          clear c0 cd
          by_cases n0 : nameF pre x = 0
          · obtain ⟨m', hm', hs'⟩ := HSN.out n0
            have HM3 := Lib.hid hm'
            have HS3 := Lib.hid hs'
            rw [n0]
            have hvb : ∀ g, u7.ownBlock = some g → w.heap.size < g := fun g e => by have := HO3.out.block g e; omega
            have HVB := Lib.hid (fun g e => Nat.le_of_lt (hvb g e))
            have HVS := Lib.hid hvb
            have HDW := Lib.hid ((HB2.out.cell (p := ⟨b2, off2 + k, none⟩) hb2b).symm.trans d0)
            have HDG := Lib.hid (fun W (hW : Below w2.heap.size w2 W) => (Digest_c d W s2 (tz_below HT.out (HB2.out.trans (hW.mono HB2.out.size)) (Nat.le_refl _))).mono
              (fun e w' (h : e = .returned (.string (digestB d)) ∧ Below W.heap.size W w') => (⟨h.1, hW.trans (h.2.mono hW.size)⟩ : e = .returned (.string (digestB d)) ∧ Below w2.heap.size w2 w')))
            clear hm' hs' hg hvb
            go_wp2_with fail
            go_region_held3 (fun W => W.cell? ⟨b2, off2 + k, none⟩ = some (.string d) ∧ Below w.heap.size w W)
              (first
                | exact ⟨d0, HB2.out.drew⟩
                | exact ⟨hd3, hb3⟩
                | exact (fun (h : Below w.heap.size w _) => ⟨(h.cell (p := ⟨b2, off2 + k, none⟩) hb2b).trans HDW.out, h⟩) (hb3.alloc hb3.size _)
                | exact ⟨hd4, hb4⟩
                | fail)
              (first
                | (go_at_call 4; refine (HDG.out _ (Below.refl _ _).drew).mono ?_; rintro e w3 ⟨rfl, hb32⟩; have hz3 := hb32.size; have hb3 := HB2.out.trans (hb32.mono HB2.out.size); have hd3 := (hb32.cell (p := ⟨b2, off2 + k, none⟩) (by simp; omega)).trans d0)
                | (refine step_push rfl _ _ _ rfl (w.heap.size + 1) (w.heap.size + 1) 35 i0 _ 40 Tryd.underlying29 hi0 hz0 hz1 hz2 rfl (by decide) _ u7 ml rfl ((HO3.out.below hb32).alloc _) ⟨x, (d.size : Int), digestB d⟩ _ rfl (oneC rfl) w3.heap.size _ _ (heap_alloc_new w3 _) rfl (by simp [maxLen]; omega) (by omega) (by simp; omega) ?_
                   intro g cap w4 hown4 hg4 hat4 hlt4
                   have hb4 := (hb3.alloc hb3.size _).grown hg4 (by simp; omega) (HVB.out)
                   have hd4 : w4.cell? ⟨b2, off2 + k, none⟩ = some (.string d) := (hb4.cell (p := ⟨b2, off2 + k, none⟩) hb2b).trans HDW.out)
                | fail)
            go_wp2
            go_roundw
            case rel => exact ⟨k + 1, m', by omega, intNum, hb4, by have := hg4.size; simp at this; omega,
              ((HM3.out.below hb32 (by omega)).alloc _).keep (hg4.block w.heap.size (by simp; omega) (fun e => by have := HVS.out _ e.symm; omega)),
              by rw [HNX.out]; exact HS3.out, ((HST.out.trans (if_pos n0)).symm.trans HN.out), by rw [HMX.out]; rw [hmk] at hown4; exact hown4⟩
            case measure => simp [intOf]; omega
          · have HR := Lib.hid (show namesF names = nameF pre x by rw [← HN.out, HST.out, if_neg n0])
            have HE2 := Lib.hid (HE.out.trans HR.out)
            have HL2 := Lib.hid (show manL names data = [] by rw [HL.out, if_neg (by rw [HR.out]; exact n0)])
            generalize nameF pre x = q at *
            go_wp2
            go_ret2
            exact ⟨_, by rw [HE2.out]; rfl, by rw [HL2.out]; exact Sli.nil_, HB2.out⟩
        · have H := namesFrom_end names k (by omega)
          have e : k = n := by omega
          have hz0 : namesF names = 0 := by rw [← HN.out, H]
          have HO2 := Lib.hid (show Own copR wr (w.heap.size + 1) (w.heap.size + 1) 35 (manL names data) _ by rw [HL.out, if_pos hz0]; have := HO.out; rw [List.take_of_length_le (by omega)] at this; exact this)
          have HE2 := Lib.hid (HE.out.trans hz0)
          clear H hz0
          go_wp2
          go_ret2
          exact ⟨_, by rw [HE2.out]; rfl, HO2.out.sli (fun b h1 h2 => ⟨by omega, h2⟩) (fun g hg => by have := HO2.out.block g hg; exact ⟨by omega, this.2⟩), hb⟩
  · have HE := Lib.hid (show manE names data = 3 by unfold manE; rw [if_pos hne])
    have HL := Lib.hid (show manL names data = [] by unfold manL; rw [HE.out]; rfl)
    have hnz : ¬ ((names.length : Int)) = data.length := by omega
    go_enter Tryd.func7, Tryd.ntmps7
    go_wp2
    go_ret2
    exact ⟨_, by rw [HE.out]; rfl, by rw [HL.out]; exact Sli.nil_, Below.refl _ _⟩
end Go.Proofs.YtnjbbkocobegiaaDoor
