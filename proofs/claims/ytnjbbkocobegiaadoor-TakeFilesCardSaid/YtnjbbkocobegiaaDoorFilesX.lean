/- Lists of copies checked, and manifests made. -/
import Derived.Test.YtnjbbkocobegiaaDoorFilesW
import Derived.Deep.RegionHeld3
import Derived.Deep.AppendLies
namespace Go.Proofs.YtnjbbkocobegiaaDoor
set_option linter.unusedVariables false
open Go.RowKit

def CopySz (l : List Copied) : Prop := ∀ x ∈ l, x.name.size ≤ 140737488355328 ∧ x.sum.size ≤ 140737488355328
set_option maxRecDepth 100000 in
set_option maxHeartbeats 1600000 in
theorem copiesFault_c (l : List Copied) (v : Value) (F : Nat → Prop) (w : World) (hv : Sli copR w F l v) (hF : ∀ b, F b → b < w.heap.size) (hsz : CopySz l) (hlen : l.length ≤ 140737488355328) :
    Calls Tryd.prog 23 #[v] w fun e w' => e = .returned (.int .i64 (copiesF l)) ∧ Below w.heap.size w w' := by
  obtain ⟨A, c, rfl, hlc, hc64⟩ := hv.form
  have HV := Lib.hid hv; clear hv
  have HF := Lib.hid hF; clear hF
  have HSZ := Lib.hid hsz; clear hsz
  have hmm := @run_makeMap Tryd.prog
  go_enter Tryd.func23, Tryd.ntmps23
  go_wp2
  go_loopw [10] (fun i wr => ∃ (k : Nat) (m : List (ByteArray × Value)), k ≤ l.length ∧ i = .int .i64 k ∧ Below w.heap.size w wr ∧ w.heap.size < wr.heap.size ∧ Hid (MapL wr w.heap.size Value.string m) ∧ Hid (seenN ((l.take k).map (·.name)) m) ∧ Hid (copiesFrom ((l.take k).map (·.name)) (l.drop k) = copiesF l)) (fun i _ => l.length - (intOf i).toNat)
  case atStart => exact ⟨0, [], Nat.zero_le _, rfl, (Below.refl _ _).alloc (Nat.le_refl _) _, by simp, MapL.made _, seenN_nil, rfl⟩
  case round =>
    obtain ⟨k, m, hk, rfl, hb, hz, HM, HS, HE⟩ := hrel
    by_cases hlt : k < l.length
    · obtain ⟨b, off, a, rfl, hfb, hr, hcc⟩ := (HV.out.below hb HF.out).at_ k hlt
      obtain ⟨s1, s2⟩ := HSZ.out l[k] (List.getElem_mem _)
      have hst := copiesFrom_step l k hlt
      obtain ⟨x, hx⟩ : ∃ x, l[k] = x := ⟨_, rfl⟩
      rw [hx] at hr s1 s2 hst
      have ha : a = x.cells := hr
      subst ha
      have c0 : wr.cell? ⟨b, off + k * 3, none⟩ = _ := hcc 0 _ rfl
      have c1 : wr.cell? ⟨b, off + k * 3 + 1, none⟩ = _ := hcc 1 _ rfl
      have c2 : wr.cell? ⟨b, off + k * 3 + 2, none⟩ = _ := hcc 2 _ rfl
      have HNX := Lib.hid (show ((l.take (k + 1)).map (·.name)) = ((l.take k).map (·.name)) ++ [x.name] by rw [List.take_succ_eq_append_getElem hlt, List.map_append, hx]; rfl)
      have HST := Lib.hid hst; clear hst hcc hr
      generalize hpre : ((l.take k).map (·.name)) = pre at *
      clear hpre
      have HFF := Lib.hid (fun W (hW : MapL W w.heap.size Value.string m) => fileFault_c pre x.name w.heap.size m W s1 hW HS.out)
      have HM2 := Lib.hid (HM.out.alloc (.cells #[.string x.name, .int .i64 x.size, .string x.sum] 35))
      have hbb := hb.alloc hb.size (.cells #[.string x.name, .int .i64 x.size, .string x.sum] 35)
      go_wp2_with fail
      refine (HFF.out _ HM2.out).mono ?_
      rintro e w2 ⟨rfl, hg, hsn⟩
      have HSN := Lib.hid hsn; clear hsn
      have hw2 := hg.size
      have HB2 := Lib.hid (hbb.grown hg (by simp; omega) (by simp))
      have d0 : w2.cell? ⟨wr.heap.size, 0, none⟩ = some (.string x.name) := by rw [hg.cell_far _ (by simp) (by simp; omega)]; simp
      have d1 : w2.cell? ⟨wr.heap.size, 1, none⟩ = some (.int .i64 x.size) := by rw [hg.cell_far _ (by simp) (by simp; omega)]; simp
      have d2 : w2.cell? ⟨wr.heap.size, 2, none⟩ = some (.string x.sum) := by rw [hg.cell_far _ (by simp) (by simp; omega)]; simp
      simp at hw2
      clear c0 c1 c2 hbb hg
      by_cases n0 : nameF pre x.name = 0
      · by_cases z0 : x.size < 0
        · have HR := Lib.hid (show copiesF l = 1 by rw [← HE.out, HST.out, if_neg (by unfold copyF; simp [n0, z0])]; unfold copyF; simp [n0, z0])
          rw [n0]
          go_wp2
          go_ret
          exact ⟨ret_int HR.out.symm, HB2.out⟩
        · by_cases z1 : x.sum.size = 16
          · rw [n0]
            have NZ := Lib.hid z0
            have HN0 := Lib.hid n0; clear n0
            have hz1 : (x.sum.size : Int) = 16 := by omega
            go_wp2_with fail
            refine (trimX_c x.sum _ s2).mono ?_
            rintro e w3 ⟨t, rfl, ht1, ht2, hb3⟩
            have HB3 := Lib.hid (HB2.out.trans (hb3.mono HB2.out.size))
            have hw3 := hb3.size
            have HBT := Lib.hid hb3; clear hb3
            cases hh : allB hexC x.sum with
            | true =>
              have ht := ht1 hh
              subst ht
              have HR := Lib.hid (show copyF pre x = 0 by unfold copyF; simp [HN0.out, eq_false (Int.not_lt.2 NZ.out), z1, hh])
              clear ht1 ht2
              go_wp2
              go_roundw
              case rel =>
                obtain ⟨m', hm', hs'⟩ := HSN.out HN0.out
                exact ⟨k + 1, m', by omega, intNum, HB3.out, by omega, hm'.below HBT.out (by omega), by rw [HNX.out]; exact hs', (HST.out.trans (if_pos HR.out)).symm.trans HE.out⟩
              case measure => simp [intOf]; omega
            | false =>
              have ht := ht2 hh
              have HR := Lib.hid (show copiesF l = 3 by rw [← HE.out, HST.out, if_neg (by unfold copyF; simp [HN0.out, eq_false (Int.not_lt.2 NZ.out), z1, hh])]; unfold copyF; simp [HN0.out, eq_false (Int.not_lt.2 NZ.out), z1, hh])
              clear ht1 ht2
              go_wp2
              go_ret
              exact ⟨ret_int HR.out.symm, HB3.out⟩
          · have HR := Lib.hid (show copiesF l = 3 by rw [← HE.out, HST.out, if_neg (by unfold copyF; simp [n0, z0, z1])]; unfold copyF; simp [n0, z0, z1])
            have hz1 : ¬ (x.sum.size : Int) = 16 := by omega
            rw [n0]
            go_wp2
            go_ret
            exact ⟨ret_int HR.out.symm, HB2.out⟩
      · have HR := Lib.hid (show copiesF l = nameF pre x.name by rw [← HE.out, HST.out, if_neg (by unfold copyF; simp [n0])]; unfold copyF; simp [n0])
        generalize nameF pre x.name = v at *
        go_wp2
        go_ret
        exact ⟨ret_int HR.out.symm, HB2.out⟩
    · have H := copiesFrom_end l k ((l.take k).map (·.name)) (by omega)
      have HR := Lib.hid (show copiesF l = 0 by rw [← HE.out, H])
      clear H
      go_wp2
      go_ret
      exact ⟨ret_int HR.out.symm, hb⟩
end Go.Proofs.YtnjbbkocobegiaaDoor
