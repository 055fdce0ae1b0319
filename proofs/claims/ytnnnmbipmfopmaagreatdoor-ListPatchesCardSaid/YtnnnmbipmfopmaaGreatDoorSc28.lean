/- Texts packed: NumP, StoryE, RgD, SpD, ScX, ScY. -/
import Derived.Test.YtnnnmbipmfopmaaGreatDoorSc24
import Derived.Test.YtnnnmbipmfopmaaGreatDoorSc27
import Derived.Test.YtnnnmbipmfopmaaGreatDoorSc05
import Derived.Test.YtnnnmbipmfopmaaGreatDoorSc26
import Derived.Deep.CutBlock
import Derived.Test.YtnnnmbipmfopmaaGreatDoorSc19
import Derived.Test.YtnnnmbipmfopmaaGreatDoorSc23
/- script.Times and script.Number, walked. -/
namespace Go.Proofs.YtnnnmbipmfopmaaGreatDoor
set_option linter.unusedVariables false
open Go.RowKit Go.Sort

/-- The first k scenes have their numbers. -/
def numL : Nat → List Scene → List Scene
  | 0, l => l
  | k + 1, l => (numL k l).modify k fun x => { x with no := noOf k }
theorem numTo_map (k : Nat) (l : List (Scene × Value)) : (numbTo k l).map (·.1) = numL k (l.map (·.1)) := by
  induction k with
  | zero => rfl
  | succ k ih =>
    rw [numbTo, numL, ← ih]
    apply List.ext_getElem?
    intro i
    rw [List.getElem?_map, List.getElem?_modify, List.getElem?_modify, List.getElem?_map]
    cases (numbTo k l)[i]? with
    | none => rfl
    | some y => by_cases e : k = i <;> simp [e, setNo]
def NuP (x : Script) (w : World) (e : Ending) (w' : World) : Prop := ∃ (t : ByteArray) (l : List (Scene × Value)) (v : Value), e = .returned (.tuple #[.agg (xCs t v), .int .i64 (chkE x)]) ∧ BI w l v [] w' ∧ (chkE x = 0 → t = x.title ∧ l.map (·.1) = numL x.scenes.length x.scenes)
set_option maxRecDepth 100000 in
set_option maxHeartbeats 8000000 in
theorem Number_c {F : Nat → Prop} (t : ByteArray) (ls : List (Scene × Value)) (v : Value) (w : World) (h : ScL w F t ls v) (hl : ls.length ≤ 95) (hm : MaxLaid w) :
    Calls Tryz.prog 51 #[.agg #[.string t, v]] w (NuP ⟨t, ls.map (·.1)⟩ w) := by
  obtain ⟨A, c, rfl, hlc, hcm⟩ := h.sli.form
  obtain ⟨L, hL⟩ : ∃ L, ls.length = L := ⟨_, rfl⟩
  have HL := Lib.hid hL
  rw [hL] at h hlc hl ⊢
  have H := Lib.hid h
  have HM := Lib.hid hm
  clear h hm hL
  go_enter Tryz.func51, Tryz.ntmps51
  go_upto_region 1 with (fail)
  have hG : BI w [] (.slice none 0 0) [(w.heap.size + 1, xCs ⟨#[]⟩ (.slice none 0 0), 56), (w.heap.size, xCs t (.slice A L c), 56)] ((w.alloc (.cells (xCs t (.slice A L c)) 56)).alloc (.cells (xCs ⟨#[]⟩ (.slice none 0 0)) 56)) := by
    have h := ((BI.start w).new (xCs t (.slice A L c)) 56).new (xCs ⟨#[]⟩ (.slice none 0 0)) 56
    rw [show (w.alloc (.cells (xCs t (.slice A L c)) 56)).heap.size = w.heap.size + 1 by simp] at h
    exact h
  generalize hW : (w.alloc (.cells #[.string t, .slice A L c] 56)).alloc (.cells #[.string ⟨#[]⟩, .slice none 0 0] 56) = w1
  have G1 := Lib.hid (show BI w [] (.slice none 0 0) [(w.heap.size + 1, xCs ⟨#[]⟩ (.slice none 0 0), 56), (w.heap.size, xCs t (.slice A L c), 56)] w1 by rw [← hW]; exact hG)
  clear hG hW
  obtain ⟨gx, _⟩ := G1.out.cell (p := (w.heap.size, xCs t (.slice A L c), 56)) (by simp)
  have d0 : w1.cell? ⟨w.heap.size, 0, none⟩ = some (.string t) := gx 0
  have d1 : w1.cell? ⟨w.heap.size, 1, none⟩ = some (.slice A L c) := gx 1
  have HCK := Lib.hid (Check_c t ls (.slice A L c) w1 (by have h := H.out.below G1.out.bo.bel; rw [← HL.out] at h ⊢; exact h) (max_below HM.out G1.out.bo.bel (Nat.le_refl _)))
  clear gx
  go_wp2_with fail
  refine HCK.out.mono ?_
  rintro e w2 ⟨rfl, hb2⟩
  have G2 := Lib.hid (G1.out.below hb2)
  have HE := Lib.hid (rfl : chkE ⟨t, ls.map (·.1)⟩ = chkE ⟨t, ls.map (·.1)⟩)
  revert HE
  generalize hEg : chkE ⟨t, ls.map (·.1)⟩ = E at *
  intro HE
  have HEG := Lib.hid hEg
  clear HE hEg hb2 G1 d0 d1 HCK
  obtain ⟨gx, _⟩ := G2.out.cell (p := (w.heap.size, xCs t (.slice A L c), 56)) (by simp)
  obtain ⟨gy, fy⟩ := G2.out.cell (p := (w.heap.size + 1, xCs ⟨#[]⟩ (.slice none 0 0), 56)) (by simp)
  have d0 : w2.cell? ⟨w.heap.size, 0, none⟩ = some (.string t) := gx 0
  have d1 : w2.cell? ⟨w.heap.size, 1, none⟩ = some (.slice A L c) := gx 1
  have y0 : w2.cell? ⟨w.heap.size + 1, 0, none⟩ = some (.string ⟨#[]⟩) := gy 0
  have y1 : w2.cell? ⟨w.heap.size + 1, 1, none⟩ = some (.slice none 0 0) := gy 1
  have f0 : w2.frozen? ⟨w.heap.size + 1, 0, none⟩ = false := fy 0
  have f1 : w2.frozen? ⟨w.heap.size + 1, 1, none⟩ = false := fy 1
  clear gx gy fy
  by_cases hE0 : E = 0
  case neg =>
    have q1 : (E != 0) = true := bne_iff_ne.2 hE0
    have HNN := Lib.hid (show NuP ⟨t, ls.map (·.1)⟩ w (.returned (.tuple #[.agg (xCs ⟨#[]⟩ (.slice none 0 0)), .int .i64 E])) ((w2.setCell ⟨w.heap.size + 1, 0, none⟩ (.string ⟨#[]⟩)).setCell ⟨w.heap.size + 1, 1, none⟩ (.slice none 0 0)) from
      ⟨⟨#[]⟩, [], .slice none 0 0, by rw [HEG.out], (((G2.out.less (Q := [(w.heap.size + 1, xCs ⟨#[]⟩ (.slice none 0 0), 56)]) (by simp)).set (i := 0) (.string ⟨#[]⟩) (by simp)).set (i := 1) (.slice none 0 0) (by simp)).less (by simp), fun h => absurd (HEG.out.symm.trans h) hE0⟩)
    clear hE0
    go_wp2
    refine ⟨rfl, .tuple #[.agg (xCs ⟨#[]⟩ (.slice none 0 0)), .int .i64 E], (by rw [results_cell_tmp rfl]; go_simp; rfl), ?_⟩
    exact HNN.out
  subst hE0
  have h2 : Sc2 w2 F ls (.slice A L c) := by
    have h := H.out.below G2.out.bo.bel
    exact ⟨h.sli, h.par, h.lt⟩
  have HCP := Lib.hid (copied_c t ls (.slice A L c) w2 h2 (by rw [HL.out]; omega) (fun y hy => (H.out.bd y hy).2.2.1))
  clear h2 y0 y1 f0 f1
  go_wp2_with fail
  refine HCP.out.mono ?_
  rintro e w3 ⟨l3, v3, rfl, hl3, hB3⟩
  have hG3 := G2.out.take hB3
  have hL3 : l3.length = L := by have := congrArg List.length hl3; simpa [HL.out] using this
  have HM3 := Lib.hid (And.intro hL3 hl3)
  obtain ⟨A3, c3, hv3, hc31, hc32⟩ := (hG3.bo.own.sliF (enc := fun x : Scene × Value => x.1.cells x.2) (hn := fun _ => rfl) (F := fun _ => True) (fun _ _ => trivial)).form
  rw [hL3] at hv3 hc31
  subst hv3
  have hG4 := hG3.new (xCs t (.slice A3 L c3)) 56
  have hX3 : w.heap.size + 1 < w3.heap.size := hG3.bo.plt (p := (w.heap.size + 1, xCs ⟨#[]⟩ (.slice none 0 0), 56)) (by simp)
  clear hB3 HCP hG3 G2 hl3 hL3 d0 d1
  rw [show xCs t (.slice A3 L c3) = #[.string t, .slice A3 L c3] from rfl]
  go_upto_region 5 with (fail)
  generalize hW : w3.alloc (.cells #[.string t, .slice A3 L c3] 56) = w4
  have G4 := Lib.hid (show BI w l3 (.slice A3 L c3) [(w3.heap.size, xCs t (.slice A3 L c3), 56), (w.heap.size + 1, xCs ⟨#[]⟩ (.slice none 0 0), 56)] w4 by rw [← hW]; exact hG4.less (by simp))
  clear hG4 hW
  generalize w3.heap.size = X at *
  have x1 : w4.cell? ⟨X, 1, none⟩ = some (.slice A3 L c3) := (G4.out.cell (p := (X, xCs t (.slice A3 L c3), 56)) (by simp)).1 1
  go_wp2
  go_loopw [18] (fun i wr => ∃ k : Nat, k ≤ L ∧ i = .int .i64 k ∧ Hid (BI w (numbTo k l3) (.slice A3 L c3) [(X, xCs t (.slice A3 L c3), 56), (w.heap.size + 1, xCs ⟨#[]⟩ (.slice none 0 0), 56)] wr)) (fun i _ => L - (intOf i).toNat)
  case atStart => exact ⟨0, by omega, rfl, G4⟩
  case round =>
    clear G4 x1
    obtain ⟨k, hk, rfl, HG⟩ := hrel
    by_cases hlt : k < L
    · go_upto_region 8 with (fail)
      have hlen : (numbTo k l3).length = L := (numbTo_len k l3).trans HM3.out.1
      obtain ⟨g, cap, hv, hg1, hg2⟩ := Own.some_ (enc := fun x : Scene × Value => x.1.cells x.2) (hn := fun _ => rfl) HG.out.bo.own (by omega)
      rw [hlen] at hv
      injection hv with hv1 _ hv3
      subst hv1
      subst hv3
      obtain ⟨old, d1, f1⟩ : ∃ old : ByteArray, wr.cell? ⟨g, k * 5, none⟩ = some (.string old) ∧ wr.frozen? ⟨g, k * 5, none⟩ = false := by
        have h := Own.cellAt (enc := fun x : Scene × Value => x.1.cells x.2) (hn := fun _ => rfl) HG.out.bo.own k (by omega) 0 (by decide)
        exact ⟨_, h.1, h.2⟩
      have c1 : wr.cell? ⟨X, 1, none⟩ = some (.slice (some ⟨g, 0, none⟩) L c3) := (HG.out.cell (p := (X, xCs t (.slice (some ⟨g, 0, none⟩) L c3), 56)) (by simp)).1 1
      have hXlt : X < wr.heap.size := HG.out.bo.plt (p := (X, xCs t (.slice (some ⟨g, 0, none⟩) L c3), 56)) (by simp)
      have HI := Lib.hid (fun W => show Calls Tryz.prog 39 #[.int .i64 ((k + 1 : Nat) : Int)] W fun e w' => e = .returned (.string (noOf k)) ∧ w' = W from Tryz.strconv_Itoa_small (k + 1) (by omega) W)
      have ek : (((k + 1 : Nat) : Int)) = (k : Int) + 1 := by omega
      rw [ek] at HI
      have e1 : IntKind.i64.wrap ((k : Int) + 1) = (k : Int) + 1 := IntWalk.i64_in _ (by omega)
      have HLN := Lib.hid hlen
      clear hlen
      refine wp_region_drewN_tail 8 (by kernel_rfl) (by kernel_rfl) ?_
      simp only [List.take_succ_cons, List.take_zero, List.drop_succ_cons, List.drop_zero]
      repeat (quiet_step ((go_at_call 39; exact Calls.quiet_of_same (HI.out _))))
      refine wpQuiet_nil ?_
      intro wx hwx
      obtain ⟨nqx, hwx⟩ := hwx
      subst hwx
      have G2 := Lib.hid ((HG.out.below (below_drewN (Below.refl _ _) nqx)).modify (j := 0) (setNo (noOf k)) k (.string (noOf k)) (fun x => rfl) (by decide) (by rw [HLN.out]; exact hlt) (fun _ => ⟨rfl, rfl⟩))
      clear HG HI
      go_wp2
      go_roundw
      case rel => exact ⟨k + 1, by omega, intNum, G2⟩
      all_goals (try (simp [intOf] <;> omega))
    · obtain rfl : k = L := by omega
      have c0 := (HG.out.cell (p := (X, xCs t (.slice A3 k c3), 56)) (by simp)).1
      have e0 : wr.cell? ⟨X, 0, none⟩ = some (.string t) := c0 0
      have e1 : wr.cell? ⟨X, 1, none⟩ = some (.slice A3 k c3) := c0 1
      obtain ⟨d, f⟩ := HG.out.cell (p := (w.heap.size + 1, xCs ⟨#[]⟩ (.slice none 0 0), 56)) (by simp)
      have f0 : wr.frozen? ⟨w.heap.size + 1, 0, none⟩ = false := f 0
      have f1 : wr.frozen? ⟨w.heap.size + 1, 1, none⟩ = false := f 1
      have d0 : wr.cell? ⟨w.heap.size + 1, 0, none⟩ = some (.string ⟨#[]⟩) := d 0
      have d1 : wr.cell? ⟨w.heap.size + 1, 1, none⟩ = some (.slice none 0 0) := d 1
      have HFN := Lib.hid (show NuP ⟨t, ls.map (·.1)⟩ w (.returned (.tuple #[.agg (xCs t (.slice A3 k c3)), .int .i64 0])) ((wr.setCell ⟨w.heap.size + 1, 0, none⟩ (.string t)).setCell ⟨w.heap.size + 1, 1, none⟩ (.slice A3 k c3)) from
        ⟨t, numbTo k l3, _, by rw [HEG.out], (((HG.out.less (Q := [(w.heap.size + 1, xCs ⟨#[]⟩ (.slice none 0 0), 56)]) (by simp)).set (i := 0) (.string t) (by simp)).set (i := 1) (.slice A3 k c3) (by simp)).less (by simp), fun _ => ⟨rfl, by
          rw [numTo_map, HM3.out.2]
          show _ = numL (ls.map (·.1)).length _
          rw [List.length_map, HL.out]⟩⟩)
      clear f c0 d HG
      go_wp2
      refine ⟨rfl, .tuple #[.agg (xCs t (.slice A3 k c3)), .int .i64 0], (by rw [results_cell_tmp rfl]; go_simp; rfl), ?_⟩
      exact HFN.out
end Go.Proofs.YtnnnmbipmfopmaaGreatDoor

/- The generator's scripts with numbers. -/
namespace Go.Proofs.YtnnnmbipmfopmaaGreatDoor
set_option linter.unusedVariables false
open Go.RowKit Go.Sort

end Go.Proofs.YtnnnmbipmfopmaaGreatDoor

/- The generator's right script, with numbers or without, walked. -/
namespace Go.Proofs.YtnnnmbipmfopmaaGreatDoor
set_option linter.unusedVariables false
open Go.RowKit Go.Sort

end Go.Proofs.YtnnnmbipmfopmaaGreatDoor

/- The generator's scripts of any kind, walked. -/
namespace Go.Proofs.YtnnnmbipmfopmaaGreatDoor
set_option linter.unusedVariables false
open Go.RowKit Go.Sort

end Go.Proofs.YtnnnmbipmfopmaaGreatDoor

/- A script of the generator, in a block of its own beside the stream. -/
namespace Go.Proofs.YtnnnmbipmfopmaaGreatDoor
set_option linter.unusedVariables false
open Go.RowKit Go.Sort

section
variable {W0 wx wy : World} {sb X N M : Nat} {t : ByteArray} {l : List (Scene × Value)} {v : Value} {n n' : Int}
end
end Go.Proofs.YtnnnmbipmfopmaaGreatDoor

/- Scripts of the generator beside private blocks. -/
namespace Go.Proofs.YtnnnmbipmfopmaaGreatDoor
set_option linter.unusedVariables false
open Go.RowKit Go.Sort

section
variable {W0 wx wy : World} {E E' : Nat → Prop} {N M N' M' : Nat} {t : ByteArray} {l : List (Scene × Value)} {v : Value}
end
end Go.Proofs.YtnnnmbipmfopmaaGreatDoor

