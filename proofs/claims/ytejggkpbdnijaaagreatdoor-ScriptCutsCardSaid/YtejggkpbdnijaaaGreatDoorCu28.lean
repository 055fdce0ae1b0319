/- Texts packed: CutQ. -/
import Derived.Test.YtejggkpbdnijaaaGreatDoorCu27
import Derived.Test.YtejggkpbdnijaaaGreatDoorCu01
import Derived.Deep.QuietTactic
import Derived.BigQuiet
/- R.CutOf walked. -/
namespace Go.Proofs.YtejggkpbdnijaaaGreatDoor
set_option linter.unusedVariables false
open Go.RowKit Go.Sort

/-- A part of a slice of scenes. -/
theorem sub_empty {α : Type} {R : Rep α} {w : World} {F : Nat → Prop} {l : List α} (A : Option Addr) (c : Nat) (h : l = []) (hc : c ≤ 9223372036854775807) : Sli R w F l (.slice A 0 c) := by
  subst h
  exact ⟨A, c, rfl, Nat.zero_le _, hc, fun h => absurd h (Nat.lt_irrefl 0)⟩
theorem sub_sli {w : World} {F : Nat → Prop} {l : List (Scene × Value)} {b off L c f g : Nat} (h : Sli svR w F l (.slice (some ⟨b, off, none⟩) L c)) (hL : l.length = L) (hfg : f ≤ g) (hg : g ≤ L) (hcf : ¬ c = f) : Sli svR w F ((l.take g).drop f) (.slice (some ⟨b, off + f * 5, none⟩) (g - f) (c - f)) := by
  have h2 := (h.take_ g (by rw [hL]; exact hg)).drop_ f (by rw [List.length_take, hL]; omega) (g - f) (c - f) (by rw [List.length_take, hL]; omega) rfl
  exact h2
def CoP (F : Nat → Prop) (t : ByteArray) (x : List Scene) (f g : Nat) (w : World) (e : Ending) (w' : World) : Prop := ∃ (l : List (Scene × Value)) (v : Value), e = .returned (.agg (xCs t v)) ∧ l.map (·.1) = cutS x f g ∧ BO svR 29 w l v [] w' ∧ ∀ y ∈ l, Sli paraR w' F y.1.paras y.2
set_option maxRecDepth 100000 in
set_option maxHeartbeats 4000000 in
theorem CutOfA_c {F : Nat → Prop} (t : ByteArray) (ls : List (Scene × Value)) (b off L c f g : Nat) (w : World) (h : Sc2 w F ls (.slice (some ⟨b, off, none⟩) L c)) (hL : ls.length = L) (hl : L ≤ 1000) (hc : L ≤ c ∧ c ≤ 9223372036854775807) (hno : ∀ y ∈ (ls.map fun x : Scene × Value => x.1)[0]?, ¬ y.time = 5) (hfg : f ≤ g) (hg : g ≤ L) :
    Calls Tryz.prog 43 #[.agg #[.string t, .slice (some ⟨b, off, none⟩) L c], .int .i64 f, .int .i64 g] w (CoP F t (ls.map fun x : Scene × Value => x.1) f g w) := by
  obtain ⟨A9, hA9, hS9⟩ : ∃ A9, (if c = f then some (⟨b, off, none⟩ : Addr) else some ⟨b, off + f * 5, none⟩) = A9 ∧ Sli svR w F ((ls.take g).drop f) (.slice A9 (g - f) (c - f)) := by
    by_cases hcf : c = f
    · refine ⟨_, if_pos hcf, ?_⟩
      have e : (ls.take g).drop f = [] := List.drop_eq_nil_of_le (by rw [List.length_take]; omega)
      rw [show g - f = 0 by omega]
      exact sub_empty _ _ e (by omega)
    · exact ⟨_, if_neg hcf, sub_sli h.sli hL hfg hg hcf⟩
  have HF := Lib.hid (sli_forms h.par)
  have HL := Lib.hid hL
  have HTM := Lib.hid (fun (W : World) (hW : Below w.heap.size w W) => TimesOf_c t ls (.slice (some ⟨b, off, none⟩) L c) W (h.below hW) (by rw [hL]; exact hl) hno)
  have HLEN := Lib.hid (show ((ls.take g).drop f).length = g - f by rw [List.length_drop, List.length_take, hL]; omega)
  have HMEM := Lib.hid (show ∀ y ∈ (ls.take g).drop f, y ∈ ls from fun y hy => List.mem_of_mem_take (List.mem_of_mem_drop hy))
  have HCL := Lib.hid (fun (W : World) (hW : Below w.heap.size w W) => cloneScene_c ((ls.take g).drop f) (.slice A9 (g - f) (c - f)) W (hS9.below hW h.lt) (by rw [HLEN.out]; omega) (fun x hx => HF.out x (HMEM.out x hx)))
  have HPAR := Lib.hid (fun (W : World) (hW : Below w.heap.size w W) y (hy : y ∈ (ls.take g).drop f) => ((h.par y (HMEM.out y hy)).below hW h.lt))
  obtain ⟨lz, hlz⟩ : ∃ lz, (ls.take g).drop f = lz := ⟨_, rfl⟩
  have HLZ := Lib.hid hlz
  rw [hlz] at HLEN HMEM HCL HPAR
  clear hS9 h hL hno hlz
  go_enter Tryz.func43, Tryz.ntmps43
  go_upto_region 1 with (fail)
  have hG : BO svR 29 w [] (.slice none 0 0) [(w.heap.size + 1, xCs ⟨#[]⟩ (.slice none 0 0), 40), (w.heap.size, xCs t (.slice (some ⟨b, off, none⟩) L c), 40)] ((w.alloc (.cells (xCs t (.slice (some ⟨b, off, none⟩) L c)) 40)).alloc (.cells (xCs ⟨#[]⟩ (.slice none 0 0)) 40)) := by
    have h := ((BO.start (R := svR) (e := 29) w).new (xCs t (.slice (some ⟨b, off, none⟩) L c)) 40).new (xCs ⟨#[]⟩ (.slice none 0 0)) 40
    rw [show (w.alloc (.cells (xCs t (.slice (some ⟨b, off, none⟩) L c)) 40)).heap.size = w.heap.size + 1 by simp] at h
    exact h
  generalize hW : (w.alloc (.cells #[.string t, .slice (some ⟨b, off, none⟩) L c] 40)).alloc (.cells #[.string ⟨#[]⟩, .slice none 0 0] 40) = w1
  have G1 := Lib.hid (show BO svR 29 w [] (.slice none 0 0) [(w.heap.size + 1, xCs ⟨#[]⟩ (.slice none 0 0), 40), (w.heap.size, xCs t (.slice (some ⟨b, off, none⟩) L c), 40)] w1 by rw [← hW]; exact hG)
  clear hG hW
  have hz1 : w.heap.size + 1 < w1.heap.size := G1.out.plt (p := (w.heap.size + 1, xCs ⟨#[]⟩ (.slice none 0 0), 40)) (by simp)
  have i1 : (f : Int) ≤ g := by omega
  have i2 : (g : Int) ≤ c := by omega
  have i3 : ((g : Int) - f).toNat = g - f := by omega
  have i4 : g ≤ c := by omega
  have i5 : f ≤ c := by omega
  have HK := Lib.hid (fun (W : World) (hW : Below w1.heap.size w1 W) => show W.cell? ⟨w.heap.size, 0, none⟩ = some (.string t) ∧ W.cell? ⟨w.heap.size, 1, none⟩ = some (.slice (some ⟨b, off, none⟩) L c) from by
    obtain ⟨gx, _⟩ := (G1.out.below hW).cell (p := (w.heap.size, xCs t (.slice (some ⟨b, off, none⟩) L c), 40)) (by simp)
    exact ⟨gx 0, gx 1⟩)
  go_cut [7] (fun p wx => ∃ (X : Nat) (v7 : Value), p = .pointer (some ⟨X, 0, none⟩) ∧ w1.heap.size ≤ X ∧ Hid (BO svR 29 w lz v7 [(X, xCs t v7, 40), (w.heap.size + 1, xCs ⟨#[]⟩ (.slice none 0 0), 40), (w.heap.size, xCs t (.slice (some ⟨b, off, none⟩) L c), 40)] wx))
  case first =>
    obtain ⟨ι, ff, hne, hp0, hff, hfS⟩ := growFam w1
    have q0 := fun p => (HK.out _ (hff p)).1
    have q1 := fun p => (HK.out _ (hff p)).2
    have HFS := Lib.hid hfS
    have HB1 := Lib.hid G1.out.bel
    clear hfS hff
    refine stp_start [6, 7, 9] (by kernel_rfl) (fun W => ∃ p : ι, W = ff p) ?_
    refine stp_reads (n := 5) [0, 2, 4, 5] [1, 3] (by simp only [pick, List.getElem?_cons_succ, List.getElem?_cons_zero]; rfl) (by simp only [pick, List.getElem?_cons_succ, List.getElem?_cons_zero]; rfl) (by rfl) (by kernel_rfl) (by rfl) (fun _ _ _ dd _ h => by cases dd <;> exact h) (HFS.out _ (Below.refl _ w1).drew) (fun K1 hK1 L1 hL1 => ?_)
    repeat (first | go_big_quiet_step (fail) | quiet_step (fail))
    refine wpQuiet_nil (hL1 _ ?_)
    repeat (first | go_big_quiet_step (fail) | quiet_step (fail))
    refine wpQuiet_nil ?_
    refine hK1 _ ?_
    refine stp_two (i := 6) (j := 9) (by kernel_rfl) rfl rfl (by kernel_rfl) (by kernel_rfl) (by rfl) (by rfl) (fun K2 hK2 => ?_) (fun K3 hK3 => ?_)
    · refine Or.inl ⟨by kernel_rfl, ?_⟩
      go_simp
      refine hK2 (fun W => ∃ p : ι, W = ff p) _ _ (fun _ h => h) (fun _ => HFS.out _ ((Below.refl _ w1).drew)) ?_
      refine stp_two (i := 7) (j := 9) (by kernel_rfl) rfl rfl (by kernel_rfl) (by kernel_rfl) (by rfl) (by rfl) (fun K4 hK4 => ?_) (fun K5 hK5 => ?_)
      · refine Or.inl ⟨by kernel_rfl, ?_⟩
        go_simp
        refine (HCL.out _ (HB1.out.trans (((Below.refl _ w1).drew).mono HB1.out.size))).mono ?_
        rintro e w7 ⟨v7, rfl, hown7, hb7⟩
        obtain ⟨A7, c7, hv7, _, _⟩ := (hown7.sliF (enc := fun x : Scene × Value => x.1.cells x.2) (hn := fun _ => rfl) (F := fun _ => True) (fun _ _ => trivial)).form
        subst hv7
        have hb17 := ((Below.refl _ w1).drew).trans (hb7.mono (by first | exact Nat.le_refl _ | simp))
        refine hK4 (fun W => ∃ p : ι, W = ff p) _ _ (fun _ h => h) (fun _ => HFS.out _ (hb17)) ?_
        refine stp_reads (n := 2) [8] [] (by simp only [pick, List.getElem?_cons_succ, List.getElem?_cons_zero]; rfl) (by simp only [pick, List.getElem?_cons_succ, List.getElem?_cons_zero]; rfl) (by rfl) (by kernel_rfl) (by rfl) (fun _ _ _ dd _ h => by cases dd <;> exact h) (HFS.out _ hb17) (fun K6 hK6 L6 hL6 => ?_)
        repeat (first | go_big_quiet_step (fail) | quiet_step (fail))
        refine wpQuiet_nil (hL6 _ ?_)
        repeat (first | go_big_quiet_step (fail) | quiet_step (fail))
        refine wpQuiet_nil ?_
        refine hK6 _ ?_
        refine stp_one (i := 9) (by kernel_rfl) rfl (by kernel_rfl) (by rfl) (fun K7 hK7 => ?_)
        refine Or.inl ⟨by kernel_rfl, ?_⟩
        go_simp
        refine hK7 (fun W => ∃ p : ι, W = ff p) _ _ (fun _ h => h) (fun _ => HFS.out _ (hb17.alloc hb17.size _)) ?_
        refine stp_one (i := 10) (by kernel_rfl) rfl (by kernel_rfl) (by rfl) (fun K8 hK8 => ?_)
        refine Or.inl ⟨by kernel_rfl, ?_⟩
        go_simp
        refine hK8 (fun W => ∃ p : ι, W = ff p) _ _ (fun _ h => h) (fun h => absurd h (by decide)) ?_
        refine stp_end (by kernel_rfl) ?_
        clear hK8
        go_wp2
        go_meet
        exact ⟨w7.heap.size, .slice A7 lz.length c7, rfl, hb17.size, Lib.hid ((BO.take G1.out.drew hb7 hown7 (hown7.less G1.out.size)).new (xCs t (.slice A7 lz.length c7)) 40)⟩
      · refine Or.inl ⟨by kernel_rfl, ?_⟩
        go_simp
        refine hK5 (fun W => ∃ p : ι, W = ff p) _ _ (fun _ h => h) (fun _ => HFS.out _ (((Below.refl _ w1).drew.alloc (Nat.le_refl _) (.cells #[.string ⟨#[]⟩, .slice none 0 0] 40)))) ?_
        refine stp_one (i := 7) (by kernel_rfl) rfl (by kernel_rfl) (by rfl) (fun K9 hK9 => ?_)
        refine Or.inl ⟨by kernel_rfl, ?_⟩
        go_simp
        refine (HCL.out _ (HB1.out.trans ((((Below.refl _ w1).drew.alloc (Nat.le_refl _) (.cells #[.string ⟨#[]⟩, .slice none 0 0] 40))).mono HB1.out.size))).mono ?_
        rintro e w7 ⟨v7, rfl, hown7, hb7⟩
        obtain ⟨A7, c7, hv7, _, _⟩ := (hown7.sliF (enc := fun x : Scene × Value => x.1.cells x.2) (hn := fun _ => rfl) (F := fun _ => True) (fun _ _ => trivial)).form
        subst hv7
        have hb17 := (((Below.refl _ w1).drew.alloc (Nat.le_refl _) (.cells #[.string ⟨#[]⟩, .slice none 0 0] 40))).trans (hb7.mono (by first | exact Nat.le_refl _ | simp))
        refine hK9 (fun W => ∃ p : ι, W = ff p) _ _ (fun _ h => h) (fun _ => HFS.out _ (hb17)) ?_
        refine stp_reads (n := 1) [8] [] (by simp only [pick, List.getElem?_cons_succ, List.getElem?_cons_zero]; rfl) (by simp only [pick, List.getElem?_cons_succ, List.getElem?_cons_zero]; rfl) (by rfl) (by kernel_rfl) (by rfl) (fun _ _ _ dd _ h => by cases dd <;> exact h) (HFS.out _ hb17) (fun K10 hK10 L10 hL10 => ?_)
        repeat (first | go_big_quiet_step (fail) | quiet_step (fail))
        refine wpQuiet_nil (hL10 _ ?_)
        repeat (first | go_big_quiet_step (fail) | quiet_step (fail))
        refine wpQuiet_nil ?_
        refine hK10 _ ?_
        obtain ⟨y, fy⟩ := ((((G1.out.drew.new (xCs ⟨#[]⟩ (.slice none 0 0)) 40)).below hb7).cell (p := (w1.heap.size, xCs ⟨#[]⟩ (.slice none 0 0), 40)) (by simp))
        have y0 : w7.cell? ⟨w1.heap.size, 0, none⟩ = some (.string ⟨#[]⟩) := y 0
        have y1 : w7.cell? ⟨w1.heap.size, 1, none⟩ = some (.slice none 0 0) := y 1
        have f0 : w7.frozen? ⟨w1.heap.size, 0, none⟩ = false := fy 0
        have f1 : w7.frozen? ⟨w1.heap.size, 1, none⟩ = false := fy 1
        clear y fy
        refine stp_one (i := 10) (by kernel_rfl) rfl (by kernel_rfl) (by rfl) (fun K11 hK11 => ?_)
        refine Or.inl ⟨by kernel_rfl, ?_⟩
        go_simp
        refine hK11 (fun W => ∃ p : ι, W = ff p) _ _ (fun _ h => h) (fun h => absurd h (by decide)) ?_
        refine stp_end (by kernel_rfl) ?_
        clear hK11
        go_wp2
        go_meet
        have hbo := BO.take (G1.out.drew.new (xCs ⟨#[]⟩ (.slice none 0 0)) 40) hb7 hown7 (hown7.less (by have := G1.out.size; simp; omega))
        have hd : ∀ p ∈ [(w.heap.size + 1, xCs ⟨#[]⟩ (.slice none 0 0), 40), (w.heap.size, xCs t (.slice (some ⟨b, off, none⟩) L c), 40)], p.1 ≠ w1.heap.size := fun p hp => by
          have := G1.out.plt hp
          omega
        exact ⟨w1.heap.size, .slice A7 lz.length c7, rfl, Nat.le_refl _, Lib.hid ((hbo.set (i := 0) svFlat (.string t) hd).set (i := 1) svFlat (.slice A7 lz.length c7) hd)⟩
    · refine Or.inl ⟨by kernel_rfl, ?_⟩
      go_simp
      refine hK3 (fun W => ∃ p : ι, W = ff p) _ _ (fun _ h => h) (fun _ => HFS.out _ (((Below.refl _ w1).drew.alloc (Nat.le_refl _) (.cells #[.string ⟨#[]⟩, .slice none 0 0] 40)))) ?_
      refine stp_one (i := 6) (by kernel_rfl) rfl (by kernel_rfl) (by rfl) (fun K12 hK12 => ?_)
      refine Or.inl ⟨by kernel_rfl, ?_⟩
      go_simp
      refine hK12 (fun W => ∃ p : ι, W = ff p) _ _ (fun _ h => h) (fun _ => HFS.out _ (((Below.refl _ w1).drew.alloc (Nat.le_refl _) (.cells #[.string ⟨#[]⟩, .slice none 0 0] 40)))) ?_
      refine stp_one (i := 7) (by kernel_rfl) rfl (by kernel_rfl) (by rfl) (fun K13 hK13 => ?_)
      refine Or.inl ⟨by kernel_rfl, ?_⟩
      go_simp
      refine (HCL.out _ (HB1.out.trans ((((Below.refl _ w1).drew.alloc (Nat.le_refl _) (.cells #[.string ⟨#[]⟩, .slice none 0 0] 40))).mono HB1.out.size))).mono ?_
      rintro e w7 ⟨v7, rfl, hown7, hb7⟩
      obtain ⟨A7, c7, hv7, _, _⟩ := (hown7.sliF (enc := fun x : Scene × Value => x.1.cells x.2) (hn := fun _ => rfl) (F := fun _ => True) (fun _ _ => trivial)).form
      subst hv7
      have hb17 := (((Below.refl _ w1).drew.alloc (Nat.le_refl _) (.cells #[.string ⟨#[]⟩, .slice none 0 0] 40))).trans (hb7.mono (by first | exact Nat.le_refl _ | simp))
      refine hK13 (fun W => ∃ p : ι, W = ff p) _ _ (fun _ h => h) (fun _ => HFS.out _ (hb17)) ?_
      refine stp_reads (n := 1) [8] [] (by simp only [pick, List.getElem?_cons_succ, List.getElem?_cons_zero]; rfl) (by simp only [pick, List.getElem?_cons_succ, List.getElem?_cons_zero]; rfl) (by rfl) (by kernel_rfl) (by rfl) (fun _ _ _ dd _ h => by cases dd <;> exact h) (HFS.out _ hb17) (fun K14 hK14 L14 hL14 => ?_)
      repeat (first | go_big_quiet_step (fail) | quiet_step (fail))
      refine wpQuiet_nil (hL14 _ ?_)
      repeat (first | go_big_quiet_step (fail) | quiet_step (fail))
      refine wpQuiet_nil ?_
      refine hK14 _ ?_
      obtain ⟨y, fy⟩ := ((((G1.out.drew.new (xCs ⟨#[]⟩ (.slice none 0 0)) 40)).below hb7).cell (p := (w1.heap.size, xCs ⟨#[]⟩ (.slice none 0 0), 40)) (by simp))
      have y0 : w7.cell? ⟨w1.heap.size, 0, none⟩ = some (.string ⟨#[]⟩) := y 0
      have y1 : w7.cell? ⟨w1.heap.size, 1, none⟩ = some (.slice none 0 0) := y 1
      have f0 : w7.frozen? ⟨w1.heap.size, 0, none⟩ = false := fy 0
      have f1 : w7.frozen? ⟨w1.heap.size, 1, none⟩ = false := fy 1
      clear y fy
      refine stp_one (i := 10) (by kernel_rfl) rfl (by kernel_rfl) (by rfl) (fun K15 hK15 => ?_)
      refine Or.inl ⟨by kernel_rfl, ?_⟩
      go_simp
      refine hK15 (fun W => ∃ p : ι, W = ff p) _ _ (fun _ h => h) (fun h => absurd h (by decide)) ?_
      refine stp_end (by kernel_rfl) ?_
      clear hK15
      go_wp2
      go_meet
      have hbo := BO.take (G1.out.drew.new (xCs ⟨#[]⟩ (.slice none 0 0)) 40) hb7 hown7 (hown7.less (by have := G1.out.size; simp; omega))
      have hd : ∀ p ∈ [(w.heap.size + 1, xCs ⟨#[]⟩ (.slice none 0 0), 40), (w.heap.size, xCs t (.slice (some ⟨b, off, none⟩) L c), 40)], p.1 ≠ w1.heap.size := fun p hp => by
        have := G1.out.plt hp
        omega
      exact ⟨w1.heap.size, .slice A7 lz.length c7, rfl, Nat.le_refl _, Lib.hid ((hbo.set (i := 0) svFlat (.string t) hd).set (i := 1) svFlat (.slice A7 lz.length c7) hd)⟩
  case rest =>
  obtain ⟨X, v7, rfl, hX, HX⟩ := hcut
  clear HK HCL i1 i2 i3 i4 i5 hA9
  have HEND := Lib.hid (fun (l' : List (Scene × Value)) (wx : World) (hB : BO svR 29 w l' v7 [(X, xCs t v7, 40), (w.heap.size + 1, xCs ⟨#[]⟩ (.slice none 0 0), 40)] wx) (hm : l'.map (·.1) = cutS (ls.map fun x : Scene × Value => x.1) f g) (hs : ∀ y ∈ l', ∃ z ∈ lz, y.1.paras = z.1.paras ∧ y.2 = z.2) =>
    show ((wx.cell? ⟨X, 0, none⟩ = some (.string t) ∧ wx.cell? ⟨X, 1, none⟩ = some v7) ∧ (wx.cell? ⟨w.heap.size + 1, 0, none⟩ = some (.string ⟨#[]⟩) ∧ wx.cell? ⟨w.heap.size + 1, 1, none⟩ = some (.slice none 0 0)) ∧ (wx.frozen? ⟨w.heap.size + 1, 0, none⟩ = false ∧ wx.frozen? ⟨w.heap.size + 1, 1, none⟩ = false)) ∧ CoP F t (ls.map fun x : Scene × Value => x.1) f g w (.returned (.agg (xCs t v7))) ((wx.setCell ⟨w.heap.size + 1, 0, none⟩ (.string t)).setCell ⟨w.heap.size + 1, 1, none⟩ v7) from by
      obtain ⟨x, _⟩ := hB.cell (p := (X, xCs t v7, 40)) (by simp)
      obtain ⟨y, fy⟩ := hB.cell (p := (w.heap.size + 1, xCs ⟨#[]⟩ (.slice none 0 0), 40)) (by simp)
      have hB2 := ((hB.less (Q := [(w.heap.size + 1, xCs ⟨#[]⟩ (.slice none 0 0), 40)]) (by simp)).set (i := 0) svFlat (.string t) (by simp)).set (i := 1) svFlat v7 (by simp)
      refine ⟨⟨⟨x 0, x 1⟩, ⟨y 0, y 1⟩, fy 0, fy 1⟩, l', v7, rfl, hm, hB2.less (by simp), fun y hy => ?_⟩
      obtain ⟨z, hz, e1, e2⟩ := hs y hy
      rw [e1, e2]
      exact HPAR.out _ hB2.bel z hz)
  obtain ⟨A7, c7, hv7, _, _⟩ := (HX.out.own.sliF (enc := fun x : Scene × Value => x.1.cells x.2) (hn := fun _ => rfl) (F := fun _ => True) (fun _ _ => trivial)).form
  rw [HLEN.out] at hv7
  subst hv7
  by_cases hlt : f < g
  case neg =>
    have hi : ¬ (f : Int) < g := by omega
    obtain ⟨⟨⟨x0, x1⟩, ⟨y0, y1⟩, f0, f1⟩, hend⟩ := HEND.out lz wc (HX.out.less (by simp)) (by
      have h0 : lz = [] := List.eq_nil_of_length_eq_zero (by rw [HLEN.out]; omega)
      subst h0
      unfold cutS
      rw [show g - f = 0 by omega]
      rfl) (fun y hy => ⟨y, hy, rfl, rfl⟩)
    have HE := Lib.hid hend
    clear hend HEND HX
    go_wp2
    refine ⟨rfl, .agg (xCs t (.slice A7 (g - f) c7)), (by rw [results_cell1 rfl]; go_simp; rfl), ?_⟩
    exact HE.out
  have hi : (f : Int) < g := by omega
  obtain ⟨gb, cb, hv, hgb1, hgb2⟩ := Own.some_ (enc := fun x : Scene × Value => x.1.cells x.2) (hn := fun _ => rfl) HX.out.own (by rw [HLEN.out]; omega)
  rw [HLEN.out] at hv
  injection hv with hv1 _ hv3
  subst hv1
  subst hv3
  have h0z : 0 < lz.length := by rw [HLEN.out]; omega
  have hPC : ∀ W, BO svR 29 w lz (.slice (some ⟨gb, 0, none⟩) (g - f) c7) [(X, xCs t (.slice (some ⟨gb, 0, none⟩) (g - f) c7), 40), (w.heap.size + 1, xCs ⟨#[]⟩ (.slice none 0 0), 40), (w.heap.size, xCs t (.slice (some ⟨b, off, none⟩) L c), 40)] W →
      W.cell? ⟨X, 1, none⟩ = some (.slice (some ⟨gb, 0, none⟩) (g - f) c7) ∧ W.cell? ⟨w.heap.size, 0, none⟩ = some (.string t) ∧ W.cell? ⟨w.heap.size, 1, none⟩ = some (.slice (some ⟨b, off, none⟩) L c) := fun W hW => by
    obtain ⟨x, _⟩ := hW.cell (p := (X, xCs t (.slice (some ⟨gb, 0, none⟩) (g - f) c7), 40)) (by simp)
    obtain ⟨z, _⟩ := hW.cell (p := (w.heap.size, xCs t (.slice (some ⟨b, off, none⟩) L c), 40)) (by simp)
    exact ⟨x 1, z 0, z 1⟩
  have HPC := Lib.hid hPC
  obtain ⟨ι, ff, hne, hff, hfS⟩ := family (fun W => W.cell? ⟨X, 1, none⟩ = some (.slice (some ⟨gb, 0, none⟩) (g - f) c7) ∧ W.cell? ⟨w.heap.size, 0, none⟩ = some (.string t) ∧ W.cell? ⟨w.heap.size, 1, none⟩ = some (.slice (some ⟨b, off, none⟩) L c)) wc (hPC wc HX.out)
  have q0 := fun p => (hff p).1
  have q1 := fun p => (hff p).2.1
  have q2 := fun p => (hff p).2.2
  have HFS := Lib.hid hfS
  have HT1 := Lib.hid (HTM.out wc.drew HX.out.bel.drew)
  have hfL : (f : Int) < L := by omega
  have hz0 : 0 < g - f := by omega
  clear hff hfS hPC HTM
  go_upto_region 3 with (fail)
  refine wp_region_segs3 [3, 9] [] [] [([0, 4], [1, 2], 3), ([5], [6, 7, 8], 9)] (by kernel_rfl) (by kernel_rfl) (fun _ _ _ dd _ h => by cases dd <;> exact h) (fun W => ∃ p : ι, W = ff p) (HFS.out _ (HPC.out _ HX.out.drew)) ?_
  refine wpSegs3_step (by simp only [pick, List.getElem?_cons_succ, List.getElem?_cons_zero]; rfl) (by simp only [pick, List.getElem?_cons_succ, List.getElem?_cons_zero]; rfl) rfl (fun K0 hK0 L0 hL0 => ?_)
  repeat (first | go_big_quiet_step (fail) | quiet_step (fail))
  refine wpQuiet_nil (hL0 _ ?_)
  repeat (first | go_big_quiet_step (fail) | quiet_step (fail))
  refine wpQuiet_nil ?_
  refine Or.inl ⟨by kernel_rfl, ?_⟩
  go_simp
  refine HT1.out.mono ?_
  rintro e w5 ⟨vt, rfl, hownt, hb5⟩
  have G5 := Lib.hid (HX.out.drew.below hb5)
  rw [List.length_map, HL.out] at hownt
  obtain ⟨gt, ct, hv, hgt1, hgt2⟩ := Own.some_ (enc := fun x : Int => [.int .i64 x]) (hn := fun _ => rfl) hownt (by rw [tmS_len]; omega)
  rw [tmS_len] at hv
  subst hv
  have hct := (Own.cellAt (enc := fun x : Int => [.int .i64 x]) (hn := fun _ => rfl) hownt f (by rw [tmS_len]; omega) 0 (by decide)).1
  rw [show (tmS (ls.map fun x => x.1) L)[f]'(by rw [tmS_len]; omega) = tmAt (ls.map fun x => x.1) f by simp [tmS]] at hct
  obtain ⟨tm, htm⟩ : ∃ tm, tmAt (ls.map fun x => x.1) f = tm := ⟨_, rfl⟩
  have HTMV := Lib.hid htm
  rw [htm] at hct
  have hct2 : w5.cell? ⟨gt, f, none⟩ = some (.int .i64 tm) := by rw [show f * 1 + 0 = f by omega] at hct; exact hct
  have hpc5 := HPC.out _ G5.out
  obtain ⟨ι2, ff2, hne2, hff2, hfS2⟩ := family (fun W => (W.cell? ⟨X, 1, none⟩ = some (.slice (some ⟨gb, 0, none⟩) (g - f) c7) ∧ W.cell? ⟨w.heap.size, 0, none⟩ = some (.string t) ∧ W.cell? ⟨w.heap.size, 1, none⟩ = some (.slice (some ⟨b, off, none⟩) L c)) ∧ W.cell? ⟨gt, f, none⟩ = some (.int .i64 tm)) w5 ⟨hpc5, hct2⟩
  have p0 := fun p => (hff2 p).2
  have HFS2 := Lib.hid hff2
  have HW2 := Lib.hid (hfS2 w5 ⟨hpc5, hct2⟩)
  refine hK0 (fun W => ∃ p : ι2, W = ff2 p) _ _ (fun W hW => by obtain ⟨p, rfl⟩ := hW; exact HFS.out _ (HFS2.out p).1) HW2.out ?_
  have hcs := Own.cellAt (enc := fun x : Scene × Value => x.1.cells x.2) (hn := fun _ => rfl) G5.out.own 0 h0z 3 (by decide)
  have c3' : ∃ u, w5.cell? ⟨gb, 3, none⟩ = some u := ⟨_, hcs.1⟩
  obtain ⟨u3, c3'⟩ := c3'
  have f3' : w5.frozen? ⟨gb, 3, none⟩ = false := hcs.2
  have hmod := BO.modify (n := 5) (enc := fun x : Scene × Value => x.1.cells x.2) (hn := fun _ => rfl) G5.out (fun y => ({ y.1 with time := tm }, y.2)) 0 3 (.int .i64 tm) (fun _ => rfl) (by decide) h0z
  rw [show 0 * 5 + 3 = 3 by rfl] at hmod
  have HB6 := Lib.hid hmod
  have hXgb : X ≠ gb := fun e => (G5.out.prv (X, xCs t (.slice (some ⟨gb, 0, none⟩) (g - f) c7), 40) (by simp)).2.2 (by dsimp only; rw [e]; rfl)
  have hwgb : w.heap.size ≠ gb := fun e => (G5.out.prv (w.heap.size, xCs t (.slice (some ⟨b, off, none⟩) L c), 40) (by simp)).2.2 (by dsimp only; rw [e]; rfl)
  have hgtb : gt ≠ gb := by have h1 : gb < wc.heap.size := hgb2; have h2 : wc.heap.size ≤ gt := hgt1; omega
  have HKO := Lib.hid (show ∀ (b i : Nat) (u : Value), b ≠ gb → (w5.setCell ⟨gb, 3, none⟩ u).cell? ⟨b, i, none⟩ = w5.cell? ⟨b, i, none⟩ from fun b i u hne => World.cell?_of_block (Below.heap_setCell _ _ _ _ hne))
  have HEN2 := Lib.hid (show ∀ u, ∃ p, w5.setCell ⟨gb, 3, none⟩ u = ff2 p from fun u => hfS2 _ ⟨⟨(HKO.out _ _ _ hXgb).trans hpc5.1, (HKO.out _ _ _ hwgb).trans hpc5.2.1, (HKO.out _ _ _ hwgb).trans hpc5.2.2⟩, (HKO.out _ _ _ hgtb).trans hct2⟩)
  have HFI := Lib.hid (HEND.out (lz.modify 0 fun y => ({ y.1 with time := tm }, y.2)) _ (HB6.out.less (by simp)) (by
    unfold cutS
    rw [← HLZ.out]
    apply List.ext_getElem?
    intro i
    rw [List.getElem?_map, List.getElem?_modify, List.getElem?_modify, List.drop_take, ← List.map_drop, ← List.map_take, List.getElem?_map, HTMV.out]
    cases ((ls.drop f).take (g - f))[i]? with
    | none => rfl
    | some y => by_cases e : 0 = i <;> simp [e]) (fun y hy => by
    rcases mem_mod hy with hy | ⟨z, hz, rfl⟩
    · exact ⟨y, hy, rfl, rfl⟩
    · exact ⟨z, hz, rfl, rfl⟩))
  have hfL2 : f < L := by omega
  clear hct hct2 htm hcs hff2 hfS2 hownt hb5 HX q0 q1 q2 hXgb hwgb hgtb HKO hmod HB6 HEND hpc5 h0z
  have q0 := fun p => (HFS2.out p).1.1
  refine wpSegs3_step (by simp only [pick, List.getElem?_cons_succ, List.getElem?_cons_zero]; rfl) (by simp only [pick, List.getElem?_cons_succ, List.getElem?_cons_zero]; rfl) rfl (fun K1 hK1 L1 hL1 => ?_)
  repeat (first | go_big_quiet_step (fail) | quiet_step (fail))
  refine wpQuiet_nil (hL1 _ ?_)
  repeat (first | go_big_quiet_step (fail) | quiet_step (fail))
  refine wpQuiet_nil ?_
  refine Or.inl ⟨by kernel_rfl, ?_⟩
  go_simp
  refine hK1 (fun W => ∃ p : ι2, W = ff2 p) _ _ (fun _ h => h) (HEN2.out _) (wpSegs3_end ?_)
  clear p0 q0
  obtain ⟨⟨⟨x0, x1⟩, ⟨y0, y1⟩, f0, f1⟩, hend⟩ := HFI.out
  have HE := Lib.hid hend
  clear hend HFI c3' f3'
  go_upto_region 4 with (fail)
  generalize w5.setCell ⟨gb, 3, none⟩ (.int .i64 tm) = w6 at *
  go_wp2
  refine ⟨rfl, .agg (xCs t (.slice (some ⟨gb, 0, none⟩) (g - f) c7)), (by rw [results_cell1 rfl]; go_simp; rfl), ?_⟩
  exact HE.out
end Go.Proofs.YtejggkpbdnijaaaGreatDoor

