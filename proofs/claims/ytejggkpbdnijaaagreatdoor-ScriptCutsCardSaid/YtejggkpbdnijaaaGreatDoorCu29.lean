/- Texts packed: CutR. -/
import Derived.Test.YtejggkpbdnijaaaGreatDoorCu28
import Derived.Test.YtejggkpbdnijaaaGreatDoorCu01
import Derived.Deep.QuietTactic
import Derived.BigQuiet
/- R.CutOf of no scenes walked. -/
namespace Go.Proofs.YtejggkpbdnijaaaGreatDoor
set_option linter.unusedVariables false
open Go.RowKit Go.Sort

set_option maxRecDepth 100000 in
set_option maxHeartbeats 4000000 in
theorem CutOfN_c {F : Nat → Prop} (t : ByteArray) (c : Nat) (w : World) (h : Sc2 w F [] (.slice none 0 c)) (hc : c ≤ 9223372036854775807) :
    Calls Tryz.prog 43 #[.agg #[.string t, .slice none 0 c], .int .i64 0, .int .i64 0] w (CoP F t [] 0 0 w) := by
  have hS9 : Sli svR w F ((([] : List (Scene × Value)).take 0).drop 0) (.slice none 0 c) := sub_empty _ _ (by simp) hc
  have HF := Lib.hid (sli_forms h.par)
  have HLEN := Lib.hid (show ((([] : List (Scene × Value)).take 0).drop 0).length = 0 by simp)
  have HMEM := Lib.hid (show ∀ y ∈ (([] : List (Scene × Value)).take 0).drop 0, y ∈ ([] : List (Scene × Value)) from fun y hy => List.mem_of_mem_take (List.mem_of_mem_drop hy))
  have HCL := Lib.hid (fun (W : World) (hW : Below w.heap.size w W) => cloneScene_c ((([] : List (Scene × Value)).take 0).drop 0) (.slice none 0 c) W (hS9.below hW h.lt) (by rw [HLEN.out]; omega) (fun x hx => HF.out x (HMEM.out x hx)))
  have HPAR := Lib.hid (fun (W : World) (hW : Below w.heap.size w W) y (hy : y ∈ (([] : List (Scene × Value)).take 0).drop 0) => ((h.par y (HMEM.out y hy)).below hW h.lt))
  obtain ⟨lz, hlz⟩ : ∃ lz, (([] : List (Scene × Value)).take 0).drop 0 = lz := ⟨_, rfl⟩
  have HLZ := Lib.hid hlz
  rw [hlz] at HLEN HMEM HCL HPAR
  clear hS9 h hlz
  go_enter Tryz.func43, Tryz.ntmps43
  go_upto_region 1 with (fail)
  have hG : BO svR 29 w [] (.slice none 0 0) [(w.heap.size + 1, xCs ⟨#[]⟩ (.slice none 0 0), 40), (w.heap.size, xCs t (.slice none 0 c), 40)] ((w.alloc (.cells (xCs t (.slice none 0 c)) 40)).alloc (.cells (xCs ⟨#[]⟩ (.slice none 0 0)) 40)) := by
    have h := ((BO.start (R := svR) (e := 29) w).new (xCs t (.slice none 0 c)) 40).new (xCs ⟨#[]⟩ (.slice none 0 0)) 40
    rw [show (w.alloc (.cells (xCs t (.slice none 0 c)) 40)).heap.size = w.heap.size + 1 by simp] at h
    exact h
  generalize hW : (w.alloc (.cells #[.string t, .slice none 0 c] 40)).alloc (.cells #[.string ⟨#[]⟩, .slice none 0 0] 40) = w1
  have G1 := Lib.hid (show BO svR 29 w [] (.slice none 0 0) [(w.heap.size + 1, xCs ⟨#[]⟩ (.slice none 0 0), 40), (w.heap.size, xCs t (.slice none 0 c), 40)] w1 by rw [← hW]; exact hG)
  clear hG hW
  have hz1 : w.heap.size + 1 < w1.heap.size := G1.out.plt (p := (w.heap.size + 1, xCs ⟨#[]⟩ (.slice none 0 0), 40)) (by simp)
  have HK := Lib.hid (fun (W : World) (hW : Below w1.heap.size w1 W) => show W.cell? ⟨w.heap.size, 0, none⟩ = some (.string t) ∧ W.cell? ⟨w.heap.size, 1, none⟩ = some (.slice none 0 c) from by
    obtain ⟨gx, _⟩ := (G1.out.below hW).cell (p := (w.heap.size, xCs t (.slice none 0 c), 40)) (by simp)
    exact ⟨gx 0, gx 1⟩)
  go_cut [7] (fun p wx => ∃ (X : Nat) (v7 : Value), p = .pointer (some ⟨X, 0, none⟩) ∧ w1.heap.size ≤ X ∧ Hid (BO svR 29 w lz v7 [(X, xCs t v7, 40), (w.heap.size + 1, xCs ⟨#[]⟩ (.slice none 0 0), 40), (w.heap.size, xCs t (.slice none 0 c), 40)] wx))
  case first =>
    obtain ⟨ι, ff, hne, hp0, hff, hfS⟩ := growFam w1
    have q0 := fun p => (HK.out _ (hff p)).1
    have q1 := fun p => (HK.out _ (hff p)).2
    have HFS := Lib.hid hfS
    have HB1 := Lib.hid G1.out.bel
    clear hfS hff
    refine stp_start [6, 7, 9] (by kernel_rfl) (fun W => ∃ p : ι, W = ff p) ?_
    refine stp_reads (n := 5) [0, 2, 4, 5] [1, 3] (by simp only [pick, List.getElem?_cons_succ, List.getElem?_cons_zero]; rfl) (by simp only [pick, List.getElem?_cons_succ, List.getElem?_cons_zero]; rfl) (by rfl) (by kernel_rfl) (by rfl) (fun _ _ _ dd _ h => by cases dd <;> exact h) (HFS.out _ (Below.refl _ w1).drew) (fun K1 hK1 L1 hL1 => ?_)
    repeat (first | go_big_quiet_step (fail) | quiet_step (fail))
    refine wpQuiet_nil (hL1 _ ?_)
    repeat (first | go_big_quiet_step (fail) | quiet_step (fail))
    refine wpQuiet_nil ?_
    refine hK1 _ ?_
    refine stp_two (i := 6) (j := 9) (by kernel_rfl) rfl rfl (by kernel_rfl) (by kernel_rfl) (by rfl) (by rfl) (fun K2 hK2 => ?_) (fun K3 hK3 => ?_)
    · refine Or.inl ⟨by kernel_rfl, ?_⟩
      go_simp
      refine hK2 (fun W => ∃ p : ι, W = ff p) _ _ (fun _ h => h) (fun _ => HFS.out _ ((Below.refl _ w1).drew)) ?_
      refine stp_two (i := 7) (j := 9) (by kernel_rfl) rfl rfl (by kernel_rfl) (by kernel_rfl) (by rfl) (by rfl) (fun K4 hK4 => ?_) (fun K5 hK5 => ?_)
      · refine Or.inl ⟨by kernel_rfl, ?_⟩
        go_simp
        refine (HCL.out _ (HB1.out.trans (((Below.refl _ w1).drew).mono HB1.out.size))).mono ?_
        rintro e w7 ⟨v7, rfl, hown7, hb7⟩
        obtain ⟨A7, c7, hv7, _, _⟩ := (hown7.sliF (enc := fun x : Scene × Value => x.1.cells x.2) (hn := fun _ => rfl) (F := fun _ => True) (fun _ _ => trivial)).form
        subst hv7
        have hb17 := ((Below.refl _ w1).drew).trans (hb7.mono (by first | exact Nat.le_refl _ | simp))
        refine hK4 (fun W => ∃ p : ι, W = ff p) _ _ (fun _ h => h) (fun _ => HFS.out _ (hb17)) ?_
        refine stp_reads (n := 2) [8] [] (by simp only [pick, List.getElem?_cons_succ, List.getElem?_cons_zero]; rfl) (by simp only [pick, List.getElem?_cons_succ, List.getElem?_cons_zero]; rfl) (by rfl) (by kernel_rfl) (by rfl) (fun _ _ _ dd _ h => by cases dd <;> exact h) (HFS.out _ hb17) (fun K6 hK6 L6 hL6 => ?_)
        repeat (first | go_big_quiet_step (fail) | quiet_step (fail))
        refine wpQuiet_nil (hL6 _ ?_)
        repeat (first | go_big_quiet_step (fail) | quiet_step (fail))
        refine wpQuiet_nil ?_
        refine hK6 _ ?_
        refine stp_one (i := 9) (by kernel_rfl) rfl (by kernel_rfl) (by rfl) (fun K7 hK7 => ?_)
        refine Or.inl ⟨by kernel_rfl, ?_⟩
        go_simp
        refine hK7 (fun W => ∃ p : ι, W = ff p) _ _ (fun _ h => h) (fun _ => HFS.out _ (hb17.alloc hb17.size _)) ?_
        refine stp_one (i := 10) (by kernel_rfl) rfl (by kernel_rfl) (by rfl) (fun K8 hK8 => ?_)
        refine Or.inl ⟨by kernel_rfl, ?_⟩
        go_simp
        refine hK8 (fun W => ∃ p : ι, W = ff p) _ _ (fun _ h => h) (fun h => absurd h (by decide)) ?_
        refine stp_end (by kernel_rfl) ?_
        clear hK8
        go_wp2
        go_meet
        exact ⟨w7.heap.size, .slice A7 lz.length c7, rfl, hb17.size, Lib.hid ((BO.take G1.out.drew hb7 hown7 (hown7.less G1.out.size)).new (xCs t (.slice A7 lz.length c7)) 40)⟩
      · refine Or.inl ⟨by kernel_rfl, ?_⟩
        go_simp
        refine hK5 (fun W => ∃ p : ι, W = ff p) _ _ (fun _ h => h) (fun _ => HFS.out _ (((Below.refl _ w1).drew.alloc (Nat.le_refl _) (.cells #[.string ⟨#[]⟩, .slice none 0 0] 40)))) ?_
        refine stp_one (i := 7) (by kernel_rfl) rfl (by kernel_rfl) (by rfl) (fun K9 hK9 => ?_)
        refine Or.inl ⟨by kernel_rfl, ?_⟩
        go_simp
        refine (HCL.out _ (HB1.out.trans ((((Below.refl _ w1).drew.alloc (Nat.le_refl _) (.cells #[.string ⟨#[]⟩, .slice none 0 0] 40))).mono HB1.out.size))).mono ?_
        rintro e w7 ⟨v7, rfl, hown7, hb7⟩
        obtain ⟨A7, c7, hv7, _, _⟩ := (hown7.sliF (enc := fun x : Scene × Value => x.1.cells x.2) (hn := fun _ => rfl) (F := fun _ => True) (fun _ _ => trivial)).form
        subst hv7
        have hb17 := (((Below.refl _ w1).drew.alloc (Nat.le_refl _) (.cells #[.string ⟨#[]⟩, .slice none 0 0] 40))).trans (hb7.mono (by first | exact Nat.le_refl _ | simp))
        refine hK9 (fun W => ∃ p : ι, W = ff p) _ _ (fun _ h => h) (fun _ => HFS.out _ (hb17)) ?_
        refine stp_reads (n := 1) [8] [] (by simp only [pick, List.getElem?_cons_succ, List.getElem?_cons_zero]; rfl) (by simp only [pick, List.getElem?_cons_succ, List.getElem?_cons_zero]; rfl) (by rfl) (by kernel_rfl) (by rfl) (fun _ _ _ dd _ h => by cases dd <;> exact h) (HFS.out _ hb17) (fun K10 hK10 L10 hL10 => ?_)
        repeat (first | go_big_quiet_step (fail) | quiet_step (fail))
        refine wpQuiet_nil (hL10 _ ?_)
        repeat (first | go_big_quiet_step (fail) | quiet_step (fail))
        refine wpQuiet_nil ?_
        refine hK10 _ ?_
        obtain ⟨y, fy⟩ := ((((G1.out.drew.new (xCs ⟨#[]⟩ (.slice none 0 0)) 40)).below hb7).cell (p := (w1.heap.size, xCs ⟨#[]⟩ (.slice none 0 0), 40)) (by simp))
        have y0 : w7.cell? ⟨w1.heap.size, 0, none⟩ = some (.string ⟨#[]⟩) := y 0
        have y1 : w7.cell? ⟨w1.heap.size, 1, none⟩ = some (.slice none 0 0) := y 1
        have f0 : w7.frozen? ⟨w1.heap.size, 0, none⟩ = false := fy 0
        have f1 : w7.frozen? ⟨w1.heap.size, 1, none⟩ = false := fy 1
        clear y fy
        refine stp_one (i := 10) (by kernel_rfl) rfl (by kernel_rfl) (by rfl) (fun K11 hK11 => ?_)
        refine Or.inl ⟨by kernel_rfl, ?_⟩
        go_simp
        refine hK11 (fun W => ∃ p : ι, W = ff p) _ _ (fun _ h => h) (fun h => absurd h (by decide)) ?_
        refine stp_end (by kernel_rfl) ?_
        clear hK11
        go_wp2
        go_meet
        have hbo := BO.take (G1.out.drew.new (xCs ⟨#[]⟩ (.slice none 0 0)) 40) hb7 hown7 (hown7.less (by have := G1.out.size; simp; omega))
        have hd : ∀ p ∈ [(w.heap.size + 1, xCs ⟨#[]⟩ (.slice none 0 0), 40), (w.heap.size, xCs t (.slice none 0 c), 40)], p.1 ≠ w1.heap.size := fun p hp => by
          have := G1.out.plt hp
          omega
        exact ⟨w1.heap.size, .slice A7 lz.length c7, rfl, Nat.le_refl _, Lib.hid ((hbo.set (i := 0) svFlat (.string t) hd).set (i := 1) svFlat (.slice A7 lz.length c7) hd)⟩
    · refine Or.inl ⟨by kernel_rfl, ?_⟩
      go_simp
      refine hK3 (fun W => ∃ p : ι, W = ff p) _ _ (fun _ h => h) (fun _ => HFS.out _ (((Below.refl _ w1).drew.alloc (Nat.le_refl _) (.cells #[.string ⟨#[]⟩, .slice none 0 0] 40)))) ?_
      refine stp_one (i := 6) (by kernel_rfl) rfl (by kernel_rfl) (by rfl) (fun K12 hK12 => ?_)
      refine Or.inl ⟨by kernel_rfl, ?_⟩
      go_simp
      refine hK12 (fun W => ∃ p : ι, W = ff p) _ _ (fun _ h => h) (fun _ => HFS.out _ (((Below.refl _ w1).drew.alloc (Nat.le_refl _) (.cells #[.string ⟨#[]⟩, .slice none 0 0] 40)))) ?_
      refine stp_one (i := 7) (by kernel_rfl) rfl (by kernel_rfl) (by rfl) (fun K13 hK13 => ?_)
      refine Or.inl ⟨by kernel_rfl, ?_⟩
      go_simp
      refine (HCL.out _ (HB1.out.trans ((((Below.refl _ w1).drew.alloc (Nat.le_refl _) (.cells #[.string ⟨#[]⟩, .slice none 0 0] 40))).mono HB1.out.size))).mono ?_
      rintro e w7 ⟨v7, rfl, hown7, hb7⟩
      obtain ⟨A7, c7, hv7, _, _⟩ := (hown7.sliF (enc := fun x : Scene × Value => x.1.cells x.2) (hn := fun _ => rfl) (F := fun _ => True) (fun _ _ => trivial)).form
      subst hv7
      have hb17 := (((Below.refl _ w1).drew.alloc (Nat.le_refl _) (.cells #[.string ⟨#[]⟩, .slice none 0 0] 40))).trans (hb7.mono (by first | exact Nat.le_refl _ | simp))
      refine hK13 (fun W => ∃ p : ι, W = ff p) _ _ (fun _ h => h) (fun _ => HFS.out _ (hb17)) ?_
      refine stp_reads (n := 1) [8] [] (by simp only [pick, List.getElem?_cons_succ, List.getElem?_cons_zero]; rfl) (by simp only [pick, List.getElem?_cons_succ, List.getElem?_cons_zero]; rfl) (by rfl) (by kernel_rfl) (by rfl) (fun _ _ _ dd _ h => by cases dd <;> exact h) (HFS.out _ hb17) (fun K14 hK14 L14 hL14 => ?_)
      repeat (first | go_big_quiet_step (fail) | quiet_step (fail))
      refine wpQuiet_nil (hL14 _ ?_)
      repeat (first | go_big_quiet_step (fail) | quiet_step (fail))
      refine wpQuiet_nil ?_
      refine hK14 _ ?_
      obtain ⟨y, fy⟩ := ((((G1.out.drew.new (xCs ⟨#[]⟩ (.slice none 0 0)) 40)).below hb7).cell (p := (w1.heap.size, xCs ⟨#[]⟩ (.slice none 0 0), 40)) (by simp))
      have y0 : w7.cell? ⟨w1.heap.size, 0, none⟩ = some (.string ⟨#[]⟩) := y 0
      have y1 : w7.cell? ⟨w1.heap.size, 1, none⟩ = some (.slice none 0 0) := y 1
      have f0 : w7.frozen? ⟨w1.heap.size, 0, none⟩ = false := fy 0
      have f1 : w7.frozen? ⟨w1.heap.size, 1, none⟩ = false := fy 1
      clear y fy
      refine stp_one (i := 10) (by kernel_rfl) rfl (by kernel_rfl) (by rfl) (fun K15 hK15 => ?_)
      refine Or.inl ⟨by kernel_rfl, ?_⟩
      go_simp
      refine hK15 (fun W => ∃ p : ι, W = ff p) _ _ (fun _ h => h) (fun h => absurd h (by decide)) ?_
      refine stp_end (by kernel_rfl) ?_
      clear hK15
      go_wp2
      go_meet
      have hbo := BO.take (G1.out.drew.new (xCs ⟨#[]⟩ (.slice none 0 0)) 40) hb7 hown7 (hown7.less (by have := G1.out.size; simp; omega))
      have hd : ∀ p ∈ [(w.heap.size + 1, xCs ⟨#[]⟩ (.slice none 0 0), 40), (w.heap.size, xCs t (.slice none 0 c), 40)], p.1 ≠ w1.heap.size := fun p hp => by
        have := G1.out.plt hp
        omega
      exact ⟨w1.heap.size, .slice A7 lz.length c7, rfl, Nat.le_refl _, Lib.hid ((hbo.set (i := 0) svFlat (.string t) hd).set (i := 1) svFlat (.slice A7 lz.length c7) hd)⟩
  case rest =>
  obtain ⟨X, v7, rfl, hX, HX⟩ := hcut
  clear HK HCL
  have HEND := Lib.hid (fun (l' : List (Scene × Value)) (wx : World) (hB : BO svR 29 w l' v7 [(X, xCs t v7, 40), (w.heap.size + 1, xCs ⟨#[]⟩ (.slice none 0 0), 40)] wx) (hm : l'.map (·.1) = cutS ([] : List Scene) 0 0) (hs : ∀ y ∈ l', ∃ z ∈ lz, y.1.paras = z.1.paras ∧ y.2 = z.2) =>
    show ((wx.cell? ⟨X, 0, none⟩ = some (.string t) ∧ wx.cell? ⟨X, 1, none⟩ = some v7) ∧ (wx.cell? ⟨w.heap.size + 1, 0, none⟩ = some (.string ⟨#[]⟩) ∧ wx.cell? ⟨w.heap.size + 1, 1, none⟩ = some (.slice none 0 0)) ∧ (wx.frozen? ⟨w.heap.size + 1, 0, none⟩ = false ∧ wx.frozen? ⟨w.heap.size + 1, 1, none⟩ = false)) ∧ CoP F t ([] : List Scene) 0 0 w (.returned (.agg (xCs t v7))) ((wx.setCell ⟨w.heap.size + 1, 0, none⟩ (.string t)).setCell ⟨w.heap.size + 1, 1, none⟩ v7) from by
      obtain ⟨x, _⟩ := hB.cell (p := (X, xCs t v7, 40)) (by simp)
      obtain ⟨y, fy⟩ := hB.cell (p := (w.heap.size + 1, xCs ⟨#[]⟩ (.slice none 0 0), 40)) (by simp)
      have hB2 := ((hB.less (Q := [(w.heap.size + 1, xCs ⟨#[]⟩ (.slice none 0 0), 40)]) (by simp)).set (i := 0) svFlat (.string t) (by simp)).set (i := 1) svFlat v7 (by simp)
      refine ⟨⟨⟨x 0, x 1⟩, ⟨y 0, y 1⟩, fy 0, fy 1⟩, l', v7, rfl, hm, hB2.less (by simp), fun y hy => ?_⟩
      obtain ⟨z, hz, e1, e2⟩ := hs y hy
      rw [e1, e2]
      exact HPAR.out _ hB2.bel z hz)
  obtain ⟨A7, c7, hv7, _, _⟩ := (HX.out.own.sliF (enc := fun x : Scene × Value => x.1.cells x.2) (hn := fun _ => rfl) (F := fun _ => True) (fun _ _ => trivial)).form
  rw [HLEN.out] at hv7
  subst hv7
  obtain ⟨⟨⟨x0, x1⟩, ⟨y0, y1⟩, f0, f1⟩, hend⟩ := HEND.out lz wc (HX.out.less (by simp)) (by
    have h0 : lz = [] := List.eq_nil_of_length_eq_zero (by rw [HLEN.out])
    subst h0
    rfl) (fun y hy => ⟨y, hy, rfl, rfl⟩)
  have HE := Lib.hid hend
  clear hend HEND HX
  go_wp2
  refine ⟨rfl, .agg (xCs t (.slice A7 0 c7)), (by rw [results_cell1 rfl]; go_simp; rfl), ?_⟩
  exact HE.out
set_option maxRecDepth 100000 in
set_option maxHeartbeats 4000000 in
theorem CutOfS_c {F : Nat → Prop} (t : ByteArray) (a : Addr) (c : Nat) (w : World) (h : Sc2 w F [] (.slice (some a) 0 c)) (hc : c ≤ 9223372036854775807) :
    Calls Tryz.prog 43 #[.agg #[.string t, .slice (some a) 0 c], .int .i64 0, .int .i64 0] w (CoP F t [] 0 0 w) := by
  have hS9 : Sli svR w F ((([] : List (Scene × Value)).take 0).drop 0) (.slice (some a) 0 c) := sub_empty _ _ (by simp) hc
  have HF := Lib.hid (sli_forms h.par)
  have HLEN := Lib.hid (show ((([] : List (Scene × Value)).take 0).drop 0).length = 0 by simp)
  have HMEM := Lib.hid (show ∀ y ∈ (([] : List (Scene × Value)).take 0).drop 0, y ∈ ([] : List (Scene × Value)) from fun y hy => List.mem_of_mem_take (List.mem_of_mem_drop hy))
  have HCL := Lib.hid (fun (W : World) (hW : Below w.heap.size w W) => cloneScene_c ((([] : List (Scene × Value)).take 0).drop 0) (.slice (some a) 0 c) W (hS9.below hW h.lt) (by rw [HLEN.out]; omega) (fun x hx => HF.out x (HMEM.out x hx)))
  have HPAR := Lib.hid (fun (W : World) (hW : Below w.heap.size w W) y (hy : y ∈ (([] : List (Scene × Value)).take 0).drop 0) => ((h.par y (HMEM.out y hy)).below hW h.lt))
  obtain ⟨lz, hlz⟩ : ∃ lz, (([] : List (Scene × Value)).take 0).drop 0 = lz := ⟨_, rfl⟩
  have HLZ := Lib.hid hlz
  rw [hlz] at HLEN HMEM HCL HPAR
  clear hS9 h hlz
  go_enter Tryz.func43, Tryz.ntmps43
  go_upto_region 1 with (fail)
  have hG : BO svR 29 w [] (.slice none 0 0) [(w.heap.size + 1, xCs ⟨#[]⟩ (.slice none 0 0), 40), (w.heap.size, xCs t (.slice (some a) 0 c), 40)] ((w.alloc (.cells (xCs t (.slice (some a) 0 c)) 40)).alloc (.cells (xCs ⟨#[]⟩ (.slice none 0 0)) 40)) := by
    have h := ((BO.start (R := svR) (e := 29) w).new (xCs t (.slice (some a) 0 c)) 40).new (xCs ⟨#[]⟩ (.slice none 0 0)) 40
    rw [show (w.alloc (.cells (xCs t (.slice (some a) 0 c)) 40)).heap.size = w.heap.size + 1 by simp] at h
    exact h
  generalize hW : (w.alloc (.cells #[.string t, .slice (some a) 0 c] 40)).alloc (.cells #[.string ⟨#[]⟩, .slice none 0 0] 40) = w1
  have G1 := Lib.hid (show BO svR 29 w [] (.slice none 0 0) [(w.heap.size + 1, xCs ⟨#[]⟩ (.slice none 0 0), 40), (w.heap.size, xCs t (.slice (some a) 0 c), 40)] w1 by rw [← hW]; exact hG)
  clear hG hW
  have hz1 : w.heap.size + 1 < w1.heap.size := G1.out.plt (p := (w.heap.size + 1, xCs ⟨#[]⟩ (.slice none 0 0), 40)) (by simp)
  have HK := Lib.hid (fun (W : World) (hW : Below w1.heap.size w1 W) => show W.cell? ⟨w.heap.size, 0, none⟩ = some (.string t) ∧ W.cell? ⟨w.heap.size, 1, none⟩ = some (.slice (some a) 0 c) from by
    obtain ⟨gx, _⟩ := (G1.out.below hW).cell (p := (w.heap.size, xCs t (.slice (some a) 0 c), 40)) (by simp)
    exact ⟨gx 0, gx 1⟩)
  go_cut [7] (fun p wx => ∃ (X : Nat) (v7 : Value), p = .pointer (some ⟨X, 0, none⟩) ∧ w1.heap.size ≤ X ∧ Hid (BO svR 29 w lz v7 [(X, xCs t v7, 40), (w.heap.size + 1, xCs ⟨#[]⟩ (.slice none 0 0), 40), (w.heap.size, xCs t (.slice (some a) 0 c), 40)] wx))
  case first =>
    obtain ⟨ι, ff, hne, hp0, hff, hfS⟩ := growFam w1
    have q0 := fun p => (HK.out _ (hff p)).1
    have q1 := fun p => (HK.out _ (hff p)).2
    have HFS := Lib.hid hfS
    have HB1 := Lib.hid G1.out.bel
    clear hfS hff
    refine stp_start [6, 7, 9] (by kernel_rfl) (fun W => ∃ p : ι, W = ff p) ?_
    refine stp_reads (n := 5) [0, 2, 4, 5] [1, 3] (by simp only [pick, List.getElem?_cons_succ, List.getElem?_cons_zero]; rfl) (by simp only [pick, List.getElem?_cons_succ, List.getElem?_cons_zero]; rfl) (by rfl) (by kernel_rfl) (by rfl) (fun _ _ _ dd _ h => by cases dd <;> exact h) (HFS.out _ (Below.refl _ w1).drew) (fun K1 hK1 L1 hL1 => ?_)
    repeat (first | go_big_quiet_step (fail) | quiet_step (fail))
    refine wpQuiet_nil (hL1 _ ?_)
    repeat (first | go_big_quiet_step (fail) | quiet_step (fail))
    refine wpQuiet_nil ?_
    refine hK1 _ ?_
    refine stp_two (i := 6) (j := 9) (by kernel_rfl) rfl rfl (by kernel_rfl) (by kernel_rfl) (by rfl) (by rfl) (fun K2 hK2 => ?_) (fun K3 hK3 => ?_)
    · refine Or.inl ⟨by kernel_rfl, ?_⟩
      go_simp
      refine hK2 (fun W => ∃ p : ι, W = ff p) _ _ (fun _ h => h) (fun _ => HFS.out _ ((Below.refl _ w1).drew)) ?_
      refine stp_two (i := 7) (j := 9) (by kernel_rfl) rfl rfl (by kernel_rfl) (by kernel_rfl) (by rfl) (by rfl) (fun K4 hK4 => ?_) (fun K5 hK5 => ?_)
      · refine Or.inl ⟨by kernel_rfl, ?_⟩
        go_simp
        refine (HCL.out _ (HB1.out.trans (((Below.refl _ w1).drew).mono HB1.out.size))).mono ?_
        rintro e w7 ⟨v7, rfl, hown7, hb7⟩
        obtain ⟨A7, c7, hv7, _, _⟩ := (hown7.sliF (enc := fun x : Scene × Value => x.1.cells x.2) (hn := fun _ => rfl) (F := fun _ => True) (fun _ _ => trivial)).form
        subst hv7
        have hb17 := ((Below.refl _ w1).drew).trans (hb7.mono (by first | exact Nat.le_refl _ | simp))
        refine hK4 (fun W => ∃ p : ι, W = ff p) _ _ (fun _ h => h) (fun _ => HFS.out _ (hb17)) ?_
        refine stp_reads (n := 2) [8] [] (by simp only [pick, List.getElem?_cons_succ, List.getElem?_cons_zero]; rfl) (by simp only [pick, List.getElem?_cons_succ, List.getElem?_cons_zero]; rfl) (by rfl) (by kernel_rfl) (by rfl) (fun _ _ _ dd _ h => by cases dd <;> exact h) (HFS.out _ hb17) (fun K6 hK6 L6 hL6 => ?_)
        repeat (first | go_big_quiet_step (fail) | quiet_step (fail))
        refine wpQuiet_nil (hL6 _ ?_)
        repeat (first | go_big_quiet_step (fail) | quiet_step (fail))
        refine wpQuiet_nil ?_
        refine hK6 _ ?_
        refine stp_one (i := 9) (by kernel_rfl) rfl (by kernel_rfl) (by rfl) (fun K7 hK7 => ?_)
        refine Or.inl ⟨by kernel_rfl, ?_⟩
        go_simp
        refine hK7 (fun W => ∃ p : ι, W = ff p) _ _ (fun _ h => h) (fun _ => HFS.out _ (hb17.alloc hb17.size _)) ?_
        refine stp_one (i := 10) (by kernel_rfl) rfl (by kernel_rfl) (by rfl) (fun K8 hK8 => ?_)
        refine Or.inl ⟨by kernel_rfl, ?_⟩
        go_simp
        refine hK8 (fun W => ∃ p : ι, W = ff p) _ _ (fun _ h => h) (fun h => absurd h (by decide)) ?_
        refine stp_end (by kernel_rfl) ?_
        clear hK8
        go_wp2
        go_meet
        exact ⟨w7.heap.size, .slice A7 lz.length c7, rfl, hb17.size, Lib.hid ((BO.take G1.out.drew hb7 hown7 (hown7.less G1.out.size)).new (xCs t (.slice A7 lz.length c7)) 40)⟩
      · refine Or.inl ⟨by kernel_rfl, ?_⟩
        go_simp
        refine hK5 (fun W => ∃ p : ι, W = ff p) _ _ (fun _ h => h) (fun _ => HFS.out _ (((Below.refl _ w1).drew.alloc (Nat.le_refl _) (.cells #[.string ⟨#[]⟩, .slice none 0 0] 40)))) ?_
        refine stp_one (i := 7) (by kernel_rfl) rfl (by kernel_rfl) (by rfl) (fun K9 hK9 => ?_)
        refine Or.inl ⟨by kernel_rfl, ?_⟩
        go_simp
        refine (HCL.out _ (HB1.out.trans ((((Below.refl _ w1).drew.alloc (Nat.le_refl _) (.cells #[.string ⟨#[]⟩, .slice none 0 0] 40))).mono HB1.out.size))).mono ?_
        rintro e w7 ⟨v7, rfl, hown7, hb7⟩
        obtain ⟨A7, c7, hv7, _, _⟩ := (hown7.sliF (enc := fun x : Scene × Value => x.1.cells x.2) (hn := fun _ => rfl) (F := fun _ => True) (fun _ _ => trivial)).form
        subst hv7
        have hb17 := (((Below.refl _ w1).drew.alloc (Nat.le_refl _) (.cells #[.string ⟨#[]⟩, .slice none 0 0] 40))).trans (hb7.mono (by first | exact Nat.le_refl _ | simp))
        refine hK9 (fun W => ∃ p : ι, W = ff p) _ _ (fun _ h => h) (fun _ => HFS.out _ (hb17)) ?_
        refine stp_reads (n := 1) [8] [] (by simp only [pick, List.getElem?_cons_succ, List.getElem?_cons_zero]; rfl) (by simp only [pick, List.getElem?_cons_succ, List.getElem?_cons_zero]; rfl) (by rfl) (by kernel_rfl) (by rfl) (fun _ _ _ dd _ h => by cases dd <;> exact h) (HFS.out _ hb17) (fun K10 hK10 L10 hL10 => ?_)
        repeat (first | go_big_quiet_step (fail) | quiet_step (fail))
        refine wpQuiet_nil (hL10 _ ?_)
        repeat (first | go_big_quiet_step (fail) | quiet_step (fail))
        refine wpQuiet_nil ?_
        refine hK10 _ ?_
        obtain ⟨y, fy⟩ := ((((G1.out.drew.new (xCs ⟨#[]⟩ (.slice none 0 0)) 40)).below hb7).cell (p := (w1.heap.size, xCs ⟨#[]⟩ (.slice none 0 0), 40)) (by simp))
        have y0 : w7.cell? ⟨w1.heap.size, 0, none⟩ = some (.string ⟨#[]⟩) := y 0
        have y1 : w7.cell? ⟨w1.heap.size, 1, none⟩ = some (.slice none 0 0) := y 1
        have f0 : w7.frozen? ⟨w1.heap.size, 0, none⟩ = false := fy 0
        have f1 : w7.frozen? ⟨w1.heap.size, 1, none⟩ = false := fy 1
        clear y fy
        refine stp_one (i := 10) (by kernel_rfl) rfl (by kernel_rfl) (by rfl) (fun K11 hK11 => ?_)
        refine Or.inl ⟨by kernel_rfl, ?_⟩
        go_simp
        refine hK11 (fun W => ∃ p : ι, W = ff p) _ _ (fun _ h => h) (fun h => absurd h (by decide)) ?_
        refine stp_end (by kernel_rfl) ?_
        clear hK11
        go_wp2
        go_meet
        have hbo := BO.take (G1.out.drew.new (xCs ⟨#[]⟩ (.slice none 0 0)) 40) hb7 hown7 (hown7.less (by have := G1.out.size; simp; omega))
        have hd : ∀ p ∈ [(w.heap.size + 1, xCs ⟨#[]⟩ (.slice none 0 0), 40), (w.heap.size, xCs t (.slice (some a) 0 c), 40)], p.1 ≠ w1.heap.size := fun p hp => by
          have := G1.out.plt hp
          omega
        exact ⟨w1.heap.size, .slice A7 lz.length c7, rfl, Nat.le_refl _, Lib.hid ((hbo.set (i := 0) svFlat (.string t) hd).set (i := 1) svFlat (.slice A7 lz.length c7) hd)⟩
    · refine Or.inl ⟨by kernel_rfl, ?_⟩
      go_simp
      refine hK3 (fun W => ∃ p : ι, W = ff p) _ _ (fun _ h => h) (fun _ => HFS.out _ (((Below.refl _ w1).drew.alloc (Nat.le_refl _) (.cells #[.string ⟨#[]⟩, .slice none 0 0] 40)))) ?_
      refine stp_one (i := 6) (by kernel_rfl) rfl (by kernel_rfl) (by rfl) (fun K12 hK12 => ?_)
      refine Or.inl ⟨by kernel_rfl, ?_⟩
      go_simp
      refine hK12 (fun W => ∃ p : ι, W = ff p) _ _ (fun _ h => h) (fun _ => HFS.out _ (((Below.refl _ w1).drew.alloc (Nat.le_refl _) (.cells #[.string ⟨#[]⟩, .slice none 0 0] 40)))) ?_
      refine stp_one (i := 7) (by kernel_rfl) rfl (by kernel_rfl) (by rfl) (fun K13 hK13 => ?_)
      refine Or.inl ⟨by kernel_rfl, ?_⟩
      go_simp
      refine (HCL.out _ (HB1.out.trans ((((Below.refl _ w1).drew.alloc (Nat.le_refl _) (.cells #[.string ⟨#[]⟩, .slice none 0 0] 40))).mono HB1.out.size))).mono ?_
      rintro e w7 ⟨v7, rfl, hown7, hb7⟩
      obtain ⟨A7, c7, hv7, _, _⟩ := (hown7.sliF (enc := fun x : Scene × Value => x.1.cells x.2) (hn := fun _ => rfl) (F := fun _ => True) (fun _ _ => trivial)).form
      subst hv7
      have hb17 := (((Below.refl _ w1).drew.alloc (Nat.le_refl _) (.cells #[.string ⟨#[]⟩, .slice none 0 0] 40))).trans (hb7.mono (by first | exact Nat.le_refl _ | simp))
      refine hK13 (fun W => ∃ p : ι, W = ff p) _ _ (fun _ h => h) (fun _ => HFS.out _ (hb17)) ?_
      refine stp_reads (n := 1) [8] [] (by simp only [pick, List.getElem?_cons_succ, List.getElem?_cons_zero]; rfl) (by simp only [pick, List.getElem?_cons_succ, List.getElem?_cons_zero]; rfl) (by rfl) (by kernel_rfl) (by rfl) (fun _ _ _ dd _ h => by cases dd <;> exact h) (HFS.out _ hb17) (fun K14 hK14 L14 hL14 => ?_)
      repeat (first | go_big_quiet_step (fail) | quiet_step (fail))
      refine wpQuiet_nil (hL14 _ ?_)
      repeat (first | go_big_quiet_step (fail) | quiet_step (fail))
      refine wpQuiet_nil ?_
      refine hK14 _ ?_
      obtain ⟨y, fy⟩ := ((((G1.out.drew.new (xCs ⟨#[]⟩ (.slice none 0 0)) 40)).below hb7).cell (p := (w1.heap.size, xCs ⟨#[]⟩ (.slice none 0 0), 40)) (by simp))
      have y0 : w7.cell? ⟨w1.heap.size, 0, none⟩ = some (.string ⟨#[]⟩) := y 0
      have y1 : w7.cell? ⟨w1.heap.size, 1, none⟩ = some (.slice none 0 0) := y 1
      have f0 : w7.frozen? ⟨w1.heap.size, 0, none⟩ = false := fy 0
      have f1 : w7.frozen? ⟨w1.heap.size, 1, none⟩ = false := fy 1
      clear y fy
      refine stp_one (i := 10) (by kernel_rfl) rfl (by kernel_rfl) (by rfl) (fun K15 hK15 => ?_)
      refine Or.inl ⟨by kernel_rfl, ?_⟩
      go_simp
      refine hK15 (fun W => ∃ p : ι, W = ff p) _ _ (fun _ h => h) (fun h => absurd h (by decide)) ?_
      refine stp_end (by kernel_rfl) ?_
      clear hK15
      go_wp2
      go_meet
      have hbo := BO.take (G1.out.drew.new (xCs ⟨#[]⟩ (.slice none 0 0)) 40) hb7 hown7 (hown7.less (by have := G1.out.size; simp; omega))
      have hd : ∀ p ∈ [(w.heap.size + 1, xCs ⟨#[]⟩ (.slice none 0 0), 40), (w.heap.size, xCs t (.slice (some a) 0 c), 40)], p.1 ≠ w1.heap.size := fun p hp => by
        have := G1.out.plt hp
        omega
      exact ⟨w1.heap.size, .slice A7 lz.length c7, rfl, Nat.le_refl _, Lib.hid ((hbo.set (i := 0) svFlat (.string t) hd).set (i := 1) svFlat (.slice A7 lz.length c7) hd)⟩
  case rest =>
  obtain ⟨X, v7, rfl, hX, HX⟩ := hcut
  clear HK HCL
  have HEND := Lib.hid (fun (l' : List (Scene × Value)) (wx : World) (hB : BO svR 29 w l' v7 [(X, xCs t v7, 40), (w.heap.size + 1, xCs ⟨#[]⟩ (.slice none 0 0), 40)] wx) (hm : l'.map (·.1) = cutS ([] : List Scene) 0 0) (hs : ∀ y ∈ l', ∃ z ∈ lz, y.1.paras = z.1.paras ∧ y.2 = z.2) =>
    show ((wx.cell? ⟨X, 0, none⟩ = some (.string t) ∧ wx.cell? ⟨X, 1, none⟩ = some v7) ∧ (wx.cell? ⟨w.heap.size + 1, 0, none⟩ = some (.string ⟨#[]⟩) ∧ wx.cell? ⟨w.heap.size + 1, 1, none⟩ = some (.slice none 0 0)) ∧ (wx.frozen? ⟨w.heap.size + 1, 0, none⟩ = false ∧ wx.frozen? ⟨w.heap.size + 1, 1, none⟩ = false)) ∧ CoP F t ([] : List Scene) 0 0 w (.returned (.agg (xCs t v7))) ((wx.setCell ⟨w.heap.size + 1, 0, none⟩ (.string t)).setCell ⟨w.heap.size + 1, 1, none⟩ v7) from by
      obtain ⟨x, _⟩ := hB.cell (p := (X, xCs t v7, 40)) (by simp)
      obtain ⟨y, fy⟩ := hB.cell (p := (w.heap.size + 1, xCs ⟨#[]⟩ (.slice none 0 0), 40)) (by simp)
      have hB2 := ((hB.less (Q := [(w.heap.size + 1, xCs ⟨#[]⟩ (.slice none 0 0), 40)]) (by simp)).set (i := 0) svFlat (.string t) (by simp)).set (i := 1) svFlat v7 (by simp)
      refine ⟨⟨⟨x 0, x 1⟩, ⟨y 0, y 1⟩, fy 0, fy 1⟩, l', v7, rfl, hm, hB2.less (by simp), fun y hy => ?_⟩
      obtain ⟨z, hz, e1, e2⟩ := hs y hy
      rw [e1, e2]
      exact HPAR.out _ hB2.bel z hz)
  obtain ⟨A7, c7, hv7, _, _⟩ := (HX.out.own.sliF (enc := fun x : Scene × Value => x.1.cells x.2) (hn := fun _ => rfl) (F := fun _ => True) (fun _ _ => trivial)).form
  rw [HLEN.out] at hv7
  subst hv7
  obtain ⟨⟨⟨x0, x1⟩, ⟨y0, y1⟩, f0, f1⟩, hend⟩ := HEND.out lz wc (HX.out.less (by simp)) (by
    have h0 : lz = [] := List.eq_nil_of_length_eq_zero (by rw [HLEN.out])
    subst h0
    rfl) (fun y hy => ⟨y, hy, rfl, rfl⟩)
  have HE := Lib.hid hend
  clear hend HEND HX
  go_wp2
  refine ⟨rfl, .agg (xCs t (.slice A7 0 c7)), (by rw [results_cell1 rfl]; go_simp; rfl), ?_⟩
  exact HE.out
theorem CutOf_any {F : Nat → Prop} (t : ByteArray) (ls : List (Scene × Value)) (v : Value) (w : World) (h : Sc2 w F ls v) (hl : ls.length ≤ 1000) (hno : ∀ y ∈ (ls.map fun x : Scene × Value => x.1)[0]?, ¬ y.time = 5) (f g : Nat) (hfg : f ≤ g) (hg : g ≤ ls.length) :
    Calls Tryz.prog 43 #[.agg #[.string t, v], .int .i64 f, .int .i64 g] w (CoP F t (ls.map fun x : Scene × Value => x.1) f g w) := by
  obtain ⟨A, c, rfl, h1, h2⟩ := h.sli.form
  by_cases h0 : 0 < ls.length
  · obtain ⟨b, off, rfl, _⟩ := scAt h.sli 0 h0
    exact CutOfA_c t ls b off ls.length c f g w h rfl hl ⟨h1, h2⟩ hno hfg hg
  · obtain rfl : ls = [] := List.length_eq_zero_iff.1 (by omega)
    obtain rfl : g = 0 := by simpa using hg
    obtain rfl : f = 0 := by omega
    cases A with
    | none => exact CutOfN_c t c w h h2
    | some a => exact CutOfS_c t a c w h h2
end Go.Proofs.YtejggkpbdnijaaaGreatDoor

