/- Texts packed: HdB. -/
import Derived.Test.YtndillbimibecaaGreatDoorSc11
import Derived.Test.YtndillbimibecaaGreatDoorSc09
import Derived.Test.YtndillbimibecaaGreatDoorSc02
import Derived.Test.YtndillbimibecaaGreatDoorSc03
import Derived.Test.YtndillbimibecaaGreatDoorSc01
import Derived.Test.YtndillbimibecaaGreatDoorSc15
import Derived.Deep.RegionWith
/- A heading read: the program's, walked. -/
namespace Go.Proofs.YtndillbimibecaaGreatDoor
set_option linter.unusedVariables false
open Go.RowKit Go.Sort

abbrev dumR : Rep Int := intR
/-- Private blocks of a call, and nothing below it turned. -/
abbrev PvG (w : World) (P : List (Nat × Array Value × TypeId)) (wx : World) : Prop := BO dumR 3 w [] (.slice none 0 0) P wx
theorem pvStart (w : World) : PvG w [] w := BO.start w
def scC (no : ByteArray) (place : Int) (set : ByteArray) (time : Int) (v : Value) : Array Value := #[.string no, .int .i64 place, .string set, .int .i64 time, v]
def rhV : Option Scene → Value
  | some x => .tuple #[.agg (scC x.no x.place x.set x.time (.slice none 0 0)), .int .i64 0]
  | none => .tuple #[.agg (scC ⟨#[]⟩ 0 ⟨#[]⟩ 0 (.slice none 0 0)), .int .i64 9]
def RhP (line : ByteArray) (w : World) (e : Ending) (w' : World) : Prop := e = .returned (rhV (headFrom line)) ∧ Below w.heap.size w w'
theorem placeI_bd (s : ByteArray) : -1 ≤ placeI s ∧ placeI s ≤ 3 := by
  by_cases h : s ∈ placeL
  · simp only [placeL, List.mem_cons, List.not_mem_nil, or_false] at h
    rcases h with rfl | rfl | rfl | rfl <;> decide +kernel
  · have : ¬ 0 ≤ Lib.idxOfS placeL s := fun h2 => h ((Lib.idxOfS_nonneg_iff _ _).1 h2)
    have h3 := Lib.idxOfS_miss placeL 4 s (fun j hj e => h (by rw [← e, List.getD_eq_getElem?_getD, List.getElem?_eq_getElem (by simpa [placeL] using hj)]; exact List.getElem_mem _))
    have h4 : placeI s = -1 := h3
    omega
theorem timeI_bd (s : ByteArray) : -1 ≤ timeI s ∧ timeI s ≤ 5 := by
  by_cases h : s ∈ timeL
  · simp only [timeL, List.mem_cons, List.not_mem_nil, or_false] at h
    rcases h with rfl | rfl | rfl | rfl | rfl | rfl <;> decide +kernel
  · have h3 := Lib.idxOfS_miss timeL 6 s (fun j hj e => h (by rw [← e, List.getD_eq_getElem?_getD, List.getElem?_eq_getElem (by simpa [timeL] using hj)]; exact List.getElem_mem _))
    have h4 : timeI s = -1 := h3
    omega
/-- slices.Index among words that a call has laid. -/
theorem idxWords_c {n : Nat} (l : List ByteArray) (B : Nat) (s : ByteArray) (w : World) (hn : l.length = n) (h : ∀ q, q < n → w.cell? ⟨B, q, none⟩ = some (.string (l.getD q ⟨#[]⟩))) (hb : n ≤ 100) :
    Calls Tryz.prog 170 #[.slice (some ⟨B, 0, none⟩) n n, .string s] w fun e w' => e = .returned (.int .i64 (Lib.idxOfS l s)) ∧ w' = w := by
  have hc := Tryz.slices_Index_string B 0 n n l s w (by omega) (by omega) (fun j hj => by rw [Nat.zero_add]; exact h j (by omega))
  rw [List.take_of_length_le (by omega)] at hc
  exact hc
theorem hK_bd (r : ByteArray) : -1 ≤ hK r ∧ (0 ≤ hK r → hK r + 3 ≤ r.size) := by
  unfold hK Lib.lastIndex
  have hz : (⟨#[32, 45, 32]⟩ : ByteArray).data.toList.length = 3 := rfl
  have hr : r.data.toList.length = r.size := by simp
  split
  · rename_i h
    rcases Lib.lastOcc_spec r.data.toList (⟨#[32, 45, 32]⟩ : ByteArray).data.toList (r.data.toList.length - (⟨#[32, 45, 32]⟩ : ByteArray).data.toList.length + 1) with ⟨e, _⟩ | ⟨i, hi, e, _⟩
    · rw [e]; omega
    · rw [e]; rw [hz] at h hi; omega
  · omega
theorem hRest_sz (line : ByteArray) : (hRest line).size ≤ line.size := by
  unfold hRest
  split
  · exact cutB_size _ _
  · exact Nat.le_refl _

/-- The cells of a scene that lies in a block. -/
theorem sc_cells {wx : World} {b : Nat} {no set : ByteArray} {place time : Int} {v : Value} (h : (∀ i, wx.cell? ⟨b, i, none⟩ = (scC no place set time v)[i]?) ∧ (∀ i, wx.frozen? ⟨b, i, none⟩ = false)) :
    wx.cell? ⟨b, 0, none⟩ = some (.string no) ∧ wx.cell? ⟨b, 1, none⟩ = some (.int .i64 place) ∧ wx.cell? ⟨b, 2, none⟩ = some (.string set) ∧ wx.cell? ⟨b, 3, none⟩ = some (.int .i64 time) ∧ wx.cell? ⟨b, 4, none⟩ = some v := ⟨h.1 0, h.1 1, h.1 2, h.1 3, h.1 4⟩
theorem sc_frozen {wx : World} {b : Nat} {cs : Array Value} (h : (∀ i, wx.cell? ⟨b, i, none⟩ = cs[i]?) ∧ (∀ i, wx.frozen? ⟨b, i, none⟩ = false)) :
    wx.frozen? ⟨b, 0, none⟩ = false ∧ wx.frozen? ⟨b, 1, none⟩ = false ∧ wx.frozen? ⟨b, 2, none⟩ = false ∧ wx.frozen? ⟨b, 3, none⟩ = false ∧ wx.frozen? ⟨b, 4, none⟩ = false := ⟨h.2 0, h.2 1, h.2 2, h.2 3, h.2 4⟩
set_option maxRecDepth 100000 in
set_option maxHeartbeats 8000000 in
theorem ReadHeading_c (line : ByteArray) (w : World) (hs : line.size ≤ 1000000) (hm : MaxLaid w) : Calls Tryz.prog 138 #[.string line] w (RhP line w) := by
  have HM := Lib.hid hm
  have hz0 := hRest_sz line
  have hz1 := cutA_size (hRest line) 32
  have hz2 := cutB_size (hRest line) 32
  have HR := Lib.hid (show headFrom line = headR (hNo line) (cutA (hRest line) 32) (cutB (hRest line) 32) from rfl)
  clear hm
  go_enter Tryz.func138, Tryz.ntmps138
  go_upto_region 3 with (fail)
  have hG : PvG w [(w.heap.size + 1, scC ⟨#[]⟩ 0 ⟨#[]⟩ 0 (.slice none 0 0), 49), (w.heap.size, scC ⟨#[]⟩ 0 ⟨#[]⟩ 0 (.slice none 0 0), 49)] ((w.alloc (.cells (scC ⟨#[]⟩ 0 ⟨#[]⟩ 0 (.slice none 0 0)) 49)).alloc (.cells (scC ⟨#[]⟩ 0 ⟨#[]⟩ 0 (.slice none 0 0)) 49)) := by
    have h := ((pvStart w).new (scC ⟨#[]⟩ 0 ⟨#[]⟩ 0 (.slice none 0 0)) 49).new (scC ⟨#[]⟩ 0 ⟨#[]⟩ 0 (.slice none 0 0)) 49
    rw [show (w.alloc (.cells (scC ⟨#[]⟩ 0 ⟨#[]⟩ 0 (.slice none 0 0)) 49)).heap.size = w.heap.size + 1 by simp] at h
    exact h
  generalize hW : (w.alloc (.cells #[.string ⟨#[]⟩, .int .i64 0, .string ⟨#[]⟩, .int .i64 0, .slice none 0 0] 49)).alloc (.cells #[.string ⟨#[]⟩, .int .i64 0, .string ⟨#[]⟩, .int .i64 0, .slice none 0 0] 49) = w1
  have G1 := Lib.hid (show PvG w [(w.heap.size + 1, scC ⟨#[]⟩ 0 ⟨#[]⟩ 0 (.slice none 0 0), 49), (w.heap.size, scC ⟨#[]⟩ 0 ⟨#[]⟩ 0 (.slice none 0 0), 49)] w1 by rw [← hW]; exact hG)
  clear hG hW
  go_wp2_with fail
  with_reducible refine (cut_c line 32 w1 (by omega)).mono ?_
  rintro e w2 ⟨rfl, n2, rfl⟩
  have G2 := Lib.hid (G1.out.below (below_drewN (Below.refl _ w1) n2))
  clear G1
  generalize w1.drewN n2 = w2 at *
  go_upto_region 4 with (fail)
  have HNU := Lib.hid (IsNumber_c (cutA line 32) w2 (by have := cutA_size line 32; omega))
  generalize htw : (cutF line 32 && numB (cutA line 32)) = tw
  have HTW := Lib.hid htw
  clear htw
  go_cut [8, 24] (fun _ b wx => b = .bool tw ∧ wx = w2)
  case first =>
    cases hf : cutF line 32 with
    | false =>
      have htw := HTW.out
      rw [hf] at htw
      subst htw
      go_wp2
      go_meet
      exact ⟨rfl, rfl⟩
    | true =>
      have htw := HTW.out
      rw [hf, Bool.true_and] at htw
      go_wp2_with (first | (go_at_call 41; with_reducible refine HNU.out.mono ?_; rintro e w' ⟨rfl, rfl⟩; rw [htw]) | fail)
      go_meet
      exact ⟨rfl, rfl⟩
  case rest =>
  obtain ⟨rfl, rfl⟩ := hcut
  go_upto_if 24 with (fail)
  go_cut [5] (fun r wx => r = .string (hRest line) ∧ Hid (PvG w [(w.heap.size + 1, scC (hNo line) 0 ⟨#[]⟩ 0 (.slice none 0 0), 49), (w.heap.size, scC ⟨#[]⟩ 0 ⟨#[]⟩ 0 (.slice none 0 0), 49)] wx))
  case first =>
    have HIF := Lib.hid (show (cutF line 32 = true ∧ numB (cutA line 32) = true) ↔ tw = true by rw [← HTW.out, Bool.and_eq_true])
    cases tw with
    | false =>
      have E1 := Lib.hid (show hRest line = line from if_neg (fun h => by have := HIF.out.1 h; cases this))
      have E2 := Lib.hid (show hNo line = ⟨#[]⟩ from if_neg (fun h => by have := HIF.out.1 h; cases this))
      go_wp2
      go_meet
      rw [E1.out, E2.out]
      exact ⟨rfl, G2⟩
    | true =>
      have E1 := Lib.hid (show hRest line = cutB line 32 from if_pos (HIF.out.2 rfl))
      have E2 := Lib.hid (show hNo line = cutA line 32 from if_pos (HIF.out.2 rfl))
      have f0 := (G2.out.cell (p := (w.heap.size + 1, scC ⟨#[]⟩ 0 ⟨#[]⟩ 0 (.slice none 0 0), 49)) (by simp)).2 0
      obtain ⟨u0, c0⟩ : ∃ u, wc.cell? ⟨w.heap.size + 1, 0, none⟩ = some u := ⟨_, (G2.out.cell (p := (w.heap.size + 1, scC ⟨#[]⟩ 0 ⟨#[]⟩ 0 (.slice none 0 0), 49)) (by simp)).1 0⟩
      have G3 := Lib.hid (G2.out.set (i := 0) (fun h => h) (.string (cutA line 32)) (by simp))
      go_wp2
      go_meet
      rw [E1.out, E2.out]
      exact ⟨rfl, G3⟩
  case rest =>
    clear G2 HTW HNU
    obtain ⟨rfl, G3⟩ := hcut
    generalize hNo line = no at *
    generalize hRest line = rs at *
    go_wp2_with fail
    with_reducible refine (cut_c rs 32 wc (by omega)).mono ?_
    rintro e w3 ⟨rfl, n3, rfl⟩
    have G4 := Lib.hid (G3.out.below (below_drewN (Below.refl _ wc) n3))
    clear G3
    generalize wc.drewN n3 = w4 at *
    generalize cutA rs 32 = pl at *
    generalize cutB rs 32 = r2 at *
    go_wp2_with fail
    with_reducible refine (Tryz.strings_LastIndex r2 ⟨#[32, 45, 32]⟩ (by omega) w4).mono ?_
    rintro e w' ⟨rfl, rfl⟩
    rw [show Lib.lastIndex r2.data.toList (⟨#[32, 45, 32]⟩ : ByteArray).data.toList = hK r2 from rfl]
    obtain ⟨k0, k1⟩ := hK_bd r2
    have HE := Lib.hid (show ∀ x : Option Scene, headFrom line = x → RhP line w (.returned (rhV x)) = RhP line w (.returned (rhV (headFrom line))) from fun x h => by rw [h])
    by_cases hk : hK r2 < 0
    · have HR1 := Lib.hid (HR.out.trans (if_pos hk))
      generalize hK r2 = kk at *
      have hcl := G4.out.cell (p := (w.heap.size, scC ⟨#[]⟩ 0 ⟨#[]⟩ 0 (.slice none 0 0), 49)) (by simp)
      obtain ⟨y0, y1, y2, y3, y4⟩ := sc_cells hcl
      obtain ⟨g0, g1, g2, g3, g4⟩ := sc_frozen hcl
      clear hcl k1
      go_wp2
      refine ⟨rfl, rhV none, (by rw [results_cell_tmp rfl]; go_simp; rfl), ?_⟩
      refine ⟨by rw [HR1.out], ?_⟩
      repeat (first | exact G4.out.bel | refine Below.setCell ?_ (by first | exact Nat.le_refl _ | (dsimp only; omega)) _)
    · have HR1 := Lib.hid (HR.out.trans (if_neg hk))
      obtain ⟨kk, hkk⟩ := Int.eq_ofNat_of_zero_le (show 0 ≤ hK r2 by omega)
      have k2 := k1 (by omega)
      rw [hkk] at HR1 k2 ⊢
      have HKK := Lib.hid hkk
      clear k0 k1 hk HR hkk
      rw [Int.toNat_natCast] at HR1
      have q1 : (0 : Int) ≤ (kk : Int) := by omega
      have q2 : (kk : Int) ≤ (r2.size : Int) := by omega
      have q3 : IntKind.i64.wrap ((kk : Int) + 3) = (kk : Int) + 3 := IntWalk.i64_in _ (by omega)
      have q4 : (0 : Int) ≤ (kk : Int) + 3 := by omega
      have q5 : ((kk : Int) + 3).toNat = kk + 3 := by omega
      have q6 : kk + 3 ≤ r2.size := by omega
      have q7 : kk ≤ r2.size := by omega
      have HQ3 := Lib.hid q3
      have HQ5 := Lib.hid q5
      clear q3 q5
      have HPW := Lib.hid (fun W => placeWords_c W)
      go_upto_region 11 with (first | (go_at_call 125; refine (HPW.out _).mono ?_; rintro e w5 ⟨BP, rfl, hb1, hb2, hb3, hb4⟩) | (go_at_call 170; refine (idxWords_c placeL BP pl w5 rfl hb4 (by decide)).mono ?_; rintro e w6 ⟨rfl, rfl⟩; rw [show Lib.idxOfS placeL pl = placeI pl from rfl]; have hcl := ((G4.out.below hb3).cell (p := (w.heap.size + 1, scC no 0 ⟨#[]⟩ 0 (.slice none 0 0), 49)) (by simp)); obtain ⟨y0, y1, y2, y3, y4⟩ := sc_cells hcl; obtain ⟨g0, g1, g2, g3, g4⟩ := sc_frozen hcl; clear hcl) | fail)
      have hst : (r2.extract 0 kk).size ≤ 1000000 := by rw [ByteArray.size_extract]; omega
      have hPb := placeI_bd pl
      have hTb := timeI_bd (r2.extract (kk + 3) r2.size)
      have HTI := Lib.hid (show Lib.idxOfS timeL (r2.extract (kk + 3) r2.size) = timeI (r2.extract (kk + 3) r2.size) from rfl)
      have HR2 := Lib.hid (show headFrom line = if placeI pl < 1 ∨ timeI (r2.extract (kk + 3) r2.size) < 1 ∨ setB (r2.extract 0 kk) = false then none else some ⟨no, placeI pl, r2.extract 0 kk, timeI (r2.extract (kk + 3) r2.size), []⟩ from HR1.out)
      clear HR1
      have G5 := Lib.hid (show PvG w [(w.heap.size + 1, scC no (placeI pl) ⟨#[]⟩ 0 (.slice none 0 0), 49), (w.heap.size, scC ⟨#[]⟩ 0 ⟨#[]⟩ 0 (.slice none 0 0), 49)] (w6.setCell ⟨w.heap.size + 1, 1, none⟩ (.int .i64 (placeI pl))) from (G4.out.below hb3).set (i := 1) (fun h => h) (.int .i64 (placeI pl)) (by simp))
      clear G4 hb1 hb2 hb3 hb4 y0 y1 y2 y3 y4 g0 g1 g2 g3 g4 HPW
      generalize placeI pl = P at *
      generalize timeI (r2.extract (kk + 3) r2.size) = T at *
      generalize w6.setCell ⟨w.heap.size + 1, 1, none⟩ (.int .i64 P) = w7 at *
      have HTM := Lib.hid (fun W => timeWords_c W)
      go_cut [] (fun wx => Hid (PvG w [(w.heap.size + 1, scC no P ⟨#[]⟩ T (.slice none 0 0), 49), (w.heap.size, scC ⟨#[]⟩ 0 ⟨#[]⟩ 0 (.slice none 0 0), 49)] wx))
      case first =>
        have q3 := HQ3.out
        have q5 := HQ5.out
        go_region_with (first | (go_at_call 126; refine (HTM.out _).mono ?_; rintro e w8 ⟨BT, rfl, hb5, hb6, hb7, hb8⟩; have hG8 := (G5.out.drew.below hb7); have hcl := hG8.cell (p := (w.heap.size + 1, scC no P ⟨#[]⟩ 0 (.slice none 0 0), 49)) (by simp); obtain ⟨y0, y1, y2, y3, y4⟩ := sc_cells hcl; obtain ⟨g0, g1, g2, g3, g4⟩ := sc_frozen hcl; have G8 := Lib.hid hG8; clear hcl hG8) | (go_at_call 170; refine (idxWords_c timeL BT _ w8 rfl hb8 (by decide)).mono ?_; rintro e w9 ⟨rfl, rfl⟩; rw [HTI.out]))
        all_goals
          go_wp2
          go_meet
          exact Lib.hid (G8.out.set (i := 3) (fun h => h) (.int .i64 T) (by simp))
      case rest =>
        clear G5 HQ3 HQ5 HTM HTI
        have G9 := hcut
        have G10 := Lib.hid (show PvG w [(w.heap.size + 1, scC no P (r2.extract 0 kk) T (.slice none 0 0), 49), (w.heap.size, scC ⟨#[]⟩ 0 ⟨#[]⟩ 0 (.slice none 0 0), 49)] (wc.setCell ⟨w.heap.size + 1, 2, none⟩ (.string (r2.extract 0 kk))) from G9.out.set (i := 2) (fun h => h) (.string (r2.extract 0 kk)) (by simp))
        have hcl := G9.out.cell (p := (w.heap.size + 1, scC no P ⟨#[]⟩ T (.slice none 0 0), 49)) (by simp)
        obtain ⟨y0, y1, y2, y3, y4⟩ := sc_cells hcl
        obtain ⟨g0, g1, g2, g3, g4⟩ := sc_frozen hcl
        clear hcl hcut G9
        go_upto_region 13 with (fail)
        clear y0 y1 y2 y3 y4 g0 g1 g2 g3 g4 q1 q2 q4 q6 q7 k2
        generalize r2.extract 0 kk = st at *
        generalize wc.setCell ⟨w.heap.size + 1, 2, none⟩ (.string st) = wx at *
        have hcl := G10.out.cell (p := (w.heap.size + 1, scC no P st T (.slice none 0 0), 49)) (by simp)
        have hcr := G10.out.cell (p := (w.heap.size, scC ⟨#[]⟩ 0 ⟨#[]⟩ 0 (.slice none 0 0), 49)) (by simp)
        obtain ⟨y0, y1, y2, y3, y4⟩ := sc_cells hcl
        obtain ⟨z0, z1, z2, z3, z4⟩ := sc_cells hcr
        obtain ⟨g0, g1, g2, g3, g4⟩ := sc_frozen hcr
        have HST := Lib.hid (isSet_c st wx (by omega) (max_below HM.out G10.out.bel (Nat.le_refl _)))
        clear hcl hcr
        by_cases p1 : P < 1
        · have HN := Lib.hid (HR2.out.trans (if_pos (.inl p1)))
          go_wp2
          refine ⟨rfl, rhV none, (by rw [results_cell_tmp rfl]; go_simp; rfl), ?_⟩
          refine ⟨by rw [HN.out], ?_⟩
          repeat (first | exact G10.out.bel | refine Below.setCell ?_ (by first | exact Nat.le_refl _ | (dsimp only; omega)) _)
        have p1' : 1 ≤ P := by omega
        by_cases p2 : T < 1
        · have HN := Lib.hid (HR2.out.trans (if_pos (.inr (.inl p2))))
          clear p1
          go_wp2
          refine ⟨rfl, rhV none, (by rw [results_cell_tmp rfl]; go_simp; rfl), ?_⟩
          refine ⟨by rw [HN.out], ?_⟩
          repeat (first | exact G10.out.bel | refine Below.setCell ?_ (by first | exact Nat.le_refl _ | (dsimp only; omega)) _)
        have p2' : 1 ≤ T := by omega
        cases p3 : setB st with
        | false =>
          have HN := Lib.hid (HR2.out.trans (if_pos (.inr (.inr p3))))
          clear p1 p2
          go_wp2_with (first | (go_at_call 72; with_reducible refine HST.out.mono ?_; rintro e w' ⟨rfl, rfl⟩; rw [p3]) | fail)
          refine ⟨rfl, rhV none, (by rw [results_cell_tmp rfl]; go_simp; rfl), ?_⟩
          refine ⟨by rw [HN.out], ?_⟩
          repeat (first | exact G10.out.bel | refine Below.setCell ?_ (by first | exact Nat.le_refl _ | (dsimp only; omega)) _)
        | true =>
          have HN := Lib.hid (HR2.out.trans (if_neg (by rintro (h | h | h); exact p1 h; exact p2 h; rw [p3] at h; cases h)))
          clear p1 p2
          go_wp2_with (first | (go_at_call 72; with_reducible refine HST.out.mono ?_; rintro e w' ⟨rfl, rfl⟩; rw [p3]) | fail)
          refine ⟨rfl, rhV (some ⟨no, P, st, T, []⟩), (by rw [results_cell_tmp rfl]; go_simp; rfl), ?_⟩
          refine ⟨by rw [HN.out], ?_⟩
          repeat (first | exact G10.out.bel | refine Below.setCell ?_ (by first | exact Nat.le_refl _ | (dsimp only; omega)) _)
end Go.Proofs.YtndillbimibecaaGreatDoor

