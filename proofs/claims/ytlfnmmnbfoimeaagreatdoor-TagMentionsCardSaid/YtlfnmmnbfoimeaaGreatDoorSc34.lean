/- Texts packed: TgK. -/
import Derived.Test.YtlfnmmnbfoimeaaGreatDoorSc32
import Derived.Test.YtlfnmmnbfoimeaaGreatDoorSc13
import Derived.Test.YtlfnmmnbfoimeaaGreatDoorSc02
import Derived.Deep.RegionHeld3
import Derived.Test.YtlfnmmnbfoimeaaGreatDoorSc01
import Derived.Deep.DeepCutAuto
/- Where a pattern matches, walked. -/
namespace Go.Proofs.YtlfnmmnbfoimeaaGreatDoor
set_option linter.unusedVariables false
open Go.RowKit

theorem itmAt {w : World} {F : Nat → Prop} {l : List Itm} {A : Option Addr} {n c : Nat} (h : Sli itmR w F l (.slice A n c)) (k : Nat) (hk : k < l.length) :
    ∃ b off v, A = some ⟨b, off, none⟩ ∧ F b ∧ Sli strR w F l[k].ws v ∧ w.cell? ⟨b, off + k * 4, none⟩ = some (.bool l[k].any) ∧ w.cell? ⟨b, off + k * 4 + 1, none⟩ = some (.bool l[k].count) ∧ w.cell? ⟨b, off + k * 4 + 2, none⟩ = some (.bool l[k].begins) ∧ w.cell? ⟨b, off + k * 4 + 3, none⟩ = some v := by
  obtain ⟨b, off, a, e, hb, hr, hc⟩ := h.at_ k hk
  obtain ⟨v, rfl, hs⟩ : ∃ v, a = [.bool l[k].any, .bool l[k].count, .bool l[k].begins, v] ∧ Sli strR w F l[k].ws v := hr
  exact ⟨b, off, v, e, hb, hs, hc 0 _ rfl, hc 1 _ rfl, hc 2 _ rfl, hc 3 _ rfl⟩
abbrev hitC (k n c : Int) : Array Value := #[.int .i64 k, .int .i64 n, .int .i64 c]
def hitV (k n : Nat) : Option Int → Value
  | some c => .tuple #[.agg (hitC k n c), .bool true]
  | none => .tuple #[.agg (hitC 0 0 0), .bool false]
def HitP (P : List Itm) (ws : List ByteArray) (k n : Nat) (w : World) (e : Ending) (w' : World) : Prop := e = .returned (hitV k n (hitA P ws k)) ∧ Below w.heap.size w w'
theorem hitA_far {P : List Itm} {ws : List ByteArray} {k : Nat} (h : ws.length < k + P.length) : hitA P ws k = none := if_pos h
theorem hitA_near {P : List Itm} {ws : List ByteArray} {k : Nat} (h : ¬ ws.length < k + P.length) : hitA P ws k = (hitF P (ws.drop k) 0).map fun c => max c 1 := if_neg h
theorem hitCells {w wx : World} {Q : List (Nat × Array Value × TypeId)} (h : PvG w Q wx) {b : Nat} {x y z : Int} {T : TypeId} (hp : (b, hitC x y z, T) ∈ Q) :
    (wx.cell? ⟨b, 0, none⟩ = some (.int .i64 x) ∧ wx.cell? ⟨b, 1, none⟩ = some (.int .i64 y) ∧ wx.cell? ⟨b, 2, none⟩ = some (.int .i64 z)) ∧ (wx.frozen? ⟨b, 0, none⟩ = false ∧ wx.frozen? ⟨b, 1, none⟩ = false ∧ wx.frozen? ⟨b, 2, none⟩ = false) := by
  obtain ⟨y, f⟩ := h.cell hp
  exact ⟨⟨y 0, y 1, y 2⟩, ⟨f 0, f 1, f 2⟩⟩
set_option maxRecDepth 100000 in
set_option maxHeartbeats 8000000 in
theorem hitAt_c {F F2 : Nat → Prop} (P : List Itm) (pv : Value) (ws : List ByteArray) (wv : Value) (k : Nat) (w : World) (hP : Sli itmR w F P pv) (hF : ∀ b, F b → b < w.heap.size) (hW : Sli strR w F2 ws wv) (hF2 : ∀ b, F2 b → b < w.heap.size)
    (hn : P.length ≤ 1000000) (hm : ws.length ≤ 1000000) (hk : k ≤ 2000000) (hws : ∀ s ∈ ws, s.size ≤ 1000000) (hb : ∀ x ∈ P, x.begins = true → 0 < x.ws.length) (hE : ErrsLaid w) :
    Calls Tryz.prog 65 #[pv, wv, .int .i64 (k : Int)] w (HitP P ws k P.length w) := by
  obtain ⟨A, c1, rfl, hlc1, hcm1⟩ := hP.form
  obtain ⟨A2, c2, rfl, hlc2, hcm2⟩ := hW.form
  have hmx := @run_max Tryz.prog
  have HP := Lib.hid hP
  have HW := Lib.hid hW
  have HFS := Lib.hid (And.intro hF hF2)
  have HWS := Lib.hid hws
  have HBG := Lib.hid hb
  have HE := Lib.hid hE
  obtain ⟨n, hn'⟩ : ∃ n, P.length = n := ⟨_, rfl⟩
  obtain ⟨m, hm'⟩ : ∃ m, ws.length = m := ⟨_, rfl⟩
  have HN := Lib.hid hn'
  have HM := Lib.hid hm'
  rw [hn'] at HP hlc1 hn ⊢
  rw [hm'] at HW hlc2 hm ⊢
  have HG0 := Lib.hid ((pvStart w).new (hitC 0 0 0) 75)
  have ew : IntKind.i64.wrap ((k : Int) + (n : Int)) = (k : Int) + (n : Int) := IntWalk.i64_in _ (by omega)
  clear hP hW hF hF2 hws hb hE hn' hm'
  go_enter Tryz.func65, Tryz.ntmps65
  go_upto_region 1 with (fail)
  have hcl := hitCells (b := w.heap.size) (x := 0) (y := 0) (z := 0) (T := 75) HG0.out (by simp)
  generalize w.alloc (.cells #[.int .i64 0, .int .i64 0, .int .i64 0] 75) = w1 at *
  obtain ⟨⟨x0, x1, x2⟩, ⟨fx0, fx1, fx2⟩⟩ := hcl
  by_cases hfar : m < k + n
  · have HR := Lib.hid (hitA_far (P := P) (ws := ws) (k := k) (by rw [HN.out, HM.out]; exact hfar))
    have hfar' : (m : Int) < (k : Int) + (n : Int) := by omega
    have HBL := Lib.hid (((HG0.out.set (i := 0) (fun h => h) (.int .i64 0) (by simp)).set (i := 1) (fun h => h) (.int .i64 0) (by simp)).set (i := 2) (fun h => h) (.int .i64 0) (by simp)).bel
    clear hmx
    go_wp2
    refine ⟨rfl, .tuple #[.agg (hitC 0 0 0), .bool false], (by rw [results_cell_tmp rfl]; go_simp), ?_⟩
    exact ⟨by rw [HR.out]; rfl, HBL.out⟩
  have hfar' : ¬ (m : Int) < (k : Int) + (n : Int) := by omega
  have HR := Lib.hid (hitA_near (P := P) (ws := ws) (k := k) (by rw [HN.out, HM.out]; exact hfar))
  go_upto_region 4 with (fail)
  have HG1 := Lib.hid (HG0.out.new (hitC k n 0) 75)
  have hX : w.heap.size < w1.heap.size := HG0.out.plt (p := (w.heap.size, hitC 0 0 0, 75)) (by simp)
  generalize hH : w1.heap.size = H8 at *
  generalize w1.alloc (.cells #[.int .i64 (k : Int), .int .i64 (n : Int), .int .i64 0] 75) = w2 at *
  clear x0 x1 x2 fx0 fx1 fx2 HG0 hH
  go_wp2
  go_loopw [25] (fun iv wr => ∃ (i : Nat) (c : Int), i ≤ n ∧ iv = .int .i64 i ∧ Hid (PvG w [(H8, hitC k n c, 75), (w.heap.size, hitC 0 0 0, 75)] wr) ∧ Hid (hitF (P.drop i) (ws.drop (k + i)) c = hitF P (ws.drop k) 0)) (fun iv _ => n - (intOf iv).toNat)
  case atStart => exact ⟨0, 0, Nat.zero_le _, rfl, HG1.out, rfl⟩
  case round =>
    clear HG1
    obtain ⟨i, c, hi, rfl, HG, HH⟩ := hrel
    by_cases hlt : i < n
    · have hi2 : i < P.length := by rw [HN.out]; exact hlt
      obtain ⟨q, hq⟩ : ∃ q, k + i = q := ⟨_, rfl⟩
      have hqm : q < m := by omega
      have hq2 : q < ws.length := by rw [HM.out]; exact hqm
      rw [hq] at HH
      have ewq : IntKind.i64.wrap ((k : Int) + (i : Int)) = (q : Int) := (IntWalk.i64_in _ (by omega)).trans (by omega)
      have HST := Lib.hid ((hitF_step (ws := ws) hi2 hq2 c).symm.trans HH.out)
      have HNQ := Lib.hid (show k + (i + 1) = q + 1 by omega)
      obtain ⟨b, off, vx, rfl, hfb, hxs, d0, d1, d2, d3⟩ := itmAt (HP.out.below HG.out.bel HFS.out.1) i hi2
      obtain ⟨b2, off2, rfl, hfb2, e0⟩ := strAt (HW.out.below HG.out.bel HFS.out.2) q hq2
      obtain ⟨A3, L3, c3, rfl⟩ : ∃ (A3 : Option Addr) (L3 c3 : Nat), vx = Value.slice A3 L3 c3 := by obtain ⟨A3, c3, e, _⟩ := hxs.form; exact ⟨A3, _, c3, e⟩
      have hbx := HBG.out _ (List.getElem_mem hi2)
      have hyz := HWS.out _ (List.getElem_mem hq2)
      generalize hx : P[i] = x at *
      generalize hy : ws[q] = y at *
      have HX := Lib.hid (hxs.below (B := wr.heap.size) ((Below.refl _ wr).alloc (Nat.le_refl _) (.cells (itmC x.any x.count x.begins (.slice A3 L3 c3)) 103)) (fun b hb => Nat.lt_of_lt_of_le (HFS.out.1 b hb) HG.out.bel.size))
      have HBX := Lib.hid hbx
      have HGN := Lib.hid (HG.out.new (itmC x.any x.count x.begins (.slice A3 L3 c3)) 103)
      obtain ⟨y9, fz9⟩ := HGN.out.cell (p := (wr.heap.size, itmC x.any x.count x.begins (.slice A3 L3 c3), 103)) (by simp)
      have z0 : (wr.alloc (.cells (itmC x.any x.count x.begins (.slice A3 L3 c3)) 103)).cell? ⟨wr.heap.size, 0, none⟩ = some (.bool x.any) := y9 0
      have z1 : (wr.alloc (.cells (itmC x.any x.count x.begins (.slice A3 L3 c3)) 103)).cell? ⟨wr.heap.size, 1, none⟩ = some (.bool x.count) := y9 1
      have z2 : (wr.alloc (.cells (itmC x.any x.count x.begins (.slice A3 L3 c3)) 103)).cell? ⟨wr.heap.size, 2, none⟩ = some (.bool x.begins) := y9 2
      have z3 : (wr.alloc (.cells (itmC x.any x.count x.begins (.slice A3 L3 c3)) 103)).cell? ⟨wr.heap.size, 3, none⟩ = some (.slice A3 L3 c3) := y9 3
      have e1 : (wr.alloc (.cells (itmC x.any x.count x.begins (.slice A3 L3 c3)) 103)).cell? ⟨b2, off2 + q, none⟩ = some (.string y) := (World.cell?_alloc_lt _ _ _ (Nat.lt_of_lt_of_le (HFS.out.2 b2 hfb2) HG.out.bel.size)).trans e0
      clear y9 fz9 hxs hbx
      go_upto_region 7 with (fail)
      clear d0 d1 d2 d3 e0
      generalize hw6 : wr.alloc (.cells #[.bool x.any, .bool x.count, .bool x.begins, .slice A3 L3 c3] 103) = w6 at *
      have HMT := Lib.hid (fun N => matches_c (F := fun b => b < w6.heap.size) x (.slice A3 L3 c3) y (w6.drewN N) hyz (HE.out.below ((HGN.out.bel).trans (below_drewN (Below.refl _ w6) N |>.mono HGN.out.bel.size)) (Nat.le_refl _)) ((HX.out.more fun b hb => Nat.lt_of_lt_of_le (HFS.out.1 b hb) HGN.out.bel.size).drewN N) (fun b hb => hb) HBX.out)
      have HY := Lib.hid hy
      clear hw6 hx hy hyz
      refine wp_region_drewN_tail 7 (by kernel_rfl) (by kernel_rfl) ?_
      simp only [List.take_succ_cons, List.take_zero, List.drop_succ_cons, List.drop_zero]
      repeat (quiet_step ((fail)))
      refine wpQuiet_nil ?_
      intro wx hwx
      obtain ⟨nqx, hwx⟩ := hwx
      subst hwx
      go_wp2_with fail
      refine (HMT.out nqx).mono ?_
      rintro e w7 ⟨rfl, hb7⟩
      have hb7' : Below w6.heap.size w6 w7 := (below_drewN (Below.refl _ w6) nqx).trans hb7
      have HG7 := Lib.hid (HGN.out.below hb7')
      have g0 := (hb7'.cell (p := ⟨wr.heap.size, 1, none⟩) (HGN.out.plt (p := (wr.heap.size, itmC x.any x.count x.begins (.slice A3 L3 c3), 103)) (by simp))).trans z1
      have g1 := (hb7'.cell (p := ⟨b2, off2 + q, none⟩) (Nat.lt_of_lt_of_le (HFS.out.2 b2 hfb2) HGN.out.bel.size)).trans e1
      obtain ⟨⟨x0, x1, x2⟩, ⟨fx0, fx1, fx2⟩⟩ := hitCells (b := w.heap.size) (x := 0) (y := 0) (z := 0) (T := 75) HG7.out (by simp)
      obtain ⟨⟨y0, y1, y2⟩, ⟨fy0, fy1, fy2⟩⟩ := hitCells (b := H8) (x := k) (y := n) (z := c) (T := 75) HG7.out (by simp)
      have hH7 : H8 < w7.heap.size := HG7.out.plt (p := (H8, hitC k n c, 75)) (by simp)
      clear z0 z1 z2 z3 e1 hb7 hb7' HMT HX HBX
      cases hf : fitI x y with
      | false =>
        have HRN := Lib.hid (show hitA P ws k = none by rw [HR.out, ← HST.out, hf]; rfl)
        have HBL := Lib.hid (((((HG7.out.less (Q := [(w.heap.size, hitC 0 0 0, 75)]) (by simp)).set (i := 0) (fun h => h) (.int .i64 0) (by simp)).set (i := 1) (fun h => h) (.int .i64 0) (by simp)).set (i := 2) (fun h => h) (.int .i64 0) (by simp)).bel)
        clear hmx hf HST HH HR
        go_wp2
        refine ⟨rfl, .tuple #[.agg (hitC 0 0 0), .bool false], (by rw [results_cell_tmp rfl]; go_simp), ?_⟩
        exact ⟨by rw [HRN.out]; rfl, HBL.out⟩
      | true =>
        rw [hf, if_pos rfl] at HST
        have HGQ := Lib.hid (HG7.out.less (Q := [(H8, hitC k n c, 75), (w.heap.size, hitC 0 0 0, 75)]) (by simp))
        have HTC := Lib.hid (tCounted_c y w7 (HWS.out y (by rw [← HY.out]; exact List.getElem_mem _)) (HE.out.below HGQ.out.bel (Nat.le_refl _)))
        clear hf HG7 HGN HH HG
        generalize hcb : x.count = cb at *
        by_cases hcc : cb = true ∧ c = 0
        · obtain ⟨rfl, rfl⟩ := hcc
          rw [if_pos ⟨rfl, rfl⟩] at HST
          clear hcb
          have HS3 := Lib.hid (show hitF (P.drop (i + 1)) (ws.drop (k + (i + 1))) (cntW y) = hitF P (ws.drop k) 0 by rw [HNQ.out]; exact HST.out)
          go_wp2_with fail
          refine HTC.out.mono ?_
          rintro e w8 ⟨rfl, hb8⟩
          have HG8 := Lib.hid (HGQ.out.below hb8)
          have HG9 := Lib.hid (((HG8.out.less (Q := [(w.heap.size, hitC 0 0 0, 75), (H8, hitC k n 0, 75)]) (by simp)).less (Q := [(H8, hitC k n 0, 75), (w.heap.size, hitC 0 0 0, 75)]) (by simp)).set (i := 2) (fun h => h) (.int .i64 (cntW y)) (by simp; omega))
          obtain ⟨⟨y0, y1, y2⟩, ⟨fy0, fy1, fy2⟩⟩ := hitCells (b := H8) (x := k) (y := n) (z := 0) (T := 75) HG8.out (by simp)
          clear hb8 HGQ HG8
          generalize cntW y = cy at *
          go_wp2
          go_roundw
          · exact ⟨i + 1, cy, by omega, intNum, HG9.out, HS3.out⟩
          · simp [intOf]; omega
        · rw [if_neg hcc] at HST
          have HS3 := Lib.hid (show hitF (P.drop (i + 1)) (ws.drop (k + (i + 1))) c = hitF P (ws.drop k) 0 by rw [HNQ.out]; exact HST.out)
          clear hcb
          cases cb with
          | false =>
            clear hcc
            go_wp2
            go_roundw
            · exact ⟨i + 1, c, by omega, intNum, HGQ.out, HS3.out⟩
            · simp [intOf]; omega
          | true =>
            have hc0 : (c == 0) = false := beq_eq_false_iff_ne.2 (fun h => hcc ⟨rfl, h⟩)
            clear hcc
            go_wp2
            go_roundw
            · exact ⟨i + 1, c, by omega, intNum, HGQ.out, HS3.out⟩
            · simp [intOf]; omega
    · have hie : ¬ i < P.length := by rw [HN.out]; exact hlt
      have HRN := Lib.hid (show hitA P ws k = some (maxI c 1) by rw [HR.out, ← HH.out, hitF_end hie, maxI_eq]; rfl)
      obtain ⟨⟨x0, x1, x2⟩, ⟨fx0, fx1, fx2⟩⟩ := hitCells (b := w.heap.size) (x := 0) (y := 0) (z := 0) (T := 75) HG.out (by simp)
      obtain ⟨⟨y0, y1, y2⟩, ⟨fy0, fy1, fy2⟩⟩ := hitCells (b := H8) (x := k) (y := n) (z := c) (T := 75) HG.out (by simp)
      clear HR HH hie
      have HG2 := Lib.hid (HG.out.set (i := 2) (fun h => h) (.int .i64 (maxI c 1)) (by simp; omega))
      have HBL := Lib.hid (((((HG2.out.less (Q := [(w.heap.size, hitC 0 0 0, 75)]) (by simp)).set (i := 0) (fun h => h) (.int .i64 k) (by simp)).set (i := 1) (fun h => h) (.int .i64 n) (by simp)).set (i := 2) (fun h => h) (.int .i64 (maxI c 1)) (by simp)).bel)
      obtain ⟨⟨s0, s1, s2⟩, ⟨fs0, fs1, fs2⟩⟩ := hitCells (b := H8) (x := k) (y := n) (z := maxI c 1) (T := 75) HG2.out (by simp)
      obtain ⟨⟨r0, r1, r2⟩, ⟨fr0, fr1, fr2⟩⟩ := hitCells (b := w.heap.size) (x := 0) (y := 0) (z := 0) (T := 75) HG2.out (by simp)
      clear HG HG2
      go_wp2
      refine ⟨rfl, .tuple #[.agg (hitC k n (maxI c 1)), .bool true], (by rw [results_cell_tmp rfl]; go_simp), ?_⟩
      exact ⟨by rw [HRN.out]; rfl, HBL.out⟩

/-- The hits as a list. -/
def hitR (n : Nat) : Rep (Nat × Int) := Rep.flat 3 (fun x => [.int .i64 (x.1 : Int), .int .i64 (n : Int), .int .i64 x.2]) (fun _ => rfl)
theorem hitA_some {P : List Itm} {ws : List ByteArray} {k : Nat} {c : Int} (h : hitA P ws k = some c) : k + P.length ≤ ws.length := by
  by_cases hf : ws.length < k + P.length
  · rw [hitA_far hf] at h; cases h
  · omega
set_option maxRecDepth 100000 in
set_option maxHeartbeats 4000000 in
theorem hits_c {F F2 : Nat → Prop} (P : List Itm) (pv : Value) (ws : List ByteArray) (wv : Value) (w : World) (hP : Sli itmR w F P pv) (hF : ∀ b, F b → b < w.heap.size) (hW : Sli strR w F2 ws wv) (hF2 : ∀ b, F2 b → b < w.heap.size)
    (h0 : 1 ≤ P.length) (hn : P.length ≤ 1000000) (hm : ws.length ≤ 1000000) (hws : ∀ s ∈ ws, s.size ≤ 1000000) (hb : ∀ x ∈ P, x.begins = true → 0 < x.ws.length) (hE : ErrsLaid w) :
    Calls Tryz.prog 29 #[pv, wv] w fun e w' => ∃ v, e = .returned v ∧ Own (hitR P.length) w' w.heap.size w.heap.size 75 (hitsAt P ws 0) v ∧ Below w.heap.size w w' := by
  obtain ⟨i0, hi0, hz0, hz1, hz2⟩ := info_parts (show (Tryz.prog.info? 75).map (fun i => (i.zero, i.size, i.bytes)) = some (some (.agg #[.int .i64 0, .int .i64 0, .int .i64 0]), 3, 24) by kernel_rfl)
  obtain ⟨A, c1, rfl, hlc1, hcm1⟩ := hP.form
  obtain ⟨A2, c2, rfl, hlc2, hcm2⟩ := hW.form
  have HHC := Lib.hid (fun (k : Nat) (wx : World) (hk : k ≤ 2000000) (hbx : Below w.heap.size w wx) => hitAt_c P _ ws _ k wx (hP.below hbx hF) (fun b hb => Nat.lt_of_lt_of_le (hF b hb) hbx.size) (hW.below hbx hF2) (fun b hb => Nat.lt_of_lt_of_le (hF2 b hb) hbx.size) hn hm hk hws hb (hE.below hbx (Nat.le_refl _)))
  obtain ⟨n, hn'⟩ : ∃ n, P.length = n := ⟨_, rfl⟩
  obtain ⟨m, hm'⟩ : ∃ m, ws.length = m := ⟨_, rfl⟩
  have HN := Lib.hid hn'
  have HM := Lib.hid hm'
  rw [hn'] at HHC hn h0 hlc1 ⊢
  rw [hm'] at HHC hm hlc2 ⊢
  have HG0 := Lib.hid (BO.start (R := hitR n) (e := 75) w)
  clear hP hW hF hF2 hws hb hE hn' hm'
  go_enter Tryz.func29, Tryz.ntmps29
  go_wp2
  go_loopw [5, 6] (fun v a wr => ∃ (k : Nat) (acc : List (Nat × Int)), k ≤ m ∧ a = .int .i64 k ∧ acc.length ≤ k ∧ Hid (hitsAt P ws 0 = acc ++ hitsAt P ws k) ∧ Hid (BO (hitR n) 75 w acc v [] wr)) (fun _ a _ => m - (intOf a).toNat)
  case atStart => exact ⟨0, [], Nat.zero_le _, rfl, Nat.le_refl _, rfl, HG0.out⟩
  case round =>
    clear HG0
    obtain ⟨k, acc, hk, rfl, hal, HA, HG⟩ := hrel
    by_cases hlt : k < m
    · have HH := Lib.hid (HHC.out k wr (by omega) HG.out.bel)
      rw [show HitP P ws k n wr = fun e w' => e = .returned (hitV k n (hitA P ws k)) ∧ Below wr.heap.size wr w' from rfl] at HH
      cases hh : hitA P ws k with
      | none =>
        have HN2 := Lib.hid (HA.out.trans (congrArg (acc ++ ·) (hitsAt_no (by rw [HM.out]; exact hlt) (by rw [HN.out]; exact h0) hh)))
        rw [hh] at HH
        have ew : IntKind.i64.wrap ((k : Int) + 1) = (k : Int) + 1 := IntWalk.i64_in _ (by omega)
        clear hh
        go_wp2_with fail
        refine HH.out.mono ?_
        rintro e w2 ⟨rfl, hb2⟩
        have HG2 := Lib.hid ((HG.out.below hb2).alloc (.cells (hitC 0 0 0) 75))
        clear hb2 HH
        rw [show hitV k n none = .tuple #[.agg #[.int .i64 0, .int .i64 0, .int .i64 0], .bool false] from rfl]
        go_wp2
        go_roundw
        · exact ⟨k + 1, acc, by omega, intNum, by omega, HN2.out, HG2.out⟩
        · simp [intOf]; omega
      | some c =>
        have hkn := hitA_some hh
        rw [HN.out, HM.out] at hkn
        have HN2 := Lib.hid (show hitsAt P ws 0 = (acc ++ [(k, c)]) ++ hitsAt P ws (k + n) by rw [HA.out, hitsAt_yes (by rw [HM.out]; exact hlt) (by rw [HN.out]; exact h0) hh, HN.out]; simp)
        rw [hh] at HH
        have ew : IntKind.i64.wrap ((k : Int) + (n : Int)) = ((k + n : Nat) : Int) := (IntWalk.i64_in _ (by omega)).trans (by omega)
        clear hh
        go_wp2_with fail
        refine HH.out.mono ?_
        rintro e w2 ⟨rfl, hb2⟩
        have HG2 := Lib.hid ((HG.out.below hb2).new (hitC k n c) 75)
        obtain ⟨d, _⟩ := HG2.out.cell (p := (w2.heap.size, hitC k n c, 75)) (by simp)
        have d0 : (w2.alloc (.cells (hitC k n c) 75)).cell? ⟨w2.heap.size, 0, none⟩ = some (.int .i64 k) := d 0
        have d1 : (w2.alloc (.cells (hitC k n c) 75)).cell? ⟨w2.heap.size, 1, none⟩ = some (.int .i64 n) := d 1
        have d2 : (w2.alloc (.cells (hitC k n c) 75)).cell? ⟨w2.heap.size, 2, none⟩ = some (.int .i64 c) := d 2
        clear hb2 HH d
        rw [show hitV k n (some c) = .tuple #[.agg #[.int .i64 k, .int .i64 n, .int .i64 c], .bool true] from rfl]
        go_upto_region 7 with (fail)
        generalize w2.alloc (.cells #[.int .i64 (k : Int), .int .i64 (n : Int), .int .i64 c] 75) = w3 at *
        go_wp2_with (at_builtin; (refine wpList_pushB (R := hitR n) rfl _ _ _ rfl w.heap.size w.heap.size 75 i0 _ 24 Tryz.underlying72 hi0 hz0 (by assumption) (by assumption) rfl (Nat.succ_pos 2) _ u5 acc rfl (HG2.out.own.alloc _) ((k, c) : Nat × Int) _ rfl (oneC rfl) w3.heap.size _ _ (heap_alloc_new w3 _) rfl (by simp [maxLen]; omega) (by omega) (by have := HG2.out.size; simp; omega) ?_); intro g7 cap7 w7 hown7 hg7 hat7 hlt7)
        have HG7 := Lib.hid (((HG2.out.less (Q := []) (by simp)).alloc _).more hown7 hg7 rfl (hat7.imp id fun h => h))
        clear hown7 hg7 hat7 hlt7 HG2 HG
        go_roundw
        · exact ⟨k + n, acc ++ [(k, c)], hkn, rfl, by rw [List.length_append]; simp; omega, HN2.out, HG7.out⟩
        · simp [intOf]; omega
    · have HR := Lib.hid (show hitsAt P ws 0 = acc by rw [HA.out, hitsAt_end (by rw [HM.out]; omega), List.append_nil])
      go_wp2
      go_ret
      exact ⟨_, rfl, by rw [HR.out]; exact HG.out.own, HG.out.bel⟩
end Go.Proofs.YtlfnmmnbfoimeaaGreatDoor

