/- Texts packed: TcG. -/
import Derived.Test.YtmefjkfjpgblcaaGreatDoorSc34
import Derived.Test.YtmefjkfjpgblcaaGreatDoorSc23
/- The reference's error of one take of a list, walked. -/
namespace Go.Proofs.YtmefjkfjpgblcaaGreatDoor
set_option linter.unusedVariables false
open Go.RowKit Go.Sort

theorem tk_at_P {W w : World} {P : List (Nat × Array Value × TypeId)} {B : Nat} {x : Tk} {v : Value} {T : TypeId} (h : PvG w P W) (hp : (B, tkCs x v, T) ∈ P) : W.cell? ⟨B, 0, none⟩ = some (.string x.scene) ∧ W.cell? ⟨B, 1, none⟩ = some (.string x.setup) ∧ W.cell? ⟨B, 2, none⟩ = some (.int .i64 x.number) ∧ W.cell? ⟨B, 3, none⟩ = some (.string x.roll) ∧ W.cell? ⟨B, 4, none⟩ = some (.string x.sound) ∧ W.cell? ⟨B, 5, none⟩ = some (.int .i64 x.tin) ∧ W.cell? ⟨B, 6, none⟩ = some (.int .i64 x.tout) ∧ W.cell? ⟨B, 7, none⟩ = some (.bool x.good) ∧ W.cell? ⟨B, 8, none⟩ = some v := by
  obtain ⟨y, _⟩ := h.cell hp
  exact ⟨y 0, y 1, y 2, y 3, y 4, y 5, y 6, y 7, y 8⟩
def RfP (sc : List Scene) (rl : List Roll) (pre : List Tk) (x : Tk) (w : World) (e : Ending) (w' : World) : Prop := e = .returned (.int .i64 (tcE sc rl pre x)) ∧ Below w.heap.size w w'
theorem RfP.mk {sc : List Scene} {rl : List Roll} {pre : List Tk} {x : Tk} {q : Int} {w w' : World} (h : tcE sc rl pre x = q) (hb : Below w.heap.size w w') : RfP sc rl pre x w (.returned (.int .i64 q)) w' := ⟨by rw [h], hb⟩
set_option maxRecDepth 100000 in
set_option maxHeartbeats 16000000 in
theorem takeFaultR_c {F F2 : Nat → Prop} (t : ByteArray) (ls : List (Scene × Value)) (v : Value) (A1 : Option Addr) (rl : List Roll) (c1 lo : Nat) (tl : List (Tk × Value)) (tv : Value) (k : Nat) (w : World) (h : ScL w F t ls v) (hn : ∀ y ∈ ls, ¬ y.1.no = ⟨#[]⟩) (hr : Rs w lo w.heap.size 5 Roll.cells A1 rl) (hlen : rl.length ≤ 1000000) (hrf : rollsFault rl = 0) (hnm : ∀ r ∈ rl, rollNameB r.name = true) (ht : TkW w F2 tl tv) (hk : k < tl.length) (hl3 : tl.length ≤ 1000000) :
    Calls Tryz.prog 101 #[.agg #[.string t, v], .slice A1 rl.length c1, tv, .int .i64 (k : Int)] w (RfP (ls.map (·.1)) rl ((tl.map (·.1)).take k) (tl[k]).1 w) := by
  obtain ⟨A, c, rfl, hlc, hcm⟩ := h.sli.form
  obtain ⟨A2, c2, rfl, hlc2, hcm2⟩ := ht.sli.form
  obtain ⟨n, hn0⟩ : ∃ n, ls.length = n := ⟨_, rfl⟩
  obtain ⟨L, hL⟩ : ∃ L, tl.length = L := ⟨_, rfl⟩
  obtain ⟨R, hR⟩ : ∃ R, rl.length = R := ⟨_, rfl⟩
  have HL := Lib.hid hL
  have HN := Lib.hid hn0
  have HSW := Lib.hid h
  have HNE := Lib.hid hn
  have HT := Lib.hid ht
  have HRS := Lib.hid hr
  have HRF := Lib.hid hrf
  have HNM := Lib.hid hnm
  obtain ⟨bt, off, hA2, hfb, c0, c1', c2', c3, c4, c5, c6, c7, c8⟩ := tkAt ht.sli k hk
  subst hA2
  have hmem := List.getElem_mem hk
  have hcv := ht.cov _ hmem
  obtain ⟨q1, q2, q3, q4, q5⟩ := ht.bd _ hmem
  obtain ⟨A8, cc8, h8, hl8, _⟩ := hcv.form
  rw [h8] at c8 hcv
  have hbw : bt < w.heap.size := ht.lt bt hfb
  have HFO := Lib.hid (fun y (hy : y ∈ tl) => by obtain ⟨A, c, e, _, _⟩ := (ht.cov y hy).form; exact (⟨A, y.1.covers.length, c, e⟩ : ∃ A n c, y.2 = .slice A n c))
  have HTK := Lib.hid (ht.sli.take_ k (by omega))
  have htkm : (tl.take k).map (·.1) = (tl.map (·.1)).take k := (List.map_take ..).symm ▸ rfl
  have HTM := Lib.hid htkm
  have hkl : (tl.take k).length = k := by rw [List.length_take]; omega
  have HKL := Lib.hid hkl
  have HFT := Lib.hid (fun y (hy : y ∈ tl.take k) => HFO.out y (List.mem_of_mem_take hy))
  clear h8 hmem htkm hkl
  rw [hn0] at hlc HSW
  rw [hL] at hlc2 hl3 HT hk
  rw [hn0, hL, hR]
  generalize hxx : (tl[k]'(by omega)).1 = x at *
  obtain ⟨M, hM⟩ : ∃ M, x.covers.length = M := ⟨_, rfl⟩
  have HM := Lib.hid hM
  rw [hM] at c8 hcv hl8 q5
  have HCV := Lib.hid hcv
  generalize (tl.map (·.1)).take k = pre at *
  have hG : PvG w [(w.heap.size + 1, tkCs x (.slice A8 M cc8), 122), (w.heap.size, #[.string t, .slice A n c], 44)] ((w.alloc (.cells #[.string t, .slice A n c] 44)).alloc (.cells (tkCs x (.slice A8 M cc8)) 122)) := by
    have h := ((pvStart w).new #[.string t, .slice A n c] 44).new (tkCs x (.slice A8 M cc8)) 122
    rw [show (w.alloc (.cells #[.string t, .slice A n c] 44)).heap.size = w.heap.size + 1 by simp] at h
    exact h
  clear h hn hr hrf hnm ht hcv hn0 hxx hM hL
  go_enter Tryz.func101, Tryz.ntmps101
  go_upto_region 2 with (fail)
  generalize hW : (w.alloc (.cells #[.string t, .slice A n c] 44)).alloc (.cells #[.string x.scene, .string x.setup, .int .i64 x.number, .string x.roll, .string x.sound, .int .i64 x.tin, .int .i64 x.tout, .bool x.good, .slice A8 M cc8] 122) = w1
  have G1 := Lib.hid (show PvG w [(w.heap.size + 1, tkCs x (.slice A8 M cc8), 122), (w.heap.size, #[.string t, .slice A n c], 44)] w1 by rw [← hW]; exact hG)
  clear hG hW c0 c1' c2' c3 c4 c5 c6 c7 c8
  have HTC := Lib.hid (fun (P : List (Nat × Array Value × TypeId)) (W : World) (hW : PvG w (P ++ [(w.heap.size + 1, tkCs x (.slice A8 M cc8), 122), (w.heap.size, #[.string t, .slice A n c], 44)]) W) => show (W.cell? ⟨w.heap.size + 1, 0, none⟩ = some (.string x.scene) ∧ W.cell? ⟨w.heap.size + 1, 1, none⟩ = some (.string x.setup) ∧ W.cell? ⟨w.heap.size + 1, 2, none⟩ = some (.int .i64 x.number) ∧ W.cell? ⟨w.heap.size + 1, 3, none⟩ = some (.string x.roll) ∧ W.cell? ⟨w.heap.size + 1, 4, none⟩ = some (.string x.sound) ∧ W.cell? ⟨w.heap.size + 1, 5, none⟩ = some (.int .i64 x.tin) ∧ W.cell? ⟨w.heap.size + 1, 6, none⟩ = some (.int .i64 x.tout) ∧ W.cell? ⟨w.heap.size + 1, 7, none⟩ = some (.bool x.good) ∧ W.cell? ⟨w.heap.size + 1, 8, none⟩ = some (.slice A8 M cc8)) ∧ W.cell? ⟨w.heap.size, 0, none⟩ = some (.string t) ∧ W.cell? ⟨w.heap.size, 1, none⟩ = some (.slice A n c) ∧ w.heap.size + 1 < W.heap.size from by
    obtain ⟨y, _⟩ := hW.cell (p := (w.heap.size, #[.string t, .slice A n c], 44)) (by simp)
    exact ⟨tk_at_P (T := 122) hW (by simp), y 0, y 1, hW.plt (p := (w.heap.size + 1, tkCs x (.slice A8 M cc8), 122)) (by simp)⟩)
  obtain ⟨⟨g0, g1, g2, g3, g4, g5, g6, g7, g8⟩, x0, x1, hlt1⟩ := HTC.out [] w1 G1.out
  have HSA := Lib.hid (sceneAt_c t ls (.slice A n c) x.scene w1 (HSW.out.below G1.out.bel) HNE.out)
  go_wp2_with fail
  refine HSA.out.mono ?_
  rintro e w2 ⟨rfl, hb2⟩
  have G2 := Lib.hid (G1.out.below hb2)
  clear hb2 HSA G1 g0 g1 g2 g3 g4 g5 g6 g7 g8 x0 x1 hlt1
  obtain ⟨⟨g0, g1, g2, g3, g4, g5, g6, g7, g8⟩, x0, x1, hlt1⟩ := HTC.out [] w2 G2.out
  have HR1 := Lib.hid (rollOfR_c A1 rl c1 lo x.roll w2 ((HRS.out.below G2.out.bel (Nat.le_refl _)).more (Nat.le_refl _) (by have := G2.out.size; omega)) (by omega) HNM.out)
  rw [hR] at HR1
  go_wp2_with fail
  refine HR1.out.mono ?_
  rintro e w3' ⟨rfl, hb3⟩
  have hG3 := (G2.out.below hb3).new (rlCs (rollGet rl x.roll)) 114
  have hR1 : w.heap.size + 1 < w3'.heap.size := by have := hb3.size; omega
  clear hb3 HR1 G2 g0 g1 g2 g3 g4 g5 g6 g7 g8 x0 x1 hlt1
  generalize hrg : rollGet rl x.roll = rg at *
  generalize hrh : rollHas rl x.roll = rh at *
  go_upto_region 4 with (fail)
  generalize hW : w3'.alloc (.cells #[.string rg.name, .int .i64 rg.rate, .int .i64 rg.start, .int .i64 rg.long, .int .i64 rg.drift] 114) = w3
  have G3 := Lib.hid (show PvG w ([(w3'.heap.size, rlCs rg, 114)] ++ [(w.heap.size + 1, tkCs x (.slice A8 M cc8), 122), (w.heap.size, #[.string t, .slice A n c], 44)]) w3 by rw [← hW]; exact hG3)
  clear hG3 hW
  generalize w3'.heap.size = R1 at *
  obtain ⟨⟨g0, g1, g2, g3, g4, g5, g6, g7, g8⟩, x0, x1, hlt1⟩ := HTC.out _ w3 G3.out
  have HR2 := Lib.hid (rollOfR_c A1 rl c1 lo x.sound w3 ((HRS.out.below G3.out.bel (Nat.le_refl _)).more (Nat.le_refl _) (by have := G3.out.size; omega)) (by omega) HNM.out)
  rw [hR] at HR2
  go_wp2_with fail
  refine HR2.out.mono ?_
  rintro e w4' ⟨rfl, hb4⟩
  have hG4 := (G3.out.below hb4).new (rlCs (rollGet rl x.sound)) 114
  clear hb4 HR2 G3 g0 g1 g2 g3 g4 g5 g6 g7 g8 x0 x1 hlt1
  generalize hrk : rollHas rl x.sound = rk at *
  generalize rollGet rl x.sound = rs at *
  go_upto_region 5 with (fail)
  generalize hW : w4'.alloc (.cells #[.string rs.name, .int .i64 rs.rate, .int .i64 rs.start, .int .i64 rs.long, .int .i64 rs.drift] 114) = w4
  have G4 := Lib.hid (show PvG w ([(R1, rlCs rg, 114)] ++ [(w.heap.size + 1, tkCs x (.slice A8 M cc8), 122), (w.heap.size, #[.string t, .slice A n c], 44)]) w4 by rw [← hW]; exact hG4.less (fun p hp => List.mem_cons_of_mem _ hp))
  clear hG4 hW
  obtain ⟨⟨g0, g1, g2, g3, g4, g5, g6, g7, g8⟩, x0, x1, hlt1⟩ := HTC.out _ w4 G4.out
  cases hsi : scnIdx (ls.map (·.1)) x.scene with
  | none =>
    have HR := Lib.hid (show tcE (ls.map (·.1)) rl pre x = 8 from if_pos hsi)
    have hix : idxV (none : Option Nat) = -1 := rfl
    clear hsi
    rw [hix]
    go_wp2
    go_ret
    exact RfP.mk HR.out G4.out.bel
  | some j =>
  have hjn : j < n := by
    obtain ⟨hj, _⟩ := scnIdx_some hsi
    rw [List.length_map] at hj
    rw [← HN.out]; exact hj
  have HT1 := Lib.hid (show tcE (ls.map (·.1)) rl pre x = if setupB x.setup = false then 5 else if x.number < 1 ∨ 99 < x.number then 1 else if pre.any (sameT x) = true then 6 else if rollHas rl x.roll = false ∨ (¬ x.sound = ⟨#[]⟩ ∧ rollHas rl x.sound = false) then 8 else if withinB (rollGet rl x.roll) x.tin x.tout = false then 1 else if pre.any (busyT x) = true then 12 else covsE (parN (ls.map (·.1)) x.scene) x.tin x.tout none x.covers from if_neg (by rw [hsi]; exact fun h => by cases h))
  rw [hrh, hrk, hrg] at HT1
  have HPN := Lib.hid (parN_at hsi (by rw [List.length_map, HN.out]; exact hjn))
  rw [show idxV (some j) = (j : Int) from rfl]
  clear hsi
  go_wp2_with fail
  refine (SetupOf_c x.setup _ (by omega)).mono ?_
  rintro e w5 ⟨rfl, hb5⟩
  have G5 := Lib.hid (G4.out.below hb5)
  clear hb5 G4 g0 g1 g2 g3 g4 g5 g6 g7 g8 x0 x1 hlt1
  cases hse : setupB x.setup with
  | false =>
    have HR := Lib.hid (HT1.out.trans (if_pos hse))
    clear hse
    go_wp2
    go_ret
    exact RfP.mk HR.out G5.out.bel
  | true =>
  have HT2 := Lib.hid (HT1.out.trans (if_neg (by rw [hse]; decide)))
  clear hse HT1
  obtain ⟨⟨g0, g1, g2, g3, g4, g5, g6, g7, g8⟩, x0, x1, hlt1⟩ := HTC.out _ w5 G5.out
  by_cases n1 : x.number < 1
  · have HR := Lib.hid (HT2.out.trans (if_pos (.inl n1)))
    go_wp2
    go_ret
    exact RfP.mk HR.out G5.out.bel
  by_cases n2 : 99 < x.number
  · have HR := Lib.hid (HT2.out.trans (if_pos (.inr n2)))
    have n1' : 1 ≤ x.number := by omega
    clear n1
    go_wp2
    go_ret
    exact RfP.mk HR.out G5.out.bel
  have HT3 := Lib.hid (HT2.out.trans (if_neg (by omega)))
  have n1' : 1 ≤ x.number := by omega
  have n2' : x.number ≤ 99 := by omega
  have hkc2 : k ≤ c2 := by omega
  clear n1 n2 HT2
  have HFL := Lib.hid HT.out.lt
  have HCS := Lib.hid (fun (W : World) (hW : Below w.heap.size w W) (p : Tk → Bool) (g : Nat) (hp : PredK Tryz.prog g #[.pointer (some ⟨w.heap.size + 1, 0, none⟩)] p W) => contTk_c (F := F2) (tl.take k) _ k c2 g #[.pointer (some ⟨w.heap.size + 1, 0, none⟩)] p W HKL.out (HTK.out.below hW HFL.out) (fun b hb => Nat.lt_of_lt_of_le (HFL.out b hb) hW.size) HFT.out (by omega) hp)
  have HC1 := Lib.hid (HCS.out w5 G5.out.bel (sameT x) 178 (takeFault1_p x (w.heap.size + 1) w5 g0 g1 g2 hlt1))
  rw [HTM.out] at HC1
  go_wp2_with fail
  refine HC1.out.mono ?_
  rintro e w6 ⟨rfl, hb6⟩
  have G6 := Lib.hid (G5.out.below hb6)
  clear hb6 HC1 G5 g0 g1 g2 g3 g4 g5 g6 g7 g8 x0 x1 hlt1
  cases hsm : pre.any (sameT x) with
  | true =>
    have HR := Lib.hid (HT3.out.trans (if_pos hsm))
    clear hsm
    go_wp2
    go_ret
    exact RfP.mk HR.out G6.out.bel
  | false =>
  have HT4 := Lib.hid (HT3.out.trans (if_neg (by rw [hsm]; decide)))
  clear hsm HT3
  obtain ⟨⟨g0, g1, g2, g3, g4, g5, g6, g7, g8⟩, x0, x1, hlt1⟩ := HTC.out _ w6 G6.out
  cases rh with
  | false =>
    have HR := Lib.hid (HT4.out.trans (if_pos (.inl rfl)))
    clear hrh hrk
    go_wp2
    go_ret
    exact RfP.mk HR.out G6.out.bel
  | true =>
  have HT5 : (Hid (tcE (ls.map (·.1)) rl pre x = if withinB rg x.tin x.tout = false then 1 else if pre.any (busyT x) = true then 12 else covsE (parN (ls.map (·.1)) x.scene) x.tin x.tout none x.covers) ∧ (x.sound.toList.isEmpty = true ∨ (x.sound.toList.isEmpty = false ∧ rk = true))) ∨ (Hid (tcE (ls.map (·.1)) rl pre x = 8) ∧ x.sound.toList.isEmpty = false ∧ rk = false) := by
    by_cases hs : ¬ x.sound = ⟨#[]⟩ ∧ rk = false
    · exact .inr ⟨HT4.out.trans (if_pos (.inr hs)), Bool.eq_false_iff.2 (fun h => hs.1 ((empty_iff _).1 h)), hs.2⟩
    · refine .inl ⟨by
        refine HT4.out.trans (if_neg ?_)
        rintro (h | h)
        · cases h
        · exact hs h, ?_⟩
      cases he : x.sound.toList.isEmpty with
      | true => exact .inl rfl
      | false =>
        refine .inr ⟨rfl, ?_⟩
        cases hr : rk with
        | true => rfl
        | false => exact absurd ⟨fun e => (by rw [(empty_iff _).2 e] at he; cases he), hr⟩ hs
  have HRH := Lib.hid (show rollHas rl x.roll = true from hrh)
  have HRG := Lib.hid (show rollGet rl x.roll = rg from hrg)
  clear hrh hrk hrg HT4
  rcases HT5 with ⟨HT5, hsd⟩ | ⟨HT5, he, rfl⟩
  rotate_left
  · have HR := Lib.hid HT5.out
    go_wp2
    go_ret
    exact RfP.mk HR.out G6.out.bel
  go_upto_region 13 with (fail)
  go_cut [62] (fun s62 wx => s62 = .bool false ∧ w6 = wx)
  case first =>
    rcases hsd with he | ⟨he, rfl⟩
    all_goals
      go_wp2
      go_meet
      exact ⟨rfl, rfl⟩
  case rest =>
  obtain ⟨rfl, hwx⟩ := hcut
  subst hwx
  obtain ⟨y, _⟩ := G6.out.cell (p := (R1, rlCs rg, 114)) (by simp)
  have r0 : w6.cell? ⟨R1, 0, none⟩ = some (.string rg.name) := y 0
  have r1 : w6.cell? ⟨R1, 1, none⟩ = some (.int .i64 rg.rate) := y 1
  have r2 : w6.cell? ⟨R1, 2, none⟩ = some (.int .i64 rg.start) := y 2
  have r3 : w6.cell? ⟨R1, 3, none⟩ = some (.int .i64 rg.long) := y 3
  have r4 : w6.cell? ⟨R1, 4, none⟩ = some (.int .i64 rg.drift) := y 4
  obtain ⟨t0, t1, t2, t3, t4⟩ := rate_bd HRF.out HRH.out
  rw [HRG.out] at t1 t2 t3 t4
  have HWI := Lib.hid (holds_c rg.name rg.rate rg.start rg.long rg.drift x.tin x.tout w6 (by omega) (by omega) (by omega) (by omega))
  rw [show (⟨rg.name, rg.rate, rg.start, rg.long, rg.drift⟩ : Roll) = rg from rfl] at HWI
  clear y hsd t0 t1 t2 t3 t4 HRH HRG
  go_wp2_with fail
  refine HWI.out.mono ?_
  rintro e w7 ⟨rfl, hb7⟩
  have G7 := Lib.hid (G6.out.below hb7)
  clear hb7 HWI G6 g0 g1 g2 g3 g4 g5 g6 g7 g8 x0 x1 hlt1 r0 r1 r2 r3 r4
  cases hwi : withinB rg x.tin x.tout with
  | false =>
    have HR := Lib.hid (HT5.out.trans (if_pos hwi))
    clear hwi
    go_wp2
    go_ret
    exact RfP.mk HR.out G7.out.bel
  | true =>
  have HT6 := Lib.hid (HT5.out.trans (if_neg (by rw [hwi]; decide)))
  clear hwi HT5
  obtain ⟨⟨g0, g1, g2, g3, g4, g5, g6, g7, g8⟩, x0, x1, hlt1⟩ := HTC.out _ w7 G7.out
  have HC2 := Lib.hid (HCS.out w7 G7.out.bel (busyT x) 180 (takeFault2_p x (w.heap.size + 1) w7 g3 g5 g6 hlt1))
  rw [HTM.out] at HC2
  go_wp2_with fail
  refine HC2.out.mono ?_
  rintro e w8 ⟨rfl, hb8⟩
  have G8 := Lib.hid ((G7.out.below hb8).less (Q := [(w.heap.size + 1, tkCs x (.slice A8 M cc8), 122), (w.heap.size, #[.string t, .slice A n c], 44)]) (by simp))
  clear hb8 HC2 HCS G7 g0 g1 g2 g3 g4 g5 g6 g7 g8 x0 x1 hlt1
  cases hbz : pre.any (busyT x) with
  | true =>
    have HR := Lib.hid (HT6.out.trans (if_pos hbz))
    clear hbz
    go_wp2
    go_ret
    exact RfP.mk HR.out G8.out.bel
  | false =>
  have HT7 := Lib.hid (HT6.out.trans (if_neg (by rw [hbz]; decide)))
  clear hbz HT6
  have HY := Lib.hid (fun (W : World) (hb : Below w8.heap.size w8 W) => HTC.out [] W (G8.out.below hb))
  obtain ⟨⟨_, _, _, _, _, _, _, _, y8⟩, _, _, _⟩ := HY.out w8 (Below.refl _ _)
  have HB := Lib.hid G8.out.bel
  have HLT := Lib.hid (show w.heap.size + 1 < w8.heap.size from (HY.out w8 (Below.refl _ _)).2.2.2)
  have HFL8 := Lib.hid (fun b (hb : F2 b) => show b < w8.heap.size from Nat.lt_of_lt_of_le (HFL.out b hb) G8.out.size)
  have HV1 := Lib.hid (HCV.out.below G8.out.bel HFL.out)
  obtain ⟨N, hN⟩ : ∃ N, parN (ls.map (·.1)) x.scene = N := ⟨_, rfl⟩
  rw [hN] at HT7 HPN
  clear HTC hN G8
  generalize hB0 : w.heap.size + 1 = B at *
  go_wp2
  go_loopw [91] (fun i wr => ∃ kk : Nat, kk ≤ M ∧ i = .int .i64 kk ∧ Hid (covsE N x.tin x.tout none x.covers = covsE N x.tin x.tout (prevOf x.covers kk) (x.covers.drop kk)) ∧ Hid (Below w8.heap.size w8 wr)) (fun i _ => M - (intOf i).toNat)
  case atStart => exact ⟨0, Nat.zero_le _, rfl, Lib.hid rfl, Below.refl _ _⟩
  case round =>
    clear y8
    obtain ⟨kk, hkk, rfl, HE, HBr⟩ := hrel
    have hzr := HBr.out.size
    have HBW := Lib.hid (HB.out.trans (HBr.out.mono (by omega)))
    by_cases hlt : kk < M
    · have hkl : kk < x.covers.length := by rw [HM.out]; exact hlt
      obtain ⟨b, off, rfl, hfb2, c0, c1, c2, c3⟩ := covAt (HV1.out.below HBr.out HFL8.out) kk hkl
      have hbw : b < wr.heap.size := by have := HFL8.out b hfb2; omega
      have HST := Lib.hid (HE.out.trans (covsE_step N x.tin x.tout x.covers kk hkl))
      have HPV := Lib.hid (show prevOf x.covers kk = if kk = 0 then none else x.covers[kk - 1]? from rfl)
      generalize (x.covers[kk]'hkl) = y at *
      generalize prevOf x.covers kk = pv at *
      have HB5 := Lib.hid (HBr.out.alloc hzr (.cells #[.int .i64 y.para, .int .i64 y.tin, .int .i64 y.tout, .bool y.on] 124))
      have hzz : (wr.alloc (.cells #[.int .i64 y.para, .int .i64 y.tin, .int .i64 y.tout, .bool y.on] 124)).heap.size = wr.heap.size + 1 := by simp
      have hnw := heap_alloc_new wr (.cells #[.int .i64 y.para, .int .i64 y.tin, .int .i64 y.tout, .bool y.on] 124)
      clear hkl HE
      go_upto_region 22 with (fail)
      generalize wr.alloc (.cells #[.int .i64 y.para, .int .i64 y.tin, .int .i64 y.tout, .bool y.on] 124) = w5 at *
      obtain ⟨gx, _⟩ := str_cells hnw
      have d0 : w5.cell? ⟨wr.heap.size, 0, none⟩ = some (.int .i64 y.para) := gx 0
      have d1 : w5.cell? ⟨wr.heap.size, 1, none⟩ = some (.int .i64 y.tin) := gx 1
      have d2 : w5.cell? ⟨wr.heap.size, 2, none⟩ = some (.int .i64 y.tout) := gx 2
      obtain ⟨⟨_, _, _, _, _, y5, y6, _, y8⟩, x0, x1, _⟩ := HY.out w5 HB5.out
      have HBX := Lib.hid (HB.out.trans (HB5.out.mono (by have := HLT.out; omega)))
      obtain ⟨bs, of2, hAs, hfbs, _, _, _, _, s4⟩ := scAt ((HSW.out.below HBX.out).sli) j (by rw [HN.out]; exact hjn)
      obtain ⟨A4, n4, cc4, h4⟩ := sli_forms HSW.out.par _ (List.getElem_mem (show j < ls.length by rw [HN.out]; exact hjn))
      have hn4 : N = n4 := by
        rw [HPN.out, List.getElem_map]
        obtain ⟨_, _, he, _, _⟩ := (HSW.out.par _ (List.getElem_mem (show j < ls.length by rw [HN.out]; exact hjn))).form
        rw [h4] at he
        injection he with _ he _
        exact he.symm
      subst hAs
      rw [h4] at s4
      subst hn4
      have hbs : bs < w5.heap.size := World.block_lt_of_cell? _ _ s4
      have hj0 : (0 : Int) ≤ j := by omega
      have hj1 : (j : Int) < n := by omega
      clear gx hnw c0 c1 c2 c3 h4
      generalize wr.heap.size = Y at *
      have hX5 : Y < w5.heap.size := World.block_lt_of_cell? w5 ⟨Y, 0, none⟩ d0
      by_cases p1 : y.para < 0
      · have HR := Lib.hid (HT7.out.trans (HST.out.trans (by rw [covOne_8 (.inl p1), if_pos (by decide)])))
        go_quiet (fail)
        go_wp2
        go_ret
        exact RfP.mk HR.out (below_drewN HBX.out _)
      by_cases p2 : (N : Int) ≤ y.para
      · have HR := Lib.hid (HT7.out.trans (HST.out.trans (by rw [covOne_8 (.inr p2), if_pos (by decide)])))
        have p1' : 0 ≤ y.para := by omega
        clear p1
        go_quiet (fail)
        go_wp2
        go_ret
        exact RfP.mk HR.out (below_drewN HBX.out _)
      have HP := Lib.hid (show ¬ (y.para < 0 ∨ (N : Int) ≤ y.para) by omega)
      have p1' : 0 ≤ y.para := by omega
      have p2' : y.para < (N : Int) := by omega
      clear p1 p2
      go_quiet (fail)
      clear s4
      go_upto_region 24 with (fail)
      go_cut [112] (fun s25 wx => s25 = .bool (prevBad pv y) ∧ Hid (Below w5.heap.size w5 wx))
      case first =>
        by_cases hk0 : kk = 0
        · subst hk0
          have hpb : prevBad pv y = false := by rw [HPV.out, if_pos rfl]; rfl
          go_quiet (fail)
          go_wp2
          go_meet
          exact ⟨by rw [hpb], Lib.hid (below_drewN (Below.refl _ _) _)⟩
        · obtain ⟨K, rfl⟩ : ∃ K, kk = K + 1 := ⟨kk - 1, by omega⟩
          have hKl : K < x.covers.length := by rw [HM.out]; omega
          obtain ⟨b', off', hA, hfb', e0, e1, e2, e3⟩ := covAt (HV1.out.below HB5.out HFL8.out) K hKl
          have hpz : pv = some (x.covers[K]'hKl) := by rw [HPV.out, if_neg hk0, Nat.add_sub_cancel, List.getElem?_eq_getElem hKl]
          generalize (x.covers[K]'hKl) = z at *
          injection hA with hA
          injection hA with hA1 hA2
          subst hA1
          subst hA2
          have q1 : (0 : Int) ≤ K := by omega
          have q2 : (0 : Int) < (K : Int) + 1 := by omega
          have q3 : (K : Int) < (M : Int) := by omega
          have q4 : IntKind.i64.wrap (K : Int) = K := IntWalk.i64_in _ (by omega)
          have q5 : IntKind.i64.wrap ((K : Int) + 1 - 1) = K := by rw [show (K : Int) + 1 - 1 = K by omega]; exact q4
          clear hk0 hKl
          by_cases b1 : y.para ≤ z.para
          · have hpb : prevBad pv y = true := by rw [hpz]; show (decide (y.para ≤ z.para) || _) = true; rw [decide_eq_true b1]; rfl
            go_quiet (fail)
            go_wp2
            go_meet
            exact ⟨by rw [hpb], Lib.hid (below_drewN (Below.refl _ _) _)⟩
          · have b1' : z.para < y.para := by omega
            by_cases b2 : y.tin < z.tout
            · have hpb : prevBad pv y = true := by rw [hpz]; show (_ || decide (y.tin < z.tout)) = true; rw [decide_eq_true b2, Bool.or_true]
              clear b1
              go_quiet (fail)
              go_wp2
              go_meet
              exact ⟨by rw [hpb], Lib.hid (below_drewN (Below.refl _ _) _)⟩
            · have hpb : prevBad pv y = false := by rw [hpz]; show (decide (y.para ≤ z.para) || decide (y.tin < z.tout)) = false; rw [decide_eq_false b1, decide_eq_false b2]; rfl
              have b2' : z.tout ≤ y.tin := by omega
              clear b1 b2
              go_quiet (fail)
              go_wp2
              go_meet
              exact ⟨by rw [hpb, decide_eq_false (show ¬ y.para ≤ z.para by omega), decide_eq_false (show ¬ y.tin < z.tout by omega)] <;> rfl, Lib.hid (below_drewN (Below.refl _ _) _)⟩
      case rest =>
        obtain ⟨rfl, HB6⟩ := hcut
        have z1 : wc.cell? ⟨Y, 1, none⟩ = some (.int .i64 y.tin) := (HB6.out.cell (p := ⟨Y, 1, none⟩) hX5).trans d1
        have z2 : wc.cell? ⟨Y, 2, none⟩ = some (.int .i64 y.tout) := (HB6.out.cell (p := ⟨Y, 2, none⟩) hX5).trans d2
        have HB7 := Lib.hid (HB5.out.trans (HB6.out.mono HB5.out.size))
        obtain ⟨⟨_, _, _, _, _, v5, v6, _, _⟩, _, _, _⟩ := HY.out wc HB7.out
        have HBY := Lib.hid (HB.out.trans (HB7.out.mono (by have := HLT.out; omega)))
        clear d0 d1 d2 y5 y6 y8
        cases hpb : prevBad pv y with
        | true =>
          have HR := Lib.hid (HT7.out.trans (HST.out.trans (by rw [covOne_7 HP.out hpb, if_pos (by decide)])))
          clear hpb
          go_wp2
          go_ret
          exact RfP.mk HR.out HBY.out
        | false =>
          by_cases r1 : y.tin < x.tin
          · have HR := Lib.hid (HT7.out.trans (HST.out.trans (by rw [covOne_1 HP.out hpb (.inl r1), if_pos (by decide)])))
            clear hpb
            go_wp2
            go_ret
            exact RfP.mk HR.out HBY.out
          by_cases r2 : y.tout ≤ y.tin
          · have HR := Lib.hid (HT7.out.trans (HST.out.trans (by rw [covOne_1 HP.out hpb (.inr (.inl r2)), if_pos (by decide)])))
            have r1' : x.tin ≤ y.tin := by omega
            clear hpb r1
            go_wp2
            go_ret
            exact RfP.mk HR.out HBY.out
          by_cases r3 : x.tout < y.tout
          · have HR := Lib.hid (HT7.out.trans (HST.out.trans (by rw [covOne_1 HP.out hpb (.inr (.inr r3)), if_pos (by decide)])))
            have r1' : x.tin ≤ y.tin := by omega
            have r2' : y.tin < y.tout := by omega
            clear hpb r1 r2
            go_wp2
            go_ret
            exact RfP.mk HR.out HBY.out
          have HR := Lib.hid (HST.out.trans (by rw [covOne_0 HP.out hpb (by omega), if_neg (fun h => h rfl)]))
          have r1' : x.tin ≤ y.tin := by omega
          have r2' : y.tin < y.tout := by omega
          have r3' : y.tout ≤ x.tout := by omega
          clear hpb r1 r2 r3
          go_wp2
          go_roundw
          case rel => exact ⟨kk + 1, by omega, intNum, HR.out, HB7.out⟩
          case measure => simp [intOf]; omega
    · have HR := Lib.hid (HT7.out.trans (HE.out.trans (covsE_end N x.tin x.tout x.covers kk (by rw [HM.out]; exact hlt))))
      go_wp2
      go_ret
      exact RfP.mk HR.out HBW.out
end Go.Proofs.YtmefjkfjpgblcaaGreatDoor

