/- Texts packed: EvF. -/
import Derived.Test.YtnjbbkocobegiaaGreatDoorPe21
import Derived.Test.YtnjbbkocobegiaaGreatDoorPe24
import Derived.Test.YtnjbbkocobegiaaGreatDoorPe15
import Derived.BigQuiet
import Derived.Deep.QuietTactic
import Derived.Test.YtnjbbkocobegiaaGreatDoorPe01
/- The reference's reader of an event's line, walked. -/
namespace Go.Proofs.YtnjbbkocobegiaaGreatDoor
set_option linter.unusedVariables false
open Go.RowKit Go.Sort

theorem cell_set3 {w : World} {B : Nat} {u v x y : Value} {p : Addr} (h : w.cell? p = some y) (hne : p.block ≠ B) : (((w.setCell ⟨B, 0, none⟩ u).setCell ⟨B, 1, none⟩ v).setCell ⟨B, 2, none⟩ x).cell? p = some y := by
  rw [World.cell?_setCell_other _ _ _ _ (fun e => hne (congrArg Addr.block e).symm), World.cell?_setCell_other _ _ _ _ (fun e => hne (congrArg Addr.block e).symm), World.cell?_setCell_other _ _ _ _ (fun e => hne (congrArg Addr.block e).symm)]
  exact h
theorem evRead_no {rolls : List Roll} {line : ByteArray} {no at_ : Int} {a b c d e f s : ByteArray} {k : Nat} (h : evRead rolls line no at_ = if a = num3 no ∧ rollHas rolls b = true then evMk b at_ (codeRd (rollGet rolls b).rate c) (codeRd (rollGet rolls b).rate d) (codeRd (rollGet rolls b).rate e) (codeRd (rollGet rolls b).rate f) else none) (hk : ([c, d, e, f] : List ByteArray)[k]? = some s) (hs : codeRd (rollGet rolls b).rate s = none) : evRead rolls line no at_ = none := by
  rw [h]
  split
  · exact evMk_none hk hs
  · rfl
set_option maxRecDepth 100000 in
set_option maxHeartbeats 2000000 in
theorem eventFrom_c (A : Option Addr) (l : List Roll) (c lo : Nat) (line : ByteArray) (no at_ : Int) (w : World) (hr : Rs w lo w.heap.size 5 Roll.cells A l) (hlen : l.length ≤ 140737488355328) (h0 : rollsFault l = 0) (hs : line.size ≤ 1000000) (hno : 0 ≤ no) (hno2 : no ≤ 1000000) (hat : 0 ≤ at_) (hat2 : at_ ≤ 10000000000000) (hp : PowLaid w) (hm : MaxLaid w) (hl : ErrsLaid w) :
    Calls Tryz.prog 66 #[.slice A l.length c, .string line, .int .i64 no, .int .i64 at_] w (LineP l line no at_ w) := by
  have HR := Lib.hid hr; clear hr
  have H0 := Lib.hid h0; clear h0
  have HP := Lib.hid hp; clear hp
  have HM := Lib.hid hm; clear hm
  have HLL := Lib.hid hl; clear hl
  go_enter Tryz.func66, Tryz.ntmps66
  go_wp2_with fail
  refine (words_c line 32 _ (by omega) (max_below HM.out ((Below.refl w.heap.size w).alloc (Nat.le_refl _) _) (Nat.le_refl _))).mono ?_
  rintro e w1 ⟨rfl, hw1, hb1, hz1⟩
  simp at hz1
  have hwl := words_le line 32
  have hB1 := (((Below.refl w.heap.size w).alloc (Nat.le_refl _) (.cells #[.string ⟨#[]⟩, .int .i64 0, .int .i64 0] 44)).trans (hb1.mono (by simp)))
  have HB1 := Lib.hid hB1
  have hblk : w1.heap[w.heap.size]? = some (.cells #[.string ⟨#[]⟩, .int .i64 0, .int .i64 0] 44 (0, 0)) := (hb1.block _ (by simp)).trans (heap_alloc_new w _)
  have HBK := Lib.hid hblk
  clear hb1 hB1 hblk
  rw [show (w.alloc (.cells #[.string ⟨#[]⟩, .int .i64 0, .int .i64 0] 44)).heap.size = w.heap.size + 1 by simp] at hw1 ⊢
  by_cases h6 : (words line 32).length = 6
  case neg =>
    have HE := Lib.hid (evRead_len (rolls := l) (no := no) (at_ := at_) h6)
    have e6 : (((words line 32).length : Int) != 6) = true := by rw [bne_iff_ne]; omega
    have e7 : ¬ ((words line 32).length : Int) = 6 := by omega
    generalize words line 32 = W at *
    clear h6
    obtain ⟨x0, x1⟩ := str_cells HBK.out
    have y0 := x0 0
    have y1 := x0 1
    have y2 := x0 2
    have HBX := HB1
    go_wp2
    refine ⟨rfl, .tuple #[.agg #[.string ⟨#[]⟩, .int .i64 0, .int .i64 0], .bool false], (by rw [results_cell_tmp rfl]; go_simp), ?_⟩
    exact LineP.no HE.out zeroEv rfl (((HBX.out.setCell (Nat.le_refl _) _).setCell (Nat.le_refl _) _).setCell (Nat.le_refl _) _)
  obtain ⟨a, b, cc, d, e, f, hW⟩ := six_eq h6
  have HES := Lib.hid (evRead_six (rolls := l) (no := no) (at_ := at_) hW)
  have hszW : ∀ x ∈ words line 32, x.size ≤ line.size := fun x hx => words_size hx
  rw [hW] at hw1 hszW ⊢
  rw [show ([a, b, cc, d, e, f] : List ByteArray).length = 6 from rfl] at hw1 ⊢
  have HSZ := Lib.hid hszW
  have HWW := Lib.hid hw1
  have q0 : w1.cell? ⟨w.heap.size + 1, 0, none⟩ = some (.string a) := strAtB hw1 0 (by simp)
  have q1 : w1.cell? ⟨w.heap.size + 1, 1, none⟩ = some (.string b) := strAtB hw1 1 (by simp)
  clear hW h6 hwl hw1 hszW
  have HOK := Lib.hid (show okI no from ⟨by omega, by omega⟩)
  have HWX := HWW
  have HBX := HB1
  have HBKX := HBK
  obtain ⟨wx, hwx⟩ : ∃ wx, wx = w1 := ⟨_, rfl⟩
  subst hwx
  have hzx := hz1
  go_wp2_with fail
  refine (rollOfR_c A l c lo b _ ((HR.out.below HBX.out (Nat.le_refl _)).more (Nat.le_refl _) HBX.out.size) hlen (rollNames H0.out)).mono ?_
  rintro e w3 ⟨rfl, hb3⟩
  have hz3 := hb3.size
  have HW3 := Lib.hid (HWX.out.below hb3 (fun b h => by omega))
  have HBK3 := Lib.hid ((hb3.block _ (by omega)).trans HBKX.out)
  have HB3 := Lib.hid (HBX.out.trans (hb3.mono HBX.out.size))
  clear hb3 HWX HBKX HBX q0 q1
  cases hh : rollHas l b with
  | false =>
    have HE := Lib.hid (HES.out.trans (if_neg fun h2 => by rw [hh] at h2; cases h2.2))
    have hlt3 : w.heap.size < w3.heap.size := by omega
    obtain ⟨x0, x1⟩ := str_cells HBK3.out
    have y0 := x0 0
    have y1 := x0 1
    have y2 := x0 2
    clear hh
    go_wp2
    refine ⟨rfl, .tuple #[.agg #[.string ⟨#[]⟩, .int .i64 0, .int .i64 0], .bool false], (by rw [results_cell_tmp rfl]; go_simp), ?_⟩
    exact LineP.no HE.out zeroEv rfl ((((HB3.out.setCell (Nat.le_refl _) _).setCell (Nat.le_refl _) _).setCell (Nat.le_refl _) _).alloc (by simp [World.setCell]; omega) _)
  | true =>
    have HEN := Lib.hid (fun (k : Nat) s hk hs => evRead_no (k := k) (s := s) HES.out hk hs)
    have HE := Lib.hid (HES.out.trans (show _ = if a = num3 no then evMk b at_ (codeRd (rollGet l b).rate cc) (codeRd (rollGet l b).rate d) (codeRd (rollGet l b).rate e) (codeRd (rollGet l b).rate f) else none by simp only [hh, and_true]))
    obtain ⟨hrr, _⟩ := rate_bd H0.out hh
    have HRR := Lib.hid hrr
    have hfb := (frames_bd hrr).2
    clear hh hrr HES
    generalize rollGet l b = R at *
    have hlt3 : w.heap.size < w3.heap.size := by omega
    obtain ⟨W, hW⟩ : ∃ W, w3.alloc (.cells #[.string R.name, .int .i64 R.rate, .int .i64 R.start, .int .i64 R.long, .int .i64 R.drift] 70) = W := ⟨_, rfl⟩
    have hzW : W.heap.size = w3.heap.size + 1 := by rw [← hW]; simp
    have HBW := Lib.hid (show Below w.heap.size w W by rw [← hW]; exact HB3.out.alloc (by omega) _)
    have HBKW := Lib.hid (show W.heap[w.heap.size]? = some (.cells #[.string ⟨#[]⟩, .int .i64 0, .int .i64 0] 44 (0, 0)) by rw [← hW]; exact (Below.heap_alloc w3 _ _ hlt3).trans HBK3.out)
    have HWW2 := Lib.hid (show Sli strR W _ [a, b, cc, d, e, f] _ by rw [← hW]; exact HW3.out.alloc _ (fun b h => by omega))
    have t3 : W.cell? ⟨w3.heap.size, 1, none⟩ = some (.int .i64 R.rate) := by rw [← hW, (str_cells (heap_alloc_new w3 _)).1]; rfl
    have HT3 := Lib.hid t3
    clear HW3 HBK3 HB3 t3
    go_wp2
    (try rw [hW])
    have HWE := Lib.hid hW
    have hzW1 : w3.heap.size < W.heap.size := by omega
    clear hW
    go_loopw [33] (fun i wr => ∃ (k : Nat) (l4 : List Int), k ≤ 4 ∧ i = .int .i64 k ∧ Below W.heap.size W wr ∧ w3.heap.size + 1 < wr.heap.size ∧ Hid (FourL wr (w3.heap.size + 1) l4) ∧ Hid (fourR R.rate [cc, d, e, f] k l4)) (fun i _ => 4 - (intOf i).toNat)
    case atStart => exact ⟨0, [0, 0, 0, 0], by omega, rfl, (Below.refl _ _).alloc (Nat.le_refl _) _, by simp; omega, ⟨rfl, _, by rw [← hzW]; exact heap_alloc_new W _⟩, fun j s hj => absurd hj (by omega)⟩
    case round =>
      obtain ⟨k, l4, hk, rfl, hb, hz, HFL, HFR⟩ := hrel
      by_cases hk4 : k < 4
      · obtain ⟨s, hs4⟩ : ∃ s, ([cc, d, e, f] : List ByteArray)[k]? = some s := ⟨_, List.getElem?_eq_getElem (by simpa using hk4)⟩
        have hcs : wr.cell? ⟨w.heap.size + 1, 2 + k, none⟩ = some (.string s) := by
          rw [hb.cell (p := ⟨w.heap.size + 1, 2 + k, none⟩) (by show w.heap.size + 1 < _; omega), strAtB HWW2.out (2 + k) (by simp; omega)]
          congr 2
          have : ([a, b, cc, d, e, f] : List ByteArray)[2 + k]? = some s := by rw [Nat.add_comm]; exact hs4
          rw [List.getElem?_eq_getElem (by simp; omega)] at this
          injection this
        have hcr : wr.cell? ⟨w3.heap.size, 1, none⟩ = some (.int .i64 R.rate) := (hb.cell (p := ⟨w3.heap.size, 1, none⟩) hzW1).trans HT3.out
        have hss : s.size ≤ 1000000 := by
          have := HSZ.out s (List.mem_cons_of_mem _ (List.mem_cons_of_mem _ (List.mem_of_getElem? hs4)))
          omega
        have HS4 := Lib.hid hs4
        have hkl : k < l4.length := by rw [HFL.out.1]; exact hk4
        have e5 : IntKind.i64.wrap (2 + (k : Int)) = 2 + (k : Int) := IntWalk.i64_in _ (by omega)
        have e6 : (0 : Int) ≤ 2 + (k : Int) := by omega
        have e7 : 2 + (k : Int) < 6 := by omega
        have e8 : (2 + (k : Int)).toNat = 2 + k := by omega
        have e9 : (0 : Int) ≤ (k : Int) := by omega
        have e10 : (k : Int) < 4 := by omega
        obtain ⟨f0, f1⟩ := HFL.out.cell k hkl
        clear hs4
        go_upto_region 11 with (fail)
        have HBR := Lib.hid hb
        have HEL := Lib.hid (HLL.out.below (HBW.out.trans (hb.mono HBW.out.size)) (Nat.le_refl _))
        have HRC := Lib.hid (fun W' (hW' : ErrsLaid W') => CodeFrom_c R.rate s W' HRR.out (by omega) hW')
        clear hb
        go_region_held3 (fun W' => W'.cell? ⟨w3.heap.size, 1, none⟩ = some (.int .i64 R.rate) ∧ W'.cell? ⟨w.heap.size + 1, 2 + k, none⟩ = some (.string s))
          (first
            | exact ⟨hcr, hcs⟩
            | exact ⟨k1, k2⟩
            | exact ⟨(World.cell?_setCell_other _ _ _ _ (fun h => by have := congrArg Addr.block h; dsimp only at this; omega)).trans k1, (World.cell?_setCell_other _ _ _ _ (fun h => by have := congrArg Addr.block h; dsimp only at this; omega)).trans k2⟩
            | fail)
          (first | (go_at_call 114; refine (HRC.out _ (HEL.out.below (Below.refl wr.heap.size wr).drew (Nat.le_refl _))).mono ?_; rintro e w5 ⟨⟨rv, rok, rfl, hrp⟩, hb5⟩; have k1 := (hb5.cell (p := ⟨w3.heap.size, 1, none⟩) (by show w3.heap.size < wr.heap.size; omega)).trans hcr; have k2 := (hb5.cell (p := ⟨w.heap.size + 1, 2 + k, none⟩) (by show w.heap.size + 1 < wr.heap.size; omega)).trans hcs; have g1 := (hb5.frozen (p := ⟨w3.heap.size + 1, k, none⟩) (by show w3.heap.size + 1 < wr.heap.size; omega)).trans f1; have g0 := (hb5.cell (p := ⟨w3.heap.size + 1, k, none⟩) (by show w3.heap.size + 1 < wr.heap.size; omega)).trans f0))
        have HB5 := Lib.hid (HBR.out.drew.trans (hb5.mono HBR.out.size))
        have hz5 := hb5.size
        have HFL5 := Lib.hid (show FourL w5 (w3.heap.size + 1) l4 from ⟨HFL.out.1, by obtain ⟨T, hT⟩ := HFL.out.2; exact ⟨T, (hb5.block _ (by show w3.heap.size + 1 < wr.heap.size; omega)).trans hT⟩⟩)
        have hcd := codeRd_of HRR.out hrp
        clear hb5 k1 k2 g0 g1 hrp hcr hcs e5 e6 e7 e8
        have hz5' : w3.heap.size + 1 < w5.heap.size := by have : wr.heap.size ≤ w5.heap.size := hz5; omega
        cases rok with
        | false =>
          have HE2 := Lib.hid (HEN.out k s HS4.out hcd)
          obtain ⟨x0, x1⟩ := str_cells ((HB5.out.block w.heap.size (by omega)).trans HBKW.out)
          have y0 := x0 0
          have y1 := x0 1
          have y2 := x0 2
          have HBB := Lib.hid (HBW.out.trans (HB5.out.mono HBW.out.size))
          clear hcd
          go_wp2
          refine ⟨rfl, .tuple #[.agg #[.string ⟨#[]⟩, .int .i64 0, .int .i64 0], .bool false], (by rw [results_cell_tmp rfl]; go_simp), ?_⟩
          refine LineP.no HE2.out zeroEv rfl ?_
          repeat (first | exact HBB.out | refine Below.drew ?_ | refine Below.setCell ?_ (by first | exact Nat.le_refl _ | (dsimp only; omega)) _)
        | true =>
          have HN := Lib.hid (HFR.out.next hkl HS4.out hcd)
          clear hcd
          go_wp2
          go_roundw
          case rel => exact ⟨k + 1, l4.set k rv, by omega, intNum, HB5.out.setCell (by show W.heap.size ≤ w3.heap.size + 1; omega) _, by simpa [World.setCell] using hz5', HFL5.out.set k rv, HN.out⟩
          case measure => simp [intOf]; omega
      · obtain rfl : k = 4 := by omega
        obtain ⟨n0, n1, n2, n3, rfl⟩ := four_eq HFL.out.1
        have r0 : codeRd R.rate cc = some n0 := HFR.out 0 cc (by omega) rfl
        have r1 : codeRd R.rate d = some n1 := HFR.out 1 d (by omega) rfl
        have r2 : codeRd R.rate e = some n2 := HFR.out 2 e (by omega) rfl
        have r3 : codeRd R.rate f = some n3 := HFR.out 3 f (by omega) rfl
        have b0 := codeRd_bd r0
        have b1 := codeRd_bd r1
        have b2 := codeRd_bd r2
        have b3 := codeRd_bd r3
        have HE3 := Lib.hid (show evRead l line no at_ = if a = num3 no ∧ n0 ≤ n1 ∧ n2 = at_ ∧ n3 = at_ + n1 - n0 then some ⟨b, n0, n1 + 1⟩ else none by
          rw [HE.out, r0, r1, r2, r3]
          show (if a = num3 no then (if n0 ≤ n1 ∧ n2 = at_ ∧ n3 - n2 = n1 - n0 then some (⟨b, n0, n1 + 1⟩ : Ev) else none) else none) = _
          by_cases hA : a = num3 no
          · rw [if_pos hA]
            by_cases hB : n0 ≤ n1 ∧ n2 = at_ ∧ n3 - n2 = n1 - n0
            · rw [if_pos hB, if_pos ⟨hA, hB.1, hB.2.1, by omega⟩]
            · rw [if_neg hB, if_neg fun h => hB ⟨h.2.1, h.2.2.1, by omega⟩]
          · rw [if_neg hA, if_neg fun h => hA h.1])
        clear r0 r1 r2 r3
        have HBB0 := Lib.hid (HBW.out.trans (hb.mono HBW.out.size))
        have hitl := Lib.itoa_length_le no (by omega) (by omega)
        go_wp2_with fail
        refine (itoa_c no _ HOK.out (pow_below HP.out HBB0.out (Nat.le_refl _))).mono ?_
        rintro e w6 ⟨rfl, hb6⟩
        have hz6 := hb6.size
        have HFL6 := Lib.hid (show FourL w6 (w3.heap.size + 1) [n0, n1, n2, n3] from ⟨HFL.out.1, by obtain ⟨T, hT⟩ := HFL.out.2; exact ⟨T, (hb6.block _ hz).trans hT⟩⟩)
        obtain ⟨c0, _⟩ := HFL6.out.cell 0 (by simp)
        obtain ⟨c1, _⟩ := HFL6.out.cell 1 (by simp)
        obtain ⟨c2, _⟩ := HFL6.out.cell 2 (by simp)
        obtain ⟨c3, _⟩ := HFL6.out.cell 3 (by simp)
        simp only [List.getElem_cons_zero, List.getElem_cons_succ] at c0 c1 c2 c3
        have hb7 := hb.trans (hb6.mono hb.size)
        have ca : w6.cell? ⟨w.heap.size + 1, 0, none⟩ = some (.string a) := (hb7.cell (p := ⟨w.heap.size + 1, 0, none⟩) (by show w.heap.size + 1 < _; omega)).trans (strAtB HWW2.out 0 (by simp))
        have cb : w6.cell? ⟨w.heap.size + 1, 1, none⟩ = some (.string b) := (hb7.cell (p := ⟨w.heap.size + 1, 1, none⟩) (by show w.heap.size + 1 < _; omega)).trans (strAtB HWW2.out 1 (by simp))
        obtain ⟨x0, x1⟩ := str_cells ((hb7.block w.heap.size (by omega)).trans HBKW.out)
        have y0 := x0 0
        have y1 := x0 1
        have y2 := x0 2
        have HBKV := Lib.hid ((hb7.block w.heap.size (by omega)).trans HBKW.out)
        have hzv : w.heap.size < w6.heap.size := by omega
        have HBB := Lib.hid (HBB0.out.trans (hb6.mono HBB0.out.size))
        clear hb hb6 hb7 hk hk4 x0 HBB0
        rw [← padS_zero]
        go_wp2
        go_loop [15] (fun s => ∃ j : Nat, j ≤ 3 - (Lib.itoa no).length ∧ s = .string (padS j no)) (fun s => match s with | .string t => 100 - t.size | _ => 0)
        case atStart => exact ⟨0, Nat.zero_le _, rfl⟩
        case round =>
          obtain ⟨j, hj, rfl⟩ := hrel
          have hps := padS_size j no
          by_cases h3 : (padS j no).size < 3
          · have HPS := Lib.hid (padS_succ j no)
            have hps2 := padS_size (j + 1) no
            generalize hPJ : padS j no = pj at *
            clear c0 c1 c2 c3 ca cb y0 y1 y2 x1
            go_wp2
            go_round
            case rel => exact ⟨j + 1, by omega, by rw [HPS.out]⟩
            case measure => simp; have : (⟨#[48]⟩ : ByteArray).size = 1 := rfl; omega
          · have hje : j = 3 - (Lib.itoa no).length := by omega
            rw [padS_end j _ hje] at h3 hps ⊢
            have hn3 := num3_size no HOK.out
            clear hps hje hj hitl
            have HA := Lib.hid (beqS a (num3 no))
            obtain ⟨ff, hf0, hf1⟩ : ∃ ff : Bool → World, ff false = w6.drew ∧ ff true = (((w6.setCell ⟨w.heap.size, 0, none⟩ (.string b)).setCell ⟨w.heap.size, 1, none⟩ (.int .i64 n0)).setCell ⟨w.heap.size, 2, none⟩ (.int .i64 (n1 + 1))).drew :=
              ⟨fun p => bif p then (((w6.setCell ⟨w.heap.size, 0, none⟩ (.string b)).setCell ⟨w.heap.size, 1, none⟩ (.int .i64 n0)).setCell ⟨w.heap.size, 2, none⟩ (.int .i64 (n1 + 1))).drew else w6.drew, rfl, rfl⟩
            have hff : ∀ (q : Addr) (v : Value), w6.cell? q = some v → q.block ≠ w.heap.size → ∀ p, (ff p).cell? q = some v := fun q v hq hne p => by
              cases p with
              | false => rw [hf0]; exact hq
              | true => rw [hf1]; exact cell_set3 hq hne
            have s0 := hff _ _ c0 (by dsimp only; omega)
            have s1 := hff _ _ c1 (by dsimp only; omega)
            have s2 := hff _ _ c2 (by dsimp only; omega)
            have s3 := hff _ _ c3 (by dsimp only; omega)
            have s4 := hff _ _ ca (by dsimp only; omega)
            have s5 := hff _ _ cb (by dsimp only; omega)
            have HF0 := Lib.hid hf0
            have HF1 := Lib.hid hf1
            clear hff hf0 hf1 c0 c1 c2 c3 ca cb
            have e2 : IntKind.i64.wrap (n1 + 1) = n1 + 1 := IntWalk.i64_in _ (by omega)
            have e3 : IntKind.i64.wrap (at_ + n1) = at_ + n1 := IntWalk.i64_in _ (by omega)
            have e4 : IntKind.i64.wrap (at_ + n1 - n0) = at_ + n1 - n0 := IntWalk.i64_in _ (by omega)
            have e2 : IntKind.i64.wrap (n1 + 1) = n1 + 1 := IntWalk.i64_in _ (by omega)
            have e3 : IntKind.i64.wrap (at_ + n1) = at_ + n1 := IntWalk.i64_in _ (by omega)
            have e4 : IntKind.i64.wrap (at_ + n1 - n0) = at_ + n1 - n0 := IntWalk.i64_in _ (by omega)
            generalize num3 no = nn at *
            by_cases ha : a = nn
            · subst ha
              by_cases h1 : n0 ≤ n1
              · by_cases h2 : n2 = at_
                · by_cases h4 : n3 = at_ + n1 - n0
                  · have HE4 := Lib.hid (HE3.out.trans (if_pos ⟨rfl, h1, h2, h4⟩))
                    have q3 : (n3 == at_ + n1 - n0) = true := beq_iff_eq.2 h4
                    clear h4
                    subst h2
                    go_upto_region 18 with (fail)
                    refine wp_region_read_store (D := fun w' => ∃ p : Bool, w' = ff p) 39 (by kernel_rfl) rfl rfl rfl rfl (by kernel_rfl) (by kernel_rfl) (fun _ _ _ dd _ h => by cases dd <;> exact h) ⟨false, HF0.out.symm⟩ ?_
                    simp only [List.take_succ_cons, List.take_zero]
                    repeat (first | go_big_quiet_step (fail) | quiet_step (fail))
                    refine wpQuiet_nil ?_
                    go_simp
                    refine ⟨Or.inr HF1.out.symm, ?_⟩
                    clear s0 s1 s2 s3 s4 s5
                    go_wp2
                    refine ⟨rfl, .tuple #[.agg #[.string b, .int .i64 n0, .int .i64 (n1 + 1)], .bool true], (by rw [results_cell_tmp rfl]; go_simp), ?_⟩
                    refine ⟨⟨b, n0, n1 + 1⟩, true, rfl, HE4.out, ?_⟩
                    repeat (first | exact HBB.out | refine Below.drew ?_ | refine Below.setCell ?_ (by first | exact Nat.le_refl _ | (dsimp only; omega)) _)
                  · have HE4 := Lib.hid (HE3.out.trans (if_neg fun h => h4 h.2.2.2))
                    have q3 : (n3 == at_ + n1 - n0) = false := beq_eq_false_iff_ne.2 h4
                    clear h4
                    subst h2
                    go_upto_region 18 with (fail)
                    refine wp_region_read_store (D := fun w' => ∃ p : Bool, w' = ff p) 39 (by kernel_rfl) rfl rfl rfl rfl (by kernel_rfl) (by kernel_rfl) (fun _ _ _ dd _ h => by cases dd <;> exact h) ⟨false, HF0.out.symm⟩ ?_
                    simp only [List.take_succ_cons, List.take_zero]
                    repeat (first | go_big_quiet_step (fail) | quiet_step (fail))
                    refine wpQuiet_nil ?_
                    go_simp
                    refine ⟨Or.inr HF1.out.symm, ?_⟩
                    clear s0 s1 s2 s3 s4 s5
                    go_wp2
                    refine ⟨rfl, .tuple #[.agg #[.string b, .int .i64 n0, .int .i64 (n1 + 1)], .bool false], (by rw [results_cell_tmp rfl]; go_simp), ?_⟩
                    refine LineP.no HE4.out ⟨b, n0, n1 + 1⟩ rfl ?_
                    repeat (first | exact HBB.out | refine Below.drew ?_ | refine Below.setCell ?_ (by first | exact Nat.le_refl _ | (dsimp only; omega)) _)
                · have HE4 := Lib.hid (HE3.out.trans (if_neg fun h => h2 h.2.2.1))
                  have q2 : (n2 == at_) = false := beq_eq_false_iff_ne.2 h2
                  have q2b : decide (n2 = at_) = false := decide_eq_false h2
                  go_upto_region 18 with (fail)
                  refine wp_region_read_store (D := fun w' => ∃ p : Bool, w' = ff p) 39 (by kernel_rfl) rfl rfl rfl rfl (by kernel_rfl) (by kernel_rfl) (fun _ _ _ dd _ h => by cases dd <;> exact h) ⟨false, HF0.out.symm⟩ ?_
                  simp only [List.take_succ_cons, List.take_zero]
                  repeat (first | go_big_quiet_step (fail) | quiet_step (fail))
                  refine wpQuiet_nil ?_
                  go_simp
                  refine ⟨Or.inr HF1.out.symm, ?_⟩
                  clear s0 s1 s2 s3 s4 s5
                  go_wp2
                  refine ⟨rfl, .tuple #[.agg #[.string b, .int .i64 n0, .int .i64 (n1 + 1)], .bool false], (by rw [results_cell_tmp rfl]; go_simp), ?_⟩
                  refine LineP.no HE4.out ⟨b, n0, n1 + 1⟩ rfl ?_
                  repeat (first | exact HBB.out | refine Below.drew ?_ | refine Below.setCell ?_ (by first | exact Nat.le_refl _ | (dsimp only; omega)) _)
              · have HE4 := Lib.hid (HE3.out.trans (if_neg fun h => h1 h.2.1))
                go_upto_region 18 with (fail)
                refine wp_region_read_store (D := fun w' => ∃ p : Bool, w' = ff p) 39 (by kernel_rfl) rfl rfl rfl rfl (by kernel_rfl) (by kernel_rfl) (fun _ _ _ dd _ h => by cases dd <;> exact h) ⟨false, HF0.out.symm⟩ ?_
                simp only [List.take_succ_cons, List.take_zero]
                repeat (first | go_big_quiet_step (fail) | quiet_step (fail))
                refine wpQuiet_nil ?_
                go_simp
                refine ⟨Or.inr HF1.out.symm, ?_⟩
                clear s0 s1 s2 s3 s4 s5
                go_wp2
                refine ⟨rfl, .tuple #[.agg #[.string b, .int .i64 n0, .int .i64 (n1 + 1)], .bool false], (by rw [results_cell_tmp rfl]; go_simp), ?_⟩
                refine LineP.no HE4.out ⟨b, n0, n1 + 1⟩ rfl ?_
                repeat (first | exact HBB.out | refine Below.drew ?_ | refine Below.setCell ?_ (by first | exact Nat.le_refl _ | (dsimp only; omega)) _)
            · have HE4 := Lib.hid (HE3.out.trans (if_neg fun h => ha h.1))
              have q0 : (a.toList == nn.toList) = false := HA.out.trans (decide_eq_false ha)
              clear ha
              go_upto_region 18 with (fail)
              refine wp_region_read_store (D := fun w' => ∃ p : Bool, w' = ff p) 39 (by kernel_rfl) rfl rfl rfl rfl (by kernel_rfl) (by kernel_rfl) (fun _ _ _ dd _ h => by cases dd <;> exact h) ⟨false, HF0.out.symm⟩ ?_
              simp only [List.take_succ_cons, List.take_zero]
              repeat (first | go_big_quiet_step (fail) | quiet_step (fail))
              refine wpQuiet_nil ?_
              go_simp
              refine ⟨Or.inr HF1.out.symm, ?_⟩
              clear s0 s1 s2 s3 s4 s5
              go_wp2
              refine ⟨rfl, .tuple #[.agg #[.string b, .int .i64 n0, .int .i64 (n1 + 1)], .bool false], (by rw [results_cell_tmp rfl]; go_simp), ?_⟩
              refine LineP.no HE4.out ⟨b, n0, n1 + 1⟩ rfl ?_
              repeat (first | exact HBB.out | refine Below.drew ?_ | refine Below.setCell ?_ (by first | exact Nat.le_refl _ | (dsimp only; omega)) _)
end Go.Proofs.YtnjbbkocobegiaaGreatDoor

