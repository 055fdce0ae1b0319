/- Texts packed: NextU. -/
import Derived.Test.YtodlfdfkhdfblaaGreatDoorTn02
import Derived.Test.YtodlfdfkhdfblaaGreatDoorTn19
import Derived.Test.YtodlfdfkhdfblaaGreatDoorTn20
import Derived.Test.YtodlfdfkhdfblaaGreatDoorTn07
import Derived.RegionTactic
/- All setups in order, as the reference makes them; its next setup. -/
namespace Go.Proofs.YtodlfdfkhdfblaaGreatDoor
set_option linter.unusedVariables false
open Go.RowKit

/-- The block holds the 24 letters behind its first cell. -/
def Let24 (w : World) (b : Nat) : Prop := b < w.heap.size ∧ ∀ j, j < 24 → w.cell? ⟨b, 1 + j, none⟩ = some (.string ⟨#[ltAt j]⟩)
theorem Let24.alloc {w : World} {b : Nat} (h : Let24 w b) (o : Obj) : Let24 (w.alloc o) b := ⟨by have := h.1; simp; omega, fun j hj => (World.cell?_alloc_lt w o ⟨b, 1 + j, none⟩ h.1).trans (h.2 j hj)⟩
theorem Let24.grown {w w' : World} {b g n : Nat} (h : Let24 w b) (hg : w.grownBy w' (some g)) (hk : ∀ j, j < n → w'.cell? ⟨g, j, none⟩ = w.cell? ⟨g, j, none⟩) (hn : 25 ≤ n) : Let24 w' b := by
  refine ⟨Nat.lt_of_lt_of_le h.1 hg.size, fun j hj => ?_⟩
  by_cases e : b = g
  · subst e
    exact (hk _ (by omega)).trans (h.2 j hj)
  · exact (World.cell?_of_block (a := ⟨b, 1 + j, none⟩) (hg.block b h.1 (fun e2 => e (by injection e2)))).trans (h.2 j hj)
theorem chars_tab : ∀ i : Fin 24, ((Lib.charsB letS).map Value.string)[i.val]? = some (.string ⟨#[ltAt i.val]⟩) := by
  have h : ∀ i : Fin 24, (Lib.charsB letS)[i.val]? = some ⟨#[ltAt i.val]⟩ := by decide +kernel
  intro i
  rw [List.getElem?_map, h i]; rfl
theorem take_one (k : Nat) (hk : k < 24) : allSetups.take (1 + k) ++ [⟨#[ltAt k]⟩] = allSetups.take (1 + (k + 1)) := by
  have h := all_one ⟨k, hk⟩
  rw [show 1 + (k + 1) = (1 + k) + 1 by omega, List.take_add_one, h]; rfl
theorem take_two (a b : Nat) (ha : a < 24) (hb : b < 24) : allSetups.take (25 + 24 * a + b) ++ [⟨#[ltAt a, ltAt b]⟩] = allSetups.take (25 + 24 * a + (b + 1)) := by
  have h := all_two ⟨a, ha⟩ ⟨b, hb⟩
  rw [show 25 + 24 * a + (b + 1) = (25 + 24 * a + b) + 1 by omega, List.take_add_one, h]; rfl
theorem take_len (n : Nat) (h : n ≤ 601) : (allSetups.take n).length = n := by rw [List.length_take, allSetups_len]; omega

theorem let_ascii : ∀ (j : Nat) (b : UInt8), letS.data.toList[j]? = some b → b.toNat < 128 := by
  have h : (letS.data.toList.all fun b => decide (b.toNat < 128)) = true := by decide +kernel
  rw [List.all_eq_true] at h
  intro j b hj
  simpa using h b (List.mem_of_getElem? hj)
/-- Where the loops stand: the first n setups lie in a row of one's own. -/
structure SetI (w wr : World) (n g cap : Nat) : Prop where
  bel : Below w.heap.size w wr
  own : Own strR wr w.heap.size w.heap.size 9 (allSetups.take n) (.slice (some ⟨g, 0, none⟩) n cap)
  le : n ≤ 601
theorem SetI.facts {w wr : World} {n g cap : Nat} (h : SetI w wr n g cap) (h0 : 0 < n) : w.heap.size ≤ g ∧ g < wr.heap.size ∧ n ≤ cap ∧ cap ≤ 9223372036854775807 ∧ w.heap.size ≤ wr.heap.size := by
  rcases h.own.form with ⟨hv, hl⟩ | ⟨g', cap', hv, h1, h2, h3, h4⟩
  · cases hv
  · injection hv with a b c
    injection a with a
    injection a with a
    subst a; subst c
    rw [← b] at h3
    exact ⟨h1, h2, h3, h4, h.bel.size⟩
theorem SetI.alloc {w wr : World} {n g cap : Nat} (h : SetI w wr n g cap) (o : Obj) : SetI w (wr.alloc o) n g cap := ⟨h.bel.alloc h.bel.size o, h.own.alloc o, h.le⟩
theorem SetI.push {w wr w' : World} {n g cap g' cap' : Nat} {x : ByteArray} {o : Obj} (h : SetI w wr n g cap) (hx : allSetups.take n ++ [x] = allSetups.take (n + 1)) (h0 : 0 < n) (h1 : n + 1 ≤ 601) (hown : Own strR w' w.heap.size w.heap.size 9 (allSetups.take n ++ [x]) (.slice (some ⟨g', 0, none⟩) (n + 1) cap')) (hg : (wr.alloc o).grownBy w' (some g)) : SetI w w' (n + 1) g' cap' :=
  ⟨(h.alloc o).bel.grown hg (h.alloc o).bel.size (fun k hk => by injection hk with hk; subst hk; exact (h.facts h0).1), by rw [← hx]; exact hown, h1⟩
/-- The cells of a block of letters. -/
def LetB (w : World) (b : Nat) : Prop := b < w.heap.size ∧ ∀ j, j < 24 → w.cell? ⟨b, j, none⟩ = some (.string ⟨#[ltAt j]⟩)
theorem LetB.alloc {w : World} {b : Nat} (h : LetB w b) (o : Obj) : LetB (w.alloc o) b := ⟨by have := h.1; simp; omega, fun j hj => (World.cell?_alloc_lt w o ⟨b, j, none⟩ h.1).trans (h.2 j hj)⟩
theorem LetB.grown {w w' : World} {b g : Nat} (h : LetB w b) (hg : w.grownBy w' (some g)) (hne : b ≠ g) : LetB w' b :=
  ⟨Nat.lt_of_lt_of_le h.1 hg.size, fun j hj => (World.cell?_of_block (a := ⟨b, j, none⟩) (hg.block b h.1 (fun e => hne (by injection e)))).trans (h.2 j hj)⟩
theorem SetI.at_ {w wr : World} {n g cap : Nat} (h : SetI w wr n g cap) (hn : 25 ≤ n) : Let24 wr g := by
  refine ⟨(h.facts (by omega)).2.1, fun j hj => ?_⟩
  have hk : 1 + j < (allSetups.take n).length := by rw [take_len n h.le]; omega
  have hc := (Own.cellAt (n := 1) (enc := fun x => [.string x]) (hn := fun _ => rfl) h.own (1 + j) hk 0 (by decide)).1
  rw [show (1 + j) * 1 + 0 = 1 + j by omega] at hc
  rw [hc]
  have h1 := all_one ⟨j, hj⟩
  have h2 : (allSetups.take n)[1 + j]'hk = ⟨#[ltAt j]⟩ := by
    rw [List.getElem_take]
    have h3 := List.getElem?_eq_some_iff.1 h1
    exact h3.2
  rw [h2]; rfl

set_option maxRecDepth 100000 in
set_option maxHeartbeats 4000000 in
theorem setups_c (w : World) : Calls Tryz.prog 72 #[] w fun e w' => ∃ v, e = .returned v ∧ Sli strR w' (fun q => w.heap.size ≤ q ∧ q < w'.heap.size) allSetups v ∧ Below w.heap.size w w' := by
  obtain ⟨i0, hi0, hz0, hz1, hz2⟩ := info_parts (show (Tryz.prog.info? 9).map (fun i => (i.zero, i.size, i.bytes)) = some (some (.string ⟨#[]⟩), 1, 16) by kernel_rfl)
  have tr : strR.n = 1 := rfl
  go_enter Tryz.func72, Tryz.ntmps72
  go_upto_region 2 with (fail)
  have I1 := Lib.hid (show SetI w (w.alloc (.cells #[.string ⟨#[]⟩] 9)) 1 w.heap.size 1 from ⟨(Below.refl w.heap.size w).alloc (Nat.le_refl _) (.cells #[.string ⟨#[]⟩] 9), Own.lit1 w 9 ⟨#[]⟩, by omega⟩)
  generalize hW : w.alloc (.cells #[.string ⟨#[]⟩] 9) = w1 at *
  have hz1' : w.heap.size < w1.heap.size := by rw [← hW]; simp
  clear hW
  go_wp2_with fail
  refine (Tryz.strings_Split_chars letS ⟨#[]⟩ w1 rfl (by decide) let_ascii).mono ?_
  rintro e w2 ⟨rfl, rfl⟩
  have I2 := Lib.hid ((I1.out.alloc (.stringIter letS letS.size)).alloc (.cells (List.map Value.string (Lib.charsB letS)).toArray 9))
  have L2 := Lib.hid (show LetB ((w1.iter letS letS.size).alloc (.cells (List.map Value.string (Lib.charsB letS)).toArray 9)) (w1.iter letS letS.size).heap.size from ⟨by simp, fun j hj => by
    rw [(str_cells (heap_alloc_new (w1.iter letS letS.size) _)).1, List.getElem?_toArray]
    exact chars_tab ⟨j, hj⟩⟩)
  have I2' := Lib.hid (show SetI w ((w1.iter letS letS.size).alloc (.cells (List.map Value.string (Lib.charsB letS)).toArray 9)) 1 w.heap.size 1 from I2.out)
  have hBL : w.heap.size < (w1.iter letS letS.size).heap.size := by show _ < (w1.alloc _).heap.size; simp; omega
  generalize (w1.iter letS letS.size).alloc (.cells (List.map Value.string (Lib.charsB letS)).toArray 9) = w2 at *
  generalize (w1.iter letS letS.size).heap.size = BL at *
  clear I1 I2 hz1'
  rw [show letS.size = 24 from rfl]
  go_wp2
  go_loopw [1, 11] (fun v i wr => ∃ k g cap : Nat, k ≤ 24 ∧ i = .int .i64 k ∧ v = .slice (some ⟨g, 0, none⟩) (1 + k) cap ∧ Hid (SetI w wr (1 + k) g cap) ∧ Hid (LetB wr BL) ∧ BL ≠ g) (fun _ i _ => 24 - (intOf i).toNat)
  case atStart => exact ⟨0, w.heap.size, 1, by omega, rfl, rfl, I2'.out, L2.out, by omega⟩
  case round =>
    clear I2' L2
    obtain ⟨k, g, cap, hk, rfl, rfl, HI, HL, hne⟩ := hrel
    obtain ⟨f1, f2, f3, f4, f5⟩ := HI.out.facts (by omega)
    by_cases hlt : k < 24
    · have c0 := HL.out.2 k hlt
      have hBl := HL.out.1
      have hin : (k : Int) < 24 := by omega
      go_wp2_with (at_builtin; (refine wpList_pushK (R := strR) rfl _ _ _ rfl w.heap.size w.heap.size 9 i0 _ 16 Tryz.underlying100 hi0 hz0 (by assumption) (by assumption) rfl (by decide) _ g cap (1 + k) (allSetups.take (1 + k)) (take_len _ (by omega)) rfl (HI.out.own.alloc _) ⟨#[ltAt k]⟩ _ rfl (oneC rfl) wr.heap.size _ _ (heap_alloc_new wr _) rfl (by simp [maxLen]; omega) (by omega) (by simp; omega) ?_); intro g2 cap2 w6 hown6 hg6 hat6 hlt6 hkc6)
      go_roundw
      case rel => exact ⟨k + 1, g2, cap2, by omega, intNum, by congr 1, HI.out.push (take_one k hlt) (by omega) (by omega) hown6 hg6, (HL.out.alloc _).grown hg6 hne, by
        rcases hat6 with h | h
        · injection h with h; omega
        · simp at h; omega⟩
      case measure => simp [intOf]; omega
    · obtain rfl : k = 24 := by omega
      have HI25 := Lib.hid (show SetI w wr (25 + 24 * 0) g cap from HI.out)
      have HG25 := Lib.hid (HI25.out.at_ (by omega))
      have f3' : 25 ≤ cap := by omega
      clear HI HL hne
      simp only [show ((24 : Nat) : Int) = 24 from rfl, Nat.reduceAdd]
      go_wp2
      go_loopw [1, 23] (fun v i wx => ∃ a g2 cap2 : Nat, a ≤ 24 ∧ i = .int .i64 a ∧ v = .slice (some ⟨g2, 0, none⟩) (25 + 24 * a) cap2 ∧ Hid (SetI w wx (25 + 24 * a) g2 cap2) ∧ Hid (Let24 wx g)) (fun _ i _ => 24 - (intOf i).toNat)
      case atStart => exact ⟨0, g, cap, by omega, rfl, rfl, HI25.out, HG25.out⟩
      case round =>
        clear HI25 HG25
        obtain ⟨a, g2, cap2, ha, rfl, rfl, HA, HG⟩ := hrel
        obtain ⟨e1, e2, e3, e4, e5⟩ := HA.out.facts (by omega)
        by_cases hla : a < 24
        · have c0 := HG.out.2 a hla
          have hgl := HG.out.1
          have hin : (a : Int) < 24 := by omega
          have hsa : (⟨#[ltAt a]⟩ : ByteArray).size = 1 := rfl
          have HJ := Lib.hid (fun (b : Nat) (hb : b < 24) => show (⟨#[ltAt a]⟩ : ByteArray) ++ ⟨#[ltAt b]⟩ = ⟨#[ltAt a, ltAt b]⟩ from rfl)
          generalize (⟨#[ltAt a]⟩ : ByteArray) = ca at *
          have HA0 := Lib.hid (show SetI w _ (25 + 24 * a + 0) g2 cap2 from HA.out)
          have HG2 := Lib.hid (HA.out.at_ (by omega))
          clear HA
          have e3' : 25 ≤ cap2 := by omega
          go_wp2
          go_loopw [1, 30] (fun v i wy => ∃ b g3 cap3 : Nat, b ≤ 24 ∧ i = .int .i64 b ∧ v = .slice (some ⟨g3, 0, none⟩) (25 + 24 * a + b) cap3 ∧ Hid (SetI w wy (25 + 24 * a + b) g3 cap3) ∧ Hid (Let24 wy g) ∧ Hid (Let24 wy g2)) (fun _ i _ => 24 - (intOf i).toNat)
          case atStart => exact ⟨0, g2, cap2, by omega, rfl, rfl, HA0.out, HG.out, HG2.out⟩
          case round =>
            clear HA0 HG2 HG c0
            obtain ⟨b, g3, cap3, hb, rfl, rfl, HB, HG, HG2⟩ := hrel
            obtain ⟨d1, d2, d3, d4, d5⟩ := HB.out.facts (by omega)
            by_cases hlb : b < 24
            · have c1 := HG2.out.2 b hlb
              have hgl2 := HG2.out.1
              have hin2 : (b : Int) < 24 := by omega
              have hsb : (⟨#[ltAt b]⟩ : ByteArray).size = 1 := rfl
              have HJ2 := Lib.hid (HJ.out b hlb)
              generalize (⟨#[ltAt b]⟩ : ByteArray) = cb at *
              go_wp2_with (at_builtin; (refine wpList_pushK (R := strR) rfl _ _ _ rfl w.heap.size w.heap.size 9 i0 _ 16 Tryz.underlying100 hi0 hz0 (by assumption) (by assumption) rfl (by decide) _ g3 cap3 (25 + 24 * a + b) (allSetups.take (25 + 24 * a + b)) (take_len _ (by omega)) rfl (HB.out.own.alloc _) (ca ++ cb) _ rfl (oneC rfl) _ _ _ (heap_alloc_new _ _) rfl (by simp [maxLen]; omega) (by omega) (by simp; omega) ?_); intro g4 cap4 w6 hown6 hg6 hat6 hlt6 hkc6)
              go_roundw
              case rel => exact ⟨b + 1, g4, cap4, by omega, intNum, by congr 1, HB.out.push (by rw [HJ2.out]; exact take_two a b hla hlb) (by omega) (by omega) hown6 hg6, (HG.out.alloc _).grown hg6 hkc6 (by rw [tr]; omega), (HG2.out.alloc _).grown hg6 hkc6 (by rw [tr]; omega)⟩
              case measure => simp [intOf]; omega
            · obtain rfl : b = 24 := by omega
              go_wp2
              go_roundw
              case rel => exact ⟨a + 1, g3, cap3, by omega, intNum, by congr 1 <;> omega, HB.out, HG.out⟩
              case measure => simp [intOf]; omega
        · obtain rfl : a = 24 := by omega
          have HF := Lib.hid (show Sli strR _ (fun q => w.heap.size ≤ q ∧ q < _) allSetups (.slice (some ⟨g2, 0, none⟩) 601 cap2) by
            have h := HA.out.own.sli (F := fun q => w.heap.size ≤ q ∧ q < _) (fun q h1 h2 => ⟨h1, h2⟩) (fun g hg => HA.out.own.block g hg)
            rw [List.take_of_length_le (by rw [allSetups_len]; omega)] at h
            exact h)
          have HB := Lib.hid HA.out.bel
          clear HA
          go_wp2
          go_ret
          exact ⟨_, rfl, HF.out, HB.out⟩

set_option maxRecDepth 100000 in
set_option maxHeartbeats 4000000 in
theorem NextSetupOf_c {F : Nat → Prop} (tl : List (Tk × Value)) (tv : Value) (sc : ByteArray) (w : World) (ht : TkL w F tl tv) :
    Calls Tryz.prog 29 #[tv, .string sc] w fun e w' => e = .returned (.tuple #[.string (nextS sc (tl.map (·.1))), .bool (decide (nextK sc (tl.map (·.1)) < 601))]) ∧ Below w.heap.size w w' := by
  obtain ⟨A2, c2, rfl, hl2, hc2⟩ := ht.sli.form
  have HT0 := Lib.hid ht
  obtain ⟨L, hL⟩ : ∃ L, tl.length = L := ⟨_, rfl⟩
  have HL := Lib.hid hL
  have hLL : L ≤ 1000 := by rw [← hL]; exact ht.len
  rw [hL] at hl2 ⊢
  have hmx := @run_max Tryz.prog
  clear hL ht
  go_enter Tryz.func29, Tryz.ntmps29
  go_wp2_with fail
  refine (setups_c _).mono ?_
  rintro e w1 ⟨v1, rfl, hv1, hb1⟩
  obtain ⟨A1, c1, rfl, hl1, hc1⟩ := hv1.form
  rw [allSetups_len] at hv1 hl1 ⊢
  have HV := Lib.hid (hv1.more (G := fun q => q < w1.heap.size) (fun q hq => hq.2))
  have HB := Lib.hid hb1
  have hz1 := hb1.size
  have HT := Lib.hid (HT0.out.below hb1)
  clear hv1 hb1 HT0
  go_wp2
  go_loopw [7, 14] (fun n i wr => ∃ (k K : Nat), k ≤ L ∧ i = .int .i64 k ∧ n = .int .i64 K ∧ K ≤ 601 ∧ Hid (nextK sc ((tl.take k).map (·.1)) = K) ∧ Hid (Below w1.heap.size w1 wr) ∧ w1.heap.size ≤ wr.heap.size) (fun _ i _ => L - (intOf i).toNat)
  case atStart => exact ⟨0, 0, Nat.zero_le _, rfl, rfl, by omega, rfl, Below.refl _ _, Nat.le_refl _⟩
  case round =>
    obtain ⟨k, K, hk, rfl, rfl, hK, HK, HBW, hzw⟩ := hrel
    by_cases hlt : k < L
    · obtain ⟨b5, off5, rfl, hfb5, t0, t1, t2, t3, t4, t5, t6, t7, t8⟩ := tkAt (HT.out.below HBW.out).sli k (by rw [HL.out]; exact hlt)
      obtain ⟨A8, n8, c8, h8⟩ := HT.out.out _ (List.getElem_mem (show k < tl.length by rw [HL.out]; exact hlt))
      rw [h8] at t8
      have htk := List.take_succ_eq_append_getElem (show k < tl.length by rw [HL.out]; exact hlt)
      have hsn : (tl.take (k + 1)).map (·.1) = (tl.take k).map (·.1) ++ [(tl[k]'(by rw [HL.out]; exact hlt)).1] := by rw [htk, List.map_append]; rfl
      clear h8 htk
      generalize (tl[k]'(by rw [HL.out]; exact hlt)).1 = tk at *
      have HN := Lib.hid (show nextK sc ((tl.take (k + 1)).map (·.1)) = max K (if tk.scene = sc ∧ setupB tk.setup = true then suK tk.setup + 1 else 0) by rw [hsn, nextK_snoc, HK.out])
      have hb5 : b5 < wr.heap.size := Nat.lt_of_lt_of_le (HT.out.lt b5 hfb5) (by omega)
      have HB1 := Lib.hid (HBW.out.alloc hzw (.cells #[.string tk.scene, .string tk.setup, .int .i64 tk.number, .string tk.roll, .string tk.sound, .int .i64 tk.tin, .int .i64 tk.tout, .bool tk.good, .slice A8 n8 c8] 52))
      have HIX := Lib.hid (idxStr_c allSetups tk.setup (.slice A1 601 c1) _ _ (HV.out.below HB1.out (fun q hq => hq)))
      clear hsn HBW
      cases hsb : setupB tk.setup with
      | true =>
        have hv : idxV (allSetups.findIdx? fun y => decide (y = tk.setup)) = (suK tk.setup : Int) := by rw [find_setup, if_pos hsb]; rfl
        have hlk := suK_lt hsb
        by_cases q1 : tk.scene = sc
        · have q1' : (tk.scene.toList == sc.toList) = true := by rw [q1]; exact beq_self_eq_true _
          have HN1 := Lib.hid (show nextK sc ((tl.take (k + 1)).map (·.1)) = max K (suK tk.setup + 1) by rw [HN.out, if_pos ⟨q1, hsb⟩])
          have hmm : maxI (K : Int) ((suK tk.setup : Int) + 1) = ((max K (suK tk.setup + 1) : Nat) : Int) := by rw [maxI_eq]; omega
          have hge : (0 : Int) ≤ (suK tk.setup : Int) := by omega
          generalize suK tk.setup = sk at *
          clear HN q1
          go_wp2_with fail
          refine HIX.out.mono ?_
          rintro e w7 ⟨rfl, rfl⟩
          rw [hv]
          clear hv HIX
          go_wp2
          go_roundw
          case rel => exact ⟨k + 1, max K (sk + 1), by omega, intNum, rfl, by omega, HN1, HB1, by simp; omega⟩
          case measure => simp [intOf]; omega
        · have q1' : (tk.scene.toList == sc.toList) = false := by rw [beqS]; simp [q1]
          have HN1 := Lib.hid (show nextK sc ((tl.take (k + 1)).map (·.1)) = K by rw [HN.out, if_neg (fun h => q1 h.1)]; omega)
          clear HN q1
          go_wp2_with fail
          refine HIX.out.mono ?_
          rintro e w7 ⟨rfl, rfl⟩
          rw [hv]
          clear hv HIX
          go_wp2
          go_roundw
          case rel => exact ⟨k + 1, K, by omega, intNum, rfl, by omega, HN1, HB1, by simp; omega⟩
          case measure => simp [intOf]; omega
      | false =>
        have hv : idxV (allSetups.findIdx? fun y => decide (y = tk.setup)) = (-1 : Int) := by rw [find_setup, if_neg (by rw [hsb]; simp)]; rfl
        have HN1 := Lib.hid (show nextK sc ((tl.take (k + 1)).map (·.1)) = K by rw [HN.out, if_neg (fun h => by rw [hsb] at h; simp at h)]; omega)
        clear HN
        by_cases q1 : tk.scene = sc
        · have q1' : (tk.scene.toList == sc.toList) = true := by rw [q1]; exact beq_self_eq_true _
          clear q1
          go_wp2_with fail
          refine HIX.out.mono ?_
          rintro e w7 ⟨rfl, rfl⟩
          rw [hv]
          clear hv HIX
          go_wp2
          go_roundw
          case rel => exact ⟨k + 1, K, by omega, intNum, rfl, by omega, HN1, HB1, by simp; omega⟩
          case measure => simp [intOf]; omega
        · have q1' : (tk.scene.toList == sc.toList) = false := by rw [beqS]; simp [q1]
          clear q1
          go_wp2_with fail
          refine HIX.out.mono ?_
          rintro e w7 ⟨rfl, rfl⟩
          rw [hv]
          clear hv HIX
          go_wp2
          go_roundw
          case rel => exact ⟨k + 1, K, by omega, intNum, rfl, by omega, HN1, HB1, by simp; omega⟩
          case measure => simp [intOf]; omega
    · have HK2 := Lib.hid (show nextK sc (tl.map (·.1)) = K by
        have h := HK.out
        rw [List.take_of_length_le (by rw [HL.out]; omega)] at h
        exact h)
      have HBE := Lib.hid (HB.out.trans (HBW.out.mono (by omega)))
      by_cases h601 : K = 601
      · have hkk : ((K : Int) == 601) = true := by rw [h601]; rfl
        have H1 := Lib.hid (show nextS sc (tl.map (·.1)) = ⟨#[]⟩ by rw [nextS, HK2.out, if_neg (by omega)])
        have H2 := Lib.hid (show decide (nextK sc (tl.map (·.1)) < 601) = false by rw [HK2.out]; exact decide_eq_false (by omega))
        clear h601
        go_wp2
        go_ret2
        exact ⟨ret_sb H1.out.symm H2.out.symm, HBE.out⟩
      · have hkk : ((K : Int) == 601) = false := beq_eq_false_iff_ne.2 (by omega)
        have hkl : K < 601 := by omega
        obtain ⟨b, off, rfl, _, c0⟩ := str_at (HV.out.below HBW.out (fun q hq => hq)) K (by rw [allSetups_len]; exact hkl)
        have H1 := Lib.hid (show nextS sc (tl.map (·.1)) = allSetups[K]'(by rw [allSetups_len]; exact hkl) by rw [nextS, HK2.out, if_pos hkl, List.getD_eq_getElem?_getD, List.getElem?_eq_getElem (by rw [allSetups_len]; exact hkl)]; rfl)
        have H2 := Lib.hid (show decide (nextK sc (tl.map (·.1)) < 601) = true by rw [HK2.out]; exact decide_eq_true hkl)
        have hki : (K : Int) < 601 := by omega
        generalize allSetups[K]'(by rw [allSetups_len]; exact hkl) = Z at *
        clear h601
        go_wp2
        go_ret2
        exact ⟨ret_sb H1.out.symm H2.out.symm, HBE.out⟩
end Go.Proofs.YtodlfdfkhdfblaaGreatDoor

