/- The program's comparison of copies, walked. -/
import Derived.Test.YtnjbbkocobegiaaDoorFilesQ
namespace Go.Proofs.YtnjbbkocobegiaaDoor
set_option linter.unusedVariables false
open Go.RowKit

theorem place_some {l : List Copied} {s : ByteArray} {i : Nat} (h : placeL l s = some i) : ∃ hi : i < l.length, hasCop l s = true ∧ getCop l s = l[i] := by
  obtain ⟨hi, _⟩ := List.findIdx?_eq_some_iff_getElem.1 h
  exact ⟨hi, by unfold hasCop; rw [h]; rfl, by unfold getCop; rw [h]; simp [hi]⟩
theorem place_none {l : List Copied} {s : ByteArray} (h : placeL l s = none) : hasCop l s = false := by unfold hasCop; rw [h]; rfl

set_option maxRecDepth 100000 in
set_option maxHeartbeats 3200000 in
theorem Compare_c (a b : List Copied) (va vb : Value) (F : Nat → Prop) (w : World) (ha : Sli copR w F a va) (hb : Sli copR w F b vb) (hF : ∀ q, F q → q < w.heap.size) (sa : CopySz a) (sb : CopySz b) :
    Calls Tryd.prog 11 #[va, vb] w (CmpP a b w) := by
  obtain ⟨A1, c1, rfl, hlc1, hc1⟩ := ha.form
  obtain ⟨A2, c2, rfl, hlc2, hc2⟩ := hb.form
  have H1 := Lib.hid ha; clear ha
  have H2 := Lib.hid hb; clear hb
  have HF := Lib.hid hF; clear hF
  have HA := Lib.hid sa; clear sa
  have HB := Lib.hid sb; clear sb
  by_cases g1 : 500 < a.length
  · have HE := Lib.hid (show cmpE a b = 2 from if_pos (.inl g1))
    go_enter Tryd.func11, Tryd.ntmps11
    go_wp2
    (try simp only [Exit.inBlock, Exit.then])
    refine bodyPost_ret (results_tmp4 rfl _ _ _) rfl ?_
    exact CmpP.bad HE.out (by decide) rfl (Below.refl _ _)
  · by_cases g2 : 500 < b.length
    · have HE := Lib.hid (show cmpE a b = 2 from if_pos (.inr g2))
      go_enter Tryd.func11, Tryd.ntmps11
      go_wp2
      (try simp only [Exit.inBlock, Exit.then])
      refine bodyPost_ret (results_tmp4 rfl _ _ _) rfl ?_
      exact CmpP.bad HE.out (by decide) rfl (Below.refl _ _)
    · have HE := Lib.hid (show cmpE a b = orI (copiesF a) (copiesF b) by
        unfold cmpE orI; rw [if_neg (by omega)]
        by_cases h : copiesF a = 0
        · rw [if_neg (by simp [h]), if_pos h]
        · rw [if_pos h, if_neg h])
      obtain ⟨i0, hi0, hz0, hz1, hz2⟩ := info_parts strInfo
      have eg : ∀ args W, (callFunc 24 args).run Tryd.prog W = .ok (.enter 24 args) W := fun _ _ => by kernel_rfl
      obtain ⟨fa, hfa⟩ : ∃ fa, copiesF a = fa := ⟨_, rfl⟩
      obtain ⟨fb, hfb⟩ : ∃ fb, copiesF b = fb := ⟨_, rfl⟩
      have HCA := Lib.hid (fun W (hW : Below w.heap.size w W) => hfa ▸ copiesFault_c a _ F W (H1.out.below hW HF.out) (fun q h => Nat.lt_of_lt_of_le (HF.out q h) hW.size) HA.out (by omega))
      have HCB := Lib.hid (fun W (hW : Below w.heap.size w W) => hfb ▸ copiesFault_c b _ F W (H2.out.below hW HF.out) (fun q h => Nat.lt_of_lt_of_le (HF.out q h) hW.size) HB.out (by omega))
      rw [hfa, hfb] at HE
      go_enter Tryd.func11, Tryd.ntmps11
      go_wp2
      go_loopw [4, 5, 6, 29] (fun v4 v5 v6 i wr => ∃ k : Nat, k ≤ 2 ∧ v4 = .slice none 0 0 ∧ v5 = .slice none 0 0 ∧ v6 = .slice none 0 0 ∧ i = .int .i64 k ∧ Below w.heap.size w wr ∧ w.heap.size < wr.heap.size ∧ Hid (wr.heap[w.heap.size]? = some (.cells #[.slice A1 a.length c1, .slice A2 b.length c2] 29 (0, 0))) ∧ Hid (1 ≤ k → fa = 0) ∧ Hid (2 ≤ k → fb = 0)) (fun _ _ _ i _ => 2 - (intOf i).toNat)
      case atStart => exact ⟨0, Nat.zero_le _, rfl, rfl, rfl, rfl, (Below.refl _ _).alloc (Nat.le_refl _) _, by simp, heap_alloc_new w _, fun h => absurd h (by decide), fun h => absurd h (by decide)⟩
      case round =>
        obtain ⟨k, hk, rfl, rfl, rfl, rfl, hb, hz, HR, HFA, HFB⟩ := hrel
        have r0 : wr.cell? ⟨w.heap.size, 0, none⟩ = some (.slice A1 a.length c1) := (str_cells HR.out).1 0
        have r1 : wr.cell? ⟨w.heap.size, 1, none⟩ = some (.slice A2 b.length c2) := (str_cells HR.out).1 1
        have hk3 : k = 0 ∨ k = 1 ∨ k = 2 := by omega
        rcases hk3 with rfl | rfl | rfl
        · go_wp2_with fail
          refine (HCA.out _ hb).mono ?_
          rintro e w1 ⟨rfl, hb1⟩
          have HB1 := Lib.hid (hb.trans (hb1.mono hb.size))
          have hz1 := hb1.size
          by_cases h0 : fa = 0
          · have HX := Lib.hid h0
            subst h0
            go_wp2
            go_roundw
            case rel => exact ⟨1, by omega, rfl, rfl, rfl, rfl, HB1.out, by omega, (hb1.block _ hz).trans HR.out, fun _ => by first | trivial | rfl, fun h => absurd h (by decide)⟩
            case measure => decide
          · have HX := Lib.hid h0
            have HE2 := Lib.hid (HE.out.trans (if_neg h0))
            go_wp2
            (try simp only [Exit.inBlock, Exit.then])
            refine bodyPost_ret (results_tmp4 rfl _ _ _) rfl ?_
            exact CmpP.bad HE2.out HX.out rfl HB1.out
        · go_wp2_with fail
          refine (HCB.out _ hb).mono ?_
          rintro e w1 ⟨rfl, hb1⟩
          have HB1 := Lib.hid (hb.trans (hb1.mono hb.size))
          have hz1 := hb1.size
          by_cases h0 : fb = 0
          · subst h0
            go_wp2
            go_roundw
            case rel => exact ⟨2, by omega, rfl, rfl, rfl, rfl, HB1.out, by omega, (hb1.block _ hz).trans HR.out, fun _ => HFA.out (by decide), fun _ => by first | trivial | rfl⟩
            case measure => decide
          · have HX := Lib.hid h0
            have HE2 := Lib.hid (HE.out.trans (if_pos (HFA.out (by decide))))
            go_wp2
            (try simp only [Exit.inBlock, Exit.then])
            refine bodyPost_ret (results_tmp4 rfl _ _ _) rfl ?_
            exact CmpP.bad HE2.out HX.out rfl HB1.out
        · have e1 := HFA.out (by decide)
          have e2 := HFB.out (by decide)
          have HE0 := Lib.hid (show cmpE a b = 0 by rw [HE.out, e1, e2]; rfl)
          have HB3 := Lib.hid hb
          clear e1 e2 hb HE HFA HFB hfa hfb HCA HCB r0 r1 HR hk
          rw [show ((2 : Nat) : Int) = 2 from rfl]
          go_wp2
          go_loopw [4, 5, 41] (fun v4 v5 i wr => ∃ k : Nat, k ≤ a.length ∧ i = .int .i64 k ∧ Below w.heap.size w wr ∧ Hid (CmpLoop w a b k v4 v5 wr)) (fun _ _ i _ => a.length - (intOf i).toNat)
          case atStart => exact ⟨0, Nat.zero_le _, rfl, HB3.out, Rows3.nil_⟩
          case round =>
            clear HB3 hz
            obtain ⟨k, hk, rfl, hb, HL⟩ := hrel
            by_cases hlt : k < a.length
            · obtain ⟨ba, off, rfl, hfb, c0, c1, c2⟩ := copAt (H1.out.below hb HF.out) k hlt
              have HS1 := lostN_step a b k hlt
              have HS2 := spoiltN_step a b k hlt
              have hll := lostN_len (a.take k) b
              have hls := spoiltN_len (a.take k) b
              rw [List.length_take] at hll hls
              generalize a[k] = x at *
              have HT1 := Lib.hid HS1
              have HT2 := Lib.hid HS2
              clear HS1 HS2
              have hws := hb.size
              have HBB := Lib.hid (hb.alloc hb.size (.cells #[.string x.name, .int .i64 x.size, .string x.sum] 35))
              have HG := Lib.hid (place_c b x.name _ F _ (H2.out.below HBB.out HF.out) (fun q h => Nat.lt_of_lt_of_le (HF.out q h) HBB.out.size))
              obtain ⟨pl, hpl⟩ : ∃ p, placeL b x.name = p := ⟨_, rfl⟩
              rw [hpl] at HG
              go_wp2_with fail
              refine HG.out.mono ?_
              rintro e w5 ⟨rfl, hb5⟩
              have hz5 := hb5.size
              simp at hz5
              have d0 := (hb5.cell (p := ⟨wr.heap.size, 0, none⟩) (by simp)).trans (show _ = some (.string x.name) by go_simp)
              have d1 := (hb5.cell (p := ⟨wr.heap.size, 1, none⟩) (by simp)).trans (show _ = some (.int .i64 x.size) by go_simp)
              have d2 := (hb5.cell (p := ⟨wr.heap.size, 2, none⟩) (by simp)).trans (show _ = some (.string x.sum) by go_simp)
              have HB5 := Lib.hid (HBB.out.trans (hb5.mono HBB.out.size))
              have HL5 := Lib.hid ((HL.out.alloc (.cells #[.string x.name, .int .i64 x.size, .string x.sum] 35)).below hb5)
              clear hb5 c0 c1 c2 HG HBB
              cases pl with
              | none =>
                have hh := place_none hpl
                rw [show isLost b x = true by unfold isLost; rw [hh]; rfl, if_pos rfl] at HT1
                rw [show isSpoilt b x = false by unfold isSpoilt; rw [hh]; rfl, if_neg (by decide), List.append_nil] at HT2
                generalize hl1 : lostN (a.take k) b = l1 at *
                generalize hl2 : spoiltN (a.take k) b = l2 at *
                clear hl1 hl2
                have HV := Lib.hid (fun g e => (HL5.out.1.block g e).1)
                rw [show idxV none = -1 from rfl]
                go_wp2_with (at_builtin; (refine wpList_pushB (R := strR) rfl _ _ _ rfl w.heap.size w.heap.size 9 i0 _ 16 Tryd.underlying23 hi0 hz0 hz1 hz2 rfl (by decide) _ u4 l1 rfl (HL5.out.1.alloc _) x.name [.string x.name] rfl (oneC rfl) w5.heap.size _ _ (heap_alloc_new w5 _) rfl (by simp [maxLen]; omega) (by omega) (by simp; omega) ?_); intro g cap w6 hown6 hg6 hat6 hlt6)
                go_roundw
                case rel => exact ⟨k + 1, by omega, intNum, (HB5.out.alloc (by omega) _).grown hg6 (by simp; omega) HV.out, by
                  show Rows3 _ _ _ _ _ _ _ _
                  rw [HT1.out, HT2.out]
                  exact (HL5.out.alloc _).push hown6 hg6 rfl (by simpa using hat6)⟩
                case measure => simp [intOf]; omega
              | some i =>
                obtain ⟨hi, hh, hy⟩ := place_some hpl
                rw [show isLost b x = false by unfold isLost; rw [hh]; rfl, if_neg (by decide), List.append_nil] at HT1
                obtain ⟨bb, off2, rfl, hfb2, s0, s1, s2⟩ := copAt (H2.out.below HB5.out HF.out) i hi
                rw [show idxV (some i) = (i : Int) from rfl]
                have hi1 : (0 : Int) ≤ (i : Int) := by omega
                have hi2 : (i : Int) < (b.length : Int) := by omega
                generalize b[i] = y at *
                by_cases hxy : y = x
                · rw [show isSpoilt b x = false by unfold isSpoilt; rw [hh, hy, hxy]; simp, if_neg (by decide), List.append_nil] at HT2
                  subst hxy
                  go_wp2
                  go_region
                  go_wp2
                  go_roundw
                  case rel => exact ⟨k + 1, by omega, intNum, HB5.out.drew, by
                    show Rows3 _ _ _ _ _ _ _ _
                    rw [HT1.out, HT2.out]
                    exact HL5.out.drew⟩
                  case measure => simp [intOf]; omega
                · rw [show isSpoilt b x = true by unfold isSpoilt; rw [hh, hy]; simpa using hxy, if_pos rfl] at HT2
                  have hne := ne_cop hxy
                  generalize hl1 : lostN (a.take k) b = l1 at *
                  generalize hl2 : spoiltN (a.take k) b = l2 at *
                  clear hl1 hl2 hxy
                  have HV := Lib.hid (fun g e => (HL5.out.2.1.block g e).1)
                  rcases hne with hne | ⟨q1, hne⟩ | ⟨q1, q2, hne⟩
                  all_goals
                    go_wp2
                    go_region
                    go_wp2_with (at_builtin; (refine wpList_pushB (R := strR) rfl _ _ _ rfl w.heap.size w.heap.size 9 i0 _ 16 Tryd.underlying23 hi0 hz0 hz1 hz2 rfl (by decide) _ u5 l2 rfl (HL5.out.2.1.drew.alloc _) x.name [.string x.name] rfl (oneC rfl) w5.heap.size _ _ (heap_alloc_new w5.drew _) rfl (by simp [maxLen]; omega) (by omega) (by simp; omega) ?_); intro g cap w6 hown6 hg6 hat6 hlt6)
                    go_roundw
                    case rel => exact ⟨k + 1, by omega, intNum, (HB5.out.drew.alloc (by show w.heap.size ≤ w5.heap.size; omega) _).grown hg6 (by simp; show w.heap.size ≤ w5.heap.size + 1; omega) HV.out, by
                      show Rows3 _ _ _ _ _ _ _ _
                      rw [HT1.out, HT2.out]
                      exact ((HL5.out.drew.alloc _).s12.push hown6 hg6 rfl (by simpa using hat6)).s12⟩
                    case measure => simp [intOf]; omega
            · have e : k = a.length := by omega
              have HR0 := Lib.hid (show Rows3 wr w.heap.size (lostN a b) (spoiltN a b) (lostN (b.take 0) a) _ _ (.slice none 0 0) by
                have := HL.out
                unfold CmpLoop at this
                rwa [List.take_of_length_le (by omega)] at this)
              have HBR := Lib.hid hb
              clear hb HL e
              generalize hl1 : lostN a b = l1 at *
              generalize hl2 : spoiltN a b = l2 at *
              go_wp2
              go_loopw [6, 71] (fun v6 i wr => ∃ k : Nat, k ≤ b.length ∧ i = .int .i64 k ∧ Below w.heap.size w wr ∧ Hid (Rows3 wr w.heap.size l1 l2 (lostN (b.take k) a) u4 u5 v6)) (fun _ i _ => b.length - (intOf i).toNat)
              case atStart => exact ⟨0, Nat.zero_le _, rfl, HBR.out, HR0.out⟩
              case round =>
                clear HR0 HBR
                obtain ⟨k, hk, rfl, hb, HL⟩ := hrel
                by_cases hlt : k < b.length
                · obtain ⟨ba, off, rfl, hfb, c0, c1, c2⟩ := copAt (H2.out.below hb HF.out) k hlt
                  have HS1 := lostN_step b a k hlt
                  have hll := lostN_len (b.take k) a
                  rw [List.length_take] at hll
                  generalize b[k] = x at *
                  have HT1 := Lib.hid HS1
                  clear HS1
                  have hws := hb.size
                  have HBB := Lib.hid (hb.alloc hb.size (.cells #[.string x.name, .int .i64 x.size, .string x.sum] 35))
                  have HG := Lib.hid (place_c a x.name _ F _ (H1.out.below HBB.out HF.out) (fun q h => Nat.lt_of_lt_of_le (HF.out q h) HBB.out.size))
                  obtain ⟨pl, hpl⟩ : ∃ p, placeL a x.name = p := ⟨_, rfl⟩
                  rw [hpl] at HG
                  go_wp2_with fail
                  refine HG.out.mono ?_
                  rintro e w5 ⟨rfl, hb5⟩
                  have hz5 := hb5.size
                  simp at hz5
                  have d0 := (hb5.cell (p := ⟨wr.heap.size, 0, none⟩) (by simp)).trans (show _ = some (.string x.name) by go_simp)
                  have HB5 := Lib.hid (HBB.out.trans (hb5.mono HBB.out.size))
                  have HL5 := Lib.hid ((HL.out.alloc (.cells #[.string x.name, .int .i64 x.size, .string x.sum] 35)).below hb5)
                  clear hb5 c0 c1 c2 HG HBB
                  cases pl with
                  | none =>
                    have hh := place_none hpl
                    rw [show isLost a x = true by unfold isLost; rw [hh]; rfl, if_pos rfl] at HT1
                    generalize hl3 : lostN (b.take k) a = l3 at *
                    clear hl3
                    have HV := Lib.hid (fun g e => (HL5.out.2.2.1.block g e).1)
                    rw [show idxV none = -1 from rfl]
                    go_wp2_with (at_builtin; (refine wpList_pushB (R := strR) rfl _ _ _ rfl w.heap.size w.heap.size 9 i0 _ 16 Tryd.underlying23 hi0 hz0 hz1 hz2 rfl (by decide) _ u6 l3 rfl (HL5.out.2.2.1.alloc _) x.name [.string x.name] rfl (oneC rfl) w5.heap.size _ _ (heap_alloc_new w5 _) rfl (by simp [maxLen]; omega) (by omega) (by simp; omega) ?_); intro g cap w6 hown6 hg6 hat6 hlt6)
                    go_roundw
                    case rel => exact ⟨k + 1, by omega, intNum, (HB5.out.alloc (by omega) _).grown hg6 (by simp; omega) HV.out, by
                      show Rows3 _ _ _ _ _ _ _ _
                      rw [HT1.out]
                      exact ((HL5.out.alloc _).s13.push hown6 hg6 rfl (by simpa using hat6)).s13⟩
                    case measure => simp [intOf]; omega
                  | some i =>
                    obtain ⟨hi, hh, hy⟩ := place_some hpl
                    rw [show isLost a x = false by unfold isLost; rw [hh]; rfl, if_neg (by decide), List.append_nil] at HT1
                    rw [show idxV (some i) = (i : Int) from rfl]
                    have hi1 : (0 : Int) ≤ (i : Int) := by omega
                    clear hy
                    go_wp2
                    go_roundw
                    case rel => exact ⟨k + 1, by omega, intNum, HB5.out, by
                      show Rows3 _ _ _ _ _ _ _ _
                      rw [HT1.out]
                      exact HL5.out⟩
                    case measure => simp [intOf]; omega
                · have e : k = b.length := by omega
                  have HR1 := Lib.hid (show Rows3 wr w.heap.size (lostN a b) (spoiltN a b) (lostN b a) u4 u5 u6 by
                    have := HL.out
                    rw [List.take_of_length_le (by omega)] at this
                    rw [hl1, hl2]; exact this)
                  clear HL
                  go_wp2
                  (try simp only [Exit.inBlock, Exit.then])
                  refine bodyPost_ret (results_tmp4 rfl _ _ _) rfl ?_
                  refine ⟨u4, u5, u6, by rw [HE0.out]; rfl, ?_, ?_, ?_, hb⟩
                  · rw [HE0.out]; exact HR1.out.1.sli (fun q h1 h2 => ⟨h1, h2⟩) (fun g hg => HR1.out.1.block g hg)
                  · rw [HE0.out]; exact HR1.out.2.1.sli (fun q h1 h2 => ⟨h1, h2⟩) (fun g hg => HR1.out.2.1.block g hg)
                  · rw [HE0.out]; exact HR1.out.2.2.1.sli (fun q h1 h2 => ⟨h1, h2⟩) (fun g hg => HR1.out.2.2.1.block g hg)
end Go.Proofs.YtnjbbkocobegiaaDoor
