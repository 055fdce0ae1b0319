/- The reference's comparison of copies, walked. -/
import Derived.Test.YtnjbbkocobegiaaDoorFilesO
namespace Go.Proofs.YtnjbbkocobegiaaDoor
set_option linter.unusedVariables false
open Go.RowKit

theorem ne_cop {x y : Copied} (h : ¬ x = y) : (¬ x.name.toList = y.name.toList) ∨ (x.name.toList = y.name.toList ∧ ¬ x.size = y.size) ∨ (x.name.toList = y.name.toList ∧ x.size = y.size ∧ ¬ x.sum.toList = y.sum.toList) := by
  have hL : ∀ a b : ByteArray, a.toList = b.toList → a = b := fun a b e => by
    have := beqS a b
    rw [e] at this; simpa using this
  by_cases q1 : x.name.toList = y.name.toList
  · by_cases q2 : x.size = y.size
    · exact .inr (.inr ⟨q1, q2, fun q3 => h (Copied.ext_iff'.2 ⟨hL _ _ q1, q2, hL _ _ q3⟩)⟩)
    · exact .inr (.inl ⟨q1, q2⟩)
  · exact .inl q1
theorem strInfo : (Tryd.prog.info? 9).map (fun i => (i.zero, i.size, i.bytes)) = some (some (.string ⟨#[]⟩), 1, 16) := by kernel_rfl
def CmpLoop (w : World) (a b : List Copied) (k : Nat) (v4 v5 : Value) (wr : World) : Prop := Rows3 wr w.heap.size (lostN (a.take k) b) (spoiltN (a.take k) b) [] v4 v5 (.slice none 0 0)

set_option maxRecDepth 100000 in
set_option maxHeartbeats 3200000 in
theorem CompareOf_c (a b : List Copied) (va vb : Value) (F : Nat → Prop) (w : World) (ha : Sli copR w F a va) (hb : Sli copR w F b vb) (hF : ∀ q, F q → q < w.heap.size) (sa : CopySz a) (sb : CopySz b) :
    Calls Tryd.prog 12 #[va, vb] w (CmpP a b w) := by
  obtain ⟨A1, c1, rfl, hlc1, hc1⟩ := ha.form
  obtain ⟨A2, c2, rfl, hlc2, hc2⟩ := hb.form
  have H1 := Lib.hid ha; clear ha
  have H2 := Lib.hid hb; clear hb
  have HF := Lib.hid hF; clear hF
  have HA := Lib.hid sa; clear sa
  have HB := Lib.hid sb; clear sb
  by_cases g1 : 500 < a.length
  · have HE := Lib.hid (show cmpE a b = 2 from if_pos (.inl g1))
    go_enter Tryd.func12, Tryd.ntmps12
    go_wp2
    (try simp only [Exit.inBlock, Exit.then])
    refine bodyPost_ret (results_tmp4 rfl _ _ _) rfl ?_
    exact CmpP.bad HE.out (by decide) rfl (Below.refl _ _)
  · by_cases g2 : 500 < b.length
    · have HE := Lib.hid (show cmpE a b = 2 from if_pos (.inr g2))
      go_enter Tryd.func12, Tryd.ntmps12
      go_wp2
      (try simp only [Exit.inBlock, Exit.then])
      refine bodyPost_ret (results_tmp4 rfl _ _ _) rfl ?_
      exact CmpP.bad HE.out (by decide) rfl (Below.refl _ _)
    · have HE := Lib.hid (show cmpE a b = orI (copiesF a) (copiesF b) by
        unfold cmpE orI; rw [if_neg (by omega)]
        by_cases h : copiesF a = 0
        · rw [if_neg (by simp [h]), if_pos h]
        · rw [if_pos h, if_neg h])
      obtain ⟨i0, hi0, hz0, hz1, hz2⟩ := info_parts strInfo
      have eg : ∀ args W, (callFunc 29 args).run Tryd.prog W = .ok (.enter 29 args) W := fun _ _ => by kernel_rfl
      go_enter Tryd.func12, Tryd.ntmps12
      go_wp2_with fail
      refine (copiesFaultR_c a _ F w H1.out HF.out HA.out (by omega)).mono ?_
      rintro e w1 ⟨rfl, hb1⟩
      have HB1 := Lib.hid hb1; clear hb1
      have HC := Lib.hid (copiesFaultR_c b _ F w1 (H2.out.below HB1.out HF.out) (fun q h => Nat.lt_of_lt_of_le (HF.out q h) HB1.out.size) HB.out (by omega))
      generalize hfa : copiesF a = fa at *
      generalize hfb : copiesF b = fb at *
      clear hfa hfb
      go_wp2_with fail
      refine HC.out.mono ?_
      rintro e w2 ⟨rfl, hb2⟩
      have HB2 := Lib.hid (HB1.out.trans (hb2.mono HB1.out.size)); clear hb2 HC
      go_wp2_with fail
      refine (or_c fa fb w2.heap.size 2 _ (by go_simp) (by go_simp)).mono ?_
      rintro e w3 ⟨rfl, rfl⟩
      have HB3 := Lib.hid (HB2.out.alloc HB2.out.size (.cells #[.int .i64 fa, .int .i64 fb] 30))
      generalize hq : orI fa fb = q at *
      clear hq
      generalize w2.alloc (.cells #[.int .i64 fa, .int .i64 fb] 30) = w3 at *
      by_cases hq0 : q = 0
      · subst hq0
        go_wp2
        go_loopw [4, 5, 37] (fun v4 v5 i wr => ∃ k : Nat, k ≤ a.length ∧ i = .int .i64 k ∧ Below w.heap.size w wr ∧ Hid (CmpLoop w a b k v4 v5 wr)) (fun _ _ i _ => a.length - (intOf i).toNat)
        case atStart => exact ⟨0, Nat.zero_le _, rfl, HB3.out, Rows3.nil_⟩
        case round =>
          obtain ⟨k, hk, rfl, hb, HL⟩ := hrel
          by_cases hlt : k < a.length
          · obtain ⟨ba, off, rfl, hfb, c0, c1, c2⟩ := copAt (H1.out.below hb HF.out) k hlt
            have HS1 := lostN_step a b k hlt
            have HS2 := spoiltN_step a b k hlt
            have hll := lostN_len (a.take k) b
            have hls := spoiltN_len (a.take k) b
            rw [List.length_take] at hll hls
            generalize a[k] = x at *
            have HT1 := Lib.hid HS1
            have HT2 := Lib.hid HS2
            clear HS1 HS2
            have hws := hb.size
            have HBB := Lib.hid (hb.alloc hb.size (.cells #[.string x.name, .int .i64 x.size, .string x.sum] 35))
            have HG := Lib.hid (getCop_c b x.name _ F _ (H2.out.below HBB.out HF.out) (fun q h => Nat.lt_of_lt_of_le (HF.out q h) HBB.out.size))
            obtain ⟨y, hy⟩ : ∃ y, getCop b x.name = y := ⟨_, rfl⟩
            obtain ⟨h, hh⟩ : ∃ h, hasCop b x.name = h := ⟨_, rfl⟩
            rw [hy, hh] at HG
            go_wp2_with fail
            refine HG.out.mono ?_
            rintro e w5 ⟨rfl, hb5⟩
            have hz5 := hb5.size
            simp at hz5
            have d0 := (hb5.cell (p := ⟨wr.heap.size, 0, none⟩) (by simp)).trans (show _ = some (.string x.name) by go_simp)
            have d1 := (hb5.cell (p := ⟨wr.heap.size, 1, none⟩) (by simp)).trans (show _ = some (.int .i64 x.size) by go_simp)
            have d2 := (hb5.cell (p := ⟨wr.heap.size, 2, none⟩) (by simp)).trans (show _ = some (.string x.sum) by go_simp)
            have e0 := fun o => (World.cell?_alloc_lt w5 o ⟨wr.heap.size, 0, none⟩ (by simp; omega)).trans d0
            have e1 := fun o => (World.cell?_alloc_lt w5 o ⟨wr.heap.size, 1, none⟩ (by simp; omega)).trans d1
            have e2 := fun o => (World.cell?_alloc_lt w5 o ⟨wr.heap.size, 2, none⟩ (by simp; omega)).trans d2
            have HB5 := Lib.hid (HBB.out.trans (hb5.mono HBB.out.size))
            have HL5 := Lib.hid ((HL.out.alloc (.cells #[.string x.name, .int .i64 x.size, .string x.sum] 35)).below hb5)
            clear hb5 c0 c1 c2 HG HBB
            cases h with
            | false =>
              rw [show isLost b x = true by unfold isLost; rw [hh]; rfl, if_pos rfl] at HT1
              rw [show isSpoilt b x = false by unfold isSpoilt; rw [hh]; rfl, if_neg (by decide), List.append_nil] at HT2
              generalize hl1 : lostN (a.take k) b = l1 at *
              generalize hl2 : spoiltN (a.take k) b = l2 at *
              clear hl1 hl2
              have HV := Lib.hid (fun g e => (HL5.out.1.block g e).1)
              go_wp2_with (at_builtin; (refine wpList_pushB (R := strR) rfl _ _ _ rfl w.heap.size w.heap.size 9 i0 _ 16 Tryd.underlying23 hi0 hz0 hz1 hz2 rfl (by decide) _ u4 l1 rfl ((HL5.out.1.alloc _).alloc _) x.name [.string x.name] rfl (oneC rfl) (w5.heap.size + 1) _ _ (alloc2_at w5 _ _ _) rfl (by simp [maxLen]; omega) (by omega) (by simp; omega) ?_); intro g cap w6 hown6 hg6 hat6 hlt6)
              go_roundw
              case rel => exact ⟨k + 1, by omega, intNum, ((HB5.out.alloc (by omega) _).alloc (by simp; omega) _).grown hg6 (by simp; omega) HV.out, by
                show Rows3 _ _ _ _ _ _ _ _
                rw [HT1.out, HT2.out]
                exact ((HL5.out.alloc _).alloc _).push hown6 hg6 rfl hat6⟩
              case measure => simp [intOf]; omega
            | true =>
              rw [show isLost b x = false by unfold isLost; rw [hh]; rfl, if_neg (by decide), List.append_nil] at HT1
              by_cases hxy : x = y
              · rw [show isSpoilt b x = false by unfold isSpoilt; rw [hh, hy, hxy]; simp, if_neg (by decide), List.append_nil] at HT2
                subst hxy
                go_wp2
                go_roundw
                case rel => exact ⟨k + 1, by omega, intNum, (HB5.out.alloc (by omega) _), by
                  show Rows3 _ _ _ _ _ _ _ _
                  rw [HT1.out, HT2.out]
                  exact (HL5.out.alloc _)⟩
                case measure => simp [intOf]; omega
              · rw [show isSpoilt b x = true by unfold isSpoilt; rw [hh, hy]; simpa using (fun e => hxy e.symm), if_pos rfl] at HT2
                have hne := ne_cop hxy
                generalize hl1 : lostN (a.take k) b = l1 at *
                generalize hl2 : spoiltN (a.take k) b = l2 at *
                clear hl1 hl2 hxy
                have HV := Lib.hid (fun g e => (HL5.out.2.1.block g e).1)
                rcases hne with hne | ⟨q1, hne⟩ | ⟨q1, q2, hne⟩
                all_goals
                  go_wp2_with (at_builtin; (refine wpList_pushB (R := strR) rfl _ _ _ rfl w.heap.size w.heap.size 9 i0 _ 16 Tryd.underlying23 hi0 hz0 hz1 hz2 rfl (by decide) _ u5 l2 rfl ((HL5.out.2.1.alloc _).alloc _) x.name [.string x.name] rfl (oneC rfl) (w5.heap.size + 1) _ _ (alloc2_at w5 _ _ _) rfl (by simp [maxLen]; omega) (by omega) (by simp; omega) ?_); intro g cap w6 hown6 hg6 hat6 hlt6)
                  go_roundw
                  case rel => exact ⟨k + 1, by omega, intNum, ((HB5.out.alloc (by omega) _).alloc (by simp; omega) _).grown hg6 (by simp; omega) HV.out, by
                    show Rows3 _ _ _ _ _ _ _ _
                    rw [HT1.out, HT2.out]
                    exact (((HL5.out.alloc _).alloc _).s12.push hown6 hg6 rfl hat6).s12⟩
                  case measure => simp [intOf]; omega
          · have e : k = a.length := by omega
            have HR0 := Lib.hid (show Rows3 wr w.heap.size (lostN a b) (spoiltN a b) (lostN (b.take 0) a) _ _ (.slice none 0 0) by
              have := HL.out
              unfold CmpLoop at this
              rwa [List.take_of_length_le (by omega)] at this)
            have HBR := Lib.hid hb
            clear hb HL e
            generalize hl1 : lostN a b = l1 at *
            generalize hl2 : spoiltN a b = l2 at *
            go_wp2
            go_loopw [6, 67] (fun v6 i wr => ∃ k : Nat, k ≤ b.length ∧ i = .int .i64 k ∧ Below w.heap.size w wr ∧ Hid (Rows3 wr w.heap.size l1 l2 (lostN (b.take k) a) u4 u5 v6)) (fun _ i _ => b.length - (intOf i).toNat)
            case atStart => exact ⟨0, Nat.zero_le _, rfl, HBR.out, HR0.out⟩
            case round =>
              clear HR0 HBR
              obtain ⟨k, hk, rfl, hb, HL⟩ := hrel
              by_cases hlt : k < b.length
              · obtain ⟨ba, off, rfl, hfb, c0, c1, c2⟩ := copAt (H2.out.below hb HF.out) k hlt
                have HS1 := lostN_step b a k hlt
                have hll := lostN_len (b.take k) a
                rw [List.length_take] at hll
                generalize b[k] = x at *
                have HT1 := Lib.hid HS1
                clear HS1
                have hws := hb.size
                have HBB := Lib.hid (hb.alloc hb.size (.cells #[.string x.name, .int .i64 x.size, .string x.sum] 35))
                have HG := Lib.hid (getCop_c a x.name _ F _ (H1.out.below HBB.out HF.out) (fun q h => Nat.lt_of_lt_of_le (HF.out q h) HBB.out.size))
                obtain ⟨y, hy⟩ : ∃ y, getCop a x.name = y := ⟨_, rfl⟩
                obtain ⟨h, hh⟩ : ∃ h, hasCop a x.name = h := ⟨_, rfl⟩
                rw [hy, hh] at HG
                go_wp2_with fail
                refine HG.out.mono ?_
                rintro e w5 ⟨rfl, hb5⟩
                have hz5 := hb5.size
                simp at hz5
                have d0 := (hb5.cell (p := ⟨wr.heap.size, 0, none⟩) (by simp)).trans (show _ = some (.string x.name) by go_simp)
                have d1 := (hb5.cell (p := ⟨wr.heap.size, 1, none⟩) (by simp)).trans (show _ = some (.int .i64 x.size) by go_simp)
                have d2 := (hb5.cell (p := ⟨wr.heap.size, 2, none⟩) (by simp)).trans (show _ = some (.string x.sum) by go_simp)
                have e0 := fun o => (World.cell?_alloc_lt w5 o ⟨wr.heap.size, 0, none⟩ (by simp; omega)).trans d0
                have e1 := fun o => (World.cell?_alloc_lt w5 o ⟨wr.heap.size, 1, none⟩ (by simp; omega)).trans d1
                have e2 := fun o => (World.cell?_alloc_lt w5 o ⟨wr.heap.size, 2, none⟩ (by simp; omega)).trans d2
                have HB5 := Lib.hid (HBB.out.trans (hb5.mono HBB.out.size))
                have HL5 := Lib.hid ((HL.out.alloc (.cells #[.string x.name, .int .i64 x.size, .string x.sum] 35)).below hb5)
                clear hb5 c0 c1 c2 HG HBB
                cases h with
                | false =>
                  rw [show isLost a x = true by unfold isLost; rw [hh]; rfl, if_pos rfl] at HT1
                  generalize hl3 : lostN (b.take k) a = l3 at *
                  clear hl3
                  have HV := Lib.hid (fun g e => (HL5.out.2.2.1.block g e).1)
                  go_wp2_with (at_builtin; (refine wpList_pushB (R := strR) rfl _ _ _ rfl w.heap.size w.heap.size 9 i0 _ 16 Tryd.underlying23 hi0 hz0 hz1 hz2 rfl (by decide) _ u6 l3 rfl ((HL5.out.2.2.1.alloc _).alloc _) x.name [.string x.name] rfl (oneC rfl) (w5.heap.size + 1) _ _ (alloc2_at w5 _ _ _) rfl (by simp [maxLen]; omega) (by omega) (by simp; omega) ?_); intro g cap w6 hown6 hg6 hat6 hlt6)
                  go_roundw
                  case rel => exact ⟨k + 1, by omega, intNum, ((HB5.out.alloc (by omega) _).alloc (by simp; omega) _).grown hg6 (by simp; omega) HV.out, by
                    show Rows3 _ _ _ _ _ _ _ _
                    rw [HT1.out]
                    exact (((HL5.out.alloc _).alloc _).s13.push hown6 hg6 rfl hat6).s13⟩
                  case measure => simp [intOf]; omega
                | true =>
                  rw [show isLost a x = false by unfold isLost; rw [hh]; rfl, if_neg (by decide), List.append_nil] at HT1
                  go_wp2
                  go_roundw
                  case rel => exact ⟨k + 1, by omega, intNum, (HB5.out.alloc (by omega) _), by
                    show Rows3 _ _ _ _ _ _ _ _
                    rw [HT1.out]
                    exact (HL5.out.alloc _)⟩
                  case measure => simp [intOf]; omega
              · have e : k = b.length := by omega
                have HR1 := Lib.hid (show Rows3 wr w.heap.size (lostN a b) (spoiltN a b) (lostN b a) u4 u5 u6 by
                  have := HL.out
                  rw [List.take_of_length_le (by omega)] at this
                  rw [hl1, hl2]; exact this)
                clear HL
                go_wp2
                (try simp only [Exit.inBlock, Exit.then])
                refine bodyPost_ret (results_tmp4 rfl _ _ _) rfl ?_
                refine ⟨u4, u5, u6, by rw [HE.out]; rfl, ?_, ?_, ?_, hb⟩
                · rw [HE.out]; exact HR1.out.1.sli (fun q h1 h2 => ⟨h1, h2⟩) (fun g hg => HR1.out.1.block g hg)
                · rw [HE.out]; exact HR1.out.2.1.sli (fun q h1 h2 => ⟨h1, h2⟩) (fun g hg => HR1.out.2.1.block g hg)
                · rw [HE.out]; exact HR1.out.2.2.1.sli (fun q h1 h2 => ⟨h1, h2⟩) (fun g hg => HR1.out.2.2.1.block g hg)
      · have HE2 := Lib.hid hq0
        go_wp2
        (try simp only [Exit.inBlock, Exit.then])
        refine bodyPost_ret (results_tmp4 rfl _ _ _) rfl ?_
        exact CmpP.bad HE.out HE2.out rfl HB3.out
end Go.Proofs.YtnjbbkocobegiaaDoor
