/- Texts packed: RdD. -/
import Derived.Test.YtndillbimibecaaGreatDoorSc21
import Derived.Test.YtndillbimibecaaGreatDoorSc09
/- The reader of scripts: paragraphs behind an empty line; any line. -/
namespace Go.Proofs.YtndillbimibecaaGreatDoor
set_option linter.unusedVariables false
open Go.RowKit Go.Sort

theorem hasPre_len {s p : ByteArray} (h : Lib.hasPrefix s.data.toList p.data.toList = true) : p.size ≤ s.size := by
  have h2 : p.data.toList <+: s.data.toList := by
    unfold Lib.hasPrefix at h
    first | exact List.isPrefixOf_iff_prefix.1 h | simpa using h
  have := h2.length_le
  simpa using this
set_option maxRecDepth 100000 in
set_option maxHeartbeats 8000000 in
theorem beginsP_c (w wx : World) (R0 m : Nat) (t : ByteArray) (l : List (Scene × Value)) (v : Value) (wh : Int) (s : ByteArray) (h : RdG w R0 t l v wh wx) (hb : RdB m l) (hm : m ≤ 1000000) (hs0 : 0 < s.size) (hs : s.size ≤ 1000000) (hml : MaxLaid wx) (hq : ¬ s[0] = 35) (hw : wh = 1 ∨ (wh = 2 ∧ 0 < l.length)) :
    Calls Tryz.prog 98 #[.pointer (some ⟨R0, 0, none⟩), .string s] wx (RdO w R0 (m + 1) (beginsR ⟨t, l.map (·.1), wh⟩ s)) := by
  have HB := Lib.hid hb
  have HBE := Lib.hid h.bo.bel
  have e0 := byteAt_eq hs0
  have HS := Lib.hid (show beginsR ⟨t, l.map (·.1), wh⟩ s = _ from if_neg (fun h => hq (e0.symm.trans h)))
  have p0 : (0 : Int) < s.size := by omega
  have qa : ((s[0].toNat : Int) == 35) = false := by
    rcases byF s[0] 35 with ⟨q, _⟩ | ⟨_, q⟩
    · exact absurd q hq
    · exact q
  have r2 : wx.cell? ⟨R0, 2, none⟩ = some (.int .i64 wh) := (h.cell (p := (R0, rdCs t v wh, 97)) (by simp)).1 2
  clear hq
  rcases hw with rfl | ⟨rfl, h0⟩
  · have HR := Lib.hid (HS.out.trans (if_pos rfl))
    clear h hb e0
    go_enter Tryz.func98, Tryz.ntmps98
    go_wp2
    go_ret
    exact RdO.no HR.out HBE.out
  have HADD := Lib.hid (fun kind text => add_c w wx R0 t l v 2 kind text h h0 ⟨Nat.le_trans hb.1 hm, fun x hx => Nat.le_trans (hb.2 x hx) hm⟩)
  have HS1 := Lib.hid (show beginsR ⟨t, l.map (·.1), 2⟩ s = if s[0] = 64 then if nameB (s.extract 1 s.size) = true then some (Rd.add ⟨t, l.map (·.1), 2⟩ ⟨2, s.extract 1 s.size⟩) else none
    else if s[0] = 62 then if Lib.hasPrefix s.data.toList (⟨#[62, 32]⟩ : ByteArray).data.toList = true ∧ ¬ s.size = 2 then some (Rd.add ⟨t, l.map (·.1), 2⟩ ⟨5, s.extract 2 s.size⟩) else none
    else if s[0] = 92 then if marked s [64, 62, 35, 92] = true then some (Rd.add ⟨t, l.map (·.1), 2⟩ ⟨1, s.extract 1 s.size⟩) else none
    else some (Rd.add ⟨t, l.map (·.1), 2⟩ ⟨1, s⟩) by rw [← e0]; exact HS.out.trans (if_neg (by dsimp only; decide)))
  clear h hb e0 HS h0
  rcases byF s[0] 64 with ⟨q, qb⟩ | ⟨q, qb⟩
  · have qb' : ((s[0].toNat : Int) == 64) = true := qb
    have HS2 := Lib.hid (HS1.out.trans (if_pos q))
    have HNA := Lib.hid (isName_c (s.extract 1 s.size) wx (by rw [ByteArray.size_extract]; omega) hml)
    have HA := Lib.hid (HADD.out 2 (s.extract 1 s.size))
    have p1 : (1 : Int) ≤ s.size := by omega
    clear qb HS1 q
    cases hn : nameB (s.extract 1 s.size) with
    | false =>
      have HR := Lib.hid (HS2.out.trans (if_neg (by rw [hn]; decide)))
      go_enter Tryz.func98, Tryz.ntmps98
      go_wp2_with (first | (go_at_call 122; refine HNA.out.mono ?_; rintro e w' ⟨rfl, rfl⟩; rw [hn]) | fail)
      go_ret
      exact RdO.no HR.out HBE.out
    | true =>
      have HR := Lib.hid (HS2.out.trans (if_pos hn))
      go_enter Tryz.func98, Tryz.ntmps98
      go_wp2_with (first | (go_at_call 122; refine HNA.out.mono ?_; rintro e w' ⟨rfl, rfl⟩; rw [hn]) | (go_at_call 136; refine HA.out.mono ?_; rintro e w3 ⟨rfl, u, hG⟩; have HG := Lib.hid hG; clear hG) | fail)
      go_ret
      exact RdO.add HB.out HG.out HR.out
  have qb' : ((s[0].toNat : Int) == 64) = false := qb
  have HS2 := Lib.hid (HS1.out.trans (if_neg q))
  clear qb HS1 q
  rcases byF s[0] 62 with ⟨q, qc⟩ | ⟨q, qc⟩
  · have qc' : ((s[0].toNat : Int) == 62) = true := qc
    have HS3 := Lib.hid (HS2.out.trans (if_pos q))
    have HCP := Lib.hid (Tryz.strings_CutPrefix s ⟨#[62, 32]⟩ wx)
    have HPR := Lib.hid (@trimPre s ⟨#[62, 32]⟩)
    have HPN := Lib.hid (@trimNo s ⟨#[62, 32]⟩)
    clear qc HS2 q
    cases hp : Lib.hasPrefix s.data.toList (⟨#[62, 32]⟩ : ByteArray).data.toList with
    | false =>
      have HR := Lib.hid (HS3.out.trans (if_neg (fun h => by rw [hp] at h; cases h.1)))
      have HPE := Lib.hid (HPN.out hp)
      have HP := Lib.hid hp
      clear hp
      go_enter Tryz.func98, Tryz.ntmps98
      go_wp2_with (first | (go_at_call 53; refine HCP.out.mono ?_; rintro e w' ⟨rfl, rfl⟩; rw [HPE.out, HP.out]) | fail)
      go_ret
      exact RdO.no HR.out HBE.out
    | true =>
      have HPE := Lib.hid (show (⟨(Lib.trimPrefix s.data.toList (⟨#[62, 32]⟩ : ByteArray).data.toList).toArray⟩ : ByteArray) = s.extract 2 s.size from HPR.out hp)
      have HP := Lib.hid hp
      have hsz := hasPre_len hp
      have hsz2 : 2 ≤ s.size := hsz
      have HA := Lib.hid (HADD.out 5 (s.extract 2 s.size))
      have HEM := Lib.hid (show (s.extract 2 s.size).toList.isEmpty = true ↔ s.size = 2 by
        rw [empty_iff]
        constructor
        · intro h
          have : (s.extract 2 s.size).size = 0 := by rw [h]; rfl
          rw [ByteArray.size_extract] at this
          omega
        · intro h
          apply ba_ext
          rw [extract_list, h]
          simp)
      clear hp hsz HPR HPN
      by_cases h2 : s.size = 2
      · have HR := Lib.hid (HS3.out.trans (if_neg (fun h => h.2 h2)))
        have hem := HEM.out.2 h2
        clear h2 HA
        generalize s.extract 2 s.size = r at *
        go_enter Tryz.func98, Tryz.ntmps98
        go_wp2_with (first | (go_at_call 53; refine HCP.out.mono ?_; rintro e w' ⟨rfl, rfl⟩; rw [HPE.out, HP.out]) | fail)
        go_ret
        exact RdO.no HR.out HBE.out
      · have HR := Lib.hid (HS3.out.trans (if_pos ⟨HP.out, h2⟩))
        have hem : (s.extract 2 s.size).toList.isEmpty = false := by
          rw [Bool.eq_false_iff]; exact fun h => h2 (HEM.out.1 h)
        clear h2
        generalize s.extract 2 s.size = r at *
        go_enter Tryz.func98, Tryz.ntmps98
        go_wp2_with (first | (go_at_call 53; refine HCP.out.mono ?_; rintro e w' ⟨rfl, rfl⟩; rw [HPE.out, HP.out]) | (go_at_call 136; refine HA.out.mono ?_; rintro e w3 ⟨rfl, u, hG⟩; have HG := Lib.hid hG; clear hG) | fail)
        go_ret
        exact RdO.add HB.out HG.out HR.out
  have qc' : ((s[0].toNat : Int) == 62) = false := qc
  have HS3 := Lib.hid (HS2.out.trans (if_neg q))
  clear qc HS2 q
  rcases byF s[0] 92 with ⟨q, qd⟩ | ⟨q, qd⟩
  · have qd' : ((s[0].toNat : Int) == 92) = true := qd
    have HS4 := Lib.hid (HS3.out.trans (if_pos q))
    clear qd HS3 q
    by_cases h2 : s.size < 2
    · have HR := Lib.hid (HS4.out.trans (if_neg (fun h => by unfold marked at h; rw [decide_eq_false (by omega)] at h; cases h)))
      have h2' : (s.size : Int) < 2 := by omega
      clear h2
      go_enter Tryz.func98, Tryz.ntmps98
      go_wp2
      go_ret
      exact RdO.no HR.out HBE.out
    have h2' : (2 : Int) ≤ s.size := by omega
    have h2n : 1 < s.size := by omega
    have p1 : (1 : Int) < s.size := by omega
    have HMK := Lib.hid (show marked s [64, 62, 35, 92] = ([64, 62, 35, 92] : List UInt8).contains s[1] by unfold marked; rw [decide_eq_true (by omega), byteAt_eq h2n, Bool.true_and])
    have HIX := Lib.hid (idxB_c ⟨#[64, 62, 35, 92]⟩ s[1] wx)
    have HMEM := Lib.hid (show ([64, 62, 35, 92] : List UInt8).contains s[1] = true ↔ 0 ≤ Lib.indexByte (⟨#[64, 62, 35, 92]⟩ : ByteArray).data.toList s[1] from (List.contains_iff_mem).trans (idxB_mem _ _))
    clear h2
    by_cases hix : 0 ≤ Lib.indexByte (⟨#[64, 62, 35, 92]⟩ : ByteArray).data.toList s[1]
    · have HR := Lib.hid (HS4.out.trans (if_pos (HMK.out.trans (HMEM.out.2 hix))))
      have HA := Lib.hid (HADD.out 1 (s.extract 1 s.size))
      clear HMEM HMK
      generalize Lib.indexByte (⟨#[64, 62, 35, 92]⟩ : ByteArray).data.toList s[1] = ix at *
      go_enter Tryz.func98, Tryz.ntmps98
      go_wp2_with (first | (go_at_call 137; with_reducible refine HIX.out.mono ?_; rintro e w' ⟨rfl, rfl⟩) | (go_at_call 136; refine HA.out.mono ?_; rintro e w3 ⟨rfl, u, hG⟩; have HG := Lib.hid hG; clear hG) | fail)
      go_ret
      exact RdO.add HB.out HG.out HR.out
    · have HR := Lib.hid (HS4.out.trans (if_neg (fun h => hix (HMEM.out.1 (HMK.out.symm.trans h)))))
      have hix' : Lib.indexByte (⟨#[64, 62, 35, 92]⟩ : ByteArray).data.toList s[1] < 0 := by omega
      clear HMEM HMK hix
      generalize Lib.indexByte (⟨#[64, 62, 35, 92]⟩ : ByteArray).data.toList s[1] = ix at *
      go_enter Tryz.func98, Tryz.ntmps98
      go_wp2_with (first | (go_at_call 137; with_reducible refine HIX.out.mono ?_; rintro e w' ⟨rfl, rfl⟩) | fail)
      go_ret
      exact RdO.no HR.out HBE.out
  · have qd' : ((s[0].toNat : Int) == 92) = false := qd
    have HR := Lib.hid (HS3.out.trans (if_neg q))
    have HA := Lib.hid (HADD.out 1 s)
    clear qd HS3 q
    go_enter Tryz.func98, Tryz.ntmps98
    go_wp2_with (first | (go_at_call 136; refine HA.out.mono ?_; rintro e w3 ⟨rfl, u, hG⟩; have HG := Lib.hid hG; clear hG) | fail)
    go_ret
    exact RdO.add HB.out HG.out HR.out
/-- Where the reader stands: there are scenes behind the first one's heading. -/
def RdW (wh : Int) (l : List (Scene × Value)) : Prop := (wh = 0 ∨ wh = 1 ∨ wh = 2 ∨ wh = 3 ∨ wh = 4) ∧ (wh = 2 ∨ wh = 3 ∨ wh = 4 → 0 < l.length)
set_option maxRecDepth 100000 in
set_option maxHeartbeats 8000000 in
theorem line_c (w wx : World) (R0 m : Nat) (t : ByteArray) (l : List (Scene × Value)) (v : Value) (wh : Int) (s : ByteArray) (h : RdG w R0 t l v wh wx) (hb : RdB m l) (hm : m ≤ 1000000) (hs : s.size ≤ 1000000) (hml : MaxLaid wx) (hw : RdW wh l) :
    Calls Tryz.prog 52 #[.pointer (some ⟨R0, 0, none⟩), .string s] wx (RdO w R0 (m + 1) (lineR ⟨t, l.map (·.1), wh⟩ s)) := by
  have HB := Lib.hid hb
  have HBE := Lib.hid h.bo.bel
  have r2 : wx.cell? ⟨R0, 2, none⟩ = some (.int .i64 wh) := (h.cell (p := (R0, rdCs t v wh, 97)) (by simp)).1 2
  have f2 : wx.frozen? ⟨R0, 2, none⟩ = false := (h.cell (p := (R0, rdCs t v wh, 97)) (by simp)).2 2
  cases he : s.toList.isEmpty with
  | true =>
    have hz : s.size = 0 := by rw [(empty_iff s).1 he]; rfl
    have HS := Lib.hid (show lineR ⟨t, l.map (·.1), wh⟩ s = _ from if_pos hz)
    have HG1 := Lib.hid (fun q : Int => show RdG w R0 t l v q (wx.setCell ⟨R0, 2, none⟩ (.int .i64 q)) from NS.set (i := 2) h (.int .i64 q) (fun p hp => by cases hp))
    clear h hb hml hz
    rcases hw.1 with rfl | rfl | rfl | rfl | rfl
    · have HR := Lib.hid (HS.out.trans ((if_neg (by dsimp only; decide)).trans (congrArg (fun q => some (⟨t, l.map (·.1), q⟩ : Rd)) (if_pos rfl))))
      go_enter Tryz.func52, Tryz.ntmps52
      go_wp2
      go_ret
      exact .inl ⟨_, l, v, HR.out, rfl, rfl, ⟨Nat.le_succ_of_le HB.out.1, fun x hx => Nat.le_succ_of_le (HB.out.2 x hx)⟩, HG1.out 1⟩
    · have HR := Lib.hid (HS.out.trans (if_pos (.inl rfl)))
      go_enter Tryz.func52, Tryz.ntmps52
      go_wp2
      go_ret
      exact RdO.no HR.out HBE.out
    · have HR := Lib.hid (HS.out.trans (if_pos (.inr rfl)))
      go_enter Tryz.func52, Tryz.ntmps52
      go_wp2
      go_ret
      exact RdO.no HR.out HBE.out
    · have HR := Lib.hid (HS.out.trans ((if_neg (by dsimp only; decide)).trans (congrArg (fun q => some (⟨t, l.map (·.1), q⟩ : Rd)) (if_neg (by dsimp only; decide)))))
      go_enter Tryz.func52, Tryz.ntmps52
      go_wp2
      go_ret
      exact .inl ⟨_, l, v, HR.out, rfl, rfl, ⟨Nat.le_succ_of_le HB.out.1, fun x hx => Nat.le_succ_of_le (HB.out.2 x hx)⟩, HG1.out 2⟩
    · have HR := Lib.hid (HS.out.trans ((if_neg (by dsimp only; decide)).trans (congrArg (fun q => some (⟨t, l.map (·.1), q⟩ : Rd)) (if_neg (by dsimp only; decide)))))
      go_enter Tryz.func52, Tryz.ntmps52
      go_wp2
      go_ret
      exact .inl ⟨_, l, v, HR.out, rfl, rfl, ⟨Nat.le_succ_of_le HB.out.1, fun x hx => Nat.le_succ_of_le (HB.out.2 x hx)⟩, HG1.out 2⟩
  | false =>
    have hz : ¬ s.size = 0 := fun h => by
      have h0 : s = ⟨#[]⟩ := ba_ext (List.eq_nil_of_length_eq_zero (by simpa using h))
      rw [(empty_iff s).2 h0] at he; cases he
    have hz0 : 0 < s.size := by omega
    have HS := Lib.hid (show lineR ⟨t, l.map (·.1), wh⟩ s = _ from if_neg hz)
    have HBG := Lib.hid (show wh = 1 ∨ wh = 2 → Calls Tryz.prog 98 #[.pointer (some ⟨R0, 0, none⟩), .string s] wx (RdO w R0 (m + 1) (beginsR ⟨t, l.map (·.1), wh⟩ s)) from fun h12 => by
      by_cases hq : s[0] = 35
      · exact beginsH_c w wx R0 m t l v wh s h hb hm hz0 hs hml hq
      · exact beginsP_c w wx R0 m t l v wh s h hb hm hz0 hs hml hq (h12.imp id fun e => ⟨e, hw.2 (.inl e)⟩))
    have HSD := Lib.hid (show wh = 4 → Calls Tryz.prog 97 #[.pointer (some ⟨R0, 0, none⟩), .string s] wx (RdO w R0 (m + 1) (saidR ⟨t, l.map (·.1), wh⟩ s)) from fun h4 => said_c w wx R0 m t l v wh s h (hw.2 (.inr (.inr h4))) hb hm hz0 hs)
    clear h hb hml hz hz0
    rcases hw.1 with rfl | rfl | rfl | rfl | rfl
    · have HR := Lib.hid (HS.out.trans ((if_neg (by dsimp only; decide)).trans (if_neg (by dsimp only; decide))))
      go_enter Tryz.func52, Tryz.ntmps52
      go_wp2
      go_ret
      exact RdO.no HR.out HBE.out
    · have HR := Lib.hid (HS.out.trans ((if_neg (by dsimp only; decide)).trans (if_pos (.inl rfl))))
      have HC := Lib.hid (HBG.out (.inl rfl))
      rw [← HR.out] at HC
      go_enter Tryz.func52, Tryz.ntmps52
      go_wp2_with fail
      refine HC.out.mono ?_
      intro e w3 he3
      rcases he3 with ⟨r, l', v', h1, rfl, h3, h4, h5⟩ | ⟨h1, rfl, h3⟩
      · have H5 := Lib.hid h5
        clear h5
        go_wp2
        go_ret
        exact .inl ⟨r, l', v', h1, rfl, h3, h4, H5.out⟩
      · go_wp2
        go_ret
        exact .inr ⟨h1, rfl, h3⟩
    · have HR := Lib.hid (HS.out.trans ((if_neg (by dsimp only; decide)).trans (if_pos (.inr rfl))))
      have HC := Lib.hid (HBG.out (.inr rfl))
      rw [← HR.out] at HC
      go_enter Tryz.func52, Tryz.ntmps52
      go_wp2_with fail
      refine HC.out.mono ?_
      intro e w3 he3
      rcases he3 with ⟨r, l', v', h1, rfl, h3, h4, h5⟩ | ⟨h1, rfl, h3⟩
      · have H5 := Lib.hid h5
        clear h5
        go_wp2
        go_ret
        exact .inl ⟨r, l', v', h1, rfl, h3, h4, H5.out⟩
      · go_wp2
        go_ret
        exact .inr ⟨h1, rfl, h3⟩
    · have HR := Lib.hid (HS.out.trans ((if_neg (by dsimp only; decide)).trans (if_neg (by dsimp only; decide))))
      go_enter Tryz.func52, Tryz.ntmps52
      go_wp2
      go_ret
      exact RdO.no HR.out HBE.out
    · have HR := Lib.hid (HS.out.trans (if_pos rfl))
      have HC := Lib.hid (HSD.out rfl)
      rw [← HR.out] at HC
      go_enter Tryz.func52, Tryz.ntmps52
      go_wp2_with fail
      refine HC.out.mono ?_
      intro e w3 he3
      rcases he3 with ⟨r, l', v', h1, rfl, h3, h4, h5⟩ | ⟨h1, rfl, h3⟩
      · have H5 := Lib.hid h5
        clear h5
        go_wp2
        go_ret
        exact .inl ⟨r, l', v', h1, rfl, h3, h4, H5.out⟩
      · go_wp2
        go_ret
        exact .inr ⟨h1, rfl, h3⟩
end Go.Proofs.YtndillbimibecaaGreatDoor

