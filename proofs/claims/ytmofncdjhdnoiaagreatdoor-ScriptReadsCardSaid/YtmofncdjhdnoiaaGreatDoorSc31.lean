/- Texts packed: RgA, RgB. -/
import Derived.Test.YtmofncdjhdnoiaaGreatDoorSc13
import Derived.Test.YtmofncdjhdnoiaaGreatDoorSc27
import Derived.Test.YtmofncdjhdnoiaaGreatDoorSc24
import Derived.Test.YtmofncdjhdnoiaaGreatDoorSc30
import Derived.Test.YtmofncdjhdnoiaaGreatDoorSc01
import Derived.BigQuiet
import Derived.Deep.QuietTactic
import Derived.Deep.RegionHeld3
import Derived.Deep.RegionWith
import Derived.Test.YtmofncdjhdnoiaaGreatDoorSc28
/- The reference's reading of one line: the paragraph that a line is. -/
namespace Go.Proofs.YtmofncdjhdnoiaaGreatDoor
set_option linter.unusedVariables false
open Go.RowKit Go.Sort

/-- A paragraph by value, and whether it can be there. -/
def ParO (o : Option Para) (N : Nat) (w : World) (e : Ending) (w' : World) : Prop :=
  ∃ (p : Para) (b : Bool), e = .returned (.tuple #[.agg #[.int .i64 p.kind, .string p.text], .bool b]) ∧ Below w.heap.size w w' ∧ p.text.size ≤ N ∧ o = if b = true then some p else none
theorem ParO.mk {o : Option Para} {N : Nat} {w w' : World} {k : Int} {s : ByteArray} {b : Bool} (h : o = if b = true then some ⟨k, s⟩ else none) (hs : s.size ≤ N) (hb : Below w.heap.size w w') : ParO o N w (.returned (.tuple #[.agg #[.int .i64 k, .string s], .bool b])) w' := ⟨⟨k, s⟩, b, rfl, hb, hs, h⟩
theorem parFin {w wx : World} (h : PvG w [(w.heap.size, pCs 0 ⟨#[]⟩, 97)] wx) (k : Int) (s : ByteArray) :
    (wx.frozen? ⟨w.heap.size, 0, none⟩ = false ∧ wx.frozen? ⟨w.heap.size, 1, none⟩ = false) ∧ (wx.cell? ⟨w.heap.size, 0, none⟩ = some (.int .i64 0) ∧ wx.cell? ⟨w.heap.size, 1, none⟩ = some (.string ⟨#[]⟩)) ∧
    Below w.heap.size w ((wx.setCell ⟨w.heap.size, 0, none⟩ (.int .i64 k)).setCell ⟨w.heap.size, 1, none⟩ (.string s)) := by
  obtain ⟨y, f⟩ := h.cell (p := (w.heap.size, pCs 0 ⟨#[]⟩, 97)) (by simp)
  exact ⟨⟨f 0, f 1⟩, ⟨y 0, y 1⟩, ((h.set (i := 0) (fun h => h) (.int .i64 k) (by simp)).set (i := 1) (fun h => h) (.string s) (by simp)).bel⟩
theorem tail_data {s : ByteArray} : (s.extract 1 s.size).data.toList = s.data.toList.drop 1 := by
  rw [ByteArray.data_extract]
  rcases s with ⟨⟨l⟩⟩
  show ((⟨l⟩ : Array UInt8).extract 1 l.length).toList = l.drop 1
  rw [List.extract_toArray]
  show (l.drop 1).take (l.length - 1) = l.drop 1
  exact List.take_of_length_le (by rw [List.length_drop]; exact Nat.le_refl _)
theorem aside_iff {s : ByteArray} (h : s.data.toList.head? = some 40) : Lib.hasSuffix (s.extract 1 s.size).data.toList [41] = true ↔ (Lib.hasSuffix s.data.toList (⟨#[41]⟩ : ByteArray).data.toList = true ∧ 2 ≤ s.size) := by
  rw [tail_data]
  have hsz : s.size = s.data.toList.length := by simp
  rw [hsz]
  generalize s.data.toList = l at *
  cases l with
  | nil => cases h
  | cons x r =>
    injection h with h; subst h
    rw [List.drop_one, List.tail_cons]
    show ([41] : List UInt8).isSuffixOf r = true ↔ ([41] : List UInt8).isSuffixOf (40 :: r) = true ∧ 2 ≤ r.length + 1
    rw [List.isSuffixOf_iff_suffix, List.isSuffixOf_iff_suffix]
    constructor
    · intro hr
      have := hr.length_le
      exact ⟨hr.trans (List.suffix_cons 40 r), by simp at this; omega⟩
    · rintro ⟨hr, h2⟩
      rcases List.suffix_cons_iff.1 hr with e | hr
      · injection e with e _; cases e
      · exact hr
theorem aside_cut {s : ByteArray} (h : Lib.hasSuffix (s.extract 1 s.size).data.toList [41] = true) : (⟨(Lib.trimSuffix (s.extract 1 s.size).data.toList [41]).toArray⟩ : ByteArray) = s.extract 1 (s.size - 1) := by
  unfold Lib.trimSuffix
  rw [if_pos h, tail_data]
  rcases s with ⟨⟨l⟩⟩
  apply ByteArray.ext
  rw [ByteArray.data_extract]
  show (⟨(l.drop 1).take ((l.drop 1).length - 1)⟩ : Array UInt8) = (⟨l⟩ : Array UInt8).extract 1 (l.length - 1)
  rw [List.extract_toArray]
  simp [List.extract]
theorem trimS_le (l p : List UInt8) : (⟨(Lib.trimSuffix l p).toArray⟩ : ByteArray).size ≤ l.length := by
  show (Lib.trimSuffix l p).toArray.size ≤ _
  unfold Lib.trimSuffix
  split <;> simp
theorem head_byte {s : ByteArray} (hs : 0 < s.size) (c : UInt8) (h : s[0] = c) : s.data.toList.head? = some c := by
  have h0 := Lib.data_getElem? s 0 hs
  rw [h] at h0
  cases hl : s.data.toList with
  | nil => rw [hl] at h0; cases h0
  | cons x r => rw [hl] at h0; simpa using h0
set_option maxRecDepth 100000 in
set_option maxHeartbeats 4000000 in
theorem groupPara_c (s : ByteArray) (w : World) (hs0 : 0 < s.size) (hs : s.size ≤ 1000000) : Calls Tryz.prog 88 #[.string s] w (ParO (grpR s) s.size w) := by
  have hG : PvG w [(w.heap.size, pCs 0 ⟨#[]⟩, 97)] (w.alloc (.cells (pCs 0 ⟨#[]⟩) 97)) := (pvStart w).new (pCs 0 ⟨#[]⟩) 97
  have e0 := byteAt_eq hs0
  have HS := Lib.hid (show grpR s = if s[0] = 40 then if Lib.hasSuffix s.data.toList (⟨#[41]⟩ : ByteArray).data.toList = true ∧ 2 ≤ s.size then some ⟨3, s.extract 1 (s.size - 1)⟩ else none
    else if s[0] = 92 then if marked s [40, 92] = true then some ⟨4, s.extract 1 s.size⟩ else none else some ⟨4, s⟩ from by unfold grpR; rw [e0])
  have p0 : (0 : Int) < s.size := by omega
  have p1 : (1 : Int) ≤ s.size := by omega
  have HX := Lib.hid (show (s.extract 1 s.size).size ≤ s.size by rw [ByteArray.size_extract]; omega)
  clear e0
  go_enter Tryz.func88, Tryz.ntmps88
  go_upto_region 1 with (fail)
  generalize hW : w.alloc (.cells #[.int .i64 0, .string ⟨#[]⟩] 97) = w1
  have G1 := Lib.hid (show PvG w [(w.heap.size, pCs 0 ⟨#[]⟩, 97)] w1 by rw [← hW]; exact hG)
  clear hG hW
  rcases byF s[0] 40 with ⟨q, qa⟩ | ⟨q, qa⟩
  · have qa' : ((s[0].toNat : Int) == 40) = true := qa
    have HS1 := Lib.hid (HS.out.trans (if_pos q))
    have HCS := Lib.hid (Tryz.strings_CutSuffix (s.extract 1 s.size) ⟨#[41]⟩ w1 (by have := HX.out; omega))
    have HAI := Lib.hid (aside_iff (head_byte hs0 40 q))
    have HAC := Lib.hid (@aside_cut s)
    have HTL := Lib.hid (trimS_le (s.extract 1 s.size).data.toList [41])
    have hlen : (s.extract 1 s.size).data.toList.length = (s.extract 1 s.size).size := by simp
    clear qa HS q
    obtain ⟨sb, hsb⟩ : ∃ sb, Lib.hasSuffix (s.extract 1 s.size).data.toList [41] = sb := ⟨_, rfl⟩
    have hsb' : Lib.hasSuffix (s.extract 1 s.size).data.toList (⟨#[41]⟩ : ByteArray).data.toList = sb := hsb
    have HTE := Lib.hid (show sb = true → (⟨(Lib.trimSuffix (s.extract 1 s.size).data.toList (⟨#[41]⟩ : ByteArray).data.toList).toArray⟩ : ByteArray) = s.extract 1 (s.size - 1) from fun h => HAC.out (hsb.trans h))
    have HTZ := Lib.hid (show (⟨(Lib.trimSuffix (s.extract 1 s.size).data.toList (⟨#[41]⟩ : ByteArray).data.toList).toArray⟩ : ByteArray).size ≤ s.size from Nat.le_trans HTL.out (by rw [hlen]; exact HX.out))
    rw [hsb] at HAI
    rw [hsb'] at HCS
    clear hsb hsb' hlen HTL HAC
    generalize (⟨(Lib.trimSuffix (s.extract 1 s.size).data.toList (⟨#[41]⟩ : ByteArray).data.toList).toArray⟩ : ByteArray) = tr at *
    have HR := Lib.hid (show grpR s = if sb = true then some ⟨3, tr⟩ else none by
      rw [HS1.out]
      cases sb with
      | true => rw [if_pos (HAI.out.1 rfl), if_pos rfl, HTE.out rfl]
      | false => rw [if_neg (fun h => by have := HAI.out.2 h; cases this), if_neg (by simp)])
    obtain ⟨⟨f0, f1⟩, ⟨y0, y1⟩, hB⟩ := parFin G1.out 3 tr
    have HB := Lib.hid hB
    clear hB HAI HTE HS1
    go_wp2_with (first | (go_at_call 147; refine HCS.out.mono ?_; rintro e w' ⟨rfl, rfl⟩) | fail)
    refine ⟨rfl, .tuple #[.agg #[.int .i64 3, .string tr], .bool sb], (by rw [results_cell_tmp rfl]; go_simp), ?_⟩
    exact ParO.mk HR.out HTZ.out HB.out
  have qa' : ((s[0].toNat : Int) == 40) = false := qa
  have HS1 := Lib.hid (HS.out.trans (if_neg q))
  clear qa HS q
  rcases byF s[0] 92 with ⟨q, qb⟩ | ⟨q, qb⟩
  · have qb' : ((s[0].toNat : Int) == 92) = true := qb
    have HS2 := Lib.hid (HS1.out.trans (if_pos q))
    clear qb HS1 q
    by_cases h2 : 1 < s.size
    · have h2' : (1 : Int) < s.size := by omega
      have HMK := Lib.hid (show marked s [40, 92] = ([40, 92] : List UInt8).contains s[1] by unfold marked; rw [decide_eq_true (by omega), byteAt_eq h2, Bool.true_and])
      have HIX := Lib.hid (fun W => show Calls Tryz.prog 132 #[.string ⟨#[40, 92]⟩, .int .u8 (s[1].toNat : Int)] W fun e w' => e = .returned (.int .i64 (Lib.indexByte (⟨#[40, 92]⟩ : ByteArray).data.toList s[1])) ∧ w' = W from (idxB_c ⟨#[40, 92]⟩ s[1] W).mono fun _ _ h => ⟨h.1, h.2.symm⟩)
      have HMEM := Lib.hid (show ([40, 92] : List UInt8).contains s[1] = true ↔ 0 ≤ Lib.indexByte (⟨#[40, 92]⟩ : ByteArray).data.toList s[1] from (List.contains_iff_mem).trans (idxB_mem _ _))
      have hu : s[1].toNat < 256 := s[1].toNat_lt
      generalize Lib.indexByte (⟨#[40, 92]⟩ : ByteArray).data.toList s[1] = ix at *
      have HR := Lib.hid (show grpR s = if decide (0 ≤ ix) = true then some ⟨4, s.extract 1 s.size⟩ else none by
        rw [HS2.out, HMK.out]
        by_cases h : 0 ≤ ix
        · rw [if_pos (HMEM.out.2 h), if_pos (decide_eq_true h)]
        · rw [if_neg (fun k => h (HMEM.out.1 k)), if_neg (fun k => h (of_decide_eq_true k))])
      go_upto_region 6 with (fail)
      obtain ⟨⟨f0, f1⟩, ⟨y0, y1⟩, hB⟩ := parFin G1.out 4 (s.extract 1 s.size)
      have HB := Lib.hid hB
      clear hB HMEM HMK HS2
      go_region_held3 (fun W' => W'.cell? ⟨w.heap.size, 0, none⟩ = some (.int .i64 0) ∨ True) (exact .inr trivial) (first | (go_at_call 132; refine (HIX.out _).mono ?_; rintro e w' ⟨rfl, rfl⟩) | fail)
      go_wp2
      refine ⟨rfl, .tuple #[.agg #[.int .i64 4, .string (s.extract 1 s.size)], .bool (decide (0 ≤ ix))], (by rw [results_cell_tmp rfl]; go_simp), ?_⟩
      exact ParO.mk HR.out HX.out HB.out.drew
    · have h2' : ¬ (1 : Int) < s.size := by omega
      have HR := Lib.hid (show grpR s = if false = true then some ⟨4, s.extract 1 s.size⟩ else none by
        rw [HS2.out]
        rw [if_neg (fun h => by unfold marked at h; rw [decide_eq_false (by omega)] at h; cases h), if_neg (by simp)])
      obtain ⟨⟨f0, f1⟩, ⟨y0, y1⟩, hB⟩ := parFin G1.out 4 (s.extract 1 s.size)
      have HB := Lib.hid hB
      clear hB HS2 h2
      go_upto_region 6 with (fail)
      go_region
      go_wp2
      refine ⟨rfl, .tuple #[.agg #[.int .i64 4, .string (s.extract 1 s.size)], .bool false], (by rw [results_cell_tmp rfl]; go_simp), ?_⟩
      exact ParO.mk HR.out HX.out HB.out.drew
  have qb' : ((s[0].toNat : Int) == 92) = false := qb
  have HR := Lib.hid (show grpR s = if true = true then some ⟨4, s⟩ else none by rw [HS1.out, if_neg q, if_pos rfl])
  obtain ⟨⟨f0, f1⟩, ⟨y0, y1⟩, hB⟩ := parFin G1.out 4 s
  have HB := Lib.hid hB
  clear hB HS1 q qb
  go_wp2
  refine ⟨rfl, .tuple #[.agg #[.int .i64 4, .string s], .bool true], (by rw [results_cell_tmp rfl]; go_simp), ?_⟩
  exact ParO.mk HR.out (Nat.le_refl _) HB.out

theorem turn_iff {s : ByteArray} (hs : 0 < s.size) (h : s[0] = 62) : (Lib.hasPrefix s.data.toList (⟨#[62, 32]⟩ : ByteArray).data.toList = true ∧ ¬ s.size = 2) ↔ (2 < s.size ∧ byteAt s 1 = 32) := by
  have hh := head_byte hs 62 h
  have hsz : s.size = s.data.toList.length := by simp
  unfold byteAt
  rw [hsz]
  generalize s.data.toList = l at *
  show (([62, 32] : List UInt8).isPrefixOf l = true ∧ ¬ l.length = 2) ↔ _
  rw [List.isPrefixOf_iff_prefix]
  match l, hh with
  | [], hh => cases hh
  | [x], hh => simp
  | [x, y], hh => simp
  | x :: y :: z :: r, hh =>
    injection hh with hh; subst hh
    simp [List.cons_prefix_cons, List.getD]
    exact ⟨fun e => e.symm, fun e => e.symm⟩
theorem turn_cut {s : ByteArray} (h : Lib.hasPrefix s.data.toList (⟨#[62, 32]⟩ : ByteArray).data.toList = true) : (⟨(Lib.trimPrefix s.data.toList (⟨#[62, 32]⟩ : ByteArray).data.toList).toArray⟩ : ByteArray) = s.extract 2 s.size := by
  unfold Lib.trimPrefix
  rw [if_pos h]
  rcases s with ⟨⟨l⟩⟩
  apply ByteArray.ext
  rw [ByteArray.data_extract]
  show (⟨l.drop 2⟩ : Array UInt8) = (⟨l⟩ : Array UInt8).extract 2 l.length
  rw [List.extract_toArray]
  show (⟨l.drop 2⟩ : Array UInt8) = ⟨(l.drop 2).take (l.length - 2)⟩
  rw [List.take_of_length_le (by rw [List.length_drop]; exact Nat.le_refl _)]
set_option maxRecDepth 100000 in
set_option maxHeartbeats 4000000 in
theorem blockPara_c (s : ByteArray) (w : World) (hs0 : 0 < s.size) (hs : s.size ≤ 1000000) (hsp : SpLaid w) : Calls Tryz.prog 90 #[.string s] w (ParO (blkR s) s.size w) := by
  have hG : PvG w [(w.heap.size, pCs 0 ⟨#[]⟩, 97)] (w.alloc (.cells (pCs 0 ⟨#[]⟩) 97)) := (pvStart w).new (pCs 0 ⟨#[]⟩) 97
  have e0 := byteAt_eq hs0
  have HS := Lib.hid (show blkR s = if s[0] = 64 then if nameB (s.extract 1 s.size) = true then some ⟨2, s.extract 1 s.size⟩ else none
    else if s[0] = 62 then if Lib.hasPrefix s.data.toList (⟨#[62, 32]⟩ : ByteArray).data.toList = true ∧ ¬ s.size = 2 then some ⟨5, s.extract 2 s.size⟩ else none
    else if s[0] = 92 then if marked s [64, 62, 35, 92] = true then some ⟨1, s.extract 1 s.size⟩ else none else if s[0] = 35 then none else some ⟨1, s⟩ from by unfold blkR; rw [e0])
  have p0 : (0 : Int) < s.size := by omega
  have p1 : (1 : Int) ≤ s.size := by omega
  have HX := Lib.hid (show (s.extract 1 s.size).size ≤ s.size by rw [ByteArray.size_extract]; omega)
  clear e0
  go_enter Tryz.func90, Tryz.ntmps90
  go_upto_region 1 with (fail)
  generalize hW : w.alloc (.cells #[.int .i64 0, .string ⟨#[]⟩] 97) = w1
  have G1 := Lib.hid (show PvG w [(w.heap.size, pCs 0 ⟨#[]⟩, 97)] w1 by rw [← hW]; exact hG)
  clear hG hW
  rcases byF s[0] 64 with ⟨q, qa⟩ | ⟨q, qa⟩
  · have qa' : ((s[0].toNat : Int) == 64) = true := qa
    have HR := Lib.hid (show blkR s = if nameB (s.extract 1 s.size) = true then some ⟨2, s.extract 1 s.size⟩ else none from HS.out.trans (if_pos q))
    have HNM := Lib.hid (fun W (h : SpLaid W) => NameOf_c (s.extract 1 s.size) W (by have := HX.out; omega) h)
    have hsp1 := sp_below hsp G1.out.bel (Nat.le_refl _)
    clear qa HS q
    generalize nameB (s.extract 1 s.size) = nb at *
    go_upto_region 3 with (fail)
    have hsp2 := sp_below hsp G1.out.bel.drew (Nat.le_refl _)
    go_region_held3 (fun W' => W'.cell? ⟨w.heap.size, 0, none⟩ = some (.int .i64 0) ∨ True) (exact .inr trivial) (first | (go_at_call 121; refine (HNM.out _ hsp2).mono ?_; rintro e w3 ⟨rfl, hb3⟩; obtain ⟨⟨f0, f1⟩, ⟨y0, y1⟩, hB⟩ := parFin (G1.out.drew.below hb3) 2 (s.extract 1 s.size)) | fail)
    go_wp2
    refine ⟨rfl, .tuple #[.agg #[.int .i64 2, .string (s.extract 1 s.size)], .bool nb], (by rw [results_cell_tmp rfl]; go_simp), ?_⟩
    exact ParO.mk HR.out HX.out (by first | exact hB | exact hB.drew)
  have qa' : ((s[0].toNat : Int) == 64) = false := qa
  have HS1 := Lib.hid (HS.out.trans (if_neg q))
  clear qa HS q
  rcases byF s[0] 62 with ⟨q, qb⟩ | ⟨q, qb⟩
  · have qb' : ((s[0].toNat : Int) == 62) = true := qb
    have HS2 := Lib.hid (HS1.out.trans (if_pos q))
    have HTP := Lib.hid (fun W => Tryz.strings_TrimPrefix s ⟨#[62, 32]⟩ W)
    have HTI := Lib.hid (turn_iff hs0 q)
    have HTC := Lib.hid (@turn_cut s)
    have HTZ := Lib.hid (show (⟨(Lib.trimPrefix s.data.toList (⟨#[62, 32]⟩ : ByteArray).data.toList).toArray⟩ : ByteArray).size ≤ s.size from triP_size s ⟨#[62, 32]⟩)
    clear qb HS1 q
    by_cases h2 : 2 < s.size
    · have h2' : (2 : Int) < s.size := by omega
      have h1n : 1 < s.size := by omega
      have h1' : (1 : Int) < s.size := by omega
      have hu : s[1].toNat < 256 := s[1].toNat_lt
      have HR := Lib.hid (show blkR s = if ((s[1].toNat : Int) == 32) = true then some ⟨5, (⟨(Lib.trimPrefix s.data.toList (⟨#[62, 32]⟩ : ByteArray).data.toList).toArray⟩ : ByteArray)⟩ else none by
        rw [HS2.out]
        by_cases h : Lib.hasPrefix s.data.toList (⟨#[62, 32]⟩ : ByteArray).data.toList = true ∧ ¬ s.size = 2
        · have hb := (HTI.out.1 h).2
          rw [byteAt_eq h1n] at hb
          rw [if_pos h, if_pos (by rw [hb]; rfl), HTC.out h.1]
        · rw [if_neg h, if_neg]
          intro e
          have e2 : s[1] = 32 := UInt8.toNat_inj.1 (by have := beq_iff_eq.1 e; show s[1].toNat = 32; omega)
          exact h (HTI.out.2 ⟨h2, by rw [byteAt_eq h1n]; exact e2⟩))
      clear HTI HTC HS2
      generalize (⟨(Lib.trimPrefix s.data.toList (⟨#[62, 32]⟩ : ByteArray).data.toList).toArray⟩ : ByteArray) = tr at *
      obtain ⟨⟨f0, f1⟩, ⟨y0, y1⟩, hB⟩ := parFin G1.out 5 tr
      have HB := Lib.hid hB
      clear hB
      go_upto_region 5 with (fail)
      go_region_held3 (fun W' => W'.cell? ⟨w.heap.size, 0, none⟩ = some (.int .i64 0) ∨ True) (exact .inr trivial) (first | (go_at_call 150; refine (HTP.out _).mono ?_; rintro e w' ⟨rfl, rfl⟩) | fail)
      all_goals
        go_wp2
        refine ⟨rfl, .tuple #[.agg #[.int .i64 5, .string tr], .bool ((s[1].toNat : Int) == 32)], (by rw [results_cell_tmp rfl]; go_simp), ?_⟩
        exact ParO.mk HR.out HTZ.out HB.out.drew
    · have h2' : ¬ (2 : Int) < s.size := by omega
      have HR := Lib.hid (show blkR s = if false = true then some ⟨5, (⟨(Lib.trimPrefix s.data.toList (⟨#[62, 32]⟩ : ByteArray).data.toList).toArray⟩ : ByteArray)⟩ else none by
        rw [HS2.out, if_neg (fun h => h2 (HTI.out.1 h).1), if_neg (by simp)])
      clear HTI HTC HS2 h2
      generalize (⟨(Lib.trimPrefix s.data.toList (⟨#[62, 32]⟩ : ByteArray).data.toList).toArray⟩ : ByteArray) = tr at *
      obtain ⟨⟨f0, f1⟩, ⟨y0, y1⟩, hB⟩ := parFin G1.out 5 tr
      have HB := Lib.hid hB
      clear hB
      go_upto_region 5 with (fail)
      have h2q : ¬ (2 : Int) < s.size := by omega
      have h2e : decide ((2 : Int) < s.size) = false := decide_eq_false h2q
      refine stp_start [] (by kernel_rfl) (fun _ => True) ?_
      refine stp_reads (n := 11) [0, 3] [] (by simp only [pick, List.getElem?_cons_succ, List.getElem?_cons_zero]; rfl) (by simp only [pick, List.getElem?_cons_succ, List.getElem?_cons_zero]; rfl) (by rfl) (by kernel_rfl) (by rfl) (fun _ _ _ dd _ h => by cases dd <;> exact h) trivial (fun K1 hK1 L1 hL1 => ?_)
      repeat (first | go_big_quiet_step (fail) | quiet_step (fail))
      refine wpQuiet_nil (hL1 _ ?_)
      repeat (first | go_big_quiet_step (fail) | quiet_step (fail))
      refine wpQuiet_nil ?_
      refine hK1 _ ?_
      refine stp_two (i := 1) (j := 4) (by kernel_rfl) rfl rfl (by kernel_rfl) (by kernel_rfl) (by rfl) (by rfl) (fun K2 hK2 => ?_) (fun K3 hK3 => ?_)
      · refine Or.inl ⟨by kernel_rfl, ?_⟩
        go_simp
        refine (HTP.out _).mono ?_
        rintro e w' ⟨rfl, rfl⟩
        refine hK2 (fun _ => True) _ _ (fun _ h => h) (fun h => absurd h (by decide)) ?_
        refine stp_reads (n := 9) [2] [] (by simp only [pick, List.getElem?_cons_succ, List.getElem?_cons_zero]; rfl) (by simp only [pick, List.getElem?_cons_succ, List.getElem?_cons_zero]; rfl) (by rfl) (by kernel_rfl) (by rfl) (fun _ _ _ dd _ h => by cases dd <;> exact h) trivial (fun K4 hK4 L4 hL4 => ?_)
        repeat (first | go_big_quiet_step (fail) | quiet_step (fail))
        refine wpQuiet_nil (hL4 _ ?_)
        repeat (first | go_big_quiet_step (fail) | quiet_step (fail))
        refine wpQuiet_nil ?_
        refine hK4 _ ?_
        refine stp_one (i := 4) (by kernel_rfl) rfl (by kernel_rfl) (by rfl) (fun K5 hK5 => ?_)
        refine Or.inl ⟨by kernel_rfl, ?_⟩
        go_simp
        refine hK5 (fun _ => True) _ _ (fun _ h => h) (fun h => absurd h (by decide)) ?_
        refine stp_reads (n := 5) [5, 6, 7] [] (by simp only [pick, List.getElem?_cons_succ, List.getElem?_cons_zero]; rfl) (by simp only [pick, List.getElem?_cons_succ, List.getElem?_cons_zero]; rfl) (by rfl) (by kernel_rfl) (by rfl) (fun _ _ _ dd _ h => by cases dd <;> exact h) trivial (fun K6 hK6 L6 hL6 => ?_)
        repeat (first | go_big_quiet_step (fail) | quiet_step (fail))
        refine wpQuiet_nil (hL6 _ ?_)
        repeat (first | go_big_quiet_step (fail) | quiet_step (fail))
        refine wpQuiet_nil ?_
        refine hK6 _ ?_
        refine stp_two (i := 8) (j := 11) (by kernel_rfl) rfl rfl (by kernel_rfl) (by kernel_rfl) (by rfl) (by rfl) (fun K7 hK7 => ?_) (fun K8 hK8 => ?_)
        · refine Or.inr ⟨by kernel_rfl, ?_⟩
          refine hK7 (fun _ => True) _ _ (fun _ h => h) (fun h => absurd h (by decide)) ?_
          refine stp_reads (n := 2) [9, 10] [] (by simp only [pick, List.getElem?_cons_succ, List.getElem?_cons_zero]; rfl) (by simp only [pick, List.getElem?_cons_succ, List.getElem?_cons_zero]; rfl) (by rfl) (by kernel_rfl) (by rfl) (fun _ _ _ dd _ h => by cases dd <;> exact h) trivial (fun K9 hK9 L9 hL9 => ?_)
          repeat (first | go_big_quiet_step (fail) | quiet_step (fail))
          refine wpQuiet_nil (hL9 _ ?_)
          repeat (first | go_big_quiet_step (fail) | quiet_step (fail))
          refine wpQuiet_nil ?_
          refine hK9 _ ?_
          refine stp_one (i := 11) (by kernel_rfl) rfl (by kernel_rfl) (by rfl) (fun K10 hK10 => ?_)
          refine Or.inl ⟨by kernel_rfl, ?_⟩
          go_simp
          refine hK10 (fun _ => True) _ _ (fun _ h => h) (fun h => absurd h (by decide)) ?_
          refine stp_reads (n := 0) [12] [] (by simp only [pick, List.getElem?_cons_succ, List.getElem?_cons_zero]; rfl) (by simp only [pick, List.getElem?_cons_succ, List.getElem?_cons_zero]; rfl) (by rfl) (by kernel_rfl) (by rfl) (fun _ _ _ dd _ h => by cases dd <;> exact h) trivial (fun K11 hK11 L11 hL11 => ?_)
          repeat (first | go_big_quiet_step (fail) | quiet_step (fail))
          refine wpQuiet_nil (hL11 _ ?_)
          repeat (first | go_big_quiet_step (fail) | quiet_step (fail))
          refine wpQuiet_nil ?_
          refine hK11 _ ?_
          refine stp_end (by kernel_rfl) ?_
          go_wp2
          refine ⟨rfl, .tuple #[.agg #[.int .i64 5, .string tr], .bool false], (by rw [results_cell_tmp rfl]; go_simp), ?_⟩
          exact ParO.mk HR.out HTZ.out HB.out.drew
        · refine Or.inl ⟨by kernel_rfl, ?_⟩
          go_simp
          refine hK8 (fun _ => True) _ _ (fun _ h => h) (fun h => absurd h (by decide)) ?_
          refine stp_one (i := 8) (by kernel_rfl) rfl (by kernel_rfl) (by rfl) (fun K12 hK12 => ?_)
          refine Or.inr ⟨by kernel_rfl, ?_⟩
          refine hK12 (fun _ => True) _ _ (fun _ h => h) (fun h => absurd h (by decide)) ?_
          refine stp_reads (n := 0) [9, 10, 12] [] (by simp only [pick, List.getElem?_cons_succ, List.getElem?_cons_zero]; rfl) (by simp only [pick, List.getElem?_cons_succ, List.getElem?_cons_zero]; rfl) (by rfl) (by kernel_rfl) (by rfl) (fun _ _ _ dd _ h => by cases dd <;> exact h) trivial (fun K13 hK13 L13 hL13 => ?_)
          repeat (first | go_big_quiet_step (fail) | quiet_step (fail))
          refine wpQuiet_nil (hL13 _ ?_)
          repeat (first | go_big_quiet_step (fail) | quiet_step (fail))
          refine wpQuiet_nil ?_
          refine hK13 _ ?_
          refine stp_end (by kernel_rfl) ?_
          go_wp2
          refine ⟨rfl, .tuple #[.agg #[.int .i64 5, .string tr], .bool false], (by rw [results_cell_tmp rfl]; go_simp), ?_⟩
          exact ParO.mk HR.out HTZ.out HB.out.drew
      · refine Or.inl ⟨by kernel_rfl, ?_⟩
        go_simp
        refine hK3 (fun _ => True) _ _ (fun _ h => h) (fun h => absurd h (by decide)) ?_
        refine stp_reads (n := 9) [5] [] (by simp only [pick, List.getElem?_cons_succ, List.getElem?_cons_zero]; rfl) (by simp only [pick, List.getElem?_cons_succ, List.getElem?_cons_zero]; rfl) (by rfl) (by kernel_rfl) (by rfl) (fun _ _ _ dd _ h => by cases dd <;> exact h) trivial (fun K14 hK14 L14 hL14 => ?_)
        repeat (first | go_big_quiet_step (fail) | quiet_step (fail))
        refine wpQuiet_nil (hL14 _ ?_)
        repeat (first | go_big_quiet_step (fail) | quiet_step (fail))
        refine wpQuiet_nil ?_
        refine hK14 _ ?_
        refine stp_one (i := 1) (by kernel_rfl) rfl (by kernel_rfl) (by rfl) (fun K15 hK15 => ?_)
        refine Or.inl ⟨by kernel_rfl, ?_⟩
        go_simp
        refine (HTP.out _).mono ?_
        rintro e w' ⟨rfl, rfl⟩
        refine hK15 (fun _ => True) _ _ (fun _ h => h) (fun h => absurd h (by decide)) ?_
        refine stp_reads (n := 5) [2, 6, 7] [] (by simp only [pick, List.getElem?_cons_succ, List.getElem?_cons_zero]; rfl) (by simp only [pick, List.getElem?_cons_succ, List.getElem?_cons_zero]; rfl) (by rfl) (by kernel_rfl) (by rfl) (fun _ _ _ dd _ h => by cases dd <;> exact h) trivial (fun K16 hK16 L16 hL16 => ?_)
        repeat (first | go_big_quiet_step (fail) | quiet_step (fail))
        refine wpQuiet_nil (hL16 _ ?_)
        repeat (first | go_big_quiet_step (fail) | quiet_step (fail))
        refine wpQuiet_nil ?_
        refine hK16 _ ?_
        refine stp_two (i := 8) (j := 11) (by kernel_rfl) rfl rfl (by kernel_rfl) (by kernel_rfl) (by rfl) (by rfl) (fun K17 hK17 => ?_) (fun K18 hK18 => ?_)
        · refine Or.inr ⟨by kernel_rfl, ?_⟩
          refine hK17 (fun _ => True) _ _ (fun _ h => h) (fun h => absurd h (by decide)) ?_
          refine stp_reads (n := 2) [9, 10] [] (by simp only [pick, List.getElem?_cons_succ, List.getElem?_cons_zero]; rfl) (by simp only [pick, List.getElem?_cons_succ, List.getElem?_cons_zero]; rfl) (by rfl) (by kernel_rfl) (by rfl) (fun _ _ _ dd _ h => by cases dd <;> exact h) trivial (fun K19 hK19 L19 hL19 => ?_)
          repeat (first | go_big_quiet_step (fail) | quiet_step (fail))
          refine wpQuiet_nil (hL19 _ ?_)
          repeat (first | go_big_quiet_step (fail) | quiet_step (fail))
          refine wpQuiet_nil ?_
          refine hK19 _ ?_
          refine stp_one (i := 11) (by kernel_rfl) rfl (by kernel_rfl) (by rfl) (fun K20 hK20 => ?_)
          refine Or.inl ⟨by kernel_rfl, ?_⟩
          go_simp
          refine hK20 (fun _ => True) _ _ (fun _ h => h) (fun h => absurd h (by decide)) ?_
          refine stp_reads (n := 0) [12] [] (by simp only [pick, List.getElem?_cons_succ, List.getElem?_cons_zero]; rfl) (by simp only [pick, List.getElem?_cons_succ, List.getElem?_cons_zero]; rfl) (by rfl) (by kernel_rfl) (by rfl) (fun _ _ _ dd _ h => by cases dd <;> exact h) trivial (fun K21 hK21 L21 hL21 => ?_)
          repeat (first | go_big_quiet_step (fail) | quiet_step (fail))
          refine wpQuiet_nil (hL21 _ ?_)
          repeat (first | go_big_quiet_step (fail) | quiet_step (fail))
          refine wpQuiet_nil ?_
          refine hK21 _ ?_
          refine stp_end (by kernel_rfl) ?_
          go_wp2
          refine ⟨rfl, .tuple #[.agg #[.int .i64 5, .string tr], .bool false], (by rw [results_cell_tmp rfl]; go_simp), ?_⟩
          exact ParO.mk HR.out HTZ.out HB.out.drew
        · refine Or.inl ⟨by kernel_rfl, ?_⟩
          go_simp
          refine hK18 (fun _ => True) _ _ (fun _ h => h) (fun h => absurd h (by decide)) ?_
          refine stp_one (i := 8) (by kernel_rfl) rfl (by kernel_rfl) (by rfl) (fun K22 hK22 => ?_)
          refine Or.inr ⟨by kernel_rfl, ?_⟩
          refine hK22 (fun _ => True) _ _ (fun _ h => h) (fun h => absurd h (by decide)) ?_
          refine stp_reads (n := 0) [9, 10, 12] [] (by simp only [pick, List.getElem?_cons_succ, List.getElem?_cons_zero]; rfl) (by simp only [pick, List.getElem?_cons_succ, List.getElem?_cons_zero]; rfl) (by rfl) (by kernel_rfl) (by rfl) (fun _ _ _ dd _ h => by cases dd <;> exact h) trivial (fun K23 hK23 L23 hL23 => ?_)
          repeat (first | go_big_quiet_step (fail) | quiet_step (fail))
          refine wpQuiet_nil (hL23 _ ?_)
          repeat (first | go_big_quiet_step (fail) | quiet_step (fail))
          refine wpQuiet_nil ?_
          refine hK23 _ ?_
          refine stp_end (by kernel_rfl) ?_
          go_wp2
          refine ⟨rfl, .tuple #[.agg #[.int .i64 5, .string tr], .bool false], (by rw [results_cell_tmp rfl]; go_simp), ?_⟩
          exact ParO.mk HR.out HTZ.out HB.out.drew
  have qb' : ((s[0].toNat : Int) == 62) = false := qb
  have HS2 := Lib.hid (HS1.out.trans (if_neg q))
  clear qb HS1 q
  rcases byF s[0] 92 with ⟨q, qc⟩ | ⟨q, qc⟩
  · have qc' : ((s[0].toNat : Int) == 92) = true := qc
    have HS3 := Lib.hid (HS2.out.trans (if_pos q))
    clear qc HS2 q
    by_cases h2 : 1 < s.size
    · have h2' : (1 : Int) < s.size := by omega
      have HMK := Lib.hid (show marked s [64, 62, 35, 92] = ([64, 62, 35, 92] : List UInt8).contains s[1] by unfold marked; rw [decide_eq_true (by omega), byteAt_eq h2, Bool.true_and])
      have HIX := Lib.hid (fun W => show Calls Tryz.prog 132 #[.string ⟨#[64, 62, 35, 92]⟩, .int .u8 (s[1].toNat : Int)] W fun e w' => e = .returned (.int .i64 (Lib.indexByte (⟨#[64, 62, 35, 92]⟩ : ByteArray).data.toList s[1])) ∧ w' = W from (idxB_c ⟨#[64, 62, 35, 92]⟩ s[1] W).mono fun _ _ h => ⟨h.1, h.2.symm⟩)
      have HMEM := Lib.hid (show ([64, 62, 35, 92] : List UInt8).contains s[1] = true ↔ 0 ≤ Lib.indexByte (⟨#[64, 62, 35, 92]⟩ : ByteArray).data.toList s[1] from (List.contains_iff_mem).trans (idxB_mem _ _))
      have hu : s[1].toNat < 256 := s[1].toNat_lt
      generalize Lib.indexByte (⟨#[64, 62, 35, 92]⟩ : ByteArray).data.toList s[1] = ix at *
      have HR := Lib.hid (show blkR s = if decide (0 ≤ ix) = true then some ⟨1, s.extract 1 s.size⟩ else none by
        rw [HS3.out, HMK.out]
        by_cases h : 0 ≤ ix
        · rw [if_pos (HMEM.out.2 h), if_pos (decide_eq_true h)]
        · rw [if_neg (fun k => h (HMEM.out.1 k)), if_neg (fun k => h (of_decide_eq_true k))])
      go_upto_region 7 with (fail)
      obtain ⟨⟨f0, f1⟩, ⟨y0, y1⟩, hB⟩ := parFin G1.out 1 (s.extract 1 s.size)
      have HB := Lib.hid hB
      clear hB HMEM HMK HS3
      go_region_held3 (fun W' => W'.cell? ⟨w.heap.size, 0, none⟩ = some (.int .i64 0) ∨ True) (exact .inr trivial) (first | (go_at_call 132; refine (HIX.out _).mono ?_; rintro e w' ⟨rfl, rfl⟩) | fail)
      go_wp2
      refine ⟨rfl, .tuple #[.agg #[.int .i64 1, .string (s.extract 1 s.size)], .bool (decide (0 ≤ ix))], (by rw [results_cell_tmp rfl]; go_simp), ?_⟩
      exact ParO.mk HR.out HX.out HB.out.drew
    · have h2' : ¬ (1 : Int) < s.size := by omega
      have HR := Lib.hid (show blkR s = if false = true then some ⟨1, s.extract 1 s.size⟩ else none by
        rw [HS3.out]
        rw [if_neg (fun h => by unfold marked at h; rw [decide_eq_false (by omega)] at h; cases h), if_neg (by simp)])
      obtain ⟨⟨f0, f1⟩, ⟨y0, y1⟩, hB⟩ := parFin G1.out 1 (s.extract 1 s.size)
      have HB := Lib.hid hB
      clear hB HS3 h2
      go_upto_region 7 with (fail)
      go_region
      go_wp2
      refine ⟨rfl, .tuple #[.agg #[.int .i64 1, .string (s.extract 1 s.size)], .bool false], (by rw [results_cell_tmp rfl]; go_simp), ?_⟩
      exact ParO.mk HR.out HX.out HB.out.drew
  have qc' : ((s[0].toNat : Int) == 92) = false := qc
  have HS3 := Lib.hid (HS2.out.trans (if_neg q))
  clear qc HS2 q
  have HR := Lib.hid (show blkR s = if ((s[0].toNat : Int) != 35) = true then some ⟨1, s⟩ else none by
    rw [HS3.out]
    by_cases h : s[0] = 35
    · rw [if_pos h, if_neg (by rw [h]; decide)]
    · rw [if_neg h, if_pos (by rw [bne_iff_ne]; intro e; exact h (UInt8.toNat_inj.1 (by show s[0].toNat = 35; omega)))])
  obtain ⟨⟨f0, f1⟩, ⟨y0, y1⟩, hB⟩ := parFin G1.out 1 s
  have HB := Lib.hid hB
  clear hB HS3
  go_upto_region 8 with (fail)
  go_region
  go_wp2
  refine ⟨rfl, .tuple #[.agg #[.int .i64 1, .string s], .bool ((s[0].toNat : Int) != 35)], (by rw [results_cell_tmp rfl]; go_simp), ?_⟩
  exact ParO.mk HR.out (Nat.le_refl _) HB.out.drew
end Go.Proofs.YtmofncdjhdnoiaaGreatDoor

/- The reference's reader takes a line, walked. -/
namespace Go.Proofs.YtmofncdjhdnoiaaGreatDoor
set_option linter.unusedVariables false
open Go.RowKit Go.Sort

/-- The script under way lies in block R0; since w its scenes l have been made. -/
abbrev RgG (w : World) (R0 : Nat) (t : ByteArray) (l : List (Scene × Value)) (v : Value) (wx : World) : Prop := ScN w l v [(R0, xCs t v, 28)] wx
/-- What a line has left. -/
def TkO (w : World) (R0 m : Nat) (t : ByteArray) (o : Option (List Scene × Bool)) (e : Ending) (w' : World) : Prop :=
  (∃ l' v' g, o = some (l'.map (·.1), g) ∧ e = .returned (.tuple #[.bool g, .bool true]) ∧ RdB m l' ∧ RgG w R0 t l' v' w') ∨ (∃ g, o = none ∧ e = .returned (.tuple #[.bool g, .bool false]) ∧ Below w.heap.size w w')
theorem TkO.no {w w' : World} {R0 m : Nat} {t : ByteArray} {o : Option (List Scene × Bool)} {g : Bool} (h : o = none) (hb : Below w.heap.size w w') : TkO w R0 m t o (.returned (.tuple #[.bool g, .bool false])) w' := .inr ⟨g, h, rfl, hb⟩
theorem TkO.put {w w' : World} {R0 m : Nat} {t : ByteArray} {o : Option (List Scene × Bool)} {l : List (Scene × Value)} {v u : Value} {p : Para} {b g : Bool} (hb : RdB m l) (hG : RgG w R0 t (addL l p u) v w') (ho : o = if b = true then some (addTo (l.map (·.1)) p, g) else none) : TkO w R0 (m + 1) t o (.returned (.tuple #[.bool g, .bool b])) w' := by
  cases b with
  | true => exact .inl ⟨addL l p u, v, g, by rw [ho, if_pos rfl, addL_fst], rfl, addL_bd hb p u, hG⟩
  | false => exact .inr ⟨g, by rw [ho]; rfl, rfl, hG.bo.bel⟩
theorem TkO.scene {w w' : World} {R0 m : Nat} {t : ByteArray} {o : Option (List Scene × Bool)} {l : List (Scene × Value)} {v u : Value} {x : Scene} {b : Bool} (hb : RdB m l) (hx : x.paras = []) (hG : RgG w R0 t (l ++ [(x, u)]) v w') (ho : o = if b = true then some (l.map (·.1) ++ [x], false) else none) : TkO w R0 (m + 1) t o (.returned (.tuple #[.bool false, .bool b])) w' := by
  cases b with
  | true => exact .inl ⟨l ++ [(x, u)], v, false, by rw [ho, if_pos rfl]; simp, rfl, ⟨by rw [List.length_append]; have := hb.1; simp; omega, fun y hy => by
      rcases List.mem_append.1 hy with hy | hy
      · have := hb.2 y hy; omega
      · rw [List.mem_singleton] at hy; subst hy; show x.paras.length ≤ m + 1; rw [hx]; simp⟩, hG⟩
  | false => exact .inr ⟨false, by rw [ho]; rfl, rfl, hG.bo.bel⟩
theorem TkO.same {w w' : World} {R0 m : Nat} {t : ByteArray} {o : Option (List Scene × Bool)} {l : List (Scene × Value)} {v : Value} (hb : RdB m l) (hG : RgG w R0 t l v w') (ho : o = some (l.map (·.1), false)) : TkO w R0 (m + 1) t o (.returned (.tuple #[.bool false, .bool true])) w' := .inl ⟨l, v, false, ho, rfl, ⟨Nat.le_succ_of_le hb.1, fun x hx => Nat.le_succ_of_le (hb.2 x hx)⟩, hG⟩
theorem byteEmpty {s : ByteArray} (h : s.size = 0) : s = ⟨#[]⟩ := by
  apply ByteArray.ext
  exact Array.eq_empty_of_size_eq_zero h
theorem emp_yes {s : ByteArray} (h : s.size = 0) : s.toList.isEmpty = true := (empty_iff _).2 (byteEmpty h)
theorem emp_no {s : ByteArray} (h : ¬ s.size = 0) : s.toList.isEmpty = false := Bool.eq_false_iff.2 (fun e => h (by rw [(empty_iff _).1 e]; rfl))
/-- A heading's answer, whatever it is. -/
theorem hfV_form (o : Option Scene) (ho : ∀ x, o = some x → x.paras = []) : ∃ (y : Scene) (b : Bool), hfV o = .tuple #[.agg #[.string y.no, .int .i64 y.place, .string y.set, .int .i64 y.time, .slice none 0 0], .bool b] ∧ y.paras = [] ∧ o = if b = true then some y else none := by
  cases o with
  | some x => exact ⟨x, true, rfl, ho x rfl, rfl⟩
  | none => exact ⟨⟨⟨#[]⟩, 0, ⟨#[]⟩, 0, []⟩, false, rfl, rfl, rfl⟩
set_option maxRecDepth 100000 in
set_option maxHeartbeats 8000000 in
theorem taken_c (w wx : World) (R0 m : Nat) (t : ByteArray) (l : List (Scene × Value)) (v : Value) (s bf : ByteArray) (gr : Bool) (h : RgG w R0 t l v wx) (hb : RdB m l) (hm : m ≤ 1000000) (hs : s.size ≤ 1000000) (hgr : gr = true → 0 < l.length) (hml : MaxLaid wx) (hsp : SpLaid wx) :
    Calls Tryz.prog 47 #[.pointer (some ⟨R0, 0, none⟩), .string s, .string bf, .bool gr] wx (TkO w R0 (m + 1) t (takenS (l.map (·.1)) s bf gr)) := by
  obtain ⟨i0, hi0, hz0, hz1, hz2⟩ := info_parts (show (Tryz.prog.info? 53).map (fun i => (i.zero, i.size, i.bytes)) = some (some (.agg #[.string ⟨#[]⟩, .int .i64 0, .string ⟨#[]⟩, .int .i64 0, .slice none 0 0]), 5, 72) by kernel_rfl)
  obtain ⟨i1, hi1, hy0, hy1, hy2⟩ := info_parts (show (Tryz.prog.info? 97).map (fun i => (i.zero, i.size, i.bytes)) = some (some (.agg #[.int .i64 0, .string ⟨#[]⟩]), 2, 24) by kernel_rfl)
  have HB := Lib.hid hb
  have HG := Lib.hid h
  have HLD := Lib.hid (And.intro hml hsp)
  clear h hb hml hsp
  by_cases hs0 : s.size = 0
  · have hse := emp_yes hs0
    by_cases hb0 : bf.size = 0
    · have hbe := emp_yes hb0
      have HR := Lib.hid (show takenS (l.map (·.1)) s bf gr = none by unfold takenS; rw [if_pos hs0, if_pos hb0])
      clear hs0 hb0
      go_enter Tryz.func47, Tryz.ntmps47
      go_wp2
      go_ret2
      exact TkO.no HR.out HG.out.bo.bel
    · have hbe := emp_no hb0
      have HR := Lib.hid (show takenS (l.map (·.1)) s bf gr = some (l.map (·.1), false) by unfold takenS; rw [if_pos hs0, if_neg hb0])
      clear hs0 hb0
      go_enter Tryz.func47, Tryz.ntmps47
      go_wp2
      go_ret2
      exact TkO.same HB.out HG.out HR.out
  have hse := emp_no hs0
  have hsp0 : 0 < s.size := by omega
  by_cases hb0 : ¬ bf.size = 0
  · have hbe := emp_no hb0
    have HS := Lib.hid (show takenS (l.map (·.1)) s bf gr = if gr = false then none else (grpR s).map fun p => (addTo (l.map (·.1)) p, true) by unfold takenS; rw [if_neg hs0, if_pos hb0])
    clear hs0 hb0
    cases gr with
    | false =>
      have HR := Lib.hid (HS.out.trans (if_pos rfl))
      go_enter Tryz.func47, Tryz.ntmps47
      go_wp2
      go_ret2
      exact TkO.no HR.out HG.out.bo.bel
    | true =>
      have h0 := hgr rfl
      clear hgr
      go_enter Tryz.func47, Tryz.ntmps47
      have HPP := Lib.hid (groupPara_c s wx hsp0 hs)
      obtain ⟨K, hK⟩ : ∃ K, l.length = K + 1 := ⟨l.length - 1, by omega⟩
      obtain ⟨g0, cap, hv00, hg01, hg02⟩ := Own.some_ HG.out.bo.own h0
      first | subst hv00 | (injection hv00 with hv0 _ hv2; have hv3 := hv2.symm; subst hv0; subst hv3)
      have hkl : K < l.length := by omega
      go_wp2_with fail
      refine HPP.out.mono ?_
      rintro e w2 ⟨p, b, rfl, hb2, hpz, hpo⟩
      have HR := Lib.hid (show takenS (l.map (·.1)) s bf true = if b = true then some (addTo (l.map (·.1)) p, true) else none by rw [HS.out, if_neg (by simp), hpo]; cases b <;> rfl)
      clear hpo HPP hpz
      have HG3 := Lib.hid ((HG.out.below hb2).new #[.int .i64 p.kind, .string p.text] 97)
      clear hb2
      go_upto_region 7 with (fail)
      generalize hX : w2.heap.size = X at *
      generalize w2.alloc (.cells #[.int .i64 p.kind, .string p.text] 97) = w3 at *
      have hrow := HG3.out.row K l[K] (List.getElem?_eq_getElem hkl)
      obtain ⟨AI, cI, hvI, hcI1, hcI2⟩ := (hrow.1.sliF (F := fun _ => True) (fun _ _ => trivial)).form
      have HPL := Lib.hid (show (l[K]).1.paras.length ≤ 1000000 from Nat.le_trans (HB.out.2 _ (List.getElem_mem hkl)) hm)
      obtain ⟨pl, hpl⟩ : ∃ pl, (l[K]).1.paras.length = pl := ⟨_, rfl⟩
      rw [hpl] at hvI
      have HPQ := Lib.hid hpl
      have c1 : w3.cell? ⟨R0, 1, none⟩ = some (.slice (some ⟨g0, 0, none⟩) (K + 1) cap) := by rw [← hK]; exact (HG3.out.cell (p := (R0, xCs t (.slice (some ⟨g0, 0, none⟩) l.length cap), 28)) (by simp)).1 1
      have hRg : R0 ≠ g0 := fun e => (HG3.out.bo.prv (R0, xCs t (.slice (some ⟨g0, 0, none⟩) l.length cap), 28) (by simp)).2.2 (by dsimp only; rw [e]; rfl)
      have q1 : (0 : Int) ≤ K := by omega
      have q2 : IntKind.i64.wrap ((K : Int) + 1 - 1) = K := by rw [show (K : Int) + 1 - 1 = K by omega]; exact IntWalk.i64_in _ (by have := HB.out.1; omega)
      have q3 : (K : Int) < K + 1 := by omega
      have q4 : IntKind.i64.wrap (K : Int) = K := IntWalk.i64_in _ (by have := HB.out.1; omega)
      have HQ := Lib.hid hvI
      have HKL := Lib.hid hK
      have hd1 : ∀ n, (w3.drewN n).cell? ⟨R0, 1, none⟩ = some (.slice (some ⟨g0, 0, none⟩) (K + 1) cap) := fun _ => c1
      clear hrow hvI hcI1 hcI2 hpl hK hX
      go_quiet (fail)
      clear q1 q2 q3 q4 c1 hd1
      have HN2 := Lib.hid (HG3.out.below (below_drewN (Below.refl w3.heap.size w3) nq))
      clear HG3
      generalize w3.drewN nq = wy at *
      have c4 : wy.cell? ⟨g0, K * 5 + 4, none⟩ = some (.slice AI pl cI) := by rw [← HQ.out]; exact (Own.cellAt HN2.out.bo.own K hkl 4 (by decide)).1
      have f4 : wy.frozen? ⟨g0, K * 5 + 4, none⟩ = false := (Own.cellAt HN2.out.bo.own K hkl 4 (by decide)).2
      have hXc := HN2.out.cell (p := (X, #[.int .i64 p.kind, .string p.text], 97)) (by simp)
      have x0 : wy.cell? ⟨X, 0, none⟩ = some (.int .i64 p.kind) := hXc.1 0
      have x1 : wy.cell? ⟨X, 1, none⟩ = some (.string p.text) := hXc.1 1
      have hXl := HN2.out.bo.plt (p := (X, #[.int .i64 p.kind, .string p.text], 97)) (by simp)
      dsimp only at hXl
      have hg03 : g0 < wy.heap.size := (HN2.out.bo.own.block g0 rfl).2
      have hrw := HN2.out.row K l[K] (List.getElem?_eq_getElem hkl)
      rw [HQ.out] at hrw
      have HNE := Lib.hid (show (Value.slice AI pl cI).ownBlock ≠ some g0 ∧ (Value.slice AI pl cI).ownBlock ≠ some X from ⟨fun e => (hrw.2 g0 e).1 rfl, fun e => (hrw.2 X e).2 (X, #[.int .i64 p.kind, .string p.text], 97) (by simp) rfl⟩)
      have HOI := Lib.hid hrw.1
      have HWY := Lib.hid HN2.out.bo.size
      obtain ⟨ι, ff, hne, hff, hfS⟩ := family (fun W => W.cell? ⟨g0, K * 5 + 4, none⟩ = some (.slice AI pl cI) ∧ W.cell? ⟨X, 0, none⟩ = some (.int .i64 p.kind) ∧ W.cell? ⟨X, 1, none⟩ = some (.string p.text)) wy ⟨c4, x0, x1⟩
      have hneW : Nonempty World := ⟨w⟩
      have s0 := fun p => (hff p).1
      have s1 := fun p => (hff p).2.1
      have s2 := fun p => (hff p).2.2
      have HFS := Lib.hid hfS
      have HZ := Lib.hid (And.intro c4 (And.intro x0 x1))
      clear hff hfS hrw hXc
      go_upto_region 8 with (fail)
      refine wp_region_segs2 [6, 7] [] [] [([0, 1, 2, 3], [4, 5], 6), ([], [], 7), ([8, 9], [], 10)] (by kernel_rfl) (by kernel_rfl) (fun _ _ _ dd _ h => by cases dd <;> exact h) (fun W => ∃ p : ι, W = ff p) (HFS.out _ HZ.out) ?_
      refine wpSegs2_step (by simp only [pick, List.getElem?_cons_succ, List.getElem?_cons_zero]; rfl) (by simp only [pick, List.getElem?_cons_succ, List.getElem?_cons_zero]; rfl) rfl (fun K0 hK0 L0 hL0 => ?_)
      repeat (first | go_big_quiet_step (fail) | quiet_step (fail))
      refine wpQuiet_nil (hL0 _ ?_)
      repeat (first | go_big_quiet_step (fail) | quiet_step (fail))
      refine wpQuiet_nil ?_
      go_simp
      have G4 := Lib.hid ((HN2.out.alloc (.cells #[.int .i64 p.kind, .string p.text] 97)).drew)
      have O4 := Lib.hid ((HOI.out.alloc (.cells #[.int .i64 p.kind, .string p.text] 97)).drew)
      have hz4 : (wy.alloc (.cells #[.int .i64 p.kind, .string p.text] 97)).drew.heap.size = wy.heap.size + 1 := (show (wy.alloc (.cells #[.int .i64 p.kind, .string p.text] 97)).heap.size = wy.heap.size + 1 by simp)
      have HZ4 := Lib.hid (show ∀ (b i : Nat), b < wy.heap.size → (wy.alloc (.cells #[.int .i64 p.kind, .string p.text] 97)).drew.cell? ⟨b, i, none⟩ = wy.cell? ⟨b, i, none⟩ from fun b i hb => World.cell?_alloc_lt wy _ ⟨b, i, none⟩ hb)
      have hnew : (wy.alloc (.cells #[.int .i64 p.kind, .string p.text] 97)).drew.heap[wy.heap.size]? = some (.cells #[.int .i64 p.kind, .string p.text] 97 (0, 0)) := heap_alloc_new wy (.cells #[.int .i64 p.kind, .string p.text] 97)
      generalize (wy.alloc (.cells #[.int .i64 p.kind, .string p.text] 97)).drew = w4 at *
      have HK4 := Lib.hid (show w4.cell? ⟨g0, K * 5 + 4, none⟩ = some (.slice AI pl cI) ∧ w4.cell? ⟨X, 0, none⟩ = some (.int .i64 p.kind) ∧ w4.cell? ⟨X, 1, none⟩ = some (.string p.text) from ⟨(HZ4.out _ _ hg03).trans HZ.out.1, (HZ4.out _ _ hXl).trans HZ.out.2.1, (HZ4.out _ _ hXl).trans HZ.out.2.2⟩)
      have HNEW := Lib.hid hnew
      have hwy := HWY.out
      clear hnew c4 x0 x1 f4
      refine hK0 (fun W => ∃ p : ι, W = ff p) _ _ (fun _ h => h) (HFS.out _ HK4.out) ?_
      refine wpSegs2_step (by simp only [pick, List.getElem?_cons_succ, List.getElem?_cons_zero]; rfl) (by simp only [pick, List.getElem?_cons_succ, List.getElem?_cons_zero]; rfl) rfl (fun K1 hK1 L1 hL1 => ?_)
      repeat (first | go_big_quiet_step (fail) | quiet_step (fail))
      refine wpQuiet_nil (hL1 _ ?_)
      repeat (first | go_big_quiet_step (fail) | quiet_step (fail))
      refine wpQuiet_nil ?_
      refine oper_push (R := paraR) rfl _ _ _ rfl w.heap.size w.heap.size 97 i1 _ 24 Tryz.underlying51 hi1 hy0 hy1 hy2 rfl (by decide) w4 (.slice AI pl cI) (l[K]).1.paras rfl O4.out (⟨p.kind, p.text⟩ : Para) _ rfl (oneC rfl) wy.heap.size _ _ HNEW.out rfl (by have := HPL.out; unfold maxLen; omega) (by have := HPL.out; omega) (by omega) ?_
      intro g cap2 w8 hown8 hg8 hat8 hlt8
      have hb0 := hg8.block g0 (by omega) HNE.out.1.symm
      have hbX := hg8.block X (by omega) HNE.out.2.symm
      have f8 : w8.frozen? ⟨g0, K * 5 + 4, none⟩ = false := (World.frozen?_of_block hb0).trans (Own.cellAt G4.out.bo.own K hkl 4 (by decide)).2
      have c8 : w8.cell? ⟨g0, K * 5 + 4, none⟩ = some (.slice AI pl cI) := (World.cell?_of_block hb0).trans HK4.out.1
      refine hK1 (fun W => ∃ p : ι, W = ff p) _ _ (fun _ h => h) (HFS.out _ ⟨c8, (World.cell?_of_block hbX).trans HK4.out.2.1, (World.cell?_of_block hbX).trans HK4.out.2.2⟩) ?_
      have hG9 := NS.inner (k := K) (j := 4) G4.out hkl hown8 (by rw [HQ.out]; exact hg8) rfl (by rw [HQ.out]; exact hat8.imp id fun h => Nat.le_of_eq h.symm) (fun x => (addPara ⟨p.kind, p.text⟩ x.1, .slice (some ⟨g, 0, none⟩) ((l[K]).1.paras.length + 1) cap2)) (fun x => rfl) (by decide) rfl rfl
      have HGX := Lib.hid hG9
      have G10 := Lib.hid (show RgG w R0 t (addL l ⟨p.kind, p.text⟩ (.slice (some ⟨g, 0, none⟩) ((l[K]).1.paras.length + 1) cap2)) (.slice (some ⟨g0, 0, none⟩) l.length cap) _ from (by
        have h := NS.less (Q := [(R0, xCs t (.slice (some ⟨g0, 0, none⟩) l.length cap), 28)]) hG9 (by simp)
        have e : addL l ⟨p.kind, p.text⟩ (.slice (some ⟨g, 0, none⟩) ((l[K]).1.paras.length + 1) cap2) = l.modify K fun x => (addPara ⟨p.kind, p.text⟩ x.1, .slice (some ⟨g, 0, none⟩) ((l[K]).1.paras.length + 1) cap2) := by unfold addL; rw [HKL.out]; rfl
        rw [e]
        exact h))
      clear hG9 hown8 hg8 hat8 hb0 hbX HK4 HZ4 HZ HNEW
      refine wpSegs2_last (by simp only [pick, List.getElem?_cons_succ, List.getElem?_cons_zero]; rfl) (by simp only [pick, List.getElem?_cons_succ, List.getElem?_cons_zero]; rfl) rfl (by rfl) (fun K2 hK2 L2 hL2 => ?_)
      repeat (first | go_big_quiet_step (fail) | quiet_step (fail))
      refine wpQuiet_nil (hL2 _ ?_)
      repeat (first | go_big_quiet_step (fail) | quiet_step (fail))
      refine wpQuiet_nil ?_
      go_simp
      refine hK2 _ _ (wpSegs2_end ?_)
      clear s0 s1 s2
      go_wp2
      go_ret2
      exact TkO.put HB.out G10.out HR.out
  have hb0' : bf.size = 0 := by omega
  have hbe := emp_yes hb0'
  have HS := Lib.hid (show takenS (l.map (·.1)) s bf gr = if Lib.hasPrefix s.data.toList (⟨#[35, 32]⟩ : ByteArray).data.toList = true then (headFrom (s.extract 2 s.size)).map fun x => (l.map (·.1) ++ [x], false)
    else if l.map (·.1) = [] then none else (blkR s).map fun p => (addTo (l.map (·.1)) p, decide (p.kind = 2)) by unfold takenS; rw [if_neg hs0, if_neg hb0])
  have HCP := Lib.hid (Tryz.strings_CutPrefix s ⟨#[35, 32]⟩ wx)
  have HPR := Lib.hid (@trimPre s ⟨#[35, 32]⟩)
  clear hs0 hb0 hb0' hgr
  cases hp : Lib.hasPrefix s.data.toList (⟨#[35, 32]⟩ : ByteArray).data.toList with
  | true =>
    have HS1 := Lib.hid (HS.out.trans (if_pos hp))
    have HPE := Lib.hid (show (⟨(Lib.trimPrefix s.data.toList (⟨#[35, 32]⟩ : ByteArray).data.toList).toArray⟩ : ByteArray) = s.extract 2 s.size from HPR.out hp)
    have hqs : (s.extract 2 s.size).size ≤ 1000000 := by rw [ByteArray.size_extract]; omega
    have HRH := Lib.hid (show Calls Tryz.prog 89 #[.string (s.extract 2 s.size)] wx fun e w' => e = .returned (hfV (headFrom (s.extract 2 s.size))) ∧ Below wx.heap.size wx w' from HeadingFrom_c (s.extract 2 s.size) wx hqs HLD.out.2 HLD.out.1)
    have HP := Lib.hid hp
    obtain ⟨x, b, hxv, hxp, hxo⟩ := hfV_form (headFrom (s.extract 2 s.size)) (fun x h => headFrom_paras h)
    have HR := Lib.hid (show takenS (l.map (·.1)) s bf gr = if b = true then some (l.map (·.1) ++ [x], false) else none by rw [HS1.out, hxo]; cases b <;> rfl)
    have HXP := Lib.hid hxp
    have HXV := Lib.hid hxv
    clear hp HS HPR HS1 hxo hxp hxv
    generalize s.extract 2 s.size = q at *
    generalize headFrom q = ho at *
    go_enter Tryz.func47, Tryz.ntmps47
    go_wp2_with (first | (go_at_call 45; refine HCP.out.mono ?_; rintro e w' ⟨rfl, rfl⟩; rw [HPE.out, HP.out]) | fail)
    refine HRH.out.mono ?_
    rintro e w2 ⟨rfl, hb2⟩
    rw [HXV.out]
    have hG3 := Lib.hid ((HG.out.below hb2).new #[.string x.no, .int .i64 x.place, .string x.set, .int .i64 x.time, .slice none 0 0] 53)
    clear hb2 HRH HCP
    go_upto_region 13 with (fail)
    generalize hX : w2.heap.size = X at *
    generalize hW : w2.alloc (.cells #[.string x.no, .int .i64 x.place, .string x.set, .int .i64 x.time, .slice none 0 0] 53) = w3 at *
    have G3 := Lib.hid (show ScN w l v [(X, scC x.no x.place x.set x.time (.slice none 0 0), 53), (R0, xCs t v, 28)] w3 from hG3.out)
    clear hG3 hW hX HG
    obtain ⟨z0, z1, z2, z3, z4⟩ := sc_cells (G3.out.cell (p := (X, scC x.no x.place x.set x.time (.slice none 0 0), 53)) (by simp))
    have r1 : w3.cell? ⟨R0, 1, none⟩ = some v := (G3.out.cell (p := (R0, xCs t v, 28)) (by simp)).1 1
    have hX := G3.out.bo.plt (p := (X, scC x.no x.place x.set x.time (.slice none 0 0), 53)) (by simp)
    have hR0 := G3.out.bo.plt (p := (R0, xCs t v, 28)) (by simp)
    have hXv := (G3.out.bo.prv (X, scC x.no x.place x.set x.time (.slice none 0 0), 53) (by simp)).2.2
    have hRv := (G3.out.bo.prv (R0, xCs t v, 28) (by simp)).2.2
    dsimp only at hX hR0 hXv hRv
    have HXV := Lib.hid hXv
    have HRV := Lib.hid hRv
    have HW3 := Lib.hid G3.out.bo.size
    have hll : l.length ≤ 1000000 := Nat.le_trans HB.out.1 hm
    clear hXv hRv
    obtain ⟨ι, ff, hne, hff, hfS⟩ := family (fun W => W.cell? ⟨R0, 1, none⟩ = some v ∧ W.cell? ⟨X, 0, none⟩ = some (.string x.no) ∧ W.cell? ⟨X, 1, none⟩ = some (.int .i64 x.place) ∧ W.cell? ⟨X, 2, none⟩ = some (.string x.set) ∧ W.cell? ⟨X, 3, none⟩ = some (.int .i64 x.time) ∧ W.cell? ⟨X, 4, none⟩ = some (.slice none 0 0)) w3 ⟨r1, z0, z1, z2, z3, z4⟩
    have hneW : Nonempty World := ⟨w⟩
    have s0 := fun p => (hff p).1
    have s1 := fun p => (hff p).2.1
    have s2 := fun p => (hff p).2.2.1
    have s3 := fun p => (hff p).2.2.2.1
    have s4 := fun p => (hff p).2.2.2.2.1
    have s5 := fun p => (hff p).2.2.2.2.2
    have HFS := Lib.hid hfS
    have HZ := Lib.hid (show w3.cell? ⟨R0, 1, none⟩ = some v ∧ w3.cell? ⟨X, 0, none⟩ = some (.string x.no) ∧ w3.cell? ⟨X, 1, none⟩ = some (.int .i64 x.place) ∧ w3.cell? ⟨X, 2, none⟩ = some (.string x.set) ∧ w3.cell? ⟨X, 3, none⟩ = some (.int .i64 x.time) ∧ w3.cell? ⟨X, 4, none⟩ = some (.slice none 0 0) from ⟨r1, z0, z1, z2, z3, z4⟩)
    clear hff hfS r1 z0 z1 z2 z3 z4
    refine wp_region_segs2 [6, 7] [] [] [([0, 1, 2, 3], [4, 5], 6), ([], [], 7), ([8, 9], [], 10)] (by kernel_rfl) (by kernel_rfl) (fun _ _ _ dd _ h => by cases dd <;> exact h) (fun W => ∃ p : ι, W = ff p) (HFS.out _ HZ.out) ?_
    refine wpSegs2_step (by simp only [pick, List.getElem?_cons_succ, List.getElem?_cons_zero]; rfl) (by simp only [pick, List.getElem?_cons_succ, List.getElem?_cons_zero]; rfl) rfl (fun K0 hK0 L0 hL0 => ?_)
    repeat (first | go_big_quiet_step (fail) | quiet_step (fail))
    refine wpQuiet_nil (hL0 _ ?_)
    repeat (first | go_big_quiet_step (fail) | quiet_step (fail))
    refine wpQuiet_nil ?_
    go_simp
    have G4 := Lib.hid ((G3.out.alloc (.cells #[.string x.no, .int .i64 x.place, .string x.set, .int .i64 x.time, .slice none 0 0] 53)).drew)
    have hz3 : (w3.alloc (.cells #[.string x.no, .int .i64 x.place, .string x.set, .int .i64 x.time, .slice none 0 0] 53)).drew.heap.size = w3.heap.size + 1 := (show (w3.alloc (.cells #[.string x.no, .int .i64 x.place, .string x.set, .int .i64 x.time, .slice none 0 0] 53)).heap.size = w3.heap.size + 1 by simp)
    have HZ4 := Lib.hid (show ∀ (b i : Nat), b < w3.heap.size → (w3.alloc (.cells #[.string x.no, .int .i64 x.place, .string x.set, .int .i64 x.time, .slice none 0 0] 53)).drew.cell? ⟨b, i, none⟩ = w3.cell? ⟨b, i, none⟩ from fun b i hb => World.cell?_alloc_lt w3 _ ⟨b, i, none⟩ hb)
    have hnew : (w3.alloc (.cells #[.string x.no, .int .i64 x.place, .string x.set, .int .i64 x.time, .slice none 0 0] 53)).drew.heap[w3.heap.size]? = some (.cells #[.string x.no, .int .i64 x.place, .string x.set, .int .i64 x.time, .slice none 0 0] 53 (0, 0)) := heap_alloc_new w3 (.cells #[.string x.no, .int .i64 x.place, .string x.set, .int .i64 x.time, .slice none 0 0] 53)
    generalize (w3.alloc (.cells #[.string x.no, .int .i64 x.place, .string x.set, .int .i64 x.time, .slice none 0 0] 53)).drew = w4 at *
    have HK4 := Lib.hid (show w4.cell? ⟨R0, 1, none⟩ = some v ∧ w4.cell? ⟨X, 0, none⟩ = some (.string x.no) ∧ w4.cell? ⟨X, 1, none⟩ = some (.int .i64 x.place) ∧ w4.cell? ⟨X, 2, none⟩ = some (.string x.set) ∧ w4.cell? ⟨X, 3, none⟩ = some (.int .i64 x.time) ∧ w4.cell? ⟨X, 4, none⟩ = some (.slice none 0 0) from ⟨(HZ4.out _ _ hR0).trans HZ.out.1, (HZ4.out _ _ hX).trans HZ.out.2.1, (HZ4.out _ _ hX).trans HZ.out.2.2.1, (HZ4.out _ _ hX).trans HZ.out.2.2.2.1, (HZ4.out _ _ hX).trans HZ.out.2.2.2.2.1, (HZ4.out _ _ hX).trans HZ.out.2.2.2.2.2⟩)
    have HNEW := Lib.hid hnew
    have hw3 := HW3.out
    clear hnew
    refine hK0 (fun W => ∃ p : ι, W = ff p) _ _ (fun _ h => h) (HFS.out _ HK4.out) ?_
    refine wpSegs2_step (by simp only [pick, List.getElem?_cons_succ, List.getElem?_cons_zero]; rfl) (by simp only [pick, List.getElem?_cons_succ, List.getElem?_cons_zero]; rfl) rfl (fun K1 hK1 L1 hL1 => ?_)
    repeat (first | go_big_quiet_step (fail) | quiet_step (fail))
    refine wpQuiet_nil (hL1 _ ?_)
    repeat (first | go_big_quiet_step (fail) | quiet_step (fail))
    refine wpQuiet_nil ?_
    refine oper_push (R := svR) rfl _ _ _ rfl w.heap.size w.heap.size 53 i0 _ 72 Tryz.underlying26 hi0 hz0 hz1 hz2 rfl (by decide) w4 v l rfl G4.out.bo.own ((x, .slice none 0 0) : Scene × Value) _ rfl (oneC rfl) w3.heap.size _ _ HNEW.out rfl (by unfold maxLen; omega) (by omega) (by omega) ?_
    intro g cap w8 hown8 hg8 hat8 hlt8
    have hR8 := hg8.block R0 (by omega) HRV.out.symm
    have hX8 := hg8.block X (by omega) HXV.out.symm
    have f8 : w8.frozen? ⟨R0, 1, none⟩ = false := (World.frozen?_of_block hR8).trans ((G4.out.cell (p := (R0, xCs t v, 28)) (by simp)).2 1)
    have c8 : w8.cell? ⟨R0, 1, none⟩ = some v := (World.cell?_of_block hR8).trans HK4.out.1
    refine hK1 (fun W => ∃ p : ι, W = ff p) _ _ (fun _ h => h) (HFS.out _ ⟨c8, (World.cell?_of_block hX8).trans HK4.out.2.1, (World.cell?_of_block hX8).trans HK4.out.2.2.1, (World.cell?_of_block hX8).trans HK4.out.2.2.2.1, (World.cell?_of_block hX8).trans HK4.out.2.2.2.2.1, (World.cell?_of_block hX8).trans HK4.out.2.2.2.2.2⟩) ?_
    have hG8 := NS.push G4.out hown8 hg8 rfl hat8 HXP.out rfl
    have G10 := Lib.hid (show RgG w R0 t (l ++ [(x, .slice none 0 0)]) (.slice (some ⟨g, 0, none⟩) (l.length + 1) cap) _ from NS.set (i := 1) (NS.less (Q := [(R0, xCs t v, 28)]) hG8 (by simp)) (.slice (some ⟨g, 0, none⟩) (l.length + 1) cap) (fun p hp => by cases hp))
    clear hG8 hown8 hg8 hat8 hR8 hX8 HK4 HZ4 HZ HNEW
    refine wpSegs2_last (by simp only [pick, List.getElem?_cons_succ, List.getElem?_cons_zero]; rfl) (by simp only [pick, List.getElem?_cons_succ, List.getElem?_cons_zero]; rfl) rfl (by rfl) (fun K2 hK2 L2 hL2 => ?_)
    repeat (first | go_big_quiet_step (fail) | quiet_step (fail))
    refine wpQuiet_nil (hL2 _ ?_)
    repeat (first | go_big_quiet_step (fail) | quiet_step (fail))
    refine wpQuiet_nil ?_
    go_simp
    refine hK2 _ _ (wpSegs2_end ?_)
    clear s0 s1 s2 s3 s4 s5
    go_wp2
    go_ret2
    exact TkO.scene HB.out HXP.out G10.out HR.out
  | false =>
    have HS1 := Lib.hid (HS.out.trans (if_neg (by rw [hp]; decide)))
    have HP := Lib.hid hp
    have r1 : wx.cell? ⟨R0, 1, none⟩ = some v := (HG.out.cell (p := (R0, xCs t v, 28)) (by simp)).1 1
    obtain ⟨A1, c1', rfl, _, _⟩ := (HG.out.bo.own.sliF (F := fun _ => True) (fun _ _ => trivial)).form
    clear hp HS HPR
    by_cases hl0 : l = []
    · have HR := Lib.hid (HS1.out.trans (if_pos (by rw [hl0]; rfl)))
      subst hl0
      go_enter Tryz.func47, Tryz.ntmps47
      go_wp2_with (first | (go_at_call 45; refine HCP.out.mono ?_; rintro e w' ⟨rfl, rfl⟩; rw [HP.out]) | fail)
      go_ret2
      exact TkO.no HR.out HG.out.bo.bel
    · have h0 : 0 < l.length := List.length_pos_iff.2 hl0
      have HS2 := Lib.hid (HS1.out.trans (if_neg (fun h => hl0 (List.map_eq_nil_iff.1 h))))
      have hl0' : ((l.length : Int) == 0) = false := beq_eq_false_iff_ne.2 (by omega)
      clear hl0
      go_enter Tryz.func47, Tryz.ntmps47
      go_upto_region 17 with (first | (go_at_call 45; refine HCP.out.mono ?_; rintro e w' ⟨rfl, rfl⟩; rw [HP.out]) | fail)
      clear hl0' r1
      have HPP := Lib.hid (blockPara_c s _ hsp0 hs HLD.out.2)
      obtain ⟨K, hK⟩ : ∃ K, l.length = K + 1 := ⟨l.length - 1, by omega⟩
      obtain ⟨g0, cap, hv00, hg01, hg02⟩ := Own.some_ HG.out.bo.own h0
      first | subst hv00 | (injection hv00 with hv0 _ hv2; have hv3 := hv2.symm; subst hv0; subst hv3)
      have hkl : K < l.length := by omega
      go_wp2_with fail
      refine HPP.out.mono ?_
      rintro e w2 ⟨p, b, rfl, hb2, hpz, hpo⟩
      have HR := Lib.hid (show takenS (l.map (·.1)) s bf gr = if b = true then some (addTo (l.map (·.1)) p, decide (p.kind = 2)) else none by rw [HS2.out, hpo]; cases b <;> rfl)
      clear hpo HPP hpz
      have HG3 := Lib.hid ((HG.out.below hb2).new #[.int .i64 p.kind, .string p.text] 97)
      clear hb2
      go_upto_region 18 with (fail)
      generalize hX : w2.heap.size = X at *
      generalize w2.alloc (.cells #[.int .i64 p.kind, .string p.text] 97) = w3 at *
      have hrow := HG3.out.row K l[K] (List.getElem?_eq_getElem hkl)
      obtain ⟨AI, cI, hvI, hcI1, hcI2⟩ := (hrow.1.sliF (F := fun _ => True) (fun _ _ => trivial)).form
      have HPL := Lib.hid (show (l[K]).1.paras.length ≤ 1000000 from Nat.le_trans (HB.out.2 _ (List.getElem_mem hkl)) hm)
      obtain ⟨pl, hpl⟩ : ∃ pl, (l[K]).1.paras.length = pl := ⟨_, rfl⟩
      rw [hpl] at hvI
      have HPQ := Lib.hid hpl
      have c1 : w3.cell? ⟨R0, 1, none⟩ = some (.slice (some ⟨g0, 0, none⟩) (K + 1) cap) := by rw [← hK]; exact (HG3.out.cell (p := (R0, xCs t (.slice (some ⟨g0, 0, none⟩) l.length cap), 28)) (by simp)).1 1
      have hRg : R0 ≠ g0 := fun e => (HG3.out.bo.prv (R0, xCs t (.slice (some ⟨g0, 0, none⟩) l.length cap), 28) (by simp)).2.2 (by dsimp only; rw [e]; rfl)
      have q1 : (0 : Int) ≤ K := by omega
      have q2 : IntKind.i64.wrap ((K : Int) + 1 - 1) = K := by rw [show (K : Int) + 1 - 1 = K by omega]; exact IntWalk.i64_in _ (by have := HB.out.1; omega)
      have q3 : (K : Int) < K + 1 := by omega
      have q4 : IntKind.i64.wrap (K : Int) = K := IntWalk.i64_in _ (by have := HB.out.1; omega)
      have HQ := Lib.hid hvI
      have HKL := Lib.hid hK
      have hd1 : ∀ n, (w3.drewN n).cell? ⟨R0, 1, none⟩ = some (.slice (some ⟨g0, 0, none⟩) (K + 1) cap) := fun _ => c1
      clear hrow hvI hcI1 hcI2 hpl hK hX
      go_quiet (fail)
      clear q1 q2 q3 q4 c1 hd1
      have HN2 := Lib.hid (HG3.out.below (below_drewN (Below.refl w3.heap.size w3) nq))
      clear HG3
      generalize w3.drewN nq = wy at *
      have c4 : wy.cell? ⟨g0, K * 5 + 4, none⟩ = some (.slice AI pl cI) := by rw [← HQ.out]; exact (Own.cellAt HN2.out.bo.own K hkl 4 (by decide)).1
      have f4 : wy.frozen? ⟨g0, K * 5 + 4, none⟩ = false := (Own.cellAt HN2.out.bo.own K hkl 4 (by decide)).2
      have hXc := HN2.out.cell (p := (X, #[.int .i64 p.kind, .string p.text], 97)) (by simp)
      have x0 : wy.cell? ⟨X, 0, none⟩ = some (.int .i64 p.kind) := hXc.1 0
      have x1 : wy.cell? ⟨X, 1, none⟩ = some (.string p.text) := hXc.1 1
      have hXl := HN2.out.bo.plt (p := (X, #[.int .i64 p.kind, .string p.text], 97)) (by simp)
      dsimp only at hXl
      have hg03 : g0 < wy.heap.size := (HN2.out.bo.own.block g0 rfl).2
      have hrw := HN2.out.row K l[K] (List.getElem?_eq_getElem hkl)
      rw [HQ.out] at hrw
      have HNE := Lib.hid (show (Value.slice AI pl cI).ownBlock ≠ some g0 ∧ (Value.slice AI pl cI).ownBlock ≠ some X from ⟨fun e => (hrw.2 g0 e).1 rfl, fun e => (hrw.2 X e).2 (X, #[.int .i64 p.kind, .string p.text], 97) (by simp) rfl⟩)
      have HOI := Lib.hid hrw.1
      have HWY := Lib.hid HN2.out.bo.size
      obtain ⟨ι, ff, hne, hff, hfS⟩ := family (fun W => W.cell? ⟨g0, K * 5 + 4, none⟩ = some (.slice AI pl cI) ∧ W.cell? ⟨X, 0, none⟩ = some (.int .i64 p.kind) ∧ W.cell? ⟨X, 1, none⟩ = some (.string p.text)) wy ⟨c4, x0, x1⟩
      have hneW : Nonempty World := ⟨w⟩
      have s0 := fun p => (hff p).1
      have s1 := fun p => (hff p).2.1
      have s2 := fun p => (hff p).2.2
      have HFS := Lib.hid hfS
      have HZ := Lib.hid (And.intro c4 (And.intro x0 x1))
      clear hff hfS hrw hXc
      go_upto_region 19 with (fail)
      refine wp_region_segs2 [6, 7] [] [] [([0, 1, 2, 3], [4, 5], 6), ([], [], 7), ([8, 9], [], 10)] (by kernel_rfl) (by kernel_rfl) (fun _ _ _ dd _ h => by cases dd <;> exact h) (fun W => ∃ p : ι, W = ff p) (HFS.out _ HZ.out) ?_
      refine wpSegs2_step (by simp only [pick, List.getElem?_cons_succ, List.getElem?_cons_zero]; rfl) (by simp only [pick, List.getElem?_cons_succ, List.getElem?_cons_zero]; rfl) rfl (fun K0 hK0 L0 hL0 => ?_)
      repeat (first | go_big_quiet_step (fail) | quiet_step (fail))
      refine wpQuiet_nil (hL0 _ ?_)
      repeat (first | go_big_quiet_step (fail) | quiet_step (fail))
      refine wpQuiet_nil ?_
      go_simp
      have G4 := Lib.hid ((HN2.out.alloc (.cells #[.int .i64 p.kind, .string p.text] 97)).drew)
      have O4 := Lib.hid ((HOI.out.alloc (.cells #[.int .i64 p.kind, .string p.text] 97)).drew)
      have hz4 : (wy.alloc (.cells #[.int .i64 p.kind, .string p.text] 97)).drew.heap.size = wy.heap.size + 1 := (show (wy.alloc (.cells #[.int .i64 p.kind, .string p.text] 97)).heap.size = wy.heap.size + 1 by simp)
      have HZ4 := Lib.hid (show ∀ (b i : Nat), b < wy.heap.size → (wy.alloc (.cells #[.int .i64 p.kind, .string p.text] 97)).drew.cell? ⟨b, i, none⟩ = wy.cell? ⟨b, i, none⟩ from fun b i hb => World.cell?_alloc_lt wy _ ⟨b, i, none⟩ hb)
      have hnew : (wy.alloc (.cells #[.int .i64 p.kind, .string p.text] 97)).drew.heap[wy.heap.size]? = some (.cells #[.int .i64 p.kind, .string p.text] 97 (0, 0)) := heap_alloc_new wy (.cells #[.int .i64 p.kind, .string p.text] 97)
      generalize (wy.alloc (.cells #[.int .i64 p.kind, .string p.text] 97)).drew = w4 at *
      have HK4 := Lib.hid (show w4.cell? ⟨g0, K * 5 + 4, none⟩ = some (.slice AI pl cI) ∧ w4.cell? ⟨X, 0, none⟩ = some (.int .i64 p.kind) ∧ w4.cell? ⟨X, 1, none⟩ = some (.string p.text) from ⟨(HZ4.out _ _ hg03).trans HZ.out.1, (HZ4.out _ _ hXl).trans HZ.out.2.1, (HZ4.out _ _ hXl).trans HZ.out.2.2⟩)
      have HNEW := Lib.hid hnew
      have hwy := HWY.out
      clear hnew c4 x0 x1 f4
      refine hK0 (fun W => ∃ p : ι, W = ff p) _ _ (fun _ h => h) (HFS.out _ HK4.out) ?_
      refine wpSegs2_step (by simp only [pick, List.getElem?_cons_succ, List.getElem?_cons_zero]; rfl) (by simp only [pick, List.getElem?_cons_succ, List.getElem?_cons_zero]; rfl) rfl (fun K1 hK1 L1 hL1 => ?_)
      repeat (first | go_big_quiet_step (fail) | quiet_step (fail))
      refine wpQuiet_nil (hL1 _ ?_)
      repeat (first | go_big_quiet_step (fail) | quiet_step (fail))
      refine wpQuiet_nil ?_
      refine oper_push (R := paraR) rfl _ _ _ rfl w.heap.size w.heap.size 97 i1 _ 24 Tryz.underlying51 hi1 hy0 hy1 hy2 rfl (by decide) w4 (.slice AI pl cI) (l[K]).1.paras rfl O4.out (⟨p.kind, p.text⟩ : Para) _ rfl (oneC rfl) wy.heap.size _ _ HNEW.out rfl (by have := HPL.out; unfold maxLen; omega) (by have := HPL.out; omega) (by omega) ?_
      intro g cap2 w8 hown8 hg8 hat8 hlt8
      have hb0 := hg8.block g0 (by omega) HNE.out.1.symm
      have hbX := hg8.block X (by omega) HNE.out.2.symm
      have f8 : w8.frozen? ⟨g0, K * 5 + 4, none⟩ = false := (World.frozen?_of_block hb0).trans (Own.cellAt G4.out.bo.own K hkl 4 (by decide)).2
      have c8 : w8.cell? ⟨g0, K * 5 + 4, none⟩ = some (.slice AI pl cI) := (World.cell?_of_block hb0).trans HK4.out.1
      refine hK1 (fun W => ∃ p : ι, W = ff p) _ _ (fun _ h => h) (HFS.out _ ⟨c8, (World.cell?_of_block hbX).trans HK4.out.2.1, (World.cell?_of_block hbX).trans HK4.out.2.2⟩) ?_
      have hG9 := NS.inner (k := K) (j := 4) G4.out hkl hown8 (by rw [HQ.out]; exact hg8) rfl (by rw [HQ.out]; exact hat8.imp id fun h => Nat.le_of_eq h.symm) (fun x => (addPara ⟨p.kind, p.text⟩ x.1, .slice (some ⟨g, 0, none⟩) ((l[K]).1.paras.length + 1) cap2)) (fun x => rfl) (by decide) rfl rfl
      have HGX := Lib.hid hG9
      have G10 := Lib.hid (show RgG w R0 t (addL l ⟨p.kind, p.text⟩ (.slice (some ⟨g, 0, none⟩) ((l[K]).1.paras.length + 1) cap2)) (.slice (some ⟨g0, 0, none⟩) l.length cap) _ from (by
        have h := NS.less (Q := [(R0, xCs t (.slice (some ⟨g0, 0, none⟩) l.length cap), 28)]) hG9 (by simp)
        have e : addL l ⟨p.kind, p.text⟩ (.slice (some ⟨g, 0, none⟩) ((l[K]).1.paras.length + 1) cap2) = l.modify K fun x => (addPara ⟨p.kind, p.text⟩ x.1, .slice (some ⟨g, 0, none⟩) ((l[K]).1.paras.length + 1) cap2) := by unfold addL; rw [HKL.out]; rfl
        rw [e]
        exact h))
      clear hG9 hown8 hg8 hat8 hb0 hbX HK4 HZ4 HZ HNEW
      refine wpSegs2_last (by simp only [pick, List.getElem?_cons_succ, List.getElem?_cons_zero]; rfl) (by simp only [pick, List.getElem?_cons_succ, List.getElem?_cons_zero]; rfl) rfl (by rfl) (fun K2 hK2 L2 hL2 => ?_)
      repeat (first | go_big_quiet_step (fail) | quiet_step (fail))
      refine wpQuiet_nil (hL2 _ ?_)
      repeat (first | go_big_quiet_step (fail) | quiet_step (fail))
      refine wpQuiet_nil ?_
      go_simp
      refine hK2 _ _ (wpSegs2_end ?_)
      clear s0 s1 s2
      have hXf := (HGX.out.cell (p := (X, #[.int .i64 p.kind, .string p.text], 97)) (by simp)).1 0
      have hXf0 : _ = some (Value.int .i64 p.kind) := hXf
      clear hXf HGX
      go_wp2
      go_ret2
      exact TkO.put HB.out G10.out HR.out
end Go.Proofs.YtmofncdjhdnoiaaGreatDoor


