/- Texts packed: WrA. -/
import Derived.Test.YtndillbimibecaaGreatDoorSc02
import Derived.Test.YtndillbimibecaaGreatDoorSc11
import Derived.Test.YtndillbimibecaaGreatDoorSc18
/- A script written: the program's, walked. -/
namespace Go.Proofs.YtndillbimibecaaGreatDoor
set_option linter.unusedVariables false
open Go.RowKit Go.Sort

def nlB (p : Para) : Bool := decide (p.kind = 1 ∨ p.kind = 5 ∨ p.kind = 2)
def nlT (b : Bool) : List UInt8 := if b then [10] else []
theorem paraT_eq (p : Para) : paraT p = nlT (nlB p) ++ (lineS p).data.toList ++ [10] := by
  unfold paraT nlT nlB
  by_cases h : p.kind = 1 ∨ p.kind = 5 ∨ p.kind = 2
  · rw [if_pos h, decide_eq_true h]; rfl
  · rw [if_neg h, decide_eq_false h]; rfl
/-- What a script that is written stays within. -/
structure WrL (ls : List (Scene × Value)) : Prop where
  pt : ∀ y ∈ ls, (0 ≤ y.1.place ∧ y.1.place < 4) ∧ (0 ≤ y.1.time ∧ y.1.time < 6)
  pa : ∀ y ∈ ls, ∀ p ∈ y.1.paras, 0 < p.text.size
theorem flat_next {α : Type} (f : α → List UInt8) (l : List α) (k : Nat) (hk : k < l.length) : (l.take (k + 1)).flatMap f = (l.take k).flatMap f ++ f l[k] := by
  rw [List.take_succ_eq_append_getElem hk, List.flatMap_append]
  simp
theorem flat_le {α : Type} (f : α → List UInt8) (l : List α) (k : Nat) : ((l.take k).flatMap f).length ≤ (l.flatMap f).length := by
  have : l.flatMap f = (l.take k).flatMap f ++ (l.drop k).flatMap f := by rw [← List.flatMap_append, List.take_append_drop]
  rw [this, List.length_append]; omega
def hdT (t : ByteArray) : List UInt8 := [116, 105, 116, 108, 101, 58, 32] ++ t.data.toList ++ [10]
def preT (t : ByteArray) (ls : List (Scene × Value)) (k : Nat) : List UInt8 := hdT t ++ (ls.take k).flatMap fun y => sceneT y.1
def sc0T (x : Scene) : List UInt8 := [10, 35, 32] ++ (headS x).data.toList ++ [10]
theorem sceneT_eq (x : Scene) : sceneT x = sc0T x ++ x.paras.flatMap paraT := rfl
theorem textT_eq (t : ByteArray) (ls : List (Scene × Value)) : textT ⟨t, ls.map (·.1)⟩ = hdT t ++ ls.flatMap fun y => sceneT y.1 := by
  unfold textT hdT
  rw [List.flatMap_map]
theorem pre_le (t : ByteArray) (ls : List (Scene × Value)) (k : Nat) (hk : k < ls.length) (j : Nat) : (preT t ls k ++ sc0T ls[k].1 ++ (ls[k].1.paras.take j).flatMap paraT).length ≤ (textT ⟨t, ls.map (·.1)⟩).length := by
  rw [textT_eq]
  have h1 := flat_le (fun y : Scene × Value => sceneT y.1) ls (k + 1)
  rw [flat_next _ ls k hk, sceneT_eq] at h1
  have h2 := flat_le paraT ls[k].1.paras j
  unfold preT
  simp only [List.length_append] at h1 ⊢
  omega
theorem sz_line (p : Para) (h : p.text.size ≤ 1000000) : (lineS p).size ≤ 1000010 := by
  have z1 : (⟨#[64]⟩ : ByteArray).size = 1 := rfl
  have z3 : (⟨#[62, 32]⟩ : ByteArray).size = 2 := rfl
  have z4 : (⟨#[40]⟩ : ByteArray).size = 1 := rfl
  have z5 : (⟨#[41]⟩ : ByteArray).size = 1 := rfl
  have hesc : ∀ b : ByteArray, (escS p.text b).size ≤ 1000001 := fun b => by
    have z : (⟨#[92]⟩ : ByteArray).size = 1 := rfl
    unfold escS
    split
    · omega
    · split
      · rw [ByteArray.size_append, z]; omega
      · omega
  unfold lineS
  split
  · rw [ByteArray.size_append, z1]; omega
  · split
    · rw [ByteArray.size_append, ByteArray.size_append, z4, z5]; omega
    · split
      · have := hesc ⟨#[40, 92]⟩; omega
      · split
        · rw [ByteArray.size_append, z3]; omega
        · have := hesc ⟨#[64, 62, 35, 92]⟩; omega
theorem baL (a b : ByteArray) : (a ++ b).data.toList = a.data.toList ++ b.data.toList := by simp
theorem baSz (a : ByteArray) : a.data.toList.length = a.size := by simp
set_option maxRecDepth 100000 in
set_option maxHeartbeats 8000000 in
theorem written_c {F : Nat → Prop} (t : ByteArray) (ls : List (Scene × Value)) (v : Value) (w : World) (h : ScL w F t ls v) (hw : WrL ls) (hlen : (textT ⟨t, ls.map (·.1)⟩).length ≤ 140737488355328) :
    Calls Tryz.prog 54 #[.agg #[.string t, v]] w fun e w' => e = .returned (.string (textS ⟨t, ls.map (·.1)⟩)) ∧ Below w.heap.size w w' := by
  obtain ⟨A, c, rfl, hlc, hcm⟩ := h.sli.form
  have hll := h.len
  have htl := h.tl
  obtain ⟨L, hL⟩ : ∃ L, ls.length = L := ⟨_, rfl⟩
  have HL := Lib.hid hL
  rw [hL] at h hlc hll ⊢
  have HH := Lib.hid h
  have HW := Lib.hid hw
  have HTT := Lib.hid (textT_eq t ls)
  have HPL := Lib.hid (fun k hk j => Nat.le_trans (pre_le t ls k hk j) hlen)
  have HLEN := Lib.hid hlen
  clear hL h hw hlen
  go_enter Tryz.func54, Tryz.ntmps54
  go_upto_region 2 with (fail)
  have hb0 : Below w.heap.size w (w.alloc (.cells #[.string t, .slice A L c] 28)) := (Below.refl w.heap.size w).alloc (Nat.le_refl _) _
  have hz0 : (w.alloc (.cells #[.string t, .slice A L c] 28)).heap.size = w.heap.size + 1 := by simp
  have hy0 := heap_alloc_new w (.cells #[.string t, .slice A L c] 28)
  generalize w.alloc (.cells #[.string t, .slice A L c] 28) = wS at *
  have hbl := BldK.new wS
  have hb1 := hb0.alloc (by omega) (.cells #[.pointer none, .slice none 0 0] 120)
  have hz1 : (wS.alloc (.cells #[.pointer none, .slice none 0 0] 120)).heap.size = wS.heap.size + 1 := by simp
  have hy1 : (wS.alloc (.cells #[.pointer none, .slice none 0 0] 120)).heap[w.heap.size]? = some (.cells #[.string t, .slice A L c] 28 (0, 0)) := (Below.heap_alloc wS _ _ (by omega)).trans hy0
  generalize wS.alloc (.cells #[.pointer none, .slice none 0 0] 120) = wB at *
  rw [hz0] at hbl hz1
  have hB : w.heap.size < w.heap.size + 1 := by omega
  generalize w.heap.size + 1 = B at *
  obtain ⟨y, _⟩ := str_cells hy1
  have y0 : wB.cell? ⟨w.heap.size, 0, none⟩ = some (.string t) := y 0
  have y1 : wB.cell? ⟨w.heap.size, 1, none⟩ = some (.slice A L c) := y 1
  have z7 : (⟨#[116, 105, 116, 108, 101, 58, 32]⟩ : ByteArray).size = 7 := rfl
  have z1 : (⟨#[10]⟩ : ByteArray).size = 1 := rfl
  have e1 : (⟨#[116, 105, 116, 108, 101, 58, 32]⟩ ++ t : ByteArray).size = 7 + t.size := by rw [ByteArray.size_append, z7]
  have e2 : (⟨#[116, 105, 116, 108, 101, 58, 32]⟩ ++ t ++ ⟨#[10]⟩ : ByteArray).size = 7 + t.size + 1 := by rw [ByteArray.size_append, e1, z1]
  have HWR := Lib.hid (writeK_c B [] (⟨#[116, 105, 116, 108, 101, 58, 32]⟩ ++ t ++ ⟨#[10]⟩) wB hbl (by rw [e2]; simp; omega))
  have HB1 := Lib.hid hb1
  clear hbl hb0 hb1 hz0 hy0 hy1 y z7
  go_wp2_with fail
  refine HWR.out.mono ?_
  rintro e w1 ⟨rfl, hbl, hb2, _⟩
  have x1 : w1.cell? ⟨w.heap.size, 1, none⟩ = some (.slice A L c) := (hb2.cell (p := ⟨w.heap.size, 1, none⟩) hB).trans y1
  have hz2 := hb2.size
  have HB2 := Lib.hid (HB1.out.trans (hb2.mono (by omega)))
  have HBL := Lib.hid (show BldK w1 B (preT t ls 0) from (by
    have e : preT t ls 0 = ([] : List UInt8) ++ (⟨#[116, 105, 116, 108, 101, 58, 32]⟩ ++ t ++ ⟨#[10]⟩ : ByteArray).data.toList := by
      unfold preT hdT
      rw [baL, baL]
      simp
    rw [e]; exact hbl))
  have hz3 : B < w1.heap.size := by omega
  clear hbl hb2 y0 y1 HWR HB1 e1 e2 hz1 hz2
  go_wp2
  go_loopw [16] (fun i wr => ∃ k : Nat, k ≤ L ∧ i = .int .i64 k ∧ Hid (BldK wr B (preT t ls k)) ∧ Hid (Below w.heap.size w wr) ∧ B < wr.heap.size) (fun i _ => L - (intOf i).toNat)
  case atStart => exact ⟨0, Nat.zero_le _, rfl, HBL, HB2, hz3⟩
  case round =>
    clear HBL HB2 x1 hz3
    obtain ⟨k, hk, rfl, HBL, HB, hzw⟩ := hrel
    by_cases hlt : k < L
    · have hk2 : k < ls.length := by rw [HL.out]; exact hlt
      obtain ⟨b, off, rfl, hfb, c0, c1, c2, c3, c4⟩ := scAt (HH.out.below HB.out).sli k hk2
      obtain ⟨A4, cc4, h4, _, _⟩ := (HH.out.par _ (List.getElem_mem hk2)).form
      have hpa := HH.out.par _ (List.getElem_mem hk2)
      obtain ⟨hq1, hq2, hq3, hq4⟩ := HH.out.bd _ (List.getElem_mem hk2)
      obtain ⟨hpt, htt⟩ := HW.out.pt _ (List.getElem_mem hk2)
      have hps := HW.out.pa _ (List.getElem_mem hk2)
      have hle := HPL.out k hk2
      have hnx : preT t ls (k + 1) = preT t ls k ++ sceneT (ls[k]'hk2).1 := by
        unfold preT
        rw [flat_next (fun y : Scene × Value => sceneT y.1) ls k hk2, List.append_assoc]
      rw [h4] at c4 hpa
      have hbw : b < wr.heap.size := Nat.lt_of_lt_of_le (HH.out.lt b hfb) (by omega)
      have HF := Lib.hid HH.out.lt
      clear h4
      generalize (ls[k]'hk2).1 = x at *
      generalize preT t ls k = pre at *
      have HNX := Lib.hid hnx
      have HLE := Lib.hid hle
      have HPA := Lib.hid hpa
      have HPS := Lib.hid hps
      have HQ4 := Lib.hid hq4
      clear hk2 hnx hle hpa hps hq4
      have HB1 := Lib.hid (HB.out.alloc (by omega) (.cells #[.string x.no, .int .i64 x.place, .string x.set, .int .i64 x.time, .slice A4 x.paras.length cc4] 49))
      have HBL1 := Lib.hid (HBL.out.alloc (.cells #[.string x.no, .int .i64 x.place, .string x.set, .int .i64 x.time, .slice A4 x.paras.length cc4] 49))
      have HX1 := Lib.hid (heap_alloc_new wr (.cells #[.string x.no, .int .i64 x.place, .string x.set, .int .i64 x.time, .slice A4 x.paras.length cc4] 49))
      have HHD := Lib.hid (heading_c x A4 x.paras.length cc4 (wr.alloc (.cells #[.string x.no, .int .i64 x.place, .string x.set, .int .i64 x.time, .slice A4 x.paras.length cc4] 49)) hq1 hq2 hpt htt)
      have hhs := headS_sz x
      have HS0 := Lib.hid (show sc0T x = [10, 35, 32] ++ (headS x).data.toList ++ [10] from rfl)
      have HST := Lib.hid (sceneT_eq x)
      clear HBL HB
      go_wp2_with fail
      with_reducible refine HHD.out.mono ?_
      rintro e w2 ⟨rfl, hb2⟩
      have hz2 := hb2.size
      simp at hz2
      have HB2 := Lib.hid (HB1.out.trans (hb2.mono HB1.out.size))
      have HBL2 := Lib.hid (HBL1.out.below hb2)
      have HX2 := Lib.hid ((hb2.block wr.heap.size (by simp)).trans HX1.out)
      clear hb2 HB1 HBL1 HX1 HHD c0 c1 c2 c3 c4
      generalize headS x = hd at *
      have z3 : (⟨#[10, 35, 32]⟩ : ByteArray).size = 3 := rfl
      have e1 : (⟨#[10, 35, 32]⟩ ++ hd : ByteArray).size = 3 + hd.size := by rw [ByteArray.size_append, z3]
      have e2 : (⟨#[10, 35, 32]⟩ ++ hd ++ ⟨#[10]⟩ : ByteArray).size = 3 + hd.size + 1 := by rw [ByteArray.size_append, e1, z1]
      have HE := Lib.hid (show (⟨#[10, 35, 32]⟩ ++ hd ++ ⟨#[10]⟩ : ByteArray).data.toList = sc0T x by rw [HS0.out, baL, baL])
      have HWR := Lib.hid (writeK_c B pre (⟨#[10, 35, 32]⟩ ++ hd ++ ⟨#[10]⟩) w2 HBL2.out (by
        have := HLE.out 0
        rw [List.length_append, List.length_append] at this
        rw [← baSz, HE.out]
        omega))
      go_wp2_with fail
      refine HWR.out.mono ?_
      rintro e w3 ⟨rfl, hbl3, hb3, hk3⟩
      rw [HE.out] at hbl3
      have hX3 := keptK hk3 HX2.out (by omega) (by decide)
      obtain ⟨y, _⟩ := str_cells hX3
      have x4 : w3.cell? ⟨wr.heap.size, 4, none⟩ = some (.slice A4 x.paras.length cc4) := y 4
      have hz3 := hb3.size
      have HB3 := Lib.hid (HB2.out.trans (hb3.mono (by omega)))
      have HBL3 := Lib.hid hbl3
      obtain ⟨M, hM⟩ : ∃ M, x.paras.length = M := ⟨_, rfl⟩
      have HMM := Lib.hid hM
      rw [hM] at x4 HPA hq3
      clear hbl3 hb3 hk3 hX3 y HWR HE HB2 HBL2 HX2 hM e1 e2 z3 hhs
      have HZ := Lib.hid (show B < w3.heap.size by omega)
      go_wp2
      go_loopw [28] (fun i wr => ∃ j : Nat, j ≤ M ∧ i = .int .i64 j ∧ Hid (BldK wr B (pre ++ sc0T x ++ (x.paras.take j).flatMap paraT)) ∧ Hid (Below w.heap.size w wr) ∧ B < wr.heap.size) (fun i _ => M - (intOf i).toNat)
      case atStart => exact ⟨0, Nat.zero_le _, rfl, by rw [List.take_zero, List.flatMap_nil, List.append_nil]; exact HBL3, HB3, HZ.out⟩
      case round =>
        clear HB3 HBL3 x4 hz3 hz2 HZ
        obtain ⟨j, hj, rfl, HBL, HB, hzv⟩ := hrel
        by_cases hlj : j < M
        · have hj2 : j < x.paras.length := by rw [HMM.out]; exact hlj
          obtain ⟨b', off', rfl, hfb', p0, p1⟩ := para_at (HPA.out.below HB.out HF.out) j hj2
          have htx := HQ4.out _ (List.getElem_mem hj2)
          have htp := HPS.out _ (List.getElem_mem hj2)
          have hbw' : b' < wr.heap.size := by have := HF.out b' hfb'; omega
          have hpx := flat_next paraT x.paras j hj2
          have hle := HLE.out (j + 1)
          rw [hpx, paraT_eq] at hle
          rw [paraT_eq] at hpx
          generalize x.paras[j]'hj2 = p at *
          have HPX := Lib.hid hpx
          generalize (x.paras.take j).flatMap paraT = fl at *
          have hll2 : (pre ++ sc0T x ++ fl).length + (nlT (nlB p)).length + (lineS p).size + 1 ≤ 140737488355328 := by
            simp only [List.length_append, baSz] at hle ⊢
            have : ([10] : List UInt8).length = 1 := rfl
            omega
          have HAS := Lib.hid (show pre ++ sc0T x ++ (fl ++ (nlT (nlB p) ++ (lineS p).data.toList ++ [10])) = pre ++ sc0T x ++ fl ++ nlT (nlB p) ++ ((lineS p).data.toList ++ [10]) by simp only [List.append_assoc])
          generalize pre ++ sc0T x ++ fl = cur at *
          have hls := sz_line p htx
          clear hle hpx hj2
          have HB1 := Lib.hid (HB.out.alloc (by omega) (.cells #[.int .i64 p.kind, .string p.text] 81))
          have HBL1 := Lib.hid (HBL.out.alloc (.cells #[.int .i64 p.kind, .string p.text] 81))
          have HY1 := Lib.hid (heap_alloc_new wr (.cells #[.int .i64 p.kind, .string p.text] 81))
          clear HBL HB
          go_upto_region 10 with (fail)
          have hwy : (wr.alloc (.cells #[.int .i64 p.kind, .string p.text] 81)).heap.size = wr.heap.size + 1 := by simp
          generalize wr.alloc (.cells #[.int .i64 p.kind, .string p.text] 81) = w4 at *
          have hy4 := HY1.out
          obtain ⟨y, _⟩ := str_cells hy4
          have d0 : w4.cell? ⟨wr.heap.size, 0, none⟩ = some (.int .i64 p.kind) := y 0
          clear y hy4 p0 p1
          have HNL := Lib.hid (show nlB p = decide (p.kind = 1 ∨ p.kind = 5 ∨ p.kind = 2) from rfl)
          generalize nlB p = nl at *
          go_cut [44] (fun bb wx => bb = .bool nl ∧ wx = w4)
          case first =>
            rcases eqF p.kind 1 with ⟨q, qa, qb⟩ | ⟨q, qa, qb⟩
            · have hn := HNL.out.trans (decide_eq_true (.inl q))
              subst hn
              clear q
              go_wp2
              go_meet
              exact ⟨rfl, rfl⟩
            rcases eqF p.kind 5 with ⟨r, ra, rb⟩ | ⟨r, ra, rb⟩
            · have hn := HNL.out.trans (decide_eq_true (.inr (.inl r)))
              subst hn
              clear q r
              go_wp2
              go_meet
              exact ⟨rfl, rfl⟩
            rcases eqF p.kind 2 with ⟨s, sa, sb⟩ | ⟨s, sa, sb⟩
            · have hn := HNL.out.trans (decide_eq_true (.inr (.inr s)))
              subst hn
              clear q r s
              go_wp2
              go_meet
              exact ⟨rfl, rfl⟩
            · have hn := HNL.out.trans (decide_eq_false (by rintro (h | h | h); exact q h; exact r h; exact s h))
              subst hn
              clear q r s
              go_wp2
              go_meet
              exact ⟨rfl, rfl⟩
          case rest =>
          obtain ⟨rfl, rfl⟩ := hcut
          clear d0
          go_upto_if 44 with (fail)
          go_cut [] (fun wx => Hid (BldK wx B (cur ++ nlT nl)) ∧ Hid (wx.heap[wr.heap.size]? = some (.cells #[.int .i64 p.kind, .string p.text] 81 (0, 0))) ∧ Hid (Below w.heap.size w wx) ∧ B < wx.heap.size)
          case first =>
            cases nl with
            | false =>
              go_wp2
              go_meet
              exact ⟨by rw [show nlT false = [] from rfl, List.append_nil]; exact HBL1, HY1, HB1, by omega⟩
            | true =>
              have HWR := Lib.hid (writeK_c B cur ⟨#[10]⟩ wc HBL1.out (by rw [z1]; omega))
              go_wp2_with fail
              refine HWR.out.mono ?_
              rintro e w5 ⟨rfl, hbl5, hb5, hk5⟩
              have hz5 := hb5.size
              have H5 := Lib.hid hbl5
              have HK5 := Lib.hid (keptK hk5 HY1.out (by omega) (by decide))
              have HB5 := Lib.hid (HB1.out.trans (hb5.mono (by omega)))
              clear hbl5 hb5 hk5
              go_wp2
              go_meet
              exact ⟨H5, HK5, HB5, by omega⟩
          case rest =>
            clear HBL1 HY1 HB1
            obtain ⟨HBL5, HY5, HB5, hz5⟩ := hcut
            have hy5 := HY5.out
            obtain ⟨y, _⟩ := str_cells hy5
            have d0 : wc.cell? ⟨wr.heap.size, 0, none⟩ = some (.int .i64 p.kind) := y 0
            have d1 : wc.cell? ⟨wr.heap.size, 1, none⟩ = some (.string p.text) := y 1
            have HLN := Lib.hid (paraLine_c p wc htp htx)
            clear y hy5 HY5
            go_wp2_with fail
            refine HLN.out.mono ?_
            rintro e w6 ⟨rfl, hb6⟩
            have hz6 := hb6.size
            have HB6 := Lib.hid (HB5.out.trans (hb6.mono HB5.out.size))
            have HBL6 := Lib.hid (HBL5.out.below hb6)
            clear hb6 HB5 HBL5 d0 d1 HLN
            generalize lineS p = ln at *
            have e1 : (ln ++ ⟨#[10]⟩ : ByteArray).size = ln.size + 1 := by rw [ByteArray.size_append, z1]
            have HE := Lib.hid (show (ln ++ ⟨#[10]⟩ : ByteArray).data.toList = ln.data.toList ++ [10] by rw [baL])
            have HWR := Lib.hid (writeK_c B (cur ++ nlT nl) (ln ++ ⟨#[10]⟩) w6 HBL6.out (by rw [e1, List.length_append]; omega))
            go_wp2_with fail
            refine HWR.out.mono ?_
            rintro e w7 ⟨rfl, hbl7, hb7, hk7⟩
            rw [HE.out] at hbl7
            have hz7 := hb7.size
            have HBL7 := Lib.hid hbl7
            have HB7 := Lib.hid (HB6.out.trans (hb7.mono (by omega)))
            clear hbl7 hb7 hk7 HWR HBL6 HB6
            go_wp2
            go_roundw
            case rel => exact ⟨j + 1, by omega, intNum, by rw [HPX.out, HAS.out]; exact HBL7, HB7, by omega⟩
            case measure => simp [intOf]; omega
        · have HBLe := Lib.hid (show BldK wr B (preT t ls (k + 1)) by
            rw [HNX.out, HST.out, ← List.append_assoc]
            have h := HBL.out
            rw [List.take_of_length_le (by rw [HMM.out]; omega)] at h
            exact h)
          clear HBL
          go_wp2
          go_roundw
          case rel => exact ⟨k + 1, by omega, intNum, HBLe, HB, hzv⟩
          case measure => simp [intOf]; omega
    · have hpe : preT t ls k = textT ⟨t, ls.map (·.1)⟩ := by
        rw [HTT.out]
        unfold preT
        rw [List.take_of_length_le (by rw [HL.out]; omega)]
      have HTX := Lib.hid (textK_c B (preT t ls k) wr HBL.out)
      have HRE := Lib.hid (show (⟨(preT t ls k).toArray⟩ : ByteArray) = textS ⟨t, ls.map (·.1)⟩ by rw [hpe]; rfl)
      clear hpe
      go_wp2_with fail
      refine HTX.out.mono ?_
      rintro e w8 ⟨rfl, hb8⟩
      have HB8 := Lib.hid (HB.out.trans (hb8.mono (by omega)))
      clear hb8 HTX
      rw [HRE.out]
      go_wp2
      go_ret
      exact ⟨rfl, HB8.out⟩
end Go.Proofs.YtndillbimibecaaGreatDoor

