/- Texts packed: CgM. -/
import Derived.Test.YtmefjkfjpgblcaaGreatDoorSc13
import Derived.Test.YtmefjkfjpgblcaaGreatDoorSc02
import Derived.Test.YtmefjkfjpgblcaaGreatDoorSc34
import Derived.Test.YtmefjkfjpgblcaaGreatDoorSc08
import Derived.Laws.MakeOwn
/- take.covering, walked. -/
namespace Go.Proofs.YtmefjkfjpgblcaaGreatDoor
set_option linter.unusedVariables false
open Go.RowKit Go.Sort

def prtR : Rep Prt := Rep.flat 5 (fun p : Prt => [.int .i64 (p.1 : Int), .int .i64 p.2.para, .int .i64 p.2.tin, .int .i64 p.2.tout, .bool p.2.on]) (fun _ => rfl)
theorem keyPt : PlainKey Tryz.prog 3 (Value.int .i64) := plainKey_int Tryz.underlying3
theorem undPm : Tryz.prog.underlying 154 = some (.map 3 158) := by kernel_rfl
theorem undPs : Tryz.prog.underlying 158 = some (.slice 161) := by kernel_rfl
theorem zeroPs (w : World) : (zeroValue 158).run Tryz.prog w = .ok (.slice none 0 0) w := by kernel_rfl
def cvCs (y : Cov) : Array Value := #[.int .i64 y.para, .int .i64 y.tin, .int .i64 y.tout, .bool y.on]
theorem cvCs_cells {W : World} {b : Nat} {y : Cov} {T : TypeId} (h : cellsP (cvCs y) T W.heap[b]?) : W.cell? ⟨b, 0, none⟩ = some (.int .i64 y.para) ∧ W.cell? ⟨b, 1, none⟩ = some (.int .i64 y.tin) ∧ W.cell? ⟨b, 2, none⟩ = some (.int .i64 y.tout) ∧ W.cell? ⟨b, 3, none⟩ = some (.bool y.on) := by
  obtain ⟨q, _⟩ := str_cells h
  exact ⟨q 0, q 1, q 2, q 3⟩
/-- The list of maps, the first k of which are laid. -/
def outCs (N : Nat) (mb : Nat → Nat) (k : Nat) : Array Value := ((List.range N).map fun j => if j < k then Value.map (some (mb j)) else Value.map none).toArray
theorem outCs_size (N : Nat) (mb : Nat → Nat) (k : Nat) : (outCs N mb k).size = N := by unfold outCs; simp
theorem outCs_get (N : Nat) (mb : Nat → Nat) (k j : Nat) (hj : j < N) : (outCs N mb k)[j]? = some (if j < k then Value.map (some (mb j)) else Value.map none) := by
  unfold outCs
  simp [hj]
theorem outCs_next (N : Nat) (mb : Nat → Nat) (k B : Nat) : (outCs N mb k).setIfInBounds k (.map (some B)) = outCs N (fun i => if i = k then B else mb i) (k + 1) := by
  apply Array.ext
  · simp [outCs_size]
  · intro j h1 h2
    rw [outCs_size] at h2
    rw [Array.getElem_setIfInBounds (by simpa using h1)]
    have e1 := outCs_get N mb k j h2
    have e2 := outCs_get N (fun i => if i = k then B else mb i) (k + 1) j h2
    rw [Array.getElem?_eq_getElem (by rw [outCs_size]; exact h2)] at e1 e2
    injection e1 with e1
    injection e2 with e2
    rw [e2]
    by_cases hk : k = j
    · subst hk; simp
    · rw [if_neg hk, e1]
      have : ¬ j = k := fun e => hk e.symm
      rw [if_neg this]
      by_cases hlt : j < k
      · rw [if_pos hlt, if_pos (by omega)]
      · rw [if_neg hlt, if_neg (by omega)]
theorem outCs_made (N : Nat) (mb : Nat → Nat) : madeCells #[Value.map none] N = outCs N mb 0 := by
  apply Array.ext
  · rw [outCs_size, size_madeCells]
  · intro j h1 h2
    rw [outCs_size] at h2
    have e2 := outCs_get N mb 0 j h2
    rw [Array.getElem?_eq_getElem (by rw [outCs_size]; exact h2)] at e2
    injection e2 with e2
    rw [e2]
    simp [madeCells, Nat.mod_one]
section
variable {κ α : Type} [DecidableEq κ] {n : Nat} {enc : α → List Value} {hn : ∀ x, (enc x).length = n} {mk : κ → Value} {e : TypeId} {N : Nat} {inn : Nat → κ → List α} {w wx : World} {mb : Nat → Nat} {m : Nat → List (κ × Value)} {P : List Pb}
theorem NM.set0 {b : Nat} {cs : Array Value} {T : TypeId} (h : NM (Rep.flat n enc hn) mk e N inn w mb m ((b, cellsP cs T) :: P) wx) (i : Nat) (u : Value) (hd : ∀ p ∈ P, p.1 ≠ b) : NM (Rep.flat n enc hn) mk e N inn w mb m ((b, cellsP (cs.setIfInBounds i u) T) :: P) (wx.setCell ⟨b, i, none⟩ u) := by
  have a1 : wx.heap[b]? = some (.cells cs T (0, 0)) := (h.prv (b, cellsP cs T) (by simp)).1
  refine h.poke hd ?_ ⟨rfl, rfl, rfl, by simp [World.setCell], fun i' _ hne => Below.heap_setCell wx _ u i' (fun e => hne (by rw [e]))⟩
  show _ = _
  simp [World.setCell, Array.getElem?_modify, a1]
end
abbrev CvG (N : Nat) (inn : Nat → Int → List Prt) (w : World) (mb : Nat → Nat) (m : Nat → List (Int × Value)) (P : List Pb) (wx : World) : Prop := NM prtR (Value.int .i64) 161 N inn w mb m P wx
def CvgP (N : Nat) (inn : Nat → Int → List Prt) (w : World) (e : Ending) (w' : World) : Prop := ∃ (OUT : Nat) (mb : Nat → Nat) (m : Nat → List (Int × Value)), e = .returned (.slice (some ⟨OUT, 0, none⟩) N N) ∧ CvG N inn w mb m [(OUT, cellsP (outCs N mb N) 154)] w'
set_option maxRecDepth 100000 in
set_option maxHeartbeats 16000000 in
theorem covering_c {F F2 : Nat → Prop} (t : ByteArray) (ls : List (Scene × Value)) (v : Value) (tl : List (Tk × Value)) (tv : Value) (w : World) (h : ScL w F t ls v) (ht : TkW w F2 tl tv) (hok : CvOk (ls.map (·.1)) (tl.map (·.1))) (hN : ls.length ≤ 100000) (hL3 : tl.length ≤ 3000) :
    Calls Tryz.prog 103 #[.agg #[.string t, v], tv] w (CvgP ls.length (cvs (ls.map (·.1)) (tl.map (·.1))) w) := by
  obtain ⟨A, c, rfl, hlc, hcm⟩ := h.sli.form
  obtain ⟨A2, c2, rfl, hlc2, hcm2⟩ := ht.sli.form
  obtain ⟨i0, hi0, hz0, hz1, hz2⟩ := info_parts (show (Tryz.prog.info? 161).map (fun i => (i.zero, i.size, i.bytes)) = some (some (.agg #[.int .i64 0, .int .i64 0, .int .i64 0, .int .i64 0, .bool false]), 5, 40) by kernel_rfl)
  obtain ⟨i1, hk0, hk1, hk2, hk3⟩ := info_parts (show (Tryz.prog.info? 154).map (fun i => (i.zero, i.size, i.bytes)) = some (some (.map none), 1, 8) by kernel_rfl)
  obtain ⟨N, hN'⟩ : ∃ N, ls.length = N := ⟨_, rfl⟩
  obtain ⟨L, hL⟩ : ∃ L, tl.length = L := ⟨_, rfl⟩
  have HL := Lib.hid hL
  have HN := Lib.hid hN'
  have HOK := Lib.hid hok
  have HT := Lib.hid ht
  have HLK := Lib.hid (fun s => lk_scn_all (xs := ls.map (·.1)) hok.dis s)
  have hG0 := NM.start (n := 5) (enc := fun p : Prt => [.int .i64 (p.1 : Int), .int .i64 p.2.para, .int .i64 p.2.tin, .int .i64 p.2.tout, .bool p.2.on]) (hn := fun _ => rfl) (mk := Value.int .i64) (e := 161) (inn := fun _ _ => []) (w := w) (wx := w) (mb := fun _ => 0) (m := fun _ => []) (P := []) (Below.refl _ _) (fun p hp => by cases hp)
  have hG1 := hG0.new #[.string t, .slice A ls.length c] 44
  have HSO := Lib.hid (scenesOf_c t ls (.slice A ls.length c) (w.alloc (.cells #[.string t, .slice A ls.length c] 44)) (h.below hG1.bel))
  rw [hN'] at hlc hG1 HSO hN
  rw [hL] at hlc2 HT hL3
  rw [hN', hL]
  have HG1 := Lib.hid (show CvG 0 (fun _ _ => []) w (fun _ => 0) (fun _ => []) [(w.heap.size, cellsP #[.string t, .slice A N c] 44)] (w.alloc (.cells #[.string t, .slice A N c] 44)) from hG1)
  clear h ht hok hG0 hG1 hN' hL
  go_enter Tryz.func103, Tryz.ntmps103
  go_upto_region 1 with (fail)
  have hXc := (HG1.out.cell (b := w.heap.size) (cs := #[.string t, .slice A N c]) (T := 44) (by simp)).1
  have x0 : (w.alloc (.cells #[.string t, .slice A N c] 44)).cell? ⟨w.heap.size, 0, none⟩ = some (.string t) := hXc 0
  have x1 : (w.alloc (.cells #[.string t, .slice A N c] 44)).cell? ⟨w.heap.size, 1, none⟩ = some (.slice A N c) := hXc 1
  clear hXc
  generalize w.alloc (.cells #[.string t, .slice A N c] 44) = w1 at *
  go_wp2_with fail
  refine HSO.out.mono ?_
  rintro e w2 ⟨M, rfl, hM, hMM, hb2⟩
  have HG2 := Lib.hid (HG1.out.block hb2 hM hMM.lt (show mapP Value.string (mpS (ls.map (·.1)) (ls.map (·.1)).length) w2.heap[M]? from hMM))
  clear hb2 hMM HSO HG1 x0 x1
  generalize mpS (ls.map (·.1)) (ls.map (·.1)).length = mps at *
  have hXc := (HG2.out.cell (b := w.heap.size) (cs := #[.string t, .slice A N c]) (T := 44) (by simp)).1
  have x1 : w2.cell? ⟨w.heap.size, 1, none⟩ = some (.slice A N c) := hXc 1
  have hmk := run_make (P := Tryz.prog) w2 155 154 i1 (.map none) (by kernel_rfl) hk0 hk1 .i64 .i64 (N : Int) (N : Int) (by omega) (Int.le_refl _) (by rw [hk3]; omega) (by omega)
  simp only [Int.toNat_natCast, hk2, Nat.mul_one] at hmk
  rw [show (Value.map none).cells = #[Value.map none] from rfl, outCs_made N (fun _ => 0)] at hmk
  have hMO : M < w2.heap.size := (HG2.out.plt (b := M) (f := mapP Value.string mps) (by simp)).2
  have hXO : w.heap.size < w2.heap.size := (HG2.out.plt (b := w.heap.size) (f := cellsP #[.string t, .slice A N c] 44) (by simp)).2
  have HG3 := Lib.hid ((HG2.out.new (outCs N (fun _ => 0) 0) 154))
  clear hXc HG2
  go_upto_region 3 with (fail)
  clear hmk x1
  generalize hOUT : w2.heap.size = OUT at *
  generalize w2.alloc (.cells (outCs N (fun _ => 0) 0) 154) = w3 at *
  have hmm := @run_makeMap Tryz.prog
  clear hOUT
  go_wp2
  go_loopw [21] (fun iv wr => ∃ (k : Nat) (mb : Nat → Nat) (m : Nat → List (Int × Value)), k ≤ N ∧ iv = .int .i64 k ∧ Hid (CvG k (fun _ _ => []) w mb m [(OUT, cellsP (outCs N mb k) 154), (M, mapP Value.string mps), (w.heap.size, cellsP #[.string t, .slice A N c] 44)] wr)) (fun iv _ => N - (intOf iv).toNat)
  case atStart => exact ⟨0, _, _, Nat.zero_le _, rfl, HG3.out⟩
  case round =>
    clear HG3
    obtain ⟨k, mb, ms, hk, rfl, HG⟩ := hrel
    by_cases hlt : k < N
    · obtain ⟨y, yf⟩ := HG.out.cell (b := OUT) (cs := outCs N mb k) (T := 154) (by simp)
      have hOw := (HG.out.plt (b := OUT) (f := cellsP (outCs N mb k) 154) (by simp)).2
      have c0 : wr.cell? ⟨OUT, k, none⟩ = some (.map none) := (y k).trans (by rw [outCs_get N mb k k hlt, if_neg (by omega)])
      have f0 : wr.frozen? ⟨OUT, k, none⟩ = false := yf k
      have HG4 := Lib.hid ((HG.out.more (inn := fun _ _ => []) ((Below.refl _ wr).alloc (Nat.le_refl _) (.map #[] 0)) (Nat.le_refl _) (MapL.made wr) (fun _ => rfl)).set0 k (.map (some wr.heap.size)) (by simp only [List.mem_cons, List.not_mem_nil, or_false, forall_eq_or_imp, forall_eq]; omega))
      rw [outCs_next, World.setCell_alloc_past _ _ _ _ hOw] at HG4
      clear y yf HG
      go_wp2
      go_roundw
      case rel => exact ⟨k + 1, _, _, by omega, intNum, HG4⟩
      case measure => simp [intOf]; omega
    · have hkN : k = N := by omega
      subst hkN
      rw [← cvsTo_0 (ls.map (·.1)) (tl.map (·.1))] at HG
      clear hmm hlt hk
      go_wp2
      go_loopw [31] (fun iv wr => ∃ (q : Nat) (m : Nat → List (Int × Value)), q ≤ L ∧ iv = .int .i64 q ∧ Hid (CvG k (cvsTo (ls.map (·.1)) (tl.map (·.1)) q) w mb m [(OUT, cellsP (outCs k mb k) 154), (M, mapP Value.string mps), (w.heap.size, cellsP #[.string t, .slice A k c] 44)] wr)) (fun iv _ => L - (intOf iv).toNat)
      case atStart => exact ⟨0, _, Nat.zero_le _, rfl, HG.out⟩
      case round =>
        clear HG
        obtain ⟨q, m2, hq, rfl, HG⟩ := hrel
        by_cases hqlt : q < L
        · have hq2 : q < tl.length := by rw [HL.out]; exact hqlt
          obtain ⟨bt, off, rfl, hfb, c0, c1, c2', c3, c4, c5, c6, c7, c8⟩ := tkAt (HT.out.below HG.out.bel).sli q hq2
          have hmem := List.getElem_mem hq2
          obtain ⟨q1, q2, q3, q4, q5⟩ := HT.out.bd _ hmem
          have hcv := HT.out.cov _ hmem
          obtain ⟨A8, cc8, h8, _, _⟩ := hcv.form
          rw [h8] at c8 hcv
          have hqm : q < (tl.map (·.1)).length := by rw [List.length_map]; exact hq2
          have hnx := cvsTo_next (ls.map (·.1)) (tl.map (·.1)) q hqm
          rw [List.getElem_map] at hnx
          obtain ⟨i, hi⟩ := HOK.out.scn _ (List.mem_map_of_mem hmem)
          have HCL := Lib.hid (fun (i : Nat) (qq : Int) => Nat.le_trans (cvsTo_len (ls.map (·.1)) (tl.map (·.1)) 300000 (fun t ht => by obtain ⟨y, hy, rfl⟩ := List.mem_map.1 ht; exact (HT.out.bd y hy).2.2.2.2) i qq q) (show q * 300000 ≤ 900000000 by omega))
          have hbw : bt < wr.heap.size := World.block_lt_of_cell? _ _ c0
          clear h8 hmem
          generalize (tl[q]'hq2).1 = x at *
          have HCV := Lib.hid hcv
          have HNX := Lib.hid hnx
          have HSI := Lib.hid hi
          have hiN : i < k := by
            obtain ⟨hj, _⟩ := scnIdx_some hi
            rw [List.length_map] at hj
            rw [← HN.out]; exact hj
          have HG1 := Lib.hid (HG.out.new (tkCs x (.slice A8 x.covers.length cc8)) 122)
          rw [← cvsIn_0 (ls.map (·.1)) (tl.map (·.1)) q x] at HG1
          clear hcv hnx hi hq2 hqm
          go_upto_region 11 with (fail)
          generalize hW5 : wr.alloc (.cells #[.string x.scene, .string x.setup, .int .i64 x.number, .string x.roll, .string x.sound, .int .i64 x.tin, .int .i64 x.tout, .bool x.good, .slice A8 x.covers.length cc8] 122) = w5
          have HG2 := Lib.hid (show CvG k (cvsIn (ls.map (·.1)) (tl.map (·.1)) q 0 x) w mb m2 ((wr.heap.size, cellsP (tkCs x (.slice A8 x.covers.length cc8)) 122) :: [(OUT, cellsP (outCs k mb k) 154), (M, mapP Value.string mps), (w.heap.size, cellsP #[.string t, .slice A k c] 44)]) w5 by rw [← hW5]; exact HG1.out)
          clear HG1 hW5 HG c0 c1 c2' c3 c4 c5 c6 c7 c8
          generalize wr.heap.size = B at *
          have g8 := (tkCs_cells (HG2.out.prv (B, cellsP (tkCs x (.slice A8 x.covers.length cc8)) 122) (by simp)).1).2.2.2.2.2.2.2.2
          go_wp2
          go_loopw [39] (fun iv wr => ∃ (j : Nat) (ms : Nat → List (Int × Value)), j ≤ x.covers.length ∧ iv = .int .i64 j ∧ Hid (CvG k (cvsIn (ls.map (·.1)) (tl.map (·.1)) q j x) w mb ms [(B, cellsP (tkCs x (.slice A8 x.covers.length cc8)) 122), (OUT, cellsP (outCs k mb k) 154), (M, mapP Value.string mps), (w.heap.size, cellsP #[.string t, .slice A k c] 44)] wr)) (fun iv _ => x.covers.length - (intOf iv).toNat)
          case atStart => exact ⟨0, _, Nat.zero_le _, rfl, HG2.out⟩
          case round =>
            clear HG2 g8
            obtain ⟨j, ms, hj, rfl, HG⟩ := hrel
            by_cases hjlt : j < x.covers.length
            · obtain ⟨bc, ofc, rfl, hfc, d0, d1, d2, d3⟩ := covAt (HCV.out.below HG.out.bel HT.out.lt) j hjlt
              have HNJ := Lib.hid (cvsIn_next (ls.map (·.1)) (tl.map (·.1)) q j x hjlt HSI.out)
              have hbc : bc < wr.heap.size := World.block_lt_of_cell? _ _ d0
              generalize (x.covers[j]'hjlt) = y at *
              have HG1 := Lib.hid (HG.out.new (cvCs y) 124)
              clear HG
              go_upto_region 14 with (fail)
              generalize hW6 : wr.alloc (.cells #[.int .i64 y.para, .int .i64 y.tin, .int .i64 y.tout, .bool y.on] 124) = w6
              have HG2 := Lib.hid (show CvG k (cvsIn (ls.map (·.1)) (tl.map (·.1)) q j x) w mb ms ((wr.heap.size, cellsP (cvCs y) 124) :: [(B, cellsP (tkCs x (.slice (some ⟨bc, ofc, none⟩) x.covers.length cc8)) 122), (OUT, cellsP (outCs k mb k) 154), (M, mapP Value.string mps), (w.heap.size, cellsP #[.string t, .slice A k c] 44)]) w6 by rw [← hW6]; exact HG1.out)
              clear HG1 hW6 d0 d1 d2 d3
              generalize wr.heap.size = C at *
              obtain ⟨g0, _, _, _, _, _, _, _, _⟩ := tkCs_cells (HG2.out.prv (B, cellsP (tkCs x (.slice (some ⟨bc, ofc, none⟩) x.covers.length cc8)) 122) (by simp)).1
              have o1 : w6.cell? ⟨OUT, i, none⟩ = some (.map (some (mb i))) := ((HG2.out.cell (b := OUT) (cs := outCs k mb k) (T := 154) (by simp)).1 i).trans (by rw [outCs_get k mb k i hiN, if_pos hiN])
              have hik : (i : Int) < k := by omega
              have hi0' : (0 : Int) ≤ i := by omega
              have HMM := Lib.hid (HG2.out.pmap (b := M) (mk' := Value.string) (m' := mps) (by simp))
              have hIX := HLK.out x.scene
              rw [HSI.out] at hIX
              have HIX := Lib.hid hIX
              clear hIX
              go_cut [12] (fun s12 wx => s12 = .map (some (mb i)) ∧ w6 = wx)
              case first =>
                go_wp2_with (first | (at_lookup; refine wpList_lookup_plain _ rfl _ _ 116 false rfl 9 3 keyTc Tryz.underlying116 (.int .i64 0) (zeroIc _) M mps rfl HMM.out x.scene rfl ?_; rw [HIX.out]; simp only [Bool.false_eq_true, if_false, Option.map_some, Option.getD_some]) | fail)
                go_meet
                exact ⟨rfl, rfl⟩
              case rest =>
              obtain ⟨rfl, hwx⟩ := hcut
              subst hwx
              clear g0 o1 HMM HIX
              obtain ⟨vR, hvR⟩ : ∃ v, (lk (ms i) y.para).getD (.slice none 0 0) = v := ⟨_, rfl⟩
              have HVR := Lib.hid hvR
              have HCX := Lib.hid (fun (W : World) (h : W.heap[C]? = w6.heap[C]?) => cvCs_cells (show cellsP (cvCs y) 124 W.heap[C]? by rw [h]; exact (HG2.out.prv (C, cellsP (cvCs y) 124) (by simp)).1))
              have HCE := Lib.hid (fun (W : World) (h : CvG k (cvsIn (ls.map (·.1)) (tl.map (·.1)) q j x) w mb ms [(C, cellsP (cvCs y) 124), (B, cellsP (tkCs x (.slice (some ⟨bc, ofc, none⟩) x.covers.length cc8)) 122), (OUT, cellsP (outCs k mb k) 154), (M, mapP Value.string mps), (w.heap.size, cellsP #[.string t, .slice A k c] 44)] W) => cvCs_cells (h.prv (C, cellsP (cvCs y) 124) (by simp)).1)
              obtain ⟨ι, ff, hne, hff, hfS⟩ := family (fun W => W.cell? ⟨C, 0, none⟩ = some (.int .i64 y.para) ∧ W.cell? ⟨C, 1, none⟩ = some (.int .i64 y.tin) ∧ W.cell? ⟨C, 2, none⟩ = some (.int .i64 y.tout) ∧ W.cell? ⟨C, 3, none⟩ = some (.bool y.on)) w6 (HCE.out _ HG2.out)
              have s0 := fun p => (hff p).1
              have s1 := fun p => (hff p).2.1
              have s2 := fun p => (hff p).2.2.1
              have s3 := fun p => (hff p).2.2.2
              have HFS := Lib.hid hfS
              have HGD := Lib.hid HG2.out.drew
              have HGA := Lib.hid ((HG2.out.alloc (.cells #[.int .i64 (q : Int), .int .i64 y.para, .int .i64 y.tin, .int .i64 y.tout, .bool y.on] 161)).drew)
              have hOA := HGA.out.at_ hiN y.para
              rw [hvR] at hOA
              have HOA := Lib.hid hOA
              have hln : (cvsIn (ls.map (·.1)) (tl.map (·.1)) q j x i y.para).length ≤ 900300000 := by
                unfold cvsIn
                rw [List.length_append]
                have h1 := HCL.out i y.para
                have h2 := cvOf_len (ls.map (·.1)) i y.para q x j
                omega
              have HNW := Lib.hid (show ((w6.alloc (.cells #[.int .i64 (q : Int), .int .i64 y.para, .int .i64 y.tin, .int .i64 y.tout, .bool y.on] 161)).drew).heap[w6.heap.size]? = some (.cells #[.int .i64 (q : Int), .int .i64 y.para, .int .i64 y.tin, .int .i64 y.tout, .bool y.on] 161 (0, 0)) from heap_alloc_new w6 _)
              have HWL := Lib.hid (show (cvsIn (ls.map (·.1)) (tl.map (·.1)) q j x i y.para).length + 1 ≤ maxLen ∧ ((cvsIn (ls.map (·.1)) (tl.map (·.1)) q j x i y.para).length + 1) * 40 ≤ 140737488355328 from ⟨by unfold maxLen; omega, by omega⟩)
              have HPG := Lib.hid (fun (W : World) (hg : ((w6.alloc (.cells #[.int .i64 (q : Int), .int .i64 y.para, .int .i64 y.tin, .int .i64 y.tout, .bool y.on] 161)).drew).grownBy W vR.ownBlock) => show W.heap[C]? = w6.heap[C]? ∧ MapL W (mb i) (Value.int .i64) (ms i) from by
                rw [← HVR.out] at hg
                have hlt := (HG2.out.plt (b := C) (f := cellsP (cvCs y) 124) (by simp)).2
                exact ⟨(HGA.out.prv_grown hiN y.para hg (b := C) (f := cellsP (cvCs y) 124) (by simp)).trans (Below.heap_alloc _ _ _ hlt), HGA.out.map_grown hiN y.para hg hiN⟩)
              have HPU := Lib.hid (fun (W W' : World) (v' : Value) (g : Nat) (hown : Own prtR W w.heap.size w.heap.size 161 (cvsIn (ls.map (·.1)) (tl.map (·.1)) q j x i y.para ++ [(q, y)]) v') (hg : ((w6.alloc (.cells #[.int .i64 (q : Int), .int .i64 y.para, .int .i64 y.tin, .int .i64 y.tout, .bool y.on] 161)).drew).grownBy W vR.ownBlock) (hv : v'.ownBlock = some g) (hat : vR.ownBlock = some g ∨ g = ((w6.alloc (.cells #[.int .i64 (q : Int), .int .i64 y.para, .int .i64 y.tin, .int .i64 y.tout, .bool y.on] 161)).drew).heap.size) (hm : MapL W' (mb i) (Value.int .i64) (up (ms i) y.para v')) (hz : W.grownBy W' (some (mb i))) =>
                show CvG k (cvsIn (ls.map (·.1)) (tl.map (·.1)) q (j + 1) x) w mb (fun i' => if i' = i then up (ms i) y.para v' else ms i') [(C, cellsP (cvCs y) 124), (B, cellsP (tkCs x (.slice (some ⟨bc, ofc, none⟩) x.covers.length cc8)) 122), (OUT, cellsP (outCs k mb k) 154), (M, mapP Value.string mps), (w.heap.size, cellsP #[.string t, .slice A k c] 44)] W' from by
                  rw [← HVR.out] at hg hat
                  unfold CvG
                  rw [HNJ.out]
                  exact HGA.out.push hiN hown hg hv (hat.imp id (fun h => Nat.le_of_eq h.symm)) hm hz)
              clear hff hfS hOA hvR hln
              go_upto_region 15 with (fail)
              refine stp_start [6, 10, 11] (by kernel_rfl) (fun W => ∃ p : ι, W = ff p) ?_
              refine stp_reads (n := 5) [0, 1, 3, 4, 7] [2, 5, 8] (by simp only [pick, List.getElem?_cons_succ, List.getElem?_cons_zero]; rfl) (by simp only [pick, List.getElem?_cons_succ, List.getElem?_cons_zero]; rfl) (by rfl) (by kernel_rfl) (by rfl) (fun _ _ _ dd _ h => by cases dd <;> exact h) (HFS.out _ (HCE.out _ HGD.out)) (fun K1 hK1 L1 hL1 => ?_)
              repeat (first | go_big_quiet_step (fail) | quiet_step (fail))
              refine wpQuiet_nil (hL1 _ ?_)
              repeat (first | go_big_quiet_step (fail) | quiet_step (fail))
              refine wpQuiet_nil ?_
              refine hK1 _ ?_
              refine stp_reads (n := 4) [9] [] (by simp only [pick, List.getElem?_cons_succ, List.getElem?_cons_zero]; rfl) (by simp only [pick, List.getElem?_cons_succ, List.getElem?_cons_zero]; rfl) (by rfl) (by kernel_rfl) (by rfl) (fun _ _ _ dd _ h => by cases dd <;> exact h) (HFS.out _ (HCE.out _ HGD.out)) (fun K2 hK2 L2 hL2 => ?_)
              repeat (first | go_big_quiet_step (fail) | quiet_step (fail))
              refine wpQuiet_nil (hL2 _ ?_)
              repeat (first | go_big_quiet_step (fail) | quiet_step (fail))
              refine wpQuiet_nil ?_
              refine hK2 _ ?_
              refine stp_two (i := 6) (j := 10) (by kernel_rfl) rfl rfl (by kernel_rfl) (by kernel_rfl) (by rfl) (by rfl) (fun K3 hK3 => ?_) (fun K4 hK4 => ?_)
              · refine Or.inl ⟨by kernel_rfl, ?_⟩
                refine oper_lookup _ _ 154 false rfl 3 158 keyPt undPm (.slice none 0 0) (zeroPs _) (mb i) (ms i) rfl (HGD.out.map i hiN) y.para rfl ?_
                simp only [Bool.false_eq_true, if_false]
                rw [HVR.out]
                refine hK3 (fun W => ∃ p : ι, W = ff p) _ _ (fun _ h => h) (fun _ => HFS.out _ (HCE.out _ HGD.out)) ?_
                refine stp_one (i := 10) (by kernel_rfl) rfl (by kernel_rfl) (by rfl) (fun K5 hK5 => ?_)
                refine Or.inl ⟨by kernel_rfl, ?_⟩
                go_simp
                refine hK5 (fun W => ∃ p : ι, W = ff p) _ _ (fun _ h => h) (fun _ => HFS.out _ (HCE.out _ HGA.out)) ?_
                refine stp_one (i := 11) (by kernel_rfl) rfl (by kernel_rfl) (by rfl) (fun K6 hK6 => ?_)
                refine Or.inl ⟨by kernel_rfl, ?_⟩
                refine oper_push (R := prtR) rfl _ _ _ rfl w.heap.size w.heap.size 161 i0 _ 40 undPs hi0 hz0 hz1 hz2 rfl (by decide) _ vR (cvsIn (ls.map (·.1)) (tl.map (·.1)) q j x i y.para) rfl ?_ (q, y) _ rfl (oneC rfl) w6.heap.size 161 1 ?_ rfl ?_ ?_ ?_ ?_
                · exact HOA.out
                · exact HNW.out
                · exact HWL.out.1
                · exact HWL.out.2
                · exact HGA.out.size
                intro g7 cap7 w7 hown7 hg7 hat7 hlt7
                have hcx := HPG.out _ hg7
                refine hK6 (fun W => ∃ p : ι, W = ff p) _ _ (fun _ h => h) (fun _ => HFS.out _ (HCX.out _ hcx.1)) ?_
                refine stp_one (i := 12) (by kernel_rfl) rfl (by kernel_rfl) (by rfl) (fun K7 hK7 => ?_)
                refine Or.inl ⟨by kernel_rfl, ?_⟩
                refine oper_update _ _ _ 154 rfl 3 158 keyPt undPm (mb i) (ms i) rfl hcx.2 y.para rfl _ rfl ?_
                intro w8 hm8 hg8
                have HGE := Lib.hid (HPU.out _ _ _ _ hown7 hg7 rfl hat7 hm8 hg8)
                refine hK7 (fun W => ∃ p : ι, W = ff p) _ _ (fun _ h => h) (fun h => absurd h (by decide)) ?_
                refine stp_end (by kernel_rfl) ?_
                have HG4 := Lib.hid (HGE.out.less (Q := [(B, cellsP (tkCs x (.slice (some ⟨bc, ofc, none⟩) x.covers.length cc8)) 122), (OUT, cellsP (outCs k mb k) 154), (M, mapP Value.string mps), (w.heap.size, cellsP #[.string t, .slice A k c] 44)]) (fun p hp => List.mem_cons_of_mem _ hp))
                clear HGE HGD HGA HOA HWL HNW HPG HPU HFS s0 s1 s2 s3 HCX HCE HVR HG2
                go_wp2
                go_roundw
                case rel => exact ⟨j + 1, _, by omega, intNum, HG4⟩
                case measure => simp [intOf]; omega
              · refine Or.inl ⟨by kernel_rfl, ?_⟩
                go_simp
                refine hK4 (fun W => ∃ p : ι, W = ff p) _ _ (fun _ h => h) (fun _ => HFS.out _ (HCE.out _ HGA.out)) ?_
                refine stp_one (i := 6) (by kernel_rfl) rfl (by kernel_rfl) (by rfl) (fun K8 hK8 => ?_)
                refine Or.inl ⟨by kernel_rfl, ?_⟩
                refine oper_lookup _ _ 154 false rfl 3 158 keyPt undPm (.slice none 0 0) (zeroPs _) (mb i) (ms i) rfl (HGA.out.map i hiN) y.para rfl ?_
                simp only [Bool.false_eq_true, if_false]
                rw [HVR.out]
                refine hK8 (fun W => ∃ p : ι, W = ff p) _ _ (fun _ h => h) (fun _ => HFS.out _ (HCE.out _ HGA.out)) ?_
                refine stp_one (i := 11) (by kernel_rfl) rfl (by kernel_rfl) (by rfl) (fun K9 hK9 => ?_)
                refine Or.inl ⟨by kernel_rfl, ?_⟩
                refine oper_push (R := prtR) rfl _ _ _ rfl w.heap.size w.heap.size 161 i0 _ 40 undPs hi0 hz0 hz1 hz2 rfl (by decide) _ vR (cvsIn (ls.map (·.1)) (tl.map (·.1)) q j x i y.para) rfl ?_ (q, y) _ rfl (oneC rfl) w6.heap.size 161 1 ?_ rfl ?_ ?_ ?_ ?_
                · exact HOA.out
                · exact HNW.out
                · exact HWL.out.1
                · exact HWL.out.2
                · exact HGA.out.size
                intro g7 cap7 w7 hown7 hg7 hat7 hlt7
                have hcx := HPG.out _ hg7
                refine hK9 (fun W => ∃ p : ι, W = ff p) _ _ (fun _ h => h) (fun _ => HFS.out _ (HCX.out _ hcx.1)) ?_
                refine stp_one (i := 12) (by kernel_rfl) rfl (by kernel_rfl) (by rfl) (fun K10 hK10 => ?_)
                refine Or.inl ⟨by kernel_rfl, ?_⟩
                refine oper_update _ _ _ 154 rfl 3 158 keyPt undPm (mb i) (ms i) rfl hcx.2 y.para rfl _ rfl ?_
                intro w8 hm8 hg8
                have HGE := Lib.hid (HPU.out _ _ _ _ hown7 hg7 rfl hat7 hm8 hg8)
                refine hK10 (fun W => ∃ p : ι, W = ff p) _ _ (fun _ h => h) (fun h => absurd h (by decide)) ?_
                refine stp_end (by kernel_rfl) ?_
                have HG4 := Lib.hid (HGE.out.less (Q := [(B, cellsP (tkCs x (.slice (some ⟨bc, ofc, none⟩) x.covers.length cc8)) 122), (OUT, cellsP (outCs k mb k) 154), (M, mapP Value.string mps), (w.heap.size, cellsP #[.string t, .slice A k c] 44)]) (fun p hp => List.mem_cons_of_mem _ hp))
                clear HGE HGD HGA HOA HWL HNW HPG HPU HFS s0 s1 s2 s3 HCX HCE HVR HG2
                go_wp2
                go_roundw
                case rel => exact ⟨j + 1, _, by omega, intNum, HG4⟩
                case measure => simp [intOf]; omega
            · have hjx : j = x.covers.length := by omega
              subst hjx
              rw [← HNX.out] at HG
              have HG4 := Lib.hid (HG.out.less (Q := [(OUT, cellsP (outCs k mb k) 154), (M, mapP Value.string mps), (w.heap.size, cellsP #[.string t, .slice A k c] 44)]) (fun p hp => List.mem_cons_of_mem _ hp))
              clear HG HCV HNX hj hjlt
              go_wp2
              go_roundw
              case rel => exact ⟨q + 1, ms, by omega, intNum, HG4.out⟩
              case measure => simp [intOf]; omega
        · have hqL : q = L := by omega
          have HE := Lib.hid (show cvs (ls.map (·.1)) (tl.map (·.1)) = cvsTo (ls.map (·.1)) (tl.map (·.1)) q by unfold cvs; rw [List.length_map, HL.out, hqL])
          clear hq hqL
          go_wp2
          go_ret
          exact ⟨OUT, mb, m2, rfl, by rw [HE.out]; exact HG.out.less (by simp)⟩
end Go.Proofs.YtmefjkfjpgblcaaGreatDoor

