/- The generator's copies. -/
import Derived.Test.YtnjbbkocobegiaaDoorGenE
import Derived.Test.YtnjbbkocobegiaaDoorHexX
import Derived.Test.YtnjbbkocobegiaaDoorFilesC
import Derived.Deep.DeepCutAuto
namespace Go.Proofs.YtnjbbkocobegiaaDoor
set_option linter.unusedVariables false
open Go.RowKit Go.Sort

/-- A copy in a block of its own. -/
def BoxC (w : World) (B : Nat) (x : Copied) : Prop := w.heap[B]? = some (.cells #[.string x.name, .int .i64 x.size, .string x.sum] 35 (0, 0))
def CopNames : Array Value := #[.string ⟨#[97, 49, 46, 109, 111, 118]⟩, .string ⟨#[98]⟩, .string ⟨#[99, 95, 50]⟩, .string ⟨#[100, 45, 51]⟩]
theorem copNames_at (k : Nat) (hk : k < 4) : ∃ nm : ByteArray, CopNames[k]? = some (.string nm) ∧ nm.size ≤ 100 := by
  rcases (by omega : k = 0 ∨ k = 1 ∨ k = 2 ∨ k = 3) with rfl | rfl | rfl | rfl
  all_goals exact ⟨_, rfl, by decide⟩
theorem Own.copKeep {w w' : World} {base lo : Nat} {e : TypeId} {l : List Copied} {v : Value} (h : Own copR w base lo e l v) (hk : ∀ g, v.ownBlock = some g → g < w.heap.size → w'.heap[g]? = w.heap[g]?) : Own copR w' base lo e l v := by
  obtain ⟨xs, ho, hl⟩ := h
  refine ⟨xs, ⟨ho.1, ?_⟩, ⟨hl.1, fun k x hx => hl.2 k x hx⟩⟩
  rcases ho.2 with hn | ⟨g, cap, cur, rfl, hb, hg, rest⟩
  · exact .inl hn
  · exact .inr ⟨g, cap, cur, rfl, hb, by rw [hk g rfl (Array.getElem?_eq_some_iff.1 hg).1]; exact hg, rest⟩
/-- Where one round of the copies stands: stream, names, the list so far, and the copy being made, in block B. -/
def CopSt (w : World) (sb B : Nat) (l : List Copied) (v : Value) (wx : World) (x : Copied) (n : Int) : Prop :=
  Str wx sb n ∧ w.grownBy wx (some sb) ∧ wx.heap[w.heap.size]? = some (.cells CopNames 9 (0, 0)) ∧ Own copR wx (w.heap.size + 1) (w.heap.size + 1) 35 l v ∧ BoxC wx B x ∧ (x.name.size ≤ 100 ∧ x.sum.size ≤ 100) ∧ w.heap.size < B ∧ B < wx.heap.size ∧ sb < w.heap.size ∧ ∀ g, v.ownBlock = some g → g ≠ B
theorem CopSt.turn {w wx wy : World} {sb B : Nat} {l : List Copied} {v : Value} {x : Copied} {n n' : Int} (h : CopSt w sb B l v wx x n) (hg : wx.grownBy wy (some sb)) (hs : Str wy sb n') : CopSt w sb B l v wy x n' := by
  obtain ⟨h1, h2, h3, h4, h5, h6, h7, h8, h9, h10⟩ := h
  have hz := hg.size
  exact ⟨hs, gTrans h2 hg, (hg.block _ (by omega) (by simp; omega)).trans h3, h4.grown hg (fun k e => by injection e; omega) (Or.inr fun e => by have := h4.block _ e; omega), (hg.block _ h8 (by simp; omega)).trans h5, h6, h7, by omega, h9, h10⟩
theorem CopSt.alloc {w wx : World} {sb B : Nat} {l : List Copied} {v : Value} {x : Copied} {n : Int} (h : CopSt w sb B l v wx x n) (o : Obj) : CopSt w sb B l v (wx.alloc o) x n := h.turn (gAlloc (gRefl wx sb) o) (h.1.alloc o)
theorem CopSt.set {w wx : World} {sb B i : Nat} {l : List Copied} {v u : Value} {x y : Copied} {n : Int} (h : CopSt w sb B l v wx x n) (hy : (#[Value.string x.name, .int .i64 x.size, .string x.sum]).setIfInBounds i u = #[Value.string y.name, .int .i64 y.size, .string y.sum]) (hq : y.name.size ≤ 100 ∧ y.sum.size ≤ 100) : CopSt w sb B l v (wx.setCell ⟨B, i, none⟩ u) y n := by
  obtain ⟨h1, h2, h3, h4, h5, h6, h7, h8, h9, h10⟩ := h
  refine ⟨h1.setCell (by show sb < B; omega) _, gSet h2 (by show w.heap.size ≤ B; omega) _, (Below.heap_setCell wx ⟨B, i, none⟩ u _ (by show w.heap.size ≠ B; omega)).trans h3, ?_, ?_, hq, h7, by simpa [World.setCell] using h8, h9, h10⟩
  · exact Own.copKeep h4 fun g e hlt => Below.heap_setCell wx ⟨B, i, none⟩ u g (h10 g e)
  · unfold BoxC at h5 ⊢
    rw [setBlk' u h5, hy]
theorem CopSt.push {w wx wy : World} {sb B : Nat} {l : List Copied} {v : Value} {x : Copied} {n : Int} {o : Obj} (h : CopSt w sb B l v wx x n) (hg : (wx.alloc o).grownBy wy v.ownBlock) : Str wy sb n ∧ w.grownBy wy (some sb) ∧ wy.heap[w.heap.size]? = some (.cells CopNames 9 (0, 0)) := by
  have ha := h.alloc o
  obtain ⟨h1, h2, h3, h4, h5, h6, h7, h8, h9, h10⟩ := ha
  have hk : ∀ b, b ≤ w.heap.size → wy.heap[b]? = (wx.alloc o).heap[b]? := fun b hb => hg.block b (by omega) (fun e => by have := h4.block b e.symm; omega)
  exact ⟨h1.keep fun b hb => hk b (by omega), ⟨hg.os.trans h2.os, hg.tape.trans h2.tape, hg.output.trans h2.output, Nat.le_trans h2.size hg.size, fun i hi hne => (hk i (by omega)).trans (h2.block i hi hne)⟩, (hk _ (Nat.le_refl _)).trans h3⟩
set_option maxRecDepth 100000 in
set_option maxHeartbeats 3200000 in
theorem Copies_c (sb : Nat) (k0 : Int) (w : World) (hs : Str w sb k0) (hk0 : k0 ≤ 4000000000000000000) :
    Calls Tryd.prog 10 #[.pointer (some ⟨sb, 0, none⟩)] w (Took sb k0 32 (fun v w' => ∃ l : List Copied, Sli copR w' (fun q => w.heap.size ≤ q ∧ q < w'.heap.size) l v ∧ CopySz l ∧ l.length ≤ 4) w) := by
  have S0 := Lib.hid hs
  have hsb := hs.lt
  clear hs
  obtain ⟨i0, hi0, hz0, hz1, hz2⟩ := info_parts (show (Tryd.prog.info? 35).map (fun i => (i.zero, i.size, i.bytes)) = some (some (.agg #[.string ⟨#[]⟩, .int .i64 0, .string ⟨#[]⟩]), 3, 40) by kernel_rfl)
  go_enter Tryd.func10, Tryd.ntmps10
  go_wp2
  go_loopw [3, 9] (fun v i wr => ∃ (k : Nat) (l : List Copied) (n : Int), k ≤ 4 ∧ i = .int .i64 k ∧ n ≤ k0 + 8 * k ∧ l.length ≤ k ∧ w.heap.size < wr.heap.size ∧ Hid (Str wr sb n) ∧ Hid (w.grownBy wr (some sb)) ∧ Hid (wr.heap[w.heap.size]? = some (.cells CopNames 9 (0, 0))) ∧ Hid (Own copR wr (w.heap.size + 1) (w.heap.size + 1) 35 l v) ∧ Hid (CopySz l)) (fun _ i _ => 4 - (intOf i).toNat)
  case atStart => exact ⟨0, [], k0, by omega, rfl, by omega, by simp, by simp, S0.out.alloc _, gAlloc (gRefl w sb) _, heap_alloc_new w _, Own.nil_, fun x hx => by cases hx⟩
  case round =>
    obtain ⟨k, l, n, hk, rfl, hn, hll, hz, HS, HG, HN, HO, HC⟩ := hrel
    by_cases hlt : k < 4
    · obtain ⟨nm, hnm, hns⟩ := copNames_at k hlt
      have c0 : wr.cell? ⟨w.heap.size, k, none⟩ = some (.string nm) := ((str_cells HN.out).1 k).trans hnm
      go_wp2_with fail
      refine (flip_c sb n 3 _ HS.out (by omega) (by omega) (by omega)).mono ?_
      rintro e w1 ⟨v1, n1, rfl, ⟨b1, rfl⟩, hn1, hs1, hg1⟩
      cases b1 with
      | true =>
        have S1 := Lib.hid hs1
        have G1 := Lib.hid hg1
        have hz1 := hg1.size
        clear hs1 hg1
        go_wp2
        go_roundw
        case rel => exact ⟨k + 1, l, n1, by omega, intNum, by omega, by omega, by omega, S1.out, gTrans HG.out G1.out, (G1.out.block _ hz (by simp; omega)).trans HN.out, HO.out.grown G1.out (fun k e => by injection e; omega) (Or.inr fun e => by have := HO.out.block _ e; omega), HC.out⟩
        case measure => simp [intOf]; omega
      | false =>
        have S1 := Lib.hid hs1
        have G1 := Lib.hid (gTrans HG.out hg1)
        have N1 := Lib.hid ((hg1.block _ hz (by simp; omega)).trans HN.out)
        have O1 := Lib.hid (HO.out.grown hg1 (fun k e => by injection e; omega) (Or.inr fun e => by have := HO.out.block _ e; omega))
        have hz1 := hg1.size
        clear hs1 hg1 HS HG HN HO
        go_wp2_with fail
        refine (pickL w1 [0, 1, 5] _ _ _ _ rfl rfl (by decide) (by decide) S1.out (by omega)).mono ?_
        rintro e w2 ⟨v2, n2, rfl, ⟨x2, hx2, rfl⟩, hn2, hs2, hg2⟩
        have S2 := Lib.hid hs2
        have hg2' := gTrans (gAlloc (gRefl w1 sb) _) hg2
        have G2 := Lib.hid (gTrans G1.out hg2')
        have N2 := Lib.hid ((hg2'.block _ (by omega) (by simp; omega)).trans N1.out)
        have O2 := Lib.hid (O1.out.grown hg2' (fun k e => by injection e; omega) (Or.inr fun e => by have := O1.out.block _ e; omega))
        have hz2 := hg2'.size
        clear hs2 hg2 hg2' S1 G1 N1 O1
        go_wp2_with fail
        refine (oneL w2 [⟨#[]⟩, ⟨#[120]⟩, ⟨#[121]⟩] _ _ _ _ rfl rfl (by decide) (by decide) S2.out (by omega)).mono ?_
        rintro e w3 ⟨v3, n3, rfl, ⟨x3, hx3, rfl⟩, hn3, hs3, hg3⟩
        have b3 : x3.size ≤ 100 := oneOf (by decide +kernel) hx3
        have S3 := Lib.hid hs3
        have hg3' := gTrans (gAlloc (gRefl w2 sb) _) hg3
        have G3 := Lib.hid (gTrans G2.out hg3')
        have N3 := Lib.hid ((hg3'.block _ (by omega) (by simp; omega)).trans N2.out)
        have O3 := Lib.hid (O2.out.grown hg3' (fun k e => by injection e; omega) (Or.inr fun e => by have := O2.out.block _ e; omega))
        have hz3 := hg3'.size
        clear hs3 hg3 hg3' S2 G2 N2 O2 hx2 hx3
        go_wp2_with fail
        refine (DigestOf_c x3 _ (by omega)).mono ?_
        rintro e w4 ⟨rfl, hb4⟩
        have S4 := Lib.hid (S3.out.below hb4)
        have G4 := Lib.hid (gBelow G3.out hb4)
        have N4 := Lib.hid ((hb4.block _ (by omega)).trans N3.out)
        have O4 := Lib.hid (O3.out.below hb4)
        have hz4 := hb4.size
        have hd4 : (digestB x3).size ≤ 100 := by
          show (padk 16 (hashN x3.data.toList)).toArray.size ≤ 100
          simp [padk_len]
        clear hb4 S3 G3 N3 O3
        generalize digestB x3 = dg at *
        have T0 := Lib.hid (show CopSt w sb w4.heap.size l u3 (w4.alloc (.cells #[.string nm, .int .i64 x2, .string dg] 35)) ⟨nm, x2, dg⟩ n3 from
          ⟨S4.out.alloc _, gAlloc G4.out _, (Below.heap_alloc w4 _ _ (by omega)).trans N4.out, O4.out.alloc _, heap_alloc_new w4 _, ⟨hns, hd4⟩, by omega, by simp, hsb, fun g e => by have := O4.out.block g e; omega⟩)
        go_wp2_with fail
        generalize hB : w4.heap.size = B at *
        generalize w4.alloc (.cells #[.string nm, .int .i64 x2, .string dg] 35) = w5 at *
        clear S4 G4 N4 O4 hB hnm c0
        refine (flip_c sb n3 15 _ T0.out.1 (by omega) (by omega) (by omega)).mono ?_
        rintro e w6 ⟨v6, n6, rfl, ⟨b6, rfl⟩, hn6, hs6, hg6⟩
        have T6 := Lib.hid (T0.out.turn hg6 hs6)
        clear hs6 hg6 T0
        go_upto_if 25 with (fail)
        go_cut [26] (fun _ wx => ∃ (x : Copied) (n : Int), n ≤ n3 + 2 ∧ Hid (CopSt w sb B l u3 wx x n))
        case first =>
          cases b6 with
          | true =>
            go_wp2_with fail
            refine (oneL w6 [⟨#[]⟩, ⟨#[67, 66, 70, 50, 57, 67, 69, 52, 56, 52, 50, 50, 50, 51, 50, 53]⟩, ⟨#[48, 49, 50, 51, 52, 53, 54, 55, 56, 57, 97, 98, 99, 100, 101]⟩] _ _ _ _ rfl rfl (by decide) (by decide) T6.out.1 (by omega)).mono ?_
            rintro e w7 ⟨v7, n7, rfl, ⟨x7, hx7, rfl⟩, hn7, hs7, hg7⟩
            have b7 : x7.size ≤ 100 := oneOf (by decide +kernel) hx7
            have T7 := Lib.hid (T6.out.turn (gTrans (gAlloc (gRefl w6 sb) _) hg7) hs7)
            have r7 : w7.cell? ⟨B, 2, none⟩ = some (.string dg) := (str_cells T7.out.2.2.2.2.1).1 2
            have f7 := (str_cells T7.out.2.2.2.2.1).2 2
            clear hs7 hg7 hx7
            go_wp2_with fail
            go_meet
            exact ⟨⟨nm, x2, x7⟩, n7, by omega, T7.out.set rfl ⟨by first | exact b7 | exact T6.out.2.2.2.2.2.1.1, by first | exact b7 | exact T6.out.2.2.2.2.2.1.2⟩⟩
          | false =>
            go_wp2_with fail
            go_meet
            exact ⟨_, n6, by omega, T6.out⟩
        case rest =>
          obtain ⟨x, n8, hn8, T8⟩ := hcut
          clear T6 hn6
          go_wp2_with fail
          refine (flip_c sb n8 15 _ T8.out.1 (by omega) (by omega) (by omega)).mono ?_
          rintro e w9 ⟨v9, n9, rfl, ⟨b9, rfl⟩, hn9, hs9, hg9⟩
          have T9 := Lib.hid (T8.out.turn hg9 hs9)
          clear hs9 hg9 T8
          go_upto_if 31 with (fail)
          go_cut [26] (fun _ wx => ∃ (x : Copied) (n : Int), n ≤ n3 + 3 ∧ Hid (CopSt w sb B l u3 wx x n))
          case first =>
            cases b9 with
            | true =>
              have r7 : w9.cell? ⟨B, 1, none⟩ = some (.int .i64 x.size) := (str_cells T9.out.2.2.2.2.1).1 1
              have f7 := (str_cells T9.out.2.2.2.2.1).2 1
              go_wp2_with fail
              go_meet
              exact ⟨⟨x.name, -1, x.sum⟩, n9, by omega, T9.out.set rfl T9.out.2.2.2.2.2.1⟩
            | false =>
              go_wp2_with fail
              go_meet
              exact ⟨_, n9, by omega, T9.out⟩
          case rest =>
            obtain ⟨x, n8, hn8, T8⟩ := hcut
            clear T9 hn9
            go_wp2_with fail
            refine (flip_c sb n8 15 _ T8.out.1 (by omega) (by omega) (by omega)).mono ?_
            rintro e w9 ⟨v9, n9, rfl, ⟨b9, rfl⟩, hn9, hs9, hg9⟩
            have T9 := Lib.hid (T8.out.turn hg9 hs9)
            clear hs9 hg9 T8
            go_upto_if 34 with (fail)
            go_cut [26] (fun _ wx => ∃ (x : Copied) (n : Int), n ≤ n3 + 5 ∧ Hid (CopSt w sb B l u3 wx x n))
            case first =>
              cases b9 with
              | true =>
                go_wp2_with fail
                refine (oneL w9 [⟨#[]⟩, ⟨#[65]⟩, ⟨#[98]⟩, ⟨#[97, 47, 98]⟩] _ _ _ _ rfl rfl (by decide) (by decide) T9.out.1 (by omega)).mono ?_
                rintro e w7 ⟨v7, n7, rfl, ⟨x7, hx7, rfl⟩, hn7, hs7, hg7⟩
                have b7 : x7.size ≤ 100 := oneOf (by decide +kernel) hx7
                have T7 := Lib.hid (T9.out.turn (gTrans (gAlloc (gRefl w9 sb) _) hg7) hs7)
                have r7 : w7.cell? ⟨B, 0, none⟩ = some (.string x.name) := (str_cells T7.out.2.2.2.2.1).1 0
                have f7 := (str_cells T7.out.2.2.2.2.1).2 0
                clear hs7 hg7 hx7
                go_wp2_with fail
                go_meet
                exact ⟨⟨x7, x.size, x.sum⟩, n7, by omega, T7.out.set rfl ⟨by first | exact b7 | exact T9.out.2.2.2.2.2.1.1, by first | exact b7 | exact T9.out.2.2.2.2.2.1.2⟩⟩
              | false =>
                go_wp2_with fail
                go_meet
                exact ⟨_, n9, by omega, T9.out⟩
            case rest =>
              obtain ⟨x, n8, hn8, T8⟩ := hcut
              clear T9 hn9
              have d0 : wc.cell? ⟨B, 0, none⟩ = some (.string x.name) := (str_cells T8.out.2.2.2.2.1).1 0
              have d1 : wc.cell? ⟨B, 1, none⟩ = some (.int .i64 x.size) := (str_cells T8.out.2.2.2.2.1).1 1
              have d2 : wc.cell? ⟨B, 2, none⟩ = some (.string x.sum) := (str_cells T8.out.2.2.2.2.1).1 2
              have hzc : w.heap.size < wc.heap.size := by have := T8.out.2.2.2.2.2.2.1; have := T8.out.2.2.2.2.2.2.2.1; omega
              go_wp2_with (at_builtin; (refine wpList_pushB (R := copR) rfl _ _ _ rfl (w.heap.size + 1) (w.heap.size + 1) 35 i0 _ 40 Tryd.underlying29 hi0 hz0 (by assumption) (by assumption) rfl (by decide) _ u3 l rfl (T8.out.2.2.2.1.alloc _) x _ rfl (oneC rfl) wc.heap.size _ _ (heap_alloc_new wc _) rfl (by simp [maxLen]; omega) (by omega) (by simp; omega) ?_); intro g cap w10 hown10 hg10 hat10 hlt10)
              have hz10 := hg10.size
              simp at hz10
              go_roundw
              case rel => exact ⟨k + 1, l ++ [x], n8, by omega, intNum, by omega, by simp; omega, by omega, (T8.out.push hg10).1, (T8.out.push hg10).2.1, (T8.out.push hg10).2.2, hown10, fun y hy => by
                rcases List.mem_append.1 hy with h | h
                · exact HC.out y h
                · rw [List.mem_singleton] at h; subst h
                  have := T8.out.2.2.2.2.2.1
                  exact ⟨by omega, by omega⟩⟩
              case measure => simp [intOf]; omega
    · go_wp2
      go_ret
      exact ⟨_, n, rfl, ⟨l, HO.out.sli (fun q h1 h2 => ⟨by omega, h2⟩) (fun g hg => by have := HO.out.block g hg; exact ⟨by omega, this.2⟩), HC.out, by omega⟩, by omega, HS.out, HG.out⟩
end Go.Proofs.YtnjbbkocobegiaaDoor
