/- The generator's names of files. -/
import Derived.Test.YtnjbbkocobegiaaDoorGenF
import Derived.Test.YtnjbbkocobegiaaDoorOwn3
import Derived.Test.YtnjbbkocobegiaaDoorSliSet
namespace Go.Proofs.YtnjbbkocobegiaaDoor
set_option linter.unusedVariables false
open Go.RowKit Go.Sort

theorem gPush {w wx wy : World} {sb : Nat} {l : List ByteArray} {v : Value} {n : Int} {o : Obj} {e : TypeId} (h1 : Str wx sb n) (h2 : w.grownBy wx (some sb)) (h4 : Own strR wx w.heap.size w.heap.size e l v) (hsb : sb < w.heap.size) (hg : (wx.alloc o).grownBy wy v.ownBlock) : Str wy sb n ∧ w.grownBy wy (some sb) := by
  have g1 := h1.alloc o
  have g2 := gAlloc h2 o
  have g4 := h4.alloc o
  have hz := g2.size
  have hk : ∀ b, b < w.heap.size → wy.heap[b]? = (wx.alloc o).heap[b]? := fun b hb => hg.block b (by omega) (fun e => by have := g4.block b e.symm; omega)
  exact ⟨g1.keep fun b hb => hk b (by omega), ⟨hg.os.trans g2.os, hg.tape.trans g2.tape, hg.output.trans g2.output, Nat.le_trans g2.size hg.size, fun i hi hne => (hk i hi).trans (g2.block i hi hne)⟩⟩
theorem Own.strAt {w : World} {base lo : Nat} {e : TypeId} {l : List ByteArray} {g cap : Nat} (h : Own strR w base lo e l (.slice (some ⟨g, 0, none⟩) l.length cap)) (i : Nat) (hi : i < l.length) : w.cell? ⟨g, i, none⟩ = some (.string l[i]) ∧ w.frozen? ⟨g, i, none⟩ = false := by
  obtain ⟨xs, ho, hl⟩ := h
  refine ⟨?_, ho.frozenAt i⟩
  have h1 := ho.cellAt i (by show i < l.length * 1; omega)
  have h2 : (xs.drop (i * 1)).take 1 = [.string l[i]] := hl.2 i l[i] (List.getElem?_eq_getElem hi)
  rw [h1]
  have h3 : ((xs.drop (i * 1)).take 1)[0]? = some (.string l[i]) := by rw [h2]; rfl
  rw [List.getElem?_take, if_pos (by decide), List.getElem?_drop] at h3
  simpa using h3
set_option maxRecDepth 100000 in
set_option maxHeartbeats 3200000 in
theorem FileNames_c (sb : Nat) (k0 : Int) (m : Nat) (w : World) (hs : Str w sb k0) (hk0 : k0 ≤ 4000000000000000000) (hm : m ≤ 8796093021952) :
    Calls Tryd.prog 6 #[.pointer (some ⟨sb, 0, none⟩), .int .i64 m] w (Took sb k0 (m + 8) (fun v w' => ∃ l : List ByteArray, Sli strR w' (fun q => w.heap.size ≤ q ∧ q < w'.heap.size) l v ∧ (∀ x ∈ l, x.size ≤ 1000) ∧ l.length ≤ m + 1) w) := by
  have S0 := Lib.hid hs
  have hsb := hs.lt
  clear hs
  obtain ⟨i0, hi0, hz0, hz1, hz2⟩ := info_parts (show (Tryd.prog.info? 9).map (fun i => (i.zero, i.size, i.bytes)) = some (some (.string ⟨#[]⟩), 1, 16) by kernel_rfl)
  go_enter Tryd.func6, Tryd.ntmps6
  go_wp2
  go_loopw [5, 8] (fun v i wr => ∃ (k : Nat) (l : List ByteArray) (n : Int), k ≤ m ∧ i = .int .i64 k ∧ n ≤ k0 + k ∧ l.length = k ∧ w.heap.size ≤ wr.heap.size ∧ Hid (Str wr sb n) ∧ Hid (w.grownBy wr (some sb)) ∧ Hid (Own strR wr w.heap.size w.heap.size 9 l v) ∧ Hid (∀ x ∈ l, x.size ≤ 1000)) (fun _ i _ => m - (intOf i).toNat)
  case atStart => exact ⟨0, [], k0, by omega, rfl, by omega, rfl, Nat.le_refl _, S0.out, gRefl w sb, Own.nil_, fun x hx => by cases hx⟩
  case round =>
    obtain ⟨k, l, n, hk, rfl, hn, hll, hz, HS, HG, HO, HC⟩ := hrel
    by_cases hlt : k < m
    · obtain ⟨r, hr⟩ : ∃ r : Nat, k % 26 = r := ⟨_, rfl⟩
      have hr26 : r < 26 := by omega
      have q1 : (k : Int).tmod 26 = (r : Int) := by rw [← hr]; exact Int.ofNat_tmod k 26
      generalize hE : Utf8.encode ((97 + r : Nat) : Int) = E
      have hez : E.size ≤ 4 := by rw [← hE]; have := enc_size (n := 97 + r) (by omega); omega
      have hcv : ∀ W, (convert 21 9 (.int .i32 (97 + (r : Int)))).run Tryd.prog W = .ok (.string E) W := fun W => by
        rw [run_convert_int_string W _ _ _ _ (by kernel_rfl) Tryd.underlying9, ← hE]; rfl
      clear hE hr
      go_wp2_with fail
      refine (oneL wr [⟨#[]⟩, ⟨#[46, 109, 111, 118]⟩, ⟨#[95, 49]⟩] _ _ _ _ rfl rfl (by decide) (by decide) HS.out (by omega)).mono ?_
      rintro e w1 ⟨v1, n1, rfl, ⟨x1, hx1, rfl⟩, hn1, hs1, hg1⟩
      have b1 : x1.size ≤ 100 := oneOf (by decide +kernel) hx1
      have hg1' := gTrans (gAlloc (gRefl wr sb) _) hg1
      have S1 := Lib.hid hs1
      have G1 := Lib.hid (gTrans HG.out hg1')
      have O1 := Lib.hid (HO.out.grown hg1' (fun k e => by injection e; omega) (Or.inr fun e => by have := HO.out.block _ e; omega))
      have hz1' := hg1'.size
      clear hs1 hg1 hg1' hx1
      go_wp2_with (at_builtin; (refine wpList_pushB (R := strR) rfl _ _ _ rfl w.heap.size w.heap.size 9 i0 _ 16 Tryd.underlying23 hi0 hz0 (by assumption) (by assumption) rfl (by decide) _ u5 l rfl (O1.out.alloc _) (E ++ x1) _ rfl (oneC rfl) w1.heap.size _ _ (heap_alloc_new w1 _) rfl (by simp [maxLen]; omega) (by omega) (by simp; omega) ?_); intro g cap w2 hown2 hg2 hat2 hlt2)
      have hz2' := hg2.size
      simp at hz2'
      go_roundw
      case rel => exact ⟨k + 1, l ++ [E ++ x1], n1, by omega, intNum, by omega, by simp; omega, by omega, (gPush S1.out G1.out O1.out hsb hg2).1, (gPush S1.out G1.out O1.out hsb hg2).2, by rw [hll] at hown2; exact hown2, fun y hy => by
        rcases List.mem_append.1 hy with h | h
        · exact HC.out y h
        · rw [List.mem_singleton] at h; subst h; rw [ByteArray.size_append]; omega⟩
      case measure => simp [intOf]; omega
    · have e : k = m := by omega
      subst e
      go_wp2_with fail
      refine (flip_c sb n 6 _ HS.out (by omega) (by omega) (by omega)).mono ?_
      rintro e w1 ⟨v1, n1, rfl, ⟨b1, rfl⟩, hn1, hs1, hg1⟩
      have S1 := Lib.hid hs1
      have G1 := Lib.hid (gTrans HG.out hg1)
      have O1 := Lib.hid (HO.out.grown hg1 (fun k e => by injection e; omega) (Or.inr fun e => by have := HO.out.block _ e; omega))
      have hz1' := hg1.size
      clear hs1 hg1 HS HG HO
      go_upto_if 25 with (fail)
      go_cut [5] (fun v wx => ∃ (l : List ByteArray) (n : Int), n ≤ k0 + k + 2 ∧ l.length ≤ k + 1 ∧ w.heap.size ≤ wx.heap.size ∧ Hid (Str wx sb n) ∧ Hid (w.grownBy wx (some sb)) ∧ Hid (Own strR wx w.heap.size w.heap.size 9 l v) ∧ Hid (∀ x ∈ l, x.size ≤ 1000))
      case first =>
        cases b1 with
        | true =>
          go_wp2_with fail
          refine (oneL w1 [⟨#[]⟩, ⟨#[65]⟩, ⟨#[97]⟩, ⟨#[97, 32, 98]⟩] _ _ _ _ rfl rfl (by decide) (by decide) S1.out (by omega)).mono ?_
          rintro e w2 ⟨v2, n2, rfl, ⟨x2, hx2, rfl⟩, hn2, hs2, hg2⟩
          have b2 : x2.size ≤ 100 := oneOf (by decide +kernel) hx2
          have hg2' := gTrans (gAlloc (gRefl w1 sb) _) hg2
          have S2 := Lib.hid hs2
          have G2 := Lib.hid (gTrans G1.out hg2')
          have O2 := Lib.hid (O1.out.grown hg2' (fun k e => by injection e; omega) (Or.inr fun e => by have := O1.out.block _ e; omega))
          have hz2' := hg2'.size
          clear hs2 hg2 hg2' hx2
          go_wp2_with (at_builtin; (refine wpList_pushB (R := strR) rfl _ _ _ rfl w.heap.size w.heap.size 9 i0 _ 16 Tryd.underlying23 hi0 hz0 (by assumption) (by assumption) rfl (by decide) _ u5 l rfl (O2.out.alloc _) x2 _ rfl (oneC rfl) w2.heap.size _ _ (heap_alloc_new w2 _) rfl (by simp [maxLen]; omega) (by omega) (by simp; omega) ?_); intro g cap w3 hown3 hg3 hat3 hlt3)
          have hz3' := hg3.size
          simp at hz3'
          go_meet
          exact ⟨l ++ [x2], n2, by omega, by simp; omega, by omega, (gPush S2.out G2.out O2.out hsb hg3).1, (gPush S2.out G2.out O2.out hsb hg3).2, by rw [hll] at hown3; exact hown3, fun y hy => by
            rcases List.mem_append.1 hy with h | h
            · exact HC.out y h
            · rw [List.mem_singleton] at h; subst h; omega⟩
        | false =>
          go_wp2_with fail
          go_meet
          exact ⟨l, n1, by omega, by omega, by omega, S1.out, G1.out, O1.out, HC.out⟩
      case rest =>
        obtain ⟨l, n, hn, hll2, hzc, HS, HG, HO, HC2⟩ := hcut
        clear S1 G1 O1 hn1 HC
        go_wp2_with fail
        refine (flip_c sb n 6 _ HS.out (by omega) (by omega) (by omega)).mono ?_
        rintro e w2 ⟨v2, n2, rfl, ⟨b2, rfl⟩, hn2, hs2, hg2⟩
        have S2 := Lib.hid hs2
        have G2 := Lib.hid (gTrans HG.out hg2)
        have O2 := Lib.hid (HO.out.grown hg2 (fun k e => by injection e; omega) (Or.inr fun e => by have := HO.out.block _ e; omega))
        have hz2' := hg2.size
        clear hs2 hg2 HS HG HO
        cases b2 with
        | false =>
          go_wp2
          go_ret
          exact ⟨_, n2, rfl, ⟨l, O2.out.sli (fun q h1 h2 => ⟨h1, h2⟩) (fun g hg => O2.out.block g hg), HC2.out, by omega⟩, by omega, S2.out, G2.out⟩
        | true =>
          rcases O2.out.form with ⟨rfl, rfl⟩ | ⟨g, cap, rfl, hg1, hg2, hc, hcm⟩
          · go_wp2
            go_ret
            exact ⟨_, n2, rfl, ⟨[], Sli.nil_, HC2.out, by simp⟩, by omega, S2.out, G2.out⟩
          · by_cases h0 : 0 < l.length
            · have h0' : (0 : Int) < (l.length : Int) := by omega
              go_wp2_with fail
              refine (next_c sb n2 (l.length : Int) _ S2.out (by omega) (by omega) (by omega)).mono ?_
              rintro e w3 ⟨v3, n3, rfl, ⟨x3, hx0, hx1, rfl⟩, hn3, hs3, hg3⟩
              have S3 := Lib.hid hs3
              have G3 := Lib.hid (gTrans G2.out hg3)
              have O3 := Lib.hid (O2.out.grown hg3 (fun k e => by injection e; omega) (Or.inr fun e => by have := O2.out.block _ e; omega))
              have hz3' := hg3.size
              clear hs3 hg3 S2 G2 O2
              obtain ⟨i, rfl⟩ := Int.eq_ofNat_of_zero_le hx0
              have hi : i < l.length := by omega
              go_wp2_with fail
              refine (oneL w3 [⟨#[]⟩, ⟨#[97]⟩, ⟨#[65]⟩, ⟨#[120, 47, 121]⟩, ⟨#[98]⟩] _ _ _ _ rfl rfl (by decide) (by decide) S3.out (by omega)).mono ?_
              rintro e w4 ⟨v4, n4, rfl, ⟨x4, hx4, rfl⟩, hn4, hs4, hg4⟩
              have b4 : x4.size ≤ 100 := oneOf (by decide +kernel) hx4
              have hg4' := gTrans (gAlloc (gRefl w3 sb) _) hg4
              have S4 := Lib.hid hs4
              have G4 := Lib.hid (gTrans G3.out hg4')
              have O4 := Lib.hid (O3.out.grown hg4' (fun k e => by injection e; omega) (Or.inr fun e => by have := O3.out.block _ e; omega))
              have hz4' := hg4'.size
              clear hs4 hg4 hg4' hx4 S3 G3 O3
              obtain ⟨c4, f4⟩ := O4.out.strAt i hi
              go_wp2
              go_ret
              exact ⟨_, n4, rfl, ⟨l.set i x4, (Sli.strSet (O4.out.sli (F := fun q => w.heap.size ≤ q ∧ q < w4.heap.size) (fun q h1 h2 => ⟨h1, h2⟩) (fun g hg => O4.out.block g hg)) i hi x4).more (fun q hq => ⟨hq.1, by simpa [World.setCell] using hq.2⟩), fun y hy => by
                rcases List.mem_or_eq_of_mem_set hy with h | h
                · exact HC2.out y h
                · rw [h]; omega, by rw [List.length_set]; omega⟩, by omega, S4.out.setCell (by show sb < g; omega) _, gSet G4.out (by show w.heap.size ≤ g; omega) _⟩
            · have h0' : ¬ (0 : Int) < (l.length : Int) := by omega
              go_wp2
              go_ret
              exact ⟨_, n2, rfl, ⟨l, O2.out.sli (fun q h1 h2 => ⟨h1, h2⟩) (fun g hg => O2.out.block g hg), HC2.out, by omega⟩, by omega, S2.out, G2.out⟩
end Go.Proofs.YtnjbbkocobegiaaDoor
