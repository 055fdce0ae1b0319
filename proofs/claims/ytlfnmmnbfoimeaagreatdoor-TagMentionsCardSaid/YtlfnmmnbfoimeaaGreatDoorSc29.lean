/- Texts packed: NumP, StoryE, SpD, StW. -/
import Derived.Test.YtlfnmmnbfoimeaaGreatDoorSc24
import Derived.Test.YtlfnmmnbfoimeaaGreatDoorSc28
import Derived.Test.YtlfnmmnbfoimeaaGreatDoorSc06
import Derived.Test.YtlfnmmnbfoimeaaGreatDoorSc27
import Derived.Deep.CutBlock
/- script.Times and script.Number, walked. -/
namespace Go.Proofs.YtlfnmmnbfoimeaaGreatDoor
set_option linter.unusedVariables false
open Go.RowKit Go.Sort

end Go.Proofs.YtlfnmmnbfoimeaaGreatDoor

/- The generator's scripts with numbers. -/
namespace Go.Proofs.YtlfnmmnbfoimeaaGreatDoor
set_option linter.unusedVariables false
open Go.RowKit Go.Sort

theorem setNo_bd {z : ByteArray} {x : Scene × Value} (h : sceneBd x.1) (hz : z.size ≤ 1000) : sceneBd (setNo z x).1 := ⟨hz, h.2⟩
theorem noOf_sz {k : Nat} (hk : k < 99) : (noOf k).size ≤ 1000 := by
  have h := itoa_sz ((k + 1 : Nat) : Int) ⟨by omega, by omega⟩
  have e : Lib.itoa ((k + 1 : Nat) : Int) = Lib.decDigits (k + 1) := by first | rfl | simp [Lib.itoa]
  unfold noOf
  rw [e] at h
  omega
theorem mem_modify {α : Type} {l : List α} {f : α → α} {k : Nat} {y : α} (h : y ∈ l.modify k f) : y ∈ l ∨ ∃ x ∈ l, y = f x := by
  obtain ⟨i, hi⟩ := List.mem_iff_getElem?.1 h
  rw [List.getElem?_modify] at hi
  cases hli : l[i]? with
  | none => rw [hli] at hi; simp at hi
  | some x =>
    rw [hli] at hi
    have hm : x ∈ l := List.mem_iff_getElem?.2 ⟨i, hli⟩
    simp at hi
    by_cases e : k = i
    · rw [if_pos e] at hi; exact .inr ⟨x, hm, hi.symm⟩
    · rw [if_neg e] at hi; exact .inl (hi ▸ hm)
/-- Each numbered scene is a scene with another number. -/
theorem numbTo_mem {l : List (Scene × Value)} : ∀ {k : Nat}, k ≤ 99 → ∀ {y : Scene × Value}, y ∈ numbTo k l → y ∈ l ∨ ∃ x ∈ l, ∃ z : ByteArray, z.size ≤ 1000 ∧ y = setNo z x
  | 0, _, y, h => .inl h
  | k + 1, hk, y, h => by
    rcases mem_modify h with h | ⟨x, hx, rfl⟩
    · exact numbTo_mem (by omega) h
    · rcases numbTo_mem (by omega) hx with h2 | ⟨u, hu, z, hz, rfl⟩
      · exact .inr ⟨x, h2, _, noOf_sz (by omega), rfl⟩
      · exact .inr ⟨u, hu, _, noOf_sz (by omega), rfl⟩
theorem numbTo_bd {l : List (Scene × Value)} {k : Nat} (hk : k ≤ 99) (h : ∀ x ∈ l, sceneBd x.1) : ∀ y ∈ numbTo k l, sceneBd y.1 := fun y hy => by
  rcases numbTo_mem hk hy with h2 | ⟨x, hx, z, hz, rfl⟩
  · exact h y h2
  · exact setNo_bd (h x hx) hz
/-- Inner lists stay inner lists, whatever the numbers. -/
theorem numbTo_inn {l : List (Scene × Value)} {k : Nat} (hk : k ≤ 99) {w : World} {F : Nat → Prop} (h : ∀ x ∈ l, Sli paraR w F x.1.paras x.2) : ∀ y ∈ numbTo k l, Sli paraR w F y.1.paras y.2 := fun y hy => by
  rcases numbTo_mem hk hy with h2 | ⟨x, hx, z, hz, rfl⟩
  · exact h y h2
  · exact h x hx

/-- The list of a script under way has been replaced by one that a call has made. -/
theorem GSI.take {w wx wy : World} {sb : Nat} {l l' : List (Scene × Value)} {v v' : Value} {P : List (Nat × Array Value × TypeId)} {n : Int} (h : ScG w sb l v P n wx) (hb : Below wx.heap.size wx wy)
    (hown : Own svR wy wx.heap.size wx.heap.size 66 l' v') (hi : ∀ y ∈ l', Sli paraR wx (InF w wx v P) y.1.paras y.2) : ScG w sb l' v' P n wy := by
  have h2 := h.below hb
  refine ⟨⟨h2.gs.str, h2.gs.gr, hown.less h.gs.size, h2.gs.lt, fun p hp => ⟨(h2.gs.prv p hp).1, (h2.gs.prv p hp).2.1, fun e => by have := hown.block _ e; have := h.gs.plt hp; omega⟩⟩, fun y hy => ?_⟩
  exact ((hi y hy).below hb (fun b hF => hF.2.1)).more fun q hq => ⟨hq.1, Nat.lt_of_lt_of_le hq.2.1 hb.size, hq.2.2.1, fun e => by have := hown.block q e; have := hq.2.1; omega⟩
theorem inn_slice {w : World} {F : Nat → Prop} {l : List (Scene × Value)} (h : ∀ y ∈ l, Sli paraR w F y.1.paras y.2) : ∀ x ∈ l, ∃ A n c, x.2 = .slice A n c := fun x hx => by
  obtain ⟨A, c, hv, _⟩ := (h x hx).form
  exact ⟨A, _, c, hv⟩

set_option maxRecDepth 100000 in
set_option maxHeartbeats 6000000 in
theorem Story_c (sb : Nat) (k0 : Int) (w : World) (hs : Str w sb k0) (hk0 : k0 ≤ 3100000000000000000) (hl : LaidS sb w) :
    Calls Tryz.prog 12 #[.pointer (some ⟨sb, 0, none⟩)] w (Took sb k0 400200 (isScript w) w) := by
  have HL := Lib.hid hl
  have S0 := Lib.hid hs
  have hsb := hs.lt
  clear hs hl
  have hG := (GSI.start (R := svR) (RI := paraR) (inn := fun x => x.1.paras) (pv := fun x => x.2) (e := 66) S0.out).new (xCs ⟨#[]⟩ (.slice none 0 0)) 28
  go_enter Tryz.func12, Tryz.ntmps12
  go_upto_region 1 with (fail)
  generalize hW : w.alloc (.cells #[.string ⟨#[]⟩, .slice none 0 0] 28) = wR
  have G0 := Lib.hid (show ScG w sb [] (.slice none 0 0) [(w.heap.size, xCs ⟨#[]⟩ (.slice none 0 0), 28)] k0 wR by rw [← hW]; exact hG)
  have hRz : wR.heap.size = w.heap.size + 1 := by rw [← hW]; simp
  clear hG hW
  go_wp2_with fail
  refine (Script_c sb k0 wR G0.out.gs.str (by omega)).mono ?_
  rintro e w1 ⟨v1, n1, rfl, ⟨x, l, sv, rfl, hxl, hown, hinn, hbd⟩, hn1, hs1, hg1⟩
  have hlL : l.length ≤ 90 := by have h := hbd.2.1; rw [hxl] at h; simpa using h
  have hbl : ∀ y ∈ l, sceneBd y.1 := fun y hy => hbd.2.2 _ (by rw [hxl]; exact List.mem_map.2 ⟨y, hy, rfl⟩)
  have htz : x.title.size ≤ 1000 := hbd.1
  have h1 : ScG w sb l sv [(w.heap.size, xCs ⟨#[]⟩ (.slice none 0 0), 28)] n1 w1 := by
    have h0 := (G0.out.turn hg1 hs1).gs
    refine ⟨⟨hs1, h0.gr, hown.less (by omega), h0.lt, fun p hp => ⟨(h0.prv p hp).1, (h0.prv p hp).2.1, fun e => ?_⟩⟩, fun y hy => ?_⟩
    · have := hown.block _ e; rw [List.mem_singleton] at hp; subst hp; dsimp only at this; omega
    · exact (hinn y hy).more fun q hq => ⟨by have := hq.1; omega, hq.2.1, fun p hp => (by rw [List.mem_singleton] at hp; subst hp; have := hq.1; dsimp only; omega), hq.2.2.2⟩
  obtain ⟨A1, c1, hv1, _, _⟩ := (hown.sli (F := fun _ => True) (fun _ _ _ => trivial) (fun _ _ => trivial)).form
  subst hv1
  have hsl1 := hown.sli (F := fun q => q < w1.heap.size) (fun q _ h => h) (fun g hg => (hown.block g hg).2)
  have G1 := Lib.hid h1
  clear hown hinn hbd h1 hs1 hg1 G0
  generalize x.title = tt at *
  go_wp2_with fail
  refine (Numbered_c tt l (.slice A1 l.length c1) w1 hsl1 (fun q h => h) (by omega) (inn_slice G1.out.inn)).mono ?_
  rintro e w2 ⟨v2, rfl, hown2, hb2⟩
  have hG2 := GSI.take G1.out hb2 hown2 (numbTo_inn (by omega) G1.out.inn)
  have hbl2 := numbTo_bd (k := l.length) (by omega) hbl
  have hl2 : (numbTo l.length l).length = l.length := numbTo_len _ _
  generalize hL : numbTo l.length l = l2 at *
  clear hL hbl hxl G1 hsl1 hb2
  generalize l.length = L at *
  obtain ⟨A2, c2, hv2, _, _⟩ := (hown2.sli (F := fun _ => True) (fun _ _ _ => trivial) (fun _ _ => trivial)).form
  rw [hl2] at hv2
  subst hv2
  clear hown2
  rw [show xCs tt (.slice A2 L c2) = #[.string tt, .slice A2 L c2] from rfl]
  have hG3 := hG2.new (xCs tt (.slice A2 L c2)) 28
  have hXw : w2.heap.size ≠ w.heap.size := by have := hG2.gs.plt (p := (w.heap.size, xCs ⟨#[]⟩ (.slice none 0 0), 28)) (by simp); dsimp only at this; omega
  go_upto_region 2 with (fail)
  generalize hW : w2.alloc (.cells #[.string tt, .slice A2 L c2] 28) = wX
  have G3 := Lib.hid (show ScG w sb l2 (.slice A2 L c2) [(w2.heap.size, xCs tt (.slice A2 L c2), 28), (w.heap.size, xCs ⟨#[]⟩ (.slice none 0 0), 28)] n1 wX by rw [← hW]; exact hG3)
  clear hG2 hG3 hW
  generalize w2.heap.size = X at *
  have HB := Lib.hid (And.intro hl2 hbl2)
  clear hl2 hbl2
  go_wp2_with fail
  refine (flip_c sb n1 3 _ G3.out.gs.str (by omega) (by decide) (by decide)).mono ?_
  rintro e w4 ⟨v4, n4, rfl, ⟨b4, rfl⟩, hn4, hs4, hg4⟩
  have G4 := Lib.hid (G3.out.turn hg4 hs4)
  clear G3 hs4 hg4
  have fin : ∀ (l : List (Scene × Value)) (v : Value) (n : Int) (wr : World), l.length = L → (∀ y ∈ l, sceneBd y.1) → ScG w sb l v [(w.heap.size, xCs tt v, 28)] n wr → n ≤ k0 + 400200 → Took sb k0 400200 (isScript w) w (.returned (.agg (xCs tt v))) wr := by
    intro l v n wr h1 h2 h3 h4
    refine ⟨_, n, rfl, ⟨⟨tt, l.map (·.1)⟩, l, v, rfl, rfl, h3.gs.own, fun y hy => (h3.inn y hy).more fun q hq => hq.less (by simp), ?_⟩, h4, h3.gs.str, h3.gs.gr⟩
    refine ⟨htz, by simp; omega, fun s hs => ?_⟩
    obtain ⟨y, hy, rfl⟩ := List.mem_map.1 hs
    exact h2 y hy
  have FIN := Lib.hid fin
  clear fin
  cases b4 with
  | false =>
    have c0 := (G4.out.gs.cell (p := (X, xCs tt (.slice A2 L c2), 28)) (by simp)).1
    have e0 : w4.cell? ⟨X, 0, none⟩ = some (.string tt) := c0 0
    have e1 : w4.cell? ⟨X, 1, none⟩ = some (.slice A2 L c2) := c0 1
    obtain ⟨d, f⟩ := G4.out.gs.cell (p := (w.heap.size, xCs ⟨#[]⟩ (.slice none 0 0), 28)) (by simp)
    have f0 : w4.frozen? ⟨w.heap.size, 0, none⟩ = false := f 0
    have f1 : w4.frozen? ⟨w.heap.size, 1, none⟩ = false := f 1
    have d0 : w4.cell? ⟨w.heap.size, 0, none⟩ = some (.string ⟨#[]⟩) := d 0
    have d1 : w4.cell? ⟨w.heap.size, 1, none⟩ = some (.slice none 0 0) := d 1
    clear f c0 d
    have q := G4.out.less (Q := [(w.heap.size, xCs ⟨#[]⟩ (.slice none 0 0), 28)]) (by simp)
    have q0 := q.set (i := 0) svFlat (.string tt) (by simp)
    have q1 := Lib.hid (q0.set (i := 1) svFlat (.slice A2 L c2) (by simp))
    clear q q0
    go_wp2
    refine ⟨rfl, .agg (xCs tt (.slice A2 L c2)), (by rw [results_cell1 rfl]; go_simp; rfl), ?_⟩
    exact FIN.out l2 _ n4 _ HB.out.1 HB.out.2 q1.out (by omega)
  | true =>
    have c1 : w4.cell? ⟨X, 1, none⟩ = some (.slice A2 L c2) := (G4.out.gs.cell (p := (X, xCs tt (.slice A2 L c2), 28)) (by simp)).1 1
    go_wp2
    go_loopw [14, 5, 4] (fun i _ z wr => ∃ (k : Nat) (y : ByteArray) (l : List (Scene × Value)) (n : Int), k ≤ L ∧ i = .int .i64 k ∧ z = .string y ∧ y.size ≤ 30 ∧ n ≤ k0 + 400010 + (k : Int) ∧ Hid (l.length = L ∧ ∀ y ∈ l, sceneBd y.1)
      ∧ Hid (ScG w sb l (.slice A2 L c2) [(X, xCs tt (.slice A2 L c2), 28), (w.heap.size, xCs ⟨#[]⟩ (.slice none 0 0), 28)] n wr)) (fun i _ _ _ => L - (intOf i).toNat)
    case atStart => exact ⟨0, ⟨#[]⟩, l2, n4, by omega, rfl, rfl, by decide, by omega, HB, G4⟩
    case round =>
      clear G4 HB c1
      obtain ⟨k, y, l, n, hk, rfl, rfl, hy, hn, HB, HG⟩ := hrel
      by_cases hlt : k < L
      · go_wp2_with fail
        refine (oneL wr [⟨#[]⟩, ⟨#[]⟩, ⟨#[57]⟩] _ _ _ _ rfl rfl (by decide) (by decide) HG.out.gs.str (by omega)).mono ?_
        rintro e w5 ⟨v5, n5, rfl, ⟨x5, hx5, rfl⟩, hn5, hs5, hg5⟩
        have b5 : x5.size ≤ 2 := oneOf (by decide +kernel) hx5
        have G5 := Lib.hid ((HG.out.alloc _).turn hg5 hs5)
        clear hs5 hg5 HG hx5
        have hL5 := HL.out.grown hsb G5.out.gs.gr
        have hz5 := G5.out.gs.size
        go_wp2_with fail
        refine (BetweenOf_any sb y x5 w5 (by omega) (by omega) hL5 (by omega)).mono ?_
        rintro e w6 ⟨z6, b6, rfl, hz6, hb6⟩
        have G6 := Lib.hid (G5.out.below hb6)
        clear hb6 hL5 G5
        cases hze : z6.toList.isEmpty with
        | true =>
          have c0 := (G6.out.gs.cell (p := (X, xCs tt (.slice A2 L c2), 28)) (by simp)).1
          have e0 : w6.cell? ⟨X, 0, none⟩ = some (.string tt) := c0 0
          have e1 : w6.cell? ⟨X, 1, none⟩ = some (.slice A2 L c2) := c0 1
          clear c0
          go_wp2_with fail
          have hsl := (G6.out.gs.own.sli (F := fun q => q < w6.heap.size) (fun q _ h => h) (fun g hg => (G6.out.gs.own.block g hg).2))
          have hl6 := HB.out.1
          refine (Numbered_c tt l (.slice A2 L c2) w6 hsl (fun q h => h) (by omega) (inn_slice G6.out.inn)).mono ?_
          rintro e w7 ⟨v7, rfl, hown7, hb7⟩
          have hG7 := GSI.take G6.out hb7 hown7 (numbTo_inn (by omega) G6.out.inn)
          have hbl7 := numbTo_bd (k := l.length) (by omega) HB.out.2
          have hl7 : (numbTo l.length l).length = L := (numbTo_len _ _).trans hl6
          generalize hLL : numbTo l.length l = l7 at *
          clear hLL hsl e0 e1 hb7
          obtain ⟨A7, c7, hv7, _, _⟩ := (hown7.sli (F := fun _ => True) (fun _ _ _ => trivial) (fun _ _ => trivial)).form
          rw [hl7] at hv7
          subst hv7
          clear hown7 hl6
          rw [show xCs tt (.slice A7 L c7) = #[.string tt, .slice A7 L c7] from rfl]
          obtain ⟨d, f⟩ := hG7.gs.cell (p := (w.heap.size, xCs ⟨#[]⟩ (.slice none 0 0), 28)) (by simp)
          have f0 : w7.frozen? ⟨w.heap.size, 0, none⟩ = false := f 0
          have f1 : w7.frozen? ⟨w.heap.size, 1, none⟩ = false := f 1
          have d0 : w7.cell? ⟨w.heap.size, 0, none⟩ = some (.string ⟨#[]⟩) := d 0
          have d1 : w7.cell? ⟨w.heap.size, 1, none⟩ = some (.slice none 0 0) := d 1
          clear f d
          have q := hG7.less (Q := [(w.heap.size, xCs ⟨#[]⟩ (.slice none 0 0), 28)]) (by simp)
          have q0 := q.set (i := 0) svFlat (.string tt) (by simp)
          have q1 := Lib.hid (q0.set (i := 1) svFlat (.slice A7 L c7) (by simp))
          clear q q0 hG7
          have HB7 := Lib.hid (And.intro hl7 hbl7)
          clear hl7 hbl7
          go_wp2
          refine ⟨rfl, .agg (xCs tt (.slice A7 L c7)), (by rw [results_cell1 rfl]; go_simp; rfl), ?_⟩
          exact FIN.out l7 _ n5 _ HB7.out.1 HB7.out.2 q1.out (by omega)
        | false =>
          obtain ⟨g, cap, hv, hg1, hg2⟩ := Own.some_ G6.out.gs.own (by rw [HB.out.1]; omega)
          rw [HB.out.1] at hv
          injection hv with hv1 _ hv3
          subst hv1
          subst hv3
          obtain ⟨old, d1, f1⟩ : ∃ old : ByteArray, w6.cell? ⟨g, k * 5, none⟩ = some (.string old) ∧ w6.frozen? ⟨g, k * 5, none⟩ = false := by
            have h := Own.cellAt G6.out.gs.own k (by rw [HB.out.1]; omega) 0 (by decide)
            exact ⟨_, h.1, h.2⟩
          have c1 : w6.cell? ⟨X, 1, none⟩ = some (.slice (some ⟨g, 0, none⟩) L c2) := (G6.out.gs.cell (p := (X, xCs tt (.slice (some ⟨g, 0, none⟩) L c2), 28)) (by simp)).1 1
          have G7 := Lib.hid (G6.out.modify (enc := fun x => x.1.cells x.2) (setNo z6) k 0 (.string z6) (fun x => rfl) (by decide) (by rw [HB.out.1]; exact hlt) (fun x => rfl) (fun x => rfl))
          have HB7 := Lib.hid (show (l.modify k (setNo z6)).length = L ∧ ∀ y ∈ l.modify k (setNo z6), sceneBd y.1 from ⟨by rw [List.length_modify]; exact HB.out.1, fun y hy => by
            rcases mem_modify hy with h | ⟨u, hu, rfl⟩
            · exact HB.out.2 y h
            · exact setNo_bd (HB.out.2 u hu) (by omega)⟩)
          clear G6 HB
          go_wp2
          go_roundw
          case rel => exact ⟨k + 1, z6, l.modify k (setNo z6), n5, by omega, intNum, rfl, hz6, by omega, HB7, G7⟩
          all_goals (try (simp [intOf] <;> omega))
      · have c0 := (HG.out.gs.cell (p := (X, xCs tt (.slice A2 L c2), 28)) (by simp)).1
        have e0 : wr.cell? ⟨X, 0, none⟩ = some (.string tt) := c0 0
        have e1 : wr.cell? ⟨X, 1, none⟩ = some (.slice A2 L c2) := c0 1
        obtain ⟨d, f⟩ := HG.out.gs.cell (p := (w.heap.size, xCs ⟨#[]⟩ (.slice none 0 0), 28)) (by simp)
        have f0 : wr.frozen? ⟨w.heap.size, 0, none⟩ = false := f 0
        have f1 : wr.frozen? ⟨w.heap.size, 1, none⟩ = false := f 1
        have d0 : wr.cell? ⟨w.heap.size, 0, none⟩ = some (.string ⟨#[]⟩) := d 0
        have d1 : wr.cell? ⟨w.heap.size, 1, none⟩ = some (.slice none 0 0) := d 1
        clear f c0 d
        have q := HG.out.less (Q := [(w.heap.size, xCs ⟨#[]⟩ (.slice none 0 0), 28)]) (by simp)
        have q0 := q.set (i := 0) svFlat (.string tt) (by simp)
        have q1 := Lib.hid (q0.set (i := 1) svFlat (.slice A2 L c2) (by simp))
        clear q q0
        go_wp2
        refine ⟨rfl, .agg (xCs tt (.slice A2 L c2)), (by rw [results_cell1 rfl]; go_simp; rfl), ?_⟩
        exact FIN.out l _ n _ HB.out.1 HB.out.2 q1.out (by omega)
end Go.Proofs.YtlfnmmnbfoimeaaGreatDoor

/- The generator's scripts of any kind, walked. -/
namespace Go.Proofs.YtlfnmmnbfoimeaaGreatDoor
set_option linter.unusedVariables false
open Go.RowKit Go.Sort

end Go.Proofs.YtlfnmmnbfoimeaaGreatDoor

/- The laws' own script: one with numbers, rarely one that is wrong or has none. -/
namespace Go.Proofs.YtlfnmmnbfoimeaaGreatDoor
set_option linter.unusedVariables false
open Go.RowKit Go.Sort

theorem storyFin {w w7 : World} {sb X : Nat} {k0 dk n7 : Int} {l l7 : List (Scene × Value)} {v sv7 : Value} {tt t7 : ByteArray}
    (hG7 : GS svR 66 w sb l v [(X, xCs tt v, 28), (w.heap.size, xCs ⟨#[]⟩ (.slice none 0 0), 28)] n7 w7) (hXw : X ≠ w.heap.size)
    (hS7 : Sli svR w7 (fun q => w.heap.size ≤ q ∧ q < w7.heap.size ∧ q ≠ X ∧ q ≠ w.heap.size) l7 sv7) (hI7 : ∀ y ∈ l7, Sli paraR w7 (fun q => w.heap.size ≤ q ∧ q < w7.heap.size ∧ q ≠ X ∧ q ≠ w.heap.size) y.1.paras y.2)
    (ht7 : t7.size ≤ 1000) (hl7 : l7.length ≤ 91) (hb7 : ∀ y ∈ l7, sceneBm 10010 y.1) (hn : n7 ≤ k0 + dk) :
    Took sb k0 dk (isSp (fun _ => False) 10010 91 w) w (.returned (.agg (xCs t7 sv7))) ((((w7.setCell ⟨X, 0, none⟩ (.string t7)).setCell ⟨X, 1, none⟩ sv7).setCell ⟨w.heap.size, 0, none⟩ (.string t7)).setCell ⟨w.heap.size, 1, none⟩ sv7) := by
  have q1 := (hG7.set (i := 0) svFlat (.string t7) (by simpa using hXw.symm)).set (i := 1) svFlat sv7 (by simpa using hXw.symm)
  have q2 := Lib.hid (((q1.less (Q := [(w.heap.size, xCs ⟨#[]⟩ (.slice none 0 0), 28)]) (by simp)).set (i := 0) svFlat (.string t7) (by simp)).set (i := 1) svFlat sv7 (by simp))
  have hkeep : ∀ q, (w.heap.size ≤ q ∧ q < w7.heap.size ∧ q ≠ X ∧ q ≠ w.heap.size) → ((((w7.setCell ⟨X, 0, none⟩ (.string t7)).setCell ⟨X, 1, none⟩ sv7).setCell ⟨w.heap.size, 0, none⟩ (.string t7)).setCell ⟨w.heap.size, 1, none⟩ sv7).heap[q]? = w7.heap[q]? := fun q hq =>
    (Below.heap_setCell _ _ _ _ hq.2.2.2).trans ((Below.heap_setCell _ _ _ _ hq.2.2.2).trans ((Below.heap_setCell _ _ _ _ hq.2.2.1).trans (Below.heap_setCell _ _ _ _ hq.2.2.1)))
  have hzz : ((((w7.setCell ⟨X, 0, none⟩ (.string t7)).setCell ⟨X, 1, none⟩ sv7).setCell ⟨w.heap.size, 0, none⟩ (.string t7)).setCell ⟨w.heap.size, 1, none⟩ sv7).heap.size = w7.heap.size := by simp [World.setCell]
  have hmore : ∀ q, (w.heap.size ≤ q ∧ q < w7.heap.size ∧ q ≠ X ∧ q ≠ w.heap.size) → SpG (fun _ => False) w ((((w7.setCell ⟨X, 0, none⟩ (.string t7)).setCell ⟨X, 1, none⟩ sv7).setCell ⟨w.heap.size, 0, none⟩ (.string t7)).setCell ⟨w.heap.size, 1, none⟩ sv7) q := fun q hq => .inr ⟨hq.1, by rw [hzz]; exact hq.2.1⟩
  exact ⟨_, n7, rfl, ⟨t7, l7, sv7, rfl, (hS7.keep hkeep).more hmore, fun y hy => ((hI7 y hy).keep hkeep).more hmore, ht7, hl7, hb7⟩, hn, q2.out.str, q2.out.gr⟩
set_option maxRecDepth 100000 in
set_option maxHeartbeats 8000000 in
theorem story_c (sb : Nat) (k0 : Int) (w : World) (hs : Str w sb k0) (hk0 : k0 ≤ 3100000000000000000) (hl : LaidS sb w) :
    Calls Tryz.prog 4 #[.pointer (some ⟨sb, 0, none⟩)] w (Took sb k0 810000 (isSp (fun _ => False) 10010 91 w) w) := by
  have S0 := Lib.hid hs
  have hsb := hs.lt
  have L1 := Lib.hid (hl.alloc (Nat.le_of_lt hsb) (.cells #[.string ⟨#[]⟩, .slice none 0 0] 28))
  clear hs hl
  have hG := (GSI.start (R := svR) (RI := paraR) (inn := fun x => x.1.paras) (pv := fun x => x.2) (e := 66) S0.out).new (xCs ⟨#[]⟩ (.slice none 0 0)) 28
  go_enter Tryz.func4, Tryz.ntmps4
  go_upto_region 1 with (fail)
  generalize hW : w.alloc (.cells #[.string ⟨#[]⟩, .slice none 0 0] 28) = wR
  have G0 := Lib.hid (show ScG w sb [] (.slice none 0 0) [(w.heap.size, xCs ⟨#[]⟩ (.slice none 0 0), 28)] k0 wR by rw [← hW]; exact hG)
  have hRz : wR.heap.size = w.heap.size + 1 := by rw [← hW]; simp
  rw [hW] at L1
  clear hG hW
  go_wp2_with fail
  refine (Story_c sb k0 wR G0.out.gs.str (by omega) L1.out).mono ?_
  rintro e w1 ⟨v1, n1, rfl, ⟨x, l, sv, rfl, hxl, hown, hinn, hbd⟩, hn1, hs1, hg1⟩
  have hlL : l.length ≤ 90 := by have h := hbd.2.1; rw [hxl] at h; simpa using h
  have hbl : ∀ y ∈ l, sceneBd y.1 := fun y hy => hbd.2.2 _ (by rw [hxl]; exact List.mem_map.2 ⟨y, hy, rfl⟩)
  have htz : x.title.size ≤ 1000 := hbd.1
  have h1 : ScG w sb l sv [(w.heap.size, xCs ⟨#[]⟩ (.slice none 0 0), 28)] n1 w1 := by
    have h0 := (G0.out.turn hg1 hs1).gs
    refine ⟨⟨hs1, h0.gr, hown.less (by omega), h0.lt, fun p hp => ⟨(h0.prv p hp).1, (h0.prv p hp).2.1, fun e => ?_⟩⟩, fun y hy => ?_⟩
    · have := hown.block _ e; rw [List.mem_singleton] at hp; subst hp; dsimp only at this; omega
    · exact (hinn y hy).more fun q hq => ⟨by have := hq.1; omega, hq.2.1, fun p hp => (by rw [List.mem_singleton] at hp; subst hp; have := hq.1; dsimp only; omega), hq.2.2.2⟩
  obtain ⟨A1, c1, hv1, _, _⟩ := (hown.sli (F := fun _ => True) (fun _ _ _ => trivial) (fun _ _ => trivial)).form
  subst hv1
  clear hown hinn hbd hs1 hg1 G0
  generalize x.title = tt at *
  have hXw : w1.heap.size ≠ w.heap.size := by have := h1.gs.plt (p := (w.heap.size, xCs ⟨#[]⟩ (.slice none 0 0), 28)) (by simp); dsimp only at this; omega
  have hXs : sb < w1.heap.size := by have := h1.gs.size; omega
  have hG3 := h1.new (xCs tt (.slice A1 l.length c1)) 28
  have HBL := Lib.hid (show ∀ y ∈ l, sceneBm 10000 y.1 from fun y hy => sceneBm.of (hbl y hy))
  clear h1 hbl hxl
  obtain ⟨L, hL⟩ : ∃ L, l.length = L := ⟨_, rfl⟩
  have HLL := Lib.hid hL
  rw [hL] at hG3 hlL
  rw [show xCs tt (.slice A1 l.length c1) = #[.string tt, .slice A1 L c1] by rw [hL]; rfl]
  clear hL
  go_upto_region 2 with (fail)
  generalize hW : w1.alloc (.cells #[.string tt, .slice A1 L c1] 28) = wX
  have G3 := Lib.hid (show ScG w sb l (.slice A1 L c1) [(w1.heap.size, xCs tt (.slice A1 L c1), 28), (w.heap.size, xCs ⟨#[]⟩ (.slice none 0 0), 28)] n1 wX by rw [← hW]; exact hG3)
  clear hG3 hW
  generalize w1.heap.size = X at *
  go_wp2_with fail
  refine (next_c sb n1 16 _ G3.out.gs.str (by omega) (by decide) (by decide)).mono ?_
  rintro e w6 ⟨v4, n4, rfl, ⟨m4, hm0, hm1, rfl⟩, hn4, hs4, hg4⟩
  have G6 := Lib.hid (G3.out.turn hg4 hs4)
  clear hs4 hg4 G3
  obtain ⟨x, xf⟩ := G6.out.gs.cell (p := (X, xCs tt (.slice A1 L c1), 28)) (by simp)
  obtain ⟨y, yf⟩ := G6.out.gs.cell (p := (w.heap.size, xCs ⟨#[]⟩ (.slice none 0 0), 28)) (by simp)
  have x0 : w6.cell? ⟨X, 0, none⟩ = some (.string tt) := x 0
  have x1 : w6.cell? ⟨X, 1, none⟩ = some (.slice A1 L c1) := x 1
  have y0 : w6.cell? ⟨w.heap.size, 0, none⟩ = some (.string ⟨#[]⟩) := y 0
  have y1 : w6.cell? ⟨w.heap.size, 1, none⟩ = some (.slice none 0 0) := y 1
  have f0 : w6.frozen? ⟨w.heap.size, 0, none⟩ = false := yf 0
  have f1 : w6.frozen? ⟨w.heap.size, 1, none⟩ = false := yf 1
  have hX6 : X < w6.heap.size := G6.out.gs.plt (p := (X, xCs tt (.slice A1 L c1), 28)) (by simp)
  have hz6 : w.heap.size < w6.heap.size := G6.out.gs.plt (p := (w.heap.size, xCs ⟨#[]⟩ (.slice none 0 0), 28)) (by simp)
  have hsl : Sli svR w6 (fun q => w.heap.size ≤ q ∧ q < w6.heap.size ∧ q ≠ X ∧ q ≠ w.heap.size) l (.slice A1 L c1) := G6.out.gs.own.sliF (enc := fun x : Scene × Value => x.1.cells x.2) (hn := fun _ => rfl) (fun g e => ⟨(G6.out.gs.own.block g e).1, (G6.out.gs.own.block g e).2, fun h => (G6.out.gs.prv (X, xCs tt (.slice A1 L c1), 28) (by simp)).2.2 (by rw [e, h]), fun h => (G6.out.gs.prv (w.heap.size, xCs ⟨#[]⟩ (.slice none 0 0), 28) (by simp)).2.2 (by rw [e, h])⟩)
  have hin : ∀ y ∈ l, Sli paraR w6 (fun q => w.heap.size ≤ q ∧ q < w6.heap.size ∧ q ≠ X ∧ q ≠ w.heap.size) y.1.paras y.2 := fun y hy => (G6.out.inn y hy).more fun q hq => ⟨hq.1, hq.2.1, hq.2.2.1 (X, xCs tt (.slice A1 L c1), 28) (by simp), hq.2.2.1 (w.heap.size, xCs ⟨#[]⟩ (.slice none 0 0), 28) (by simp)⟩
  have HSL := Lib.hid (And.intro hsl hin)
  have HCL := Lib.hid (fun (n7 : Int) (w7 : World) (h : GS svR 66 w sb l (.slice A1 L c1) [(X, xCs tt (.slice A1 L c1), 28), (w.heap.size, xCs ⟨#[]⟩ (.slice none 0 0), 28)] n7 w7) => show (w7.cell? ⟨X, 0, none⟩ = some (.string tt) ∧ w7.cell? ⟨X, 1, none⟩ = some (.slice A1 L c1) ∧ w7.frozen? ⟨X, 0, none⟩ = false ∧ w7.frozen? ⟨X, 1, none⟩ = false) ∧ w7.cell? ⟨w.heap.size, 0, none⟩ = some (.string ⟨#[]⟩) ∧ w7.cell? ⟨w.heap.size, 1, none⟩ = some (.slice none 0 0) ∧ w7.frozen? ⟨w.heap.size, 0, none⟩ = false ∧ w7.frozen? ⟨w.heap.size, 1, none⟩ = false from by
    obtain ⟨x, xf⟩ := h.cell (p := (X, xCs tt (.slice A1 L c1), 28)) (by simp)
    obtain ⟨y, yf⟩ := h.cell (p := (w.heap.size, xCs ⟨#[]⟩ (.slice none 0 0), 28)) (by simp)
    exact ⟨⟨x 0, x 1, xf 0, xf 1⟩, y 0, y 1, yf 0, yf 1⟩)
  have hlL1 : L ≤ 91 := by omega
  clear hsl hin x y xf yf
  by_cases hm : m4 = 0
  · have HSC := Lib.hid (SpoiledScript_c (F := fun q => w.heap.size ≤ q ∧ q < w6.heap.size ∧ q ≠ X ∧ q ≠ w.heap.size) sb 10000 90 n4 tt l (.slice A1 L c1) w6 G6.out.gs.str (by omega) HSL.out.1 HSL.out.2 (fun q hq => ⟨hq.2.1, by have := hq.1; omega⟩) htz (by rw [HLL.out]; omega) (by decide) HBL.out (by decide) (by decide))
    subst hm
    clear f0 f1 y0 y1
    go_wp2_with fail
    refine HSC.out.mono ?_
    rintro e w7 ⟨v7, n7, rfl, ⟨t7, l7, sv7, rfl, hS7, hI7, ht7, hl7, hb7⟩, hn7, hs7, hg7⟩
    have hG7 := (G6.out.turn hg7 hs7).gs
    obtain ⟨⟨z0, z1, g0, g1⟩, y0, y1, f0, f1⟩ := HCL.out n7 w7 hG7
    have hz7 := hg7.size
    have hmo : ∀ q, SpG (fun q => w.heap.size ≤ q ∧ q < w6.heap.size ∧ q ≠ X ∧ q ≠ w.heap.size) w6 w7 q → w.heap.size ≤ q ∧ q < w7.heap.size ∧ q ≠ X ∧ q ≠ w.heap.size := fun q hq => by
      rcases hq with h | h
      · exact ⟨h.1, Nat.lt_of_lt_of_le h.2.1 hz7, h.2.2⟩
      · exact ⟨by have := h.1; omega, h.2, by have := h.1; omega, by have := h.1; omega⟩
    have HFN := Lib.hid (storyFin (k0 := k0) (dk := 810000) hG7 hXw (hS7.more hmo) (fun y hy => (hI7 y hy).more hmo) ht7 hl7 hb7 (by omega))
    obtain ⟨A7, c7, hv7, _, _⟩ := hS7.form
    subst hv7
    clear hS7 hI7 hb7 hmo hG7 hg7 hs7 HSC x0 x1 HCL HSL HBL
    rw [show xCs t7 (.slice A7 l7.length c7) = #[.string t7, .slice A7 l7.length c7] from rfl]
    go_wp2
    refine ⟨rfl, .agg (xCs t7 (.slice A7 l7.length c7)), (by rw [results_cell1 rfl]; go_simp; rfl), ?_⟩
    exact HFN.out
  have e0 : (m4 == 0) = false := beq_eq_false_iff_ne.2 hm
  by_cases hm2 : m4 = 1
  · subst hm2
    clear f0 f1 y0 y1 e0 hm
    go_wp2_with fail
    refine (Script_c sb n4 w6 G6.out.gs.str (by omega)).mono ?_
    rintro e w7 ⟨v7, n7, rfl, ⟨x7, l7, sv7, rfl, hxl7, hS7, hI7, hbd7⟩, hn7, hs7, hg7⟩
    have hG7 := (G6.out.turn hg7 hs7).gs
    obtain ⟨⟨z0, z1, g0, g1⟩, y0, y1, f0, f1⟩ := HCL.out n7 w7 hG7
    have hz7 := hg7.size
    have hl7 : l7.length ≤ 91 := by have h := hbd7.2.1; rw [hxl7, List.length_map] at h; omega
    have hb7 : ∀ y ∈ l7, sceneBm 10010 y.1 := fun y hy => (sceneBm.of (hbd7.2.2 _ (by rw [hxl7]; exact List.mem_map.2 ⟨y, hy, rfl⟩))).up (by omega)
    have HFN := Lib.hid (storyFin (k0 := k0) (dk := 810000) (t7 := x7.title) hG7 hXw (l7 := l7) (sv7 := sv7) (hS7.sli (fun q h1 h2 => ⟨by omega, h2, by omega, by omega⟩) (fun g hg => ⟨by have := (hS7.block g hg).1; omega, (hS7.block g hg).2, by have := (hS7.block g hg).1; omega, by have := (hS7.block g hg).1; omega⟩)) (fun y hy => (hI7 y hy).more fun q hq => ⟨by have := hq.1; omega, hq.2.1, by have := hq.1; omega, by have := hq.1; omega⟩) hbd7.1 hl7 hb7 (by omega))
    obtain ⟨A7, c7, hv7, _, _⟩ := (hS7.sli (F := fun _ => True) (fun _ _ _ => trivial) (fun _ _ => trivial)).form
    subst hv7
    generalize x7.title = t7 at *
    clear hS7 hI7 hb7 hG7 hg7 hs7 x0 x1 HCL HSL HBL hxl7 hbd7
    rw [show xCs t7 (.slice A7 l7.length c7) = #[.string t7, .slice A7 l7.length c7] from rfl]
    go_wp2
    refine ⟨rfl, .agg (xCs t7 (.slice A7 l7.length c7)), (by rw [results_cell1 rfl]; go_simp; rfl), ?_⟩
    exact HFN.out
  · have e1 : (m4 == 1) = false := beq_eq_false_iff_ne.2 hm2
    have q1 := Lib.hid (((G6.out.less (Q := [(w.heap.size, xCs ⟨#[]⟩ (.slice none 0 0), 28)]) (by simp)).set (i := 0) svFlat (.string tt) (by simp)).set (i := 1) svFlat (.slice A1 L c1) (by simp))
    have HLL2 := Lib.hid (show l.length ≤ 91 by rw [HLL.out]; omega)
    clear hm hm2 HCL HSL
    go_wp2
    refine ⟨rfl, .agg (xCs tt (.slice A1 L c1)), (by rw [results_cell1 rfl]; go_simp; rfl), ?_⟩
    exact ⟨_, n4, rfl, ⟨tt, l, _, rfl, q1.out.gs.own.sliF (enc := fun x : Scene × Value => x.1.cells x.2) (hn := fun _ => rfl) (fun g e => .inr (q1.out.gs.own.block g e)), fun y hy => (q1.out.inn y hy).more fun q hq => .inr ⟨hq.1, hq.2.1⟩, htz, HLL2.out, fun y hy => (HBL.out y hy).up (by omega)⟩, by omega, q1.out.gs.str, q1.out.gs.gr⟩
end Go.Proofs.YtlfnmmnbfoimeaaGreatDoor

