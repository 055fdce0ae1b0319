/- Texts packed: NumP, StoryE, SpD, ScX, ScY. -/
import Derived.Test.YtndillbimibecaaGreatDoorSc20
import Derived.Test.YtndillbimibecaaGreatDoorSc26
import Derived.Test.YtndillbimibecaaGreatDoorSc05
import Derived.Test.YtndillbimibecaaGreatDoorSc25
import Derived.Deep.CutBlock
import Derived.Test.YtndillbimibecaaGreatDoorSc18
/- script.Times and script.Number, walked. -/
namespace Go.Proofs.YtndillbimibecaaGreatDoor
set_option linter.unusedVariables false
open Go.RowKit Go.Sort

end Go.Proofs.YtndillbimibecaaGreatDoor

/- The generator's scripts with numbers. -/
namespace Go.Proofs.YtndillbimibecaaGreatDoor
set_option linter.unusedVariables false
open Go.RowKit Go.Sort

theorem setNo_bd {z : ByteArray} {x : Scene × Value} (h : sceneBd x.1) (hz : z.size ≤ 1000) : sceneBd (setNo z x).1 := ⟨hz, h.2⟩
theorem noOf_sz {k : Nat} (hk : k < 99) : (noOf k).size ≤ 1000 := by
  have h := itoa_sz ((k + 1 : Nat) : Int) ⟨by omega, by omega⟩
  have e : Lib.itoa ((k + 1 : Nat) : Int) = Lib.decDigits (k + 1) := by first | rfl | simp [Lib.itoa]
  unfold noOf
  rw [e] at h
  omega
theorem mem_modify {α : Type} {l : List α} {f : α → α} {k : Nat} {y : α} (h : y ∈ l.modify k f) : y ∈ l ∨ ∃ x ∈ l, y = f x := by
  obtain ⟨i, hi⟩ := List.mem_iff_getElem?.1 h
  rw [List.getElem?_modify] at hi
  cases hli : l[i]? with
  | none => rw [hli] at hi; simp at hi
  | some x =>
    rw [hli] at hi
    have hm : x ∈ l := List.mem_iff_getElem?.2 ⟨i, hli⟩
    simp at hi
    by_cases e : k = i
    · rw [if_pos e] at hi; exact .inr ⟨x, hm, hi.symm⟩
    · rw [if_neg e] at hi; exact .inl (hi ▸ hm)
/-- Each numbered scene is a scene with another number. -/
theorem numbTo_mem {l : List (Scene × Value)} : ∀ {k : Nat}, k ≤ 99 → ∀ {y : Scene × Value}, y ∈ numbTo k l → y ∈ l ∨ ∃ x ∈ l, ∃ z : ByteArray, z.size ≤ 1000 ∧ y = setNo z x
  | 0, _, y, h => .inl h
  | k + 1, hk, y, h => by
    rcases mem_modify h with h | ⟨x, hx, rfl⟩
    · exact numbTo_mem (by omega) h
    · rcases numbTo_mem (by omega) hx with h2 | ⟨u, hu, z, hz, rfl⟩
      · exact .inr ⟨x, h2, _, noOf_sz (by omega), rfl⟩
      · exact .inr ⟨u, hu, _, noOf_sz (by omega), rfl⟩
theorem numbTo_bd {l : List (Scene × Value)} {k : Nat} (hk : k ≤ 99) (h : ∀ x ∈ l, sceneBd x.1) : ∀ y ∈ numbTo k l, sceneBd y.1 := fun y hy => by
  rcases numbTo_mem hk hy with h2 | ⟨x, hx, z, hz, rfl⟩
  · exact h y h2
  · exact setNo_bd (h x hx) hz
/-- Inner lists stay inner lists, whatever the numbers. -/
theorem numbTo_inn {l : List (Scene × Value)} {k : Nat} (hk : k ≤ 99) {w : World} {F : Nat → Prop} (h : ∀ x ∈ l, Sli paraR w F x.1.paras x.2) : ∀ y ∈ numbTo k l, Sli paraR w F y.1.paras y.2 := fun y hy => by
  rcases numbTo_mem hk hy with h2 | ⟨x, hx, z, hz, rfl⟩
  · exact h y h2
  · exact h x hx

/-- The list of a script under way has been replaced by one that a call has made. -/
theorem GSI.take {w wx wy : World} {sb : Nat} {l l' : List (Scene × Value)} {v v' : Value} {P : List (Nat × Array Value × TypeId)} {n : Int} (h : ScG w sb l v P n wx) (hb : Below wx.heap.size wx wy)
    (hown : Own svR wy wx.heap.size wx.heap.size 49 l' v') (hi : ∀ y ∈ l', Sli paraR wx (InF w wx v P) y.1.paras y.2) : ScG w sb l' v' P n wy := by
  have h2 := h.below hb
  refine ⟨⟨h2.gs.str, h2.gs.gr, hown.less h.gs.size, h2.gs.lt, fun p hp => ⟨(h2.gs.prv p hp).1, (h2.gs.prv p hp).2.1, fun e => by have := hown.block _ e; have := h.gs.plt hp; omega⟩⟩, fun y hy => ?_⟩
  exact ((hi y hy).below hb (fun b hF => hF.2.1)).more fun q hq => ⟨hq.1, Nat.lt_of_lt_of_le hq.2.1 hb.size, hq.2.2.1, fun e => by have := hown.block q e; have := hq.2.1; omega⟩
theorem inn_slice {w : World} {F : Nat → Prop} {l : List (Scene × Value)} (h : ∀ y ∈ l, Sli paraR w F y.1.paras y.2) : ∀ x ∈ l, ∃ A n c, x.2 = .slice A n c := fun x hx => by
  obtain ⟨A, c, hv, _⟩ := (h x hx).form
  exact ⟨A, _, c, hv⟩

end Go.Proofs.YtndillbimibecaaGreatDoor

/- The generator's scripts of any kind, walked. -/
namespace Go.Proofs.YtndillbimibecaaGreatDoor
set_option linter.unusedVariables false
open Go.RowKit Go.Sort

/-- The table of powers lies as it was laid, below the stream's block. -/
def PowS (sb : Nat) (w : World) : Prop := PowLaid w ∧ 2 < sb
theorem PowS.start {w : World} (h : PowLaid w) : PowS w.heap.size w := ⟨h, pow_lt h⟩
theorem PowS.keep {w w' : World} {sb : Nat} (h : PowS sb w) (hk : ∀ b, b < sb → w'.heap[b]? = w.heap[b]?) : PowS sb w' := ⟨pow_block h.1 (hk _ h.2), h.2⟩
theorem PowS.grown {w w' : World} {sb : Nat} (h : PowS sb w) (hlt : sb < w.heap.size) (hg : w.grownBy w' (some sb)) : PowS sb w' := h.keep fun b hb => hg.block b (by omega) (by simp; omega)
theorem PowS.pow {w : World} {sb : Nat} (h : PowS sb w) : PowLaid w := h.1
set_option maxRecDepth 100000 in
set_option maxHeartbeats 8000000 in
theorem AnyScript_c (sb : Nat) (k0 : Int) (w : World) (hs : Str w sb k0) (hk0 : k0 ≤ 3100000000000000000) (hl : PowS sb w) :
    Calls Tryz.prog 4 #[.pointer (some ⟨sb, 0, none⟩)] w (Took sb k0 400300 (isSp (fun _ => False) 10010 91 w) w) := by
  have HL := Lib.hid hl
  have S0 := Lib.hid hs
  have hsb := hs.lt
  clear hs hl
  have hG := (GSI.start (R := svR) (RI := paraR) (inn := fun x => x.1.paras) (pv := fun x => x.2) (e := 49) S0.out).new (xCs ⟨#[]⟩ (.slice none 0 0)) 28
  go_enter Tryz.func4, Tryz.ntmps4
  go_upto_region 1 with (fail)
  generalize hW : w.alloc (.cells #[.string ⟨#[]⟩, .slice none 0 0] 28) = wR
  have G0 := Lib.hid (show ScG w sb [] (.slice none 0 0) [(w.heap.size, xCs ⟨#[]⟩ (.slice none 0 0), 28)] k0 wR by rw [← hW]; exact hG)
  have hRz : wR.heap.size = w.heap.size + 1 := by rw [← hW]; simp
  clear hG hW
  go_wp2_with fail
  refine (Script_c sb k0 wR G0.out.gs.str (by omega)).mono ?_
  rintro e w1 ⟨v1, n1, rfl, ⟨x, l, sv, rfl, hxl, hown, hinn, hbd⟩, hn1, hs1, hg1⟩
  have hlL : l.length ≤ 90 := by have h := hbd.2.1; rw [hxl] at h; simpa using h
  have hbl : ∀ y ∈ l, sceneBd y.1 := fun y hy => hbd.2.2 _ (by rw [hxl]; exact List.mem_map.2 ⟨y, hy, rfl⟩)
  have htz : x.title.size ≤ 1000 := hbd.1
  have h1 : ScG w sb l sv [(w.heap.size, xCs ⟨#[]⟩ (.slice none 0 0), 28)] n1 w1 := by
    have h0 := (G0.out.turn hg1 hs1).gs
    refine ⟨⟨hs1, h0.gr, hown.less (by omega), h0.lt, fun p hp => ⟨(h0.prv p hp).1, (h0.prv p hp).2.1, fun e => ?_⟩⟩, fun y hy => ?_⟩
    · have := hown.block _ e; rw [List.mem_singleton] at hp; subst hp; dsimp only at this; omega
    · exact (hinn y hy).more fun q hq => ⟨by have := hq.1; omega, hq.2.1, fun p hp => (by rw [List.mem_singleton] at hp; subst hp; have := hq.1; dsimp only; omega), hq.2.2.2⟩
  obtain ⟨A1, c1, hv1, _, _⟩ := (hown.sli (F := fun _ => True) (fun _ _ _ => trivial) (fun _ _ => trivial)).form
  subst hv1
  clear hown hinn hbd hs1 hg1 G0
  generalize x.title = tt at *
  have hXw : w1.heap.size ≠ w.heap.size := by have := h1.gs.plt (p := (w.heap.size, xCs ⟨#[]⟩ (.slice none 0 0), 28)) (by simp); dsimp only at this; omega
  have hXs : sb < w1.heap.size := by have := h1.gs.size; omega
  have hG3 := h1.new (xCs tt (.slice A1 l.length c1)) 28
  have HBL := Lib.hid hbl
  clear h1 hbl hxl
  obtain ⟨L, hL⟩ : ∃ L, l.length = L := ⟨_, rfl⟩
  have HLL := Lib.hid hL
  rw [hL] at hG3 hlL
  rw [show xCs tt (.slice A1 l.length c1) = #[.string tt, .slice A1 L c1] by rw [hL]; rfl]
  clear hL
  go_upto_region 2 with (fail)
  generalize hW : w1.alloc (.cells #[.string tt, .slice A1 L c1] 28) = wX
  have G3 := Lib.hid (show ScG w sb l (.slice A1 L c1) [(w1.heap.size, xCs tt (.slice A1 L c1), 28), (w.heap.size, xCs ⟨#[]⟩ (.slice none 0 0), 28)] n1 wX by rw [← hW]; exact hG3)
  clear hG3 hW
  generalize w1.heap.size = X at *
  go_wp2_with fail
  refine (next_c sb n1 4 _ G3.out.gs.str (by omega) (by decide) (by decide)).mono ?_
  rintro e w4 ⟨v4, n4, rfl, ⟨m4, hm0, hm1, rfl⟩, hn4, hs4, hg4⟩
  have G4 := Lib.hid (G3.out.turn hg4 hs4)
  clear G3 hs4 hg4
  go_upto_block 0 with (fail)
  go_cut [] (fun wx => ∃ (l : List (Scene × Value)) (A : Option Addr) (c : Nat) (n : Int), n ≤ k0 + 400200 ∧ Hid (l.length = L ∧ ∀ y ∈ l, sceneBd y.1) ∧ Hid (ScG w sb l (.slice A L c) [(X, xCs tt (.slice A L c), 28), (w.heap.size, xCs ⟨#[]⟩ (.slice none 0 0), 28)] n wx))
  case first =>
    have HB0 := Lib.hid (And.intro HLL.out HBL.out)
    have hzX : X < w4.heap.size := G4.out.gs.plt (p := (X, xCs tt (.slice A1 L c1), 28)) (by simp)
    by_cases h0 : m4 = 0
    · have t0 : (m4 == 0) = true := beq_iff_eq.2 h0
      clear h0
      have c0 := (G4.out.gs.cell (p := (X, xCs tt (.slice A1 L c1), 28)) (by simp)).1
      have e0 : w4.cell? ⟨X, 0, none⟩ = some (.string tt) := c0 0
      have e1 : w4.cell? ⟨X, 1, none⟩ = some (.slice A1 L c1) := c0 1
      clear c0
      have hsl := (G4.out.gs.own.sli (F := fun q => q < w4.heap.size) (fun q _ h => h) (fun g hg => (G4.out.gs.own.block g hg).2))
      have HN := Numbered_c tt l (.slice A1 L c1) w4 hsl (fun q h => h) (by rw [HLL.out]; omega) (inn_slice G4.out.inn)
      rw [show xCs tt (.slice A1 L c1) = #[.string tt, .slice A1 L c1] from rfl] at HN
      have HN := Lib.hid HN
      clear hsl
      go_wp2_with fail
      refine HN.out.mono ?_
      rintro e w5 ⟨v5, rfl, hown5, hb5⟩
      have hG5 := GSI.take G4.out hb5 hown5 (numbTo_inn (by rw [HLL.out]; omega) G4.out.inn)
      have hbl5 := numbTo_bd (k := l.length) (by rw [HLL.out]; omega) HBL.out
      have hl5 : (numbTo l.length l).length = L := (numbTo_len _ _).trans HLL.out
      generalize numbTo l.length l = l5 at *
      obtain ⟨A5, c5, hv5, _, _⟩ := (hown5.sli (F := fun _ => True) (fun _ _ _ => trivial) (fun _ _ => trivial)).form
      rw [hl5] at hv5
      subst hv5
      obtain ⟨d, f⟩ := hG5.gs.cell (p := (X, xCs tt (.slice A1 L c1), 28)) (by simp)
      have d0 : w5.cell? ⟨X, 0, none⟩ = some (.string tt) := d 0
      have d1 : w5.cell? ⟨X, 1, none⟩ = some (.slice A1 L c1) := d 1
      have f0 : w5.frozen? ⟨X, 0, none⟩ = false := f 0
      have f1 : w5.frozen? ⟨X, 1, none⟩ = false := f 1
      have G6 := Lib.hid (show ScG w sb l5 (.slice A5 L c5) [(X, xCs tt (.slice A5 L c5), 28), (w.heap.size, xCs ⟨#[]⟩ (.slice none 0 0), 28)] n4 ((w5.setCell ⟨X, 0, none⟩ (.string tt)).setCell ⟨X, 1, none⟩ (.slice A5 L c5)) from (hG5.set (i := 0) svFlat (.string tt) (by simpa using hXw.symm)).set (i := 1) svFlat (.slice A5 L c5) (by simpa using hXw.symm))
      have HB5 := Lib.hid (And.intro hl5 hbl5)
      clear hown5 hG5 d f hb5 e0 e1 HN hl5 hbl5 G4
      rw [show xCs tt (.slice A5 L c5) = #[.string tt, .slice A5 L c5] from rfl]
      go_wp2
      go_meet
      exact ⟨l5, A5, c5, n4, by omega, HB5, G6⟩
    · have t0 : (m4 == 0) = false := beq_eq_false_iff_ne.2 h0
      clear h0
      by_cases h1 : m4 = 1
      · have t1 : (m4 == 1) = true := beq_iff_eq.2 h1
        clear h1
        have e1 : w4.cell? ⟨X, 1, none⟩ = some (.slice A1 L c1) := (G4.out.gs.cell (p := (X, xCs tt (.slice A1 L c1), 28)) (by simp)).1 1
        go_wp2
        go_loopw [18, 4] (fun i _ wr => ∃ (k : Nat) (l : List (Scene × Value)) (n : Int), k ≤ L ∧ i = .int .i64 k ∧ n ≤ k0 + 400010 + (k : Int) ∧ Hid (l.length = L ∧ ∀ y ∈ l, sceneBd y.1)
          ∧ Hid (ScG w sb l (.slice A1 L c1) [(X, xCs tt (.slice A1 L c1), 28), (w.heap.size, xCs ⟨#[]⟩ (.slice none 0 0), 28)] n wr)) (fun i _ _ => L - (intOf i).toNat)
        case atStart => exact ⟨0, l, n4, by omega, rfl, by omega, HB0, G4⟩
        case round =>
          clear G4 HB0 e1 hzX HBL HLL
          obtain ⟨k, l, n, hk, rfl, hn, HB, HG⟩ := hrel
          by_cases hlt : k < L
          · go_wp2_with fail
            refine (flip_c sb n 2 wr HG.out.gs.str (by omega) (by decide) (by decide)).mono ?_
            rintro e w5 ⟨v5, n5, rfl, ⟨b5, rfl⟩, hn5, hs5, hg5⟩
            have G5 := Lib.hid (HG.out.turn hg5 hs5)
            clear hs5 hg5 HG
            cases b5 with
            | false =>
              go_wp2
              go_roundw
              case rel => exact ⟨k + 1, l, n5, by omega, intNum, by omega, HB, G5⟩
              all_goals (try (simp [intOf] <;> omega))
            | true =>
              go_upto_region 10 with (fail)
              obtain ⟨g, cap, hv, hg1, hg2⟩ := Own.some_ G5.out.gs.own (by rw [HB.out.1]; omega)
              rw [HB.out.1] at hv
              injection hv with hv1 _ hv3
              subst hv1
              subst hv3
              have c1x : w5.cell? ⟨X, 1, none⟩ = some (.slice (some ⟨g, 0, none⟩) L c1) := (G5.out.gs.cell (p := (X, xCs tt (.slice (some ⟨g, 0, none⟩) L c1), 28)) (by simp)).1 1
              obtain ⟨ι, ff, hne, hff, hfS⟩ := family (fun W => W.cell? ⟨X, 1, none⟩ = some (.slice (some ⟨g, 0, none⟩) L c1)) w5 c1x
              have HFS := Lib.hid hfS
              have HZ := Lib.hid c1x
              have hG6 : ScG w sb l (.slice (some ⟨g, 0, none⟩) L c1) [(X, xCs tt (.slice (some ⟨g, 0, none⟩) L c1), 28), (w.heap.size, xCs ⟨#[]⟩ (.slice none 0 0), 28)] n5 w5.drew := ⟨G5.out.gs.drew, fun y hy => (G5.out.inn y hy).drew⟩
              have HIT := Lib.hid (itoa_c ((k : Int) + 1) w5.drew ⟨by omega, by omega⟩ (HL.out.grown hsb hG6.gs.gr).pow)
              have G6 := Lib.hid hG6
              clear hfS c1x hG6 G5
              refine wp_region_segs2 [5] [] [] [([0, 2, 3, 4], [1], 5), ([6, 7], [], 8)] (by kernel_rfl) (by kernel_rfl) (fun _ _ _ dd _ h => by cases dd <;> exact h) (fun W => ∃ p : ι, W = ff p) (HFS.out _ HZ.out) ?_
              refine wpSegs2_step (by simp only [pick, List.getElem?_cons_succ, List.getElem?_cons_zero]; rfl) (by simp only [pick, List.getElem?_cons_succ, List.getElem?_cons_zero]; rfl) rfl (fun K0 hK0 L0 hL0 => ?_)
              repeat (first | go_big_quiet_step (fail) | quiet_step (fail))
              refine wpQuiet_nil (hL0 _ ?_)
              repeat (first | go_big_quiet_step (fail) | quiet_step (fail))
              refine wpQuiet_nil ?_
              go_simp
              refine HIT.out.mono ?_
              rintro e w7 ⟨rfl, hb7⟩
              have hG7 := G6.out.below hb7
              have hzs : (⟨(Lib.itoa ((k : Int) + 1)).toArray⟩ : ByteArray).size ≤ 1000 := Nat.le_trans (itoa_sz _ ⟨by omega, by omega⟩) (by decide)
              generalize (⟨(Lib.itoa ((k : Int) + 1)).toArray⟩ : ByteArray) = z7 at *
              have c7 : w7.cell? ⟨X, 1, none⟩ = some (.slice (some ⟨g, 0, none⟩) L c1) := (hG7.gs.cell (p := (X, xCs tt (.slice (some ⟨g, 0, none⟩) L c1), 28)) (by simp)).1 1
              obtain ⟨old, d1, f1⟩ : ∃ old : ByteArray, w7.cell? ⟨g, k * 5, none⟩ = some (.string old) ∧ w7.frozen? ⟨g, k * 5, none⟩ = false := by
                have h := Own.cellAt hG7.gs.own k (by rw [HB.out.1]; omega) 0 (by decide)
                exact ⟨_, h.1, h.2⟩
              refine hK0 (fun W => ∃ p : ι, W = ff p) _ _ (fun _ h => h) (HFS.out _ c7) ?_
              have G8 := Lib.hid (hG7.modify (enc := fun x => x.1.cells x.2) (setNo z7) k 0 (.string z7) (fun x => rfl) (by decide) (by rw [HB.out.1]; exact hlt) (fun x => rfl) (fun x => rfl))
              have HB8 := Lib.hid (show (l.modify k (setNo z7)).length = L ∧ ∀ y ∈ l.modify k (setNo z7), sceneBd y.1 from ⟨by rw [List.length_modify]; exact HB.out.1, fun y hy => by
                rcases mem_modify hy with h | ⟨u, hu, rfl⟩
                · exact HB.out.2 y h
                · exact setNo_bd (HB.out.2 u hu) hzs⟩)
              clear G6 HB hG7 HZ HFS HIT hb7 hff
              refine wpSegs2_last (by simp only [pick, List.getElem?_cons_succ, List.getElem?_cons_zero]; rfl) (by simp only [pick, List.getElem?_cons_succ, List.getElem?_cons_zero]; rfl) rfl (by rfl) (fun K1 hK1 L1 hL1 => ?_)
              repeat (first | go_big_quiet_step (fail) | quiet_step (fail))
              refine wpQuiet_nil (hL1 _ ?_)
              repeat (first | go_big_quiet_step (fail) | quiet_step (fail))
              refine wpQuiet_nil ?_
              go_simp
              refine hK1 _ _ (wpSegs2_end ?_)
              go_wp2
              go_roundw
              case rel => exact ⟨k + 1, l.modify k (setNo z7), n5, by omega, intNum, by omega, HB8, G8⟩
              all_goals (try (simp [intOf] <;> omega))
          · go_wp2
            go_meet
            exact ⟨l, A1, c1, n, by omega, HB, HG⟩
      · have t1 : (m4 == 1) = false := beq_eq_false_iff_ne.2 h1
        clear h1
        go_wp2
        go_meet
        exact ⟨l, A1, c1, n4, by omega, HB0, G4⟩
  case rest =>
  clear G4 HBL HLL
  obtain ⟨l5, A5, c5, n5, hn5, HB5, G5⟩ := hcut
  go_wp2_with fail
  refine (flip_c sb n5 5 wc G5.out.gs.str (by omega) (by decide) (by decide)).mono ?_
  rintro e w6 ⟨v6, n6, rfl, ⟨b6, rfl⟩, hn6, hs6, hg6⟩
  have G6 := Lib.hid (G5.out.turn hg6 hs6)
  clear hs6 hg6 G5
  obtain ⟨x, xf⟩ := G6.out.gs.cell (p := (X, xCs tt (.slice A5 L c5), 28)) (by simp)
  obtain ⟨y, yf⟩ := G6.out.gs.cell (p := (w.heap.size, xCs ⟨#[]⟩ (.slice none 0 0), 28)) (by simp)
  have x0 : w6.cell? ⟨X, 0, none⟩ = some (.string tt) := x 0
  have x1 : w6.cell? ⟨X, 1, none⟩ = some (.slice A5 L c5) := x 1
  have y0 : w6.cell? ⟨w.heap.size, 0, none⟩ = some (.string ⟨#[]⟩) := y 0
  have y1 : w6.cell? ⟨w.heap.size, 1, none⟩ = some (.slice none 0 0) := y 1
  have f0 : w6.frozen? ⟨w.heap.size, 0, none⟩ = false := yf 0
  have f1 : w6.frozen? ⟨w.heap.size, 1, none⟩ = false := yf 1
  have hB10 := Lib.hid (show ∀ y ∈ l5, sceneBm 10000 y.1 from fun y hy => sceneBm.of (HB5.out.2 y hy))
  cases b6 with
  | false =>
    clear x y xf yf
    have q1 := Lib.hid (((G6.out.less (Q := [(w.heap.size, xCs ⟨#[]⟩ (.slice none 0 0), 28)]) (by simp)).set (i := 0) svFlat (.string tt) (by simp)).set (i := 1) svFlat (.slice A5 L c5) (by simp))
    go_wp2
    refine ⟨rfl, .agg (xCs tt (.slice A5 L c5)), (by rw [results_cell1 rfl]; go_simp; rfl), ?_⟩
    refine ⟨_, n6, rfl, ⟨tt, l5, _, rfl, q1.out.gs.own.sliF (enc := fun x : Scene × Value => x.1.cells x.2) (hn := fun _ => rfl) (fun g e => .inr (q1.out.gs.own.block g e)), fun y hy => (q1.out.inn y hy).more fun q hq => .inr ⟨hq.1, hq.2.1⟩, htz, by rw [HB5.out.1]; omega, fun y hy => (hB10.out y hy).up (by omega)⟩, by omega, q1.out.gs.str, q1.out.gs.gr⟩
  | true =>
    have hX6 : X < w6.heap.size := G6.out.gs.plt (p := (X, xCs tt (.slice A5 L c5), 28)) (by simp)
    have hz6 : w.heap.size < w6.heap.size := G6.out.gs.plt (p := (w.heap.size, xCs ⟨#[]⟩ (.slice none 0 0), 28)) (by simp)
    have hF : Hid (∀ q, (w.heap.size ≤ q ∧ q < w6.heap.size ∧ q ≠ X ∧ q ≠ w.heap.size) → q < w6.heap.size ∧ q ≠ sb) := fun q hq => ⟨hq.2.1, by have := hq.1; omega⟩
    have hsl : Sli svR w6 (fun q => w.heap.size ≤ q ∧ q < w6.heap.size ∧ q ≠ X ∧ q ≠ w.heap.size) l5 (.slice A5 L c5) := G6.out.gs.own.sliF (enc := fun x : Scene × Value => x.1.cells x.2) (hn := fun _ => rfl) (fun g e => ⟨(G6.out.gs.own.block g e).1, (G6.out.gs.own.block g e).2, fun h => (G6.out.gs.prv (X, xCs tt (.slice A5 L c5), 28) (by simp)).2.2 (by rw [e, h]), fun h => (G6.out.gs.prv (w.heap.size, xCs ⟨#[]⟩ (.slice none 0 0), 28) (by simp)).2.2 (by rw [e, h])⟩)
    have hin : ∀ y ∈ l5, Sli paraR w6 (fun q => w.heap.size ≤ q ∧ q < w6.heap.size ∧ q ≠ X ∧ q ≠ w.heap.size) y.1.paras y.2 := fun y hy => (G6.out.inn y hy).more fun q hq => ⟨hq.1, hq.2.1, hq.2.2.1 (X, xCs tt (.slice A5 L c5), 28) (by simp), hq.2.2.1 (w.heap.size, xCs ⟨#[]⟩ (.slice none 0 0), 28) (by simp)⟩
    have HSC := SpoiledScript_c (F := fun q => w.heap.size ≤ q ∧ q < w6.heap.size ∧ q ≠ X ∧ q ≠ w.heap.size) sb 10000 90 n6 tt l5 (.slice A5 L c5) w6 G6.out.gs.str (by omega) hsl hin hF.out htz (by rw [HB5.out.1]; omega) (by decide) hB10.out (by decide) (by decide)
    have HSC := Lib.hid HSC
    clear hsl hin x y xf yf f0 f1 y0 y1
    go_wp2_with fail
    refine HSC.out.mono ?_
    rintro e w7 ⟨v7, n7, rfl, ⟨t7, l7, sv7, rfl, hS7, hI7, ht7, hl7, hb7⟩, hn7, hs7, hg7⟩
    have hG7 := G6.out.turn hg7 hs7
    obtain ⟨x, xf⟩ := hG7.gs.cell (p := (X, xCs tt (.slice A5 L c5), 28)) (by simp)
    obtain ⟨y, yf⟩ := hG7.gs.cell (p := (w.heap.size, xCs ⟨#[]⟩ (.slice none 0 0), 28)) (by simp)
    have z0 : w7.cell? ⟨X, 0, none⟩ = some (.string tt) := x 0
    have z1 : w7.cell? ⟨X, 1, none⟩ = some (.slice A5 L c5) := x 1
    have g0 : w7.frozen? ⟨X, 0, none⟩ = false := xf 0
    have g1 : w7.frozen? ⟨X, 1, none⟩ = false := xf 1
    have y0 : w7.cell? ⟨w.heap.size, 0, none⟩ = some (.string ⟨#[]⟩) := y 0
    have y1 : w7.cell? ⟨w.heap.size, 1, none⟩ = some (.slice none 0 0) := y 1
    have f0 : w7.frozen? ⟨w.heap.size, 0, none⟩ = false := yf 0
    have f1 : w7.frozen? ⟨w.heap.size, 1, none⟩ = false := yf 1
    have q1 := (hG7.gs.set (i := 0) svFlat (.string t7) (by simpa using hXw.symm)).set (i := 1) svFlat sv7 (by simpa using hXw.symm)
    have q2 := Lib.hid (((q1.less (Q := [(w.heap.size, xCs ⟨#[]⟩ (.slice none 0 0), 28)]) (by simp)).set (i := 0) svFlat (.string t7) (by simp)).set (i := 1) svFlat sv7 (by simp))
    have hkeep : ∀ q, SpG (fun q => w.heap.size ≤ q ∧ q < w6.heap.size ∧ q ≠ X ∧ q ≠ w.heap.size) w6 w7 q → ((((w7.setCell ⟨X, 0, none⟩ (.string t7)).setCell ⟨X, 1, none⟩ sv7).setCell ⟨w.heap.size, 0, none⟩ (.string t7)).setCell ⟨w.heap.size, 1, none⟩ sv7).heap[q]? = w7.heap[q]? := fun q hq => by
      have h2 : q ≠ X ∧ q ≠ w.heap.size := by
        rcases hq with h | h
        · exact h.2.2
        · exact ⟨by omega, by omega⟩
      exact (Below.heap_setCell _ _ _ _ h2.2).trans ((Below.heap_setCell _ _ _ _ h2.2).trans ((Below.heap_setCell _ _ _ _ h2.1).trans (Below.heap_setCell _ _ _ _ h2.1)))
    have hzz : ((((w7.setCell ⟨X, 0, none⟩ (.string t7)).setCell ⟨X, 1, none⟩ sv7).setCell ⟨w.heap.size, 0, none⟩ (.string t7)).setCell ⟨w.heap.size, 1, none⟩ sv7).heap.size = w7.heap.size := by simp [World.setCell]
    have hmore : ∀ q, SpG (fun q => w.heap.size ≤ q ∧ q < w6.heap.size ∧ q ≠ X ∧ q ≠ w.heap.size) w6 w7 q → SpG (fun _ => False) w ((((w7.setCell ⟨X, 0, none⟩ (.string t7)).setCell ⟨X, 1, none⟩ sv7).setCell ⟨w.heap.size, 0, none⟩ (.string t7)).setCell ⟨w.heap.size, 1, none⟩ sv7) q := fun q hq => by
      have hz7 := hg7.size
      refine .inr ?_
      rw [hzz]
      rcases hq with h | h
      · exact ⟨h.1, by have := h.2.1; omega⟩
      · exact ⟨by have := h.1; omega, h.2⟩
    have HFN := Lib.hid (show Took sb k0 400300 (isSp (fun _ => False) 10010 91 w) w (.returned (.agg (xCs t7 sv7))) ((((w7.setCell ⟨X, 0, none⟩ (.string t7)).setCell ⟨X, 1, none⟩ sv7).setCell ⟨w.heap.size, 0, none⟩ (.string t7)).setCell ⟨w.heap.size, 1, none⟩ sv7) from
      ⟨_, n7, rfl, ⟨t7, l7, sv7, rfl, (hS7.keep hkeep).more hmore, fun y hy => ((hI7 y hy).keep hkeep).more hmore, ht7, hl7, hb7⟩, by omega, q2.out.str, q2.out.gr⟩)
    obtain ⟨A7, c7, hv7, _, _⟩ := hS7.form
    subst hv7
    clear hS7 hI7 hb7 hkeep hmore hzz q1 q2 hG7 x y xf yf hg7 hs7 HSC x0 x1
    rw [show xCs t7 (.slice A7 l7.length c7) = #[.string t7, .slice A7 l7.length c7] from rfl]
    go_wp2
    refine ⟨rfl, .agg (xCs t7 (.slice A7 l7.length c7)), (by rw [results_cell1 rfl]; go_simp; rfl), ?_⟩
    exact HFN.out
end Go.Proofs.YtndillbimibecaaGreatDoor

/- A script of the generator, in a block of its own beside the stream. -/
namespace Go.Proofs.YtndillbimibecaaGreatDoor
set_option linter.unusedVariables false
open Go.RowKit Go.Sort

section
variable {W0 wx wy : World} {sb X N M : Nat} {t : ByteArray} {l : List (Scene × Value)} {v : Value} {n n' : Int}
end
end Go.Proofs.YtndillbimibecaaGreatDoor

/- Scripts of the generator beside private blocks. -/
namespace Go.Proofs.YtndillbimibecaaGreatDoor
set_option linter.unusedVariables false
open Go.RowKit Go.Sort

/-- A script whose rows lie in blocks made since W0, apart from those that E names. -/
structure Sct (W0 : World) (E : Nat → Prop) (N M : Nat) (t : ByteArray) (l : List (Scene × Value)) (v : Value) (wx : World) : Prop where
  sli : Sli svR wx (fun q => W0.heap.size ≤ q ∧ q < wx.heap.size ∧ ¬ E q) l v
  par : ∀ y ∈ l, Sli paraR wx (fun q => W0.heap.size ≤ q ∧ q < wx.heap.size ∧ ¬ E q) y.1.paras y.2
  tl : t.size ≤ 1000
  len : l.length ≤ M
  bd : ∀ y ∈ l, sceneBm N y.1
section
variable {W0 wx wy : World} {E E' : Nat → Prop} {N M N' M' : Nat} {t : ByteArray} {l : List (Scene × Value)} {v : Value}
theorem Sct.keep (h : Sct W0 E N M t l v wx) (hk : ∀ q, W0.heap.size ≤ q → q < wx.heap.size → ¬ E q → wy.heap[q]? = wx.heap[q]?) (hz : wx.heap.size ≤ wy.heap.size) (hE : ∀ q, q < wx.heap.size → E' q → E q) : Sct W0 E' N M t l v wy := by
  have hm : ∀ q, (W0.heap.size ≤ q ∧ q < wx.heap.size ∧ ¬ E q) → (W0.heap.size ≤ q ∧ q < wy.heap.size ∧ ¬ E' q) := fun q hq => ⟨hq.1, Nat.lt_of_lt_of_le hq.2.1 hz, fun e => hq.2.2 (hE q hq.2.1 e)⟩
  exact ⟨(h.sli.keep fun q hq => hk q hq.1 hq.2.1 hq.2.2).more hm, fun y hy => ((h.par y hy).keep fun q hq => hk q hq.1 hq.2.1 hq.2.2).more hm, h.tl, h.len, h.bd⟩
theorem Sct.turn {sb : Nat} (h : Sct W0 E N M t l v wx) (hlt : sb < W0.heap.size) (hg : wx.grownBy wy (some sb)) : Sct W0 E N M t l v wy :=
  h.keep (fun q h1 h2 _ => hg.block q h2 (by simp; omega)) hg.size (fun _ _ h => h)
theorem Sct.below (h : Sct W0 E N M t l v wx) (hb : Below wx.heap.size wx wy) : Sct W0 E N M t l v wy := h.keep (fun q _ h2 _ => hb.block q h2) hb.size (fun _ _ h => h)
theorem Sct.drew (h : Sct W0 E N M t l v wx) : Sct W0 E N M t l v wx.drew := h.keep (fun _ _ _ _ => rfl) (Nat.le_refl _) (fun _ _ h => h)
theorem Sct.up (h : Sct W0 E N M t l v wx) (hN : N ≤ N') (hM : M ≤ M') : Sct W0 E N' M' t l v wx := ⟨h.sli, h.par, h.tl, Nat.le_trans h.len hM, fun y hy => (h.bd y hy).up hN⟩
/-- Whatever block is made next may be named. -/
theorem Sct.alloc (h : Sct W0 E N M t l v wx) (o : Obj) (hE : ∀ q, q < wx.heap.size → E' q → E q) : Sct W0 E' N M t l v (wx.alloc o) := h.keep (fun q _ h2 _ => Below.heap_alloc wx o q h2) (by simp) hE
/-- A store into a block that is named. -/
theorem Sct.set (h : Sct W0 E N M t l v wx) (b i : Nat) (u : Value) (hb : E b) : Sct W0 E N M t l v (wx.setCell ⟨b, i, none⟩ u) := h.keep (fun q _ _ h3 => Below.heap_setCell wx _ _ q (fun e => h3 (by rw [e]; exact hb))) (by simp [World.setCell]) (fun _ _ h => h)
theorem Sct.scl (h : Sct W0 E N M t l v wx) (hM : M ≤ 1000000) (hN : N ≤ 1000000) : ScL wx (fun q => W0.heap.size ≤ q ∧ q < wx.heap.size ∧ ¬ E q) t l v :=
  ⟨h.sli, h.par, fun q hq => hq.2.1, Nat.le_trans h.tl (by decide), Nat.le_trans h.len hM, fun y hy => ⟨Nat.le_trans (h.bd y hy).1 (by decide), Nat.le_trans (h.bd y hy).2.1 (by decide), Nat.le_trans (h.bd y hy).2.2.1 (by decide), fun p hp => Nat.le_trans ((h.bd y hy).2.2.2 p hp) hN⟩⟩
/-- A script that AnyScript has made. -/
theorem Sct.any (hs : isSp (fun _ => False) N M W0 (.agg (xCs t v)) wx) : ∃ l, Sct W0 (fun _ => False) N M t l v wx := by
  obtain ⟨t', l, sv, e, h1, h2, h3, h4, h5⟩ := hs
  obtain ⟨rfl, rfl⟩ : t' = t ∧ sv = v := by injection e with e; simp [xCs] at e; exact ⟨e.1.symm, e.2.symm⟩
  have hm : ∀ q, SpG (fun _ => False) W0 wx q → W0.heap.size ≤ q ∧ q < wx.heap.size ∧ ¬ False := fun q hq => by
    rcases hq with hq | hq
    · cases hq
    · exact ⟨hq.1, hq.2, id⟩
  exact ⟨l, h1.more hm, fun y hy => (h2 y hy).more hm, h3, h4, h5⟩
end
end Go.Proofs.YtndillbimibecaaGreatDoor

