/- Texts packed: TkB. -/
import Derived.Test.YtmefjkfjpgblcaaGreatDoorSc01
import Derived.Test.YtmefjkfjpgblcaaGreatDoorSc02
import Derived.Test.YtmefjkfjpgblcaaGreatDoorSc19
import Derived.Deep.QuietTactic
import Derived.BigQuiet
import Derived.Deep.RegionHeld3
import Derived.Deep.DeepCutAuto
import Derived.RegionTactic
/- The generator's takes with a change. -/
namespace Go.Proofs.YtmefjkfjpgblcaaGreatDoor
set_option linter.unusedVariables false
open Go.RowKit Go.Sort

abbrev TkG (w : World) (sb : Nat) (l : List (Tk × Value)) (v : Value) (lc : List Cov) (vc : Value) (P : List Pb) (n : Int) (wx : World) : Prop := GJ tvR covR (fun x => x.1.covers) (fun x => x.2) 122 124 w sb l v lc vc P n wx
theorem TkG.start {w : World} {sb : Nat} {n : Int} (h : Str w sb n) : TkG w sb [] (.slice none 0 0) [] (.slice none 0 0) [] n w := GJ.start (n1 := 9) (n2 := 4) h
/-- A list of takes; their covers lie in F or in blocks made since, apart from it. -/
def takesIn (F : Nat → Prop) (B : Int) (m : Nat) (w : World) (v : Value) (w' : World) : Prop := ∃ l : List (Tk × Value), Own tvR w' w.heap.size w.heap.size 122 l v ∧ (∀ y ∈ l, Sli covR w' (fun q => F q ∨ (w.heap.size ≤ q ∧ q < w'.heap.size ∧ v.ownBlock ≠ some q)) y.1.covers y.2) ∧ (∀ y ∈ l, tkB B y.1) ∧ l.length ≤ m
/-- The same, and there is one at least. -/
def takesPos (F : Nat → Prop) (B : Int) (m : Nat) (w : World) (v : Value) (w' : World) : Prop := ∃ l : List (Tk × Value), Own tvR w' w.heap.size w.heap.size 122 l v ∧ (∀ y ∈ l, Sli covR w' (fun q => F q ∨ (w.heap.size ≤ q ∧ q < w'.heap.size ∧ v.ownBlock ≠ some q)) y.1.covers y.2) ∧ (∀ y ∈ l, tkB B y.1) ∧ l.length ≤ m ∧ 0 < l.length
def isTakes (B : Int) (w : World) : Value → World → Prop := takesIn (fun _ => False) B 20 w

/-- The covers of takes lie in F or in blocks made since w, apart from the row g. -/
def InT (F : Nat → Prop) (w wx : World) (g : Nat) (l : List (Tk × Value)) : Prop := ∀ y ∈ l, Sli covR wx (fun q => F q ∨ (w.heap.size ≤ q ∧ q < wx.heap.size ∧ q ≠ g)) y.1.covers y.2
theorem InT.keep {F : Nat → Prop} {w wx wy : World} {g : Nat} {l : List (Tk × Value)} (h : InT F w wx g l) (hs : wx.heap.size ≤ wy.heap.size) (hk : ∀ b, (F b ∨ (w.heap.size ≤ b ∧ b < wx.heap.size ∧ b ≠ g)) → wy.heap[b]? = wx.heap[b]?) : InT F w wy g l := fun y hy =>
  ((h y hy).keep hk).more fun q hq => hq.imp id fun hq => ⟨hq.1, Nat.lt_of_lt_of_le hq.2.1 hs, hq.2.2⟩
theorem InT.turn {F : Nat → Prop} {w wx wy : World} {g sb : Nat} {l : List (Tk × Value)} (h : InT F w wx g l) (hg : wx.grownBy wy (some sb)) (hF : ∀ q, F q → q < w.heap.size ∧ q ≠ sb) (hw : w.heap.size ≤ wx.heap.size) (hsb : sb < w.heap.size) : InT F w wy g l :=
  h.keep hg.size fun b hb => hg.block b (by rcases hb with hb | hb; have := (hF b hb).1; omega; exact hb.2.1) (by rcases hb with hb | hb; have := (hF b hb).2; simp; omega; have := hb.1; simp; omega)
theorem InT.setg {F : Nat → Prop} {w wx : World} {g i : Nat} {u : Value} {l : List (Tk × Value)} (h : InT F w wx g l) (hF : ∀ q, F q → q < w.heap.size) (hg : w.heap.size ≤ g) : InT F w (wx.setCell ⟨g, i, none⟩ u) g l :=
  h.keep (by simp [World.setCell]) fun b hb => Below.heap_setCell wx _ _ b (by rcases hb with hb | hb; have := hF b hb; show b ≠ g; omega; exact hb.2.2)
theorem mem_modify' {α : Type} {l : List α} {f : α → α} {k : Nat} {y : α} (h : y ∈ l.modify k f) : y ∈ l ∨ ∃ x, l[k]? = some x ∧ y = f x := by
  obtain ⟨i, hi⟩ := List.mem_iff_getElem?.1 h
  rw [List.getElem?_modify] at hi
  cases hli : l[i]? with
  | none => rw [hli] at hi; simp at hi
  | some x =>
    rw [hli] at hi
    simp at hi
    by_cases e : k = i
    · rw [if_pos e] at hi; exact .inr ⟨x, by rw [e]; exact hli, hi.symm⟩
    · rw [if_neg e] at hi; exact .inl (hi ▸ List.mem_iff_getElem?.2 ⟨i, hli⟩)
/-- A change of the take at a place that leaves its covers. -/
theorem InT.mod {F : Nat → Prop} {w wx : World} {g j : Nat} {l : List (Tk × Value)} {f : Tk × Value → Tk × Value} (h : InT F w wx g l) (hf : ∀ x, (f x).1.covers = x.1.covers ∧ (f x).2 = x.2) : InT F w wx g (l.modify j f) := fun y hy => by
  rcases mem_modify' hy with hy | ⟨x, hx, rfl⟩
  · exact h y hy
  · rw [(hf x).1, (hf x).2]; exact h x (List.mem_iff_getElem?.2 ⟨j, hx⟩)

/-- Another list whose elements lie as the first's do. -/
theorem Own.recode {α : Type} {n : Nat} {enc : α → List Value} {hn : ∀ x, (enc x).length = n} {w : World} {base lo : Nat} {e : TypeId} {l l' : List α} {v : Value} (h : Own (Rep.flat n enc hn) w base lo e l v) (hl : l'.length = l.length) (he : ∀ (k : Nat) x, l'[k]? = some x → ∃ y, l[k]? = some y ∧ enc x = enc y) : Own (Rep.flat n enc hn) w base lo e l' v := by
  obtain ⟨xs, ho, hx⟩ := h
  refine ⟨xs, ?_, ⟨by rw [hl]; exact hx.1, fun k x hk => ?_⟩⟩
  · rw [hl]; exact ho
  · obtain ⟨y, hy, e⟩ := he k x hk
    have h2 : (xs.drop (k * n)).take n = enc y := hx.2 k y hy
    show (xs.drop (k * n)).take n = enc x
    rw [h2, e]
theorem GS.recode {α : Type} {n : Nat} {enc : α → List Value} {hn : ∀ x, (enc x).length = n} {w wx : World} {sb : Nat} {e : TypeId} {l l' : List α} {v : Value} {P : List (Nat × Array Value × TypeId)} {k : Int} (h : GS (Rep.flat n enc hn) e w sb l v P k wx) (hl : l'.length = l.length) (he : ∀ (k : Nat) x, l'[k]? = some x → ∃ y, l[k]? = some y ∧ enc x = enc y) : GS (Rep.flat n enc hn) e w sb l' v P k wx :=
  ⟨h.str, h.gr, h.own.recode hl he, h.lt, h.prv⟩
theorem GS.far {α : Type} {n : Nat} {enc : α → List Value} {hn : ∀ x, (enc x).length = n} {w wx : World} {sb : Nat} {e : TypeId} {l : List α} {v : Value} {k : Int} (h : GS (Rep.flat n enc hn) e w sb l v [] k wx) {b : Nat} (i : Nat) (u : Value) (hb : w.heap.size ≤ b) (hne : v.ownBlock ≠ some b) : GS (Rep.flat n enc hn) e w sb l v [] k (wx.setCell ⟨b, i, none⟩ u) :=
  ⟨h.str.setCell (by have := h.lt; show sb < b; omega) _, gSet h.gr hb _, h.own.fkeep (fun q e _ => Below.heap_setCell wx _ _ q (fun e2 => hne (by rw [e, e2]))), h.lt, fun p hp => by cases hp⟩
/-- The covers of the take at a place have changed. -/
theorem inT_cov {F : Nat → Prop} {w wx : World} {g j : Nat} {l lm : List (Tk × Value)} {cs : List Cov} (hne : ∀ i, i ≠ j → lm[i]? = l[i]?) (hF : ∀ y ∈ l, Sli covR wx F y.1.covers y.2) (hc : ∀ y, lm[j]? = some y → Sli covR wx (fun q => F q ∨ (w.heap.size ≤ q ∧ q < wx.heap.size ∧ q ≠ g)) cs y.2) : InT F w wx g (lm.modify j fun y => ({ y.1 with covers := cs }, y.2)) := fun y hy => by
  obtain ⟨i, hi⟩ := List.mem_iff_getElem?.1 hy
  rw [List.getElem?_modify] at hi
  cases hli : lm[i]? with
  | none => rw [hli] at hi; simp at hi
  | some x =>
    rw [hli] at hi
    simp at hi
    by_cases e : j = i
    · rw [if_pos e] at hi; subst hi; subst e; exact hc x hli
    · rw [if_neg e] at hi
      subst hi
      rw [hne i (fun h => e h.symm)] at hli
      exact (hF x (List.mem_iff_getElem?.2 ⟨i, hli⟩)).more fun q hq => .inl hq
set_option maxRecDepth 100000 in
set_option maxHeartbeats 12000000 in
theorem SpoiledTakes_c {F : Nat → Prop} (B : Int) (sb : Nat) (k0 : Int) (l : List (Tk × Value)) (v : Value) (w : World) (hs : Str w sb k0) (hk0 : k0 ≤ 3500000000000000000) (hS : Sli tvR w F l v) (hi : ∀ y ∈ l, Sli covR w F y.1.covers y.2)
    (hF : ∀ q, F q → q < w.heap.size ∧ q ≠ sb) (hl0 : 0 < l.length) (hl : l.length ≤ 1000) (hb : ∀ y ∈ l, tkB B y.1) (hB0 : 0 ≤ B) (hB1 : B ≤ 1000000000) :
    Calls Tryz.prog 24 #[.pointer (some ⟨sb, 0, none⟩), v] w (Took sb k0 10 (takesPos F (B + 10) (l.length + 1) w) w) := by
  have S0 := Lib.hid hs
  have hsb := hs.lt
  have HI := Lib.hid hi
  have HB := Lib.hid hb
  obtain ⟨A0, c0, hv0, _, _⟩ := hS.form
  subst hv0
  have hsl : ∀ x ∈ l, ∃ A n c, x.2 = .slice A n c := fun x hx => by
    obtain ⟨A, c, e, _⟩ := (hi x hx).form
    exact ⟨A, _, c, e⟩
  go_enter Tryz.func24, Tryz.ntmps24
  go_wp2_with fail
  refine (cloneTake_c l (.slice A0 l.length c0) w hS (by omega) hsl).mono ?_
  rintro e w1 ⟨v1, rfl, hown1, hb1⟩
  obtain ⟨g, cap, hv1, hg1, hg2⟩ := Own.some_ hown1 hl0
  subst hv1
  have hG1 : w.grownBy w1 (some sb) := gBelow (gRefl w sb) hb1
  have HS1 := Lib.hid (hs.below hb1)
  have HO1 := Lib.hid hown1
  have HI1 := Lib.hid (fun y (hy : y ∈ l) => (hi y hy).below hb1 (fun q hq => (hF q hq).1))
  clear hs hS hi hb hown1 hb1 HI S0
  go_wp2_with fail
  refine (next_c sb k0 l.length w1 HS1.out (by omega) (by omega) (by omega)).mono ?_
  rintro e w2 ⟨v2, n2, rfl, ⟨j1, hj0, hj1, rfl⟩, hn2, hs2, hg2'⟩
  obtain ⟨j, rfl⟩ := Int.eq_ofNat_of_zero_le hj0
  have hj : j < l.length := by omega
  have hm := l[j]
  obtain ⟨A3, n3, c3, he3⟩ := hsl l[j] (List.getElem_mem hj)
  have hG2 : GS tvR 122 w sb l (.slice (some ⟨g, 0, none⟩) l.length cap) [] n2 w2 := ⟨hs2, gTrans hG1 hg2', (HO1.out.less (base' := w.heap.size) (lo' := w.heap.size) (Nat.le_refl _)).fkeep (fun q e hlt => by injection e with e; subst e; exact hg2'.block g hg2 (by simp; omega)), hsb, fun p hp => by cases hp⟩
  have hI2 := fun y (hy : y ∈ l) => (HI1.out y hy).keep (fun b hb => hg2'.block b (by have := (hF b hb).1; have := hG1.size; omega) (by have := (hF b hb).2; simp; omega))
  have d8 := (Own.cellAt hG2.own j hj 8 (by decide)).1
  have f8 := (Own.cellAt hG2.own j hj 8 (by decide)).2
  have d8' : w2.cell? ⟨g, j * 9 + 8, none⟩ = some l[j].2 := d8
  rw [he3] at d8'
  have hin := hI2 l[j] (List.getElem_mem hj)
  rw [he3] at hin
  have hcb := (HB.out _ (List.getElem_mem hj)).2.2.2.2.2.2.2.2.2.2.1
  obtain ⟨A3', c3', e3, _⟩ := hin.form
  injection e3 with e31 e32 e33
  subst e31; subst e32; subst e33
  have G2 := Lib.hid hG2
  have HI2 := Lib.hid hI2
  clear d8 hG2 hI2 hs2 hg2' HI1 HO1 HS1 hm
  have hj0' : (0 : Int) ≤ (j : Int) := by omega
  go_wp2_with fail
  refine (cloneCover_c l[j].1.covers _ w2 hin (by omega)).mono ?_
  rintro e w3 ⟨v3, rfl, hown3, hb3⟩
  obtain ⟨A4, c4, hv4, _, _⟩ := (hown3.sli (F := fun _ => True) (fun _ _ _ => trivial) (fun _ _ => trivial)).form
  subst hv4
  have hw2 := G2.out.gr.size
  have hw3 := hb3.size
  have hgw2 := (G2.out.own.block g rfl).2
  have G3 := Lib.hid (G2.out.below hb3)
  have hJ3 : InT F w w3 g (l.modify j fun y => (y.1, .slice A4 l[j].1.covers.length c4)) := fun y hy => by
    rcases mem_modify' hy with hy | ⟨x, hx, rfl⟩
    · exact ((HI2.out y hy).below hb3 (fun q hq => by have := (hF q hq).1; omega)).more fun q hq => .inl hq
    · rw [List.getElem?_eq_getElem hj] at hx
      injection hx with hx
      subst hx
      exact hown3.sli (fun q h1 h2 => .inr ⟨by omega, h2, fun e => by omega⟩) (fun q e => .inr ⟨by have := (hown3.block q e).1; omega, (hown3.block q e).2, fun e2 => by have := (hown3.block q e).1; omega⟩)
  have d8 : w3.cell? ⟨g, j * 9 + 8, none⟩ = some (.slice A3 l[j].1.covers.length c3) := (hb3.cell (p := ⟨g, j * 9 + 8, none⟩) (by have := G2.out.gr.size; have := (G2.out.own.block g rfl).2; exact this)).trans d8'
  have f8' := (hb3.frozen (p := ⟨g, j * 9 + 8, none⟩) (G2.out.own.block g rfl).2).trans f8
  have hlm : (l.modify j fun y => (y.1, Value.slice A4 l[j].1.covers.length c4)).length = l.length := List.length_modify ..
  have G4 := Lib.hid (G3.out.modify (enc := fun x => x.1.cells x.2) (fun y => (y.1, .slice A4 l[j].1.covers.length c4)) j 8 (.slice A4 l[j].1.covers.length c4) (fun x => rfl) (by decide) hj)
  have J4 := Lib.hid (hJ3.setg (i := j * 9 + 8) (u := .slice A4 l[j].1.covers.length c4) (fun q hq => (hF q hq).1) hg1)
  have HB4 := Lib.hid (show ∀ y ∈ (l.modify j fun y => (y.1, Value.slice A4 l[j].1.covers.length c4)), tkB B y.1 from fun y hy => by
    rcases mem_modify' hy with hy | ⟨x, hx, rfl⟩
    · exact HB.out y hy
    · exact HB.out x (List.mem_iff_getElem?.2 ⟨j, hx⟩))
  generalize l[j].1.covers.length = nc at *
  go_wp2_with fail
  have hfin : ∀ (lm : List (Tk × Value)) (v : Value) (n : Int) (wx : World) (cp : Nat), v = .slice (some ⟨cp, 0, none⟩) lm.length 0 ∨ True → GS tvR 122 w sb lm v [] n wx → InT F w wx g lm → (∀ q, v.ownBlock = some q → q = g ∨ (∀ y ∈ lm, Sli covR wx (fun b => F b ∨ (w.heap.size ≤ b ∧ b < wx.heap.size ∧ b ≠ q)) y.1.covers y.2)) → (∀ y ∈ lm, tkB (B + 10) y.1) → (lm.length ≤ l.length + 1 ∧ 0 < lm.length) → n ≤ k0 + 10 → (∃ q, v.ownBlock = some q) → Took sb k0 10 (takesPos F (B + 10) (l.length + 1) w) w (.returned v) wx := by
    intro lm v n wx cp _ h1 h2 h3 h4 h5 h6 h7
    obtain ⟨q, hq⟩ := h7
    refine ⟨_, n, rfl, ⟨lm, h1.own, fun y hy => ?_, h4, h5⟩, h6, h1.str, h1.gr⟩
    rcases h3 q hq with rfl | h3
    · exact (h2 y hy).more fun b hb => hb.imp id fun hb => ⟨hb.1, hb.2.1, fun e => hb.2.2 (by rw [hq] at e; injection e with e; exact e.symm)⟩
    · exact (h3 y hy).more fun b hb => hb.imp id fun hb => ⟨hb.1, hb.2.1, fun e => hb.2.2 (by rw [hq] at e; injection e with e; exact e.symm)⟩
  have FIN := Lib.hid hfin
  have HIF3 := Lib.hid (fun y (hy : y ∈ l) => (HI2.out y hy).below hb3 (fun q hq => by have := (hF q hq).1; omega))
  clear hfin HI2 G2 G3 hJ3 d8 d8' f8 f8' HB
  have hz4 : g < w3.heap.size := by omega
  have HC4 := Lib.hid (show Own covR (w3.setCell ⟨g, j * 9 + 8, none⟩ (.slice A4 nc c4)) w.heap.size w.heap.size 124 l[j].1.covers (.slice A4 nc c4) from (hown3.less (base' := w.heap.size) (lo' := w.heap.size) (by omega)).fkeep (fun q e hlt => Below.heap_setCell w3 _ _ q (by intro e2; have := (hown3.block q e).1; have e3 : q = g := e2; omega)))
  have hC4 : ∀ q, (Value.slice A4 nc c4).ownBlock = some q → w2.heap.size ≤ q := fun q e => (hown3.block q e).1
  have HLJ := Lib.hid (show ∀ y ∈ (l.modify j fun y => (y.1, Value.slice A4 nc c4)), y = (l[j].1, Value.slice A4 nc c4) ∨ y ∈ l from fun y hy => by
    rcases mem_modify' hy with hy | ⟨x, hx, rfl⟩
    · exact .inr hy
    · rw [List.getElem?_eq_getElem hj] at hx; injection hx with hx; subst hx; exact .inl rfl)
  have HLG := Lib.hid (show (l.modify j fun y => (y.1, Value.slice A4 nc c4))[j]? = some (l[j].1, Value.slice A4 nc c4) from by rw [List.getElem?_modify, List.getElem?_eq_getElem hj]; simp)
  have HLI := Lib.hid (show ∀ i, i ≠ j → (l.modify j fun y => (y.1, Value.slice A4 nc c4))[i]? = l[i]? from fun i hi => by rw [List.getElem?_modify]; cases l[i]? with | none => rfl | some x => simp [Ne.symm hi])
  have HIF4 := Lib.hid (fun y (hy : y ∈ l) => (HIF3.out y hy).setCell (p := ⟨g, j * 9 + 8, none⟩) (.slice A4 nc c4) (fun h => by have := (hF g h).1; omega))
  generalize hLM : (l.modify j fun y => (y.1, Value.slice A4 nc c4)) = lm at *
  generalize hW4 : w3.setCell ⟨g, j * 9 + 8, none⟩ (.slice A4 nc c4) = w4 at *
  refine (next_c sb n2 8 w4 G4.out.str (by omega) (by omega) (by omega)).mono ?_
  rintro e w5 ⟨v5, n5, rfl, ⟨m, hm0, hm1, rfl⟩, hn5, hs5, hg5⟩
  have hw4 := G4.out.gr.size
  have G5 := Lib.hid (G4.out.turn hg5 hs5)
  have J5 := Lib.hid (J4.out.turn hg5 hF hw4 hsb)
  have HC5 := Lib.hid (HC4.out.fkeep (fun q e hlt => hg5.block q hlt (by have := (HC4.out.block q e).1; simp; omega)))
  have HIF5 := Lib.hid (fun y (hy : y ∈ l) => (HIF4.out y hy).keep (fun b hb => hg5.block b (by have := (hF b hb).1; omega) (by have := (hF b hb).2; simp; omega)))
  have hjl : j < lm.length := by omega
  clear hs5 hg5 G4 J4 hLM hW4
  have hw5 := G5.out.gr.size
  have HB5 := Lib.hid (fun y (hy : y ∈ lm) => (HB4.out y hy).more (show B ≤ B + 10 by omega))
  have hupd : ∀ (f : Tk × Value → Tk × Value) (idx : Nat) (u : Value) (n6 : Int) (w6 : World), GS tvR 122 w sb lm (.slice (some ⟨g, 0, none⟩) l.length cap) [] n6 w6 → InT F w w6 g lm → (∀ x, (f x).1.cells (f x).2 = (x.1.cells x.2).set idx u) → idx < 9 → (∀ x, (f x).1.covers = x.1.covers ∧ (f x).2 = x.2) → (∀ y ∈ lm, tkB (B + 10) (f y).1) → n6 ≤ k0 + 10 → Took sb k0 10 (takesPos F (B + 10) (l.length + 1) w) w (.returned (.slice (some ⟨g, 0, none⟩) l.length cap)) (w6.setCell ⟨g, j * 9 + idx, none⟩ u) := by
    intro f idx u n6 w6 h1 h2 h3 h4 h5 h6 h7
    exact FIN.out (lm.modify j f) _ n6 _ 0 (.inr trivial) (h1.modify (enc := fun x => x.1.cells x.2) f j idx u h3 h4 hjl) ((h2.mod h5).setg (fun q hq => (hF q hq).1) hg1) (fun q hq => by injection hq with hq; exact .inl hq.symm) (fun y hy => by
      rcases mem_modify' hy with hy | ⟨x, hx, rfl⟩
      · exact HB5.out y hy
      · exact h6 x (List.mem_iff_getElem?.2 ⟨j, hx⟩)) (by rw [List.length_modify]; omega) h7 ⟨g, rfl⟩
  have UPD := Lib.hid hupd
  clear hupd
  rcases (by omega : m = 0 ∨ m = 1 ∨ m = 2 ∨ m = 3 ∨ m = 4 ∨ m = 5 ∨ m = 6 ∨ m = 7) with rfl | rfl | rfl | rfl | rfl | rfl | rfl | rfl
  · go_wp2_with fail
    refine (No_c sb n5 w5 G5.out.str (by omega)).mono ?_
    rintro e w6 ⟨v6, n6, rfl, ⟨x6, hx6, rfl⟩, hn6, hs6, hg6⟩
    have hx : x6.size ≤ 1000 := by omega
    have G6 := Lib.hid (G5.out.turn hg6 hs6)
    have J6 := Lib.hid (J5.out.turn hg6 hF hw5 hsb)
    have d := (Own.cellAt G6.out.own j hjl 0 (by decide)).1
    have f : w6.frozen? ⟨g, j * 9, none⟩ = false := (Own.cellAt G6.out.own j hjl 0 (by decide)).2
    have d' : w6.cell? ⟨g, j * 9, none⟩ = some (.string lm[j].1.scene) := d
    clear d hs6 hg6
    go_wp2
    go_ret
    exact UPD.out (fun y => ({ y.1 with scene := x6 }, y.2)) 0 (.string x6) n6 w6 G6.out J6.out (fun _ => rfl) (by decide) (fun _ => ⟨rfl, rfl⟩) (fun y hy => by
      obtain ⟨h1, h2, h3, h4, h5, h6, h7, h8, h9, h10, h11, h12⟩ := HB5.out y hy
      exact ⟨hx, h2, h3, h4, h5, h6, h7, h8, h9, h10, h11, h12⟩) (by omega)
  · go_wp2_with fail
    refine (oneL w5 [⟨#[73]⟩, ⟨#[79]⟩, ⟨#[65, 65, 65]⟩, ⟨#[97]⟩, ⟨#[90]⟩] _ _ _ _ rfl rfl (by decide) (by decide) G5.out.str (by omega)).mono ?_
    rintro e w6 ⟨v6, n6, rfl, ⟨x6, hx6, rfl⟩, hn6, hs6, hg6⟩
    have hx : x6.size ≤ 1000 := Nat.le_trans (oneOf (n := 10) (by decide +kernel) hx6) (by decide)
    have G6 := Lib.hid ((G5.out.alloc _).turn hg6 hs6)
    have J6 := Lib.hid ((J5.out.turn (gAlloc (gRefl w5 sb) _) hF hw5 hsb).turn hg6 hF (by simp; omega) hsb)
    have d := (Own.cellAt G6.out.own j hjl 1 (by decide)).1
    have f := (Own.cellAt G6.out.own j hjl 1 (by decide)).2
    have d' : w6.cell? ⟨g, j * 9 + 1, none⟩ = some (.string lm[j].1.setup) := d
    clear d hs6 hg6
    go_wp2
    go_ret
    exact UPD.out (fun y => ({ y.1 with setup := x6 }, y.2)) 1 (.string x6) n6 w6 G6.out J6.out (fun _ => rfl) (by decide) (fun _ => ⟨rfl, rfl⟩) (fun y hy => by
      obtain ⟨h1, h2, h3, h4, h5, h6, h7, h8, h9, h10, h11, h12⟩ := HB5.out y hy
      exact ⟨by first | exact h1 | exact hx, by first | exact h2 | exact hx, h3, h4, by first | exact h5 | exact hx, by first | exact h6 | exact hx, h7, h8, h9, h10, h11, h12⟩) (by omega)
  · go_wp2_with fail
    refine (pickL w5 [0, 1, 99, 100] _ _ _ _ rfl rfl (by decide) (by decide) G5.out.str (by omega)).mono ?_
    rintro e w6 ⟨v6, n6, rfl, ⟨y6, hy6, rfl⟩, hn6, hs6, hg6⟩
    have hyb : 0 ≤ y6 ∧ y6 ≤ 100 := by simp at hy6; omega
    have G6 := Lib.hid ((G5.out.alloc _).turn hg6 hs6)
    have J6 := Lib.hid ((J5.out.turn (gAlloc (gRefl w5 sb) _) hF hw5 hsb).turn hg6 hF (by simp; omega) hsb)
    have d := (Own.cellAt G6.out.own j hjl 2 (by decide)).1
    have f := (Own.cellAt G6.out.own j hjl 2 (by decide)).2
    have d' : w6.cell? ⟨g, j * 9 + 2, none⟩ = some (.int .i64 lm[j].1.number) := d
    clear d hs6 hg6
    go_wp2
    go_ret
    exact UPD.out (fun y => ({ y.1 with number := y6 }, y.2)) 2 (.int .i64 y6) n6 w6 G6.out J6.out (fun _ => rfl) (by decide) (fun _ => ⟨rfl, rfl⟩) (fun y hy => by
      obtain ⟨h1, h2, h3, h4, h5, h6, h7, h8, h9, h10, h11, h12⟩ := HB5.out y hy
      exact ⟨h1, h2, by dsimp only; omega, by dsimp only; omega, h5, h6, h7, h8, h9, h10, h11, h12⟩) (by omega)
  · go_wp2_with fail
    refine (oneL w5 [⟨#[65, 49]⟩, ⟨#[65, 50]⟩, ⟨#[90, 90]⟩, ⟨#[]⟩] _ _ _ _ rfl rfl (by decide) (by decide) G5.out.str (by omega)).mono ?_
    rintro e w6 ⟨v6, n6, rfl, ⟨x6, hx6, rfl⟩, hn6, hs6, hg6⟩
    have hx : x6.size ≤ 1000 := Nat.le_trans (oneOf (n := 10) (by decide +kernel) hx6) (by decide)
    have G6 := Lib.hid ((G5.out.alloc _).turn hg6 hs6)
    have J6 := Lib.hid ((J5.out.turn (gAlloc (gRefl w5 sb) _) hF hw5 hsb).turn hg6 hF (by simp; omega) hsb)
    have d := (Own.cellAt G6.out.own j hjl 3 (by decide)).1
    have f := (Own.cellAt G6.out.own j hjl 3 (by decide)).2
    have d' : w6.cell? ⟨g, j * 9 + 3, none⟩ = some (.string lm[j].1.roll) := d
    clear d hs6 hg6
    go_wp2
    go_ret
    exact UPD.out (fun y => ({ y.1 with roll := x6 }, y.2)) 3 (.string x6) n6 w6 G6.out J6.out (fun _ => rfl) (by decide) (fun _ => ⟨rfl, rfl⟩) (fun y hy => by
      obtain ⟨h1, h2, h3, h4, h5, h6, h7, h8, h9, h10, h11, h12⟩ := HB5.out y hy
      exact ⟨by first | exact h1 | exact hx, by first | exact h2 | exact hx, h3, h4, by first | exact h5 | exact hx, by first | exact h6 | exact hx, h7, h8, h9, h10, h11, h12⟩) (by omega)
  · go_wp2_with fail
    refine (oneL w5 [⟨#[83, 49]⟩, ⟨#[90, 90]⟩, ⟨#[]⟩] _ _ _ _ rfl rfl (by decide) (by decide) G5.out.str (by omega)).mono ?_
    rintro e w6 ⟨v6, n6, rfl, ⟨x6, hx6, rfl⟩, hn6, hs6, hg6⟩
    have hx : x6.size ≤ 1000 := Nat.le_trans (oneOf (n := 10) (by decide +kernel) hx6) (by decide)
    have G6 := Lib.hid ((G5.out.alloc _).turn hg6 hs6)
    have J6 := Lib.hid ((J5.out.turn (gAlloc (gRefl w5 sb) _) hF hw5 hsb).turn hg6 hF (by simp; omega) hsb)
    have d := (Own.cellAt G6.out.own j hjl 4 (by decide)).1
    have f := (Own.cellAt G6.out.own j hjl 4 (by decide)).2
    have d' : w6.cell? ⟨g, j * 9 + 4, none⟩ = some (.string lm[j].1.sound) := d
    clear d hs6 hg6
    go_wp2
    go_ret
    exact UPD.out (fun y => ({ y.1 with sound := x6 }, y.2)) 4 (.string x6) n6 w6 G6.out J6.out (fun _ => rfl) (by decide) (fun _ => ⟨rfl, rfl⟩) (fun y hy => by
      obtain ⟨h1, h2, h3, h4, h5, h6, h7, h8, h9, h10, h11, h12⟩ := HB5.out y hy
      exact ⟨by first | exact h1 | exact hx, by first | exact h2 | exact hx, h3, h4, by first | exact h5 | exact hx, by first | exact h6 | exact hx, h7, h8, h9, h10, h11, h12⟩) (by omega)
  · have h5 := (Own.cellAt G5.out.own j hjl 5 (by decide)).1
    have h6 := (Own.cellAt G5.out.own j hjl 6 (by decide)).1
    have f5 := (Own.cellAt G5.out.own j hjl 5 (by decide)).2
    have f6 := (Own.cellAt G5.out.own j hjl 6 (by decide)).2
    have x5 : w5.cell? ⟨g, j * 9 + 5, none⟩ = some (.int .i64 lm[j].1.tin) := h5
    have x6 : w5.cell? ⟨g, j * 9 + 6, none⟩ = some (.int .i64 lm[j].1.tout) := h6
    have hgw5 := (G5.out.own.block g rfl).2
    have hgs : g ≠ sb := by omega
    obtain ⟨q1, q2, q3, q4, q5, q6, q7, q8, q9, q10, q11, q12⟩ := HB4.out _ (List.getElem_mem hjl)
    clear h5 h6 q1 q2 q3 q4 q5 q6 q11 q12
    obtain ⟨ti, hti⟩ : ∃ ti, ti = lm[j].1.tin := ⟨_, rfl⟩
    obtain ⟨tu, htu⟩ : ∃ tu, tu = lm[j].1.tout := ⟨_, rfl⟩
    rw [← hti] at x5 q7 q8
    rw [← htu] at x6 q9 q10
    clear hti htu
    have HK := Lib.hid (fun (W : World) (hg : w5.grownBy W (some sb)) => show (W.cell? ⟨g, j * 9 + 5, none⟩ = some (.int .i64 ti) ∧ W.cell? ⟨g, j * 9 + 6, none⟩ = some (.int .i64 tu)) ∧ W.frozen? ⟨g, j * 9 + 5, none⟩ = false ∧ W.frozen? ⟨g, j * 9 + 6, none⟩ = false from
      ⟨⟨(World.cell?_of_block (hg.block g hgw5 (by simp; omega))).trans x5, (World.cell?_of_block (hg.block g hgw5 (by simp; omega))).trans x6⟩, (World.frozen?_of_block (hg.block g hgw5 (by simp; omega))).trans f5, (World.frozen?_of_block (hg.block g hgw5 (by simp; omega))).trans f6⟩)
    go_upto_region 17 with (fail)
    obtain ⟨ι, ff, hne, hff, hfS⟩ := family (fun W => W.cell? ⟨g, j * 9 + 5, none⟩ = some (.int .i64 ti) ∧ W.cell? ⟨g, j * 9 + 6, none⟩ = some (.int .i64 tu)) w5 ⟨x5, x6⟩
    have hneW : Nonempty World := ⟨w⟩
    have s0 := fun p => (hff p).1
    have s1 := fun p => (hff p).2
    refine wp_region_segs [7, 14] [([0, 1, 2, 3, 4, 6, 9, 10, 11, 13], [5, 12], 7), ([8], [], 14), ([15, 16, 17], [], 18), ([19, 20], [], 21)] (by kernel_rfl) (by kernel_rfl) (fun _ _ _ dd _ h => by cases dd <;> exact h) (fun W => ∃ p : ι, W = ff p) (hfS _ ⟨x5, x6⟩) ?_
    refine wpSegs_step (by simp only [pick, List.getElem?_cons_succ, List.getElem?_cons_zero]; rfl) (by simp only [pick, List.getElem?_cons_succ, List.getElem?_cons_zero]; rfl) rfl (fun K hK L0 hL0 => ?_)
    repeat (first | go_big_quiet_step (fail) | quiet_step (fail))
    refine wpQuiet_nil (hL0 _ ?_)
    repeat (first | go_big_quiet_step (fail) | quiet_step (fail))
    refine wpQuiet_nil ?_
    go_simp
    refine (range_c sb n5 (-3) 3 w5.drew G5.out.str.drew (by omega) (by omega) (by omega) (by omega)).mono ?_
    rintro e w7 ⟨v7, n7, rfl, ⟨y7, ⟨hy7, hy7'⟩, rfl⟩, hn7, hs7, hg7⟩
    have hw7 : w5.grownBy w7 (some sb) := gTrans (gDrew (gRefl w5 sb)) hg7
    have ew7 : IntKind.i64.wrap (ti + y7) = ti + y7 := IntWalk.i64_in _ (by omega)
    refine ⟨hfS _ (HK.out _ hw7).1, hK _ _ ?_⟩
    refine wpSegs_step (by simp only [pick]; rfl) (by simp only [pick]; rfl) rfl (fun K1 hK1 L1 hL1 => ?_)
    repeat (first | go_big_quiet_step (fail) | quiet_step (fail))
    refine wpQuiet_nil (hL1 _ ?_)
    repeat (first | go_big_quiet_step (fail) | quiet_step (fail))
    refine wpQuiet_nil ?_
    go_simp
    refine (range_c sb n7 (-3) 3 w7 hs7 (by omega) (by omega) (by omega) (by omega)).mono ?_
    rintro e w8 ⟨v8, n8, rfl, ⟨y8, ⟨hy8, hy8'⟩, rfl⟩, hn8, hs8, hg8⟩
    have hw8 : w5.grownBy w8 (some sb) := gTrans hw7 hg8
    have ew8 : IntKind.i64.wrap (tu + y8) = tu + y8 := IntWalk.i64_in _ (by omega)
    obtain ⟨⟨d5, d6⟩, e5, e6⟩ := HK.out _ hw8
    refine ⟨hfS _ ⟨d5, d6⟩, hK1 _ _ ?_⟩
    refine wpSegs_step (by simp only [pick]; rfl) (by simp only [pick]; rfl) rfl (fun K2 hK2 L2 hL2 => ?_)
    repeat (first | go_big_quiet_step (fail) | quiet_step (fail))
    refine wpQuiet_nil (hL2 _ ?_)
    repeat (first | go_big_quiet_step (fail) | quiet_step (fail))
    refine wpQuiet_nil ?_
    go_simp
    refine hK2 _ _ ?_
    refine wpSegs_step (by simp only [pick]; rfl) (by simp only [pick]; rfl) rfl (fun K3 hK3 L3 hL3 => ?_)
    repeat (first | go_big_quiet_step (fail) | quiet_step (fail))
    refine wpQuiet_nil (hL3 _ ?_)
    repeat (first | go_big_quiet_step (fail) | quiet_step (fail))
    refine wpQuiet_nil ?_
    go_simp
    refine hK3 _ _ (wpSegs_end ?_)
    have G6 := G5.out.turn hw8 hs8
    have J6 := J5.out.turn hw8 hF hw5 hsb
    have G7 := G6.modify (enc := fun x : Tk × Value => x.1.cells x.2) (fun y : Tk × Value => ({ y.1 with tin := ti + y7 }, y.2)) j 5 (.int .i64 (ti + y7)) (fun _ => rfl) (by decide) hjl
    have J7 := (J6.mod (j := j) (f := fun y => ({ y.1 with tin := ti + y7 }, y.2)) (fun _ => ⟨rfl, rfl⟩)).setg (i := j * 9 + 5) (u := .int .i64 (ti + y7)) (fun q hq => (hF q hq).1) hg1
    have G8 := GS.modify (n := 9) (enc := fun x : Tk × Value => x.1.cells x.2) (hn := fun _ => rfl) G7 (fun y : Tk × Value => ({ y.1 with tout := tu + y8 }, y.2)) j 6 (.int .i64 (tu + y8)) (fun _ => rfl) (by decide) (by rw [List.length_modify]; exact hjl)
    have J8 := (J7.mod (j := j) (f := fun y => ({ y.1 with tout := tu + y8 }, y.2)) (fun _ => ⟨rfl, rfl⟩)).setg (i := j * 9 + 6) (u := .int .i64 (tu + y8)) (fun q hq => (hF q hq).1) hg1
    have HG := Lib.hid (And.intro G8 J8)
    clear G6 G7 G8 J6 J7 J8
    have hbb : ∀ y ∈ (lm.modify j fun y => ({ y.1 with tin := ti + y7 }, y.2)).modify j (fun y => ({ y.1 with tout := tu + y8 }, y.2)), tkB (B + 10) y.1 := fun y hy => by
      have step : ∀ (l : List (Tk × Value)) (f : Tk × Value → Tk × Value), (∀ y ∈ l, tkB (B + 10) y.1) → (∀ y, tkB (B + 10) y.1 → tkB (B + 10) (f y).1) → ∀ y ∈ l.modify j f, tkB (B + 10) y.1 := fun l f h1 h2 y hy => by
        rcases mem_modify' hy with hy | ⟨x, hx, rfl⟩
        · exact h1 y hy
        · exact h2 x (h1 x (List.mem_iff_getElem?.2 ⟨j, hx⟩))
      refine step _ _ (step _ _ HB5.out fun y h => ?_) (fun y h => ?_) y hy
      · obtain ⟨h1, h2, h3, h4, h5, h6, h7, h8, h9, h10, h11, h12⟩ := h
        exact ⟨h1, h2, h3, h4, h5, h6, by dsimp only; omega, by dsimp only; omega, h9, h10, h11, h12⟩
      · obtain ⟨h1, h2, h3, h4, h5, h6, h7, h8, h9, h10, h11, h12⟩ := h
        exact ⟨h1, h2, h3, h4, h5, h6, h7, h8, by dsimp only; omega, by dsimp only; omega, h11, h12⟩
    have HBB := Lib.hid hbb
    clear hbb
    go_wp2
    go_ret
    exact FIN.out _ _ n8 _ 0 (.inr trivial) HG.out.1 HG.out.2 (fun q hq => by injection hq with hq; exact .inl hq.symm) HBB.out (by rw [List.length_modify, List.length_modify]; omega) (by omega) ⟨g, rfl⟩
  · have hlj : lm[j] = (l[j].1, .slice A4 nc c4) := by
      have h := HLG.out
      rw [List.getElem?_eq_getElem hjl] at h
      injection h
    have h8 := (Own.cellAt G5.out.own j hjl 8 (by decide)).1
    rw [hlj] at h8
    have x8 : w5.cell? ⟨g, j * 9 + 8, none⟩ = some (.slice A4 nc c4) := h8
    clear h8
    by_cases hnc : nc = 0
    · have hnc' : ¬ (0 : Int) < (nc : Int) := by omega
      have HJ := Lib.hid J5.out
      go_wp2
      go_ret
      exact FIN.out lm _ n5 w5 0 (.inr trivial) G5.out HJ.out (fun q hq => by injection hq with hq; exact .inl hq.symm) HB5.out (by omega) (by omega) ⟨g, rfl⟩
    · have hnc' : (0 : Int) < (nc : Int) := by omega
      obtain ⟨g3, cap3, hv3, hg31, hg32⟩ := Own.some_ HC5.out (by
        rcases HC5.out.form with ⟨h, _⟩ | ⟨_, _, h, _⟩
        · injection h with _ h _; omega
        · injection h with _ h _; omega)
      injection hv3 with hv31 hv32 hv33
      subst hv31; subst hv33
      have hg3 := hC4 g3 rfl
      have hcn := hv32.symm
      have HC6 := Lib.hid (show Own covR w5 w.heap.size w.heap.size 124 l[j].1.covers (.slice (some ⟨g3, 0, none⟩) l[j].1.covers.length c4) by have h := HC5.out; rw [hv32] at h; exact h)
      clear HC5 HC4
      subst hv32
      have x8d : w5.drew.cell? ⟨g, j * 9 + 8, none⟩ = some (.slice (some ⟨g3, 0, none⟩) l[j].1.covers.length c4) := x8
      have hgw5 := (G5.out.own.block g rfl).2
      go_upto_region 20 with (fail)
      go_region_held3 (fun W => W.cell? ⟨g, j * 9 + 8, none⟩ = some (.slice (some ⟨g3, 0, none⟩) l[j].1.covers.length c4))
        (first
          | with_reducible exact x8d
          | with_reducible exact x86
          | fail)
        (first
          | (go_at_call 75; refine (next_c sb n5 l[j].1.covers.length w5.drew G5.out.str.drew (by omega) (by omega) (by omega)).mono ?_; rintro e w6 ⟨v6, n6, rfl, ⟨q6, hq0, hq1, rfl⟩, hn6, hs6, hg6⟩; obtain ⟨q, rfl⟩ := Int.eq_ofNat_of_zero_le hq0; have hw6 : w5.grownBy w6 (some sb) := gTrans (gDrew (gRefl w5 sb)) hg6; have x86 : w6.cell? ⟨g, j * 9 + 8, none⟩ = some (.slice (some ⟨g3, 0, none⟩) l[j].1.covers.length c4) := (World.cell?_of_block (hw6.block g hgw5 (by simp; omega))).trans x8)
          | fail)
      obtain ⟨x6c, _⟩ : True ∧ True := ⟨trivial, trivial⟩
      clear x8 x8d x86
      have HC7 := Lib.hid (HC6.out.fkeep (fun q e hlt => hw6.block q hlt (by have := (HC6.out.block q e).1; simp; omega)))
      have hqc : q < l[j].1.covers.length := by omega
      have y0 := (Own.cellAt HC7.out q hqc 0 (by decide)).1
      have y1 := (Own.cellAt HC7.out q hqc 1 (by decide)).1
      have y2 := (Own.cellAt HC7.out q hqc 2 (by decide)).1
      have z0 := (Own.cellAt HC7.out q hqc 0 (by decide)).2
      have z1 := (Own.cellAt HC7.out q hqc 1 (by decide)).2
      have z2 := (Own.cellAt HC7.out q hqc 2 (by decide)).2
      have G6 := Lib.hid (G5.out.turn hw6 hs6)
      have HIF6 := Lib.hid (fun y (hy : y ∈ l) => (HIF5.out y hy).keep (fun b hb => hw6.block b (by have := (hF b hb).1; omega) (by have := (hF b hb).2; simp; omega)))
      have hcB := (HB4.out _ (List.getElem_mem hjl)).2.2.2.2.2.2.2.2.2.2.2
      rw [hlj] at hcB
      have HCB := Lib.hid hcB
      obtain ⟨p1, p2, p3, p4, p5, p6⟩ := hcB _ (List.getElem_mem hqc)
      obtain ⟨cp, hcp⟩ : ∃ cp, cp = l[j].1.covers[q].para := ⟨_, rfl⟩
      obtain ⟨ci, hci⟩ : ∃ ci, ci = l[j].1.covers[q].tin := ⟨_, rfl⟩
      obtain ⟨co, hco⟩ : ∃ co, co = l[j].1.covers[q].tout := ⟨_, rfl⟩
      rw [← hcp] at p1 p2
      rw [← hci] at p3 p4
      rw [← hco] at p5 p6
      have x0 : w6.cell? ⟨g3, q * 4, none⟩ = some (.int .i64 cp) := by rw [hcp]; exact y0
      have x1 : w6.cell? ⟨g3, q * 4 + 1, none⟩ = some (.int .i64 ci) := by rw [hci]; exact y1
      have x2 : w6.cell? ⟨g3, q * 4 + 2, none⟩ = some (.int .i64 co) := by rw [hco]; exact y2
      have f0 : w6.frozen? ⟨g3, q * 4, none⟩ = false := z0
      have f1 : w6.frozen? ⟨g3, q * 4 + 1, none⟩ = false := z1
      have f2 : w6.frozen? ⟨g3, q * 4 + 2, none⟩ = false := z2
      clear y0 y1 y2 z0 z1 z2 hcp hci hco hcB
      have hg36 : g3 < w6.heap.size := by have := hw6.size; omega
      have HK := Lib.hid (fun (W : World) (hg : w6.grownBy W (some sb)) => show (W.cell? ⟨g3, q * 4, none⟩ = some (.int .i64 cp) ∧ W.cell? ⟨g3, q * 4 + 1, none⟩ = some (.int .i64 ci) ∧ W.cell? ⟨g3, q * 4 + 2, none⟩ = some (.int .i64 co)) ∧ W.frozen? ⟨g3, q * 4, none⟩ = false ∧ W.frozen? ⟨g3, q * 4 + 1, none⟩ = false ∧ W.frozen? ⟨g3, q * 4 + 2, none⟩ = false from
        have e := hg.block g3 hg36 (by simp; omega)
        ⟨⟨(World.cell?_of_block e).trans x0, (World.cell?_of_block e).trans x1, (World.cell?_of_block e).trans x2⟩, (World.frozen?_of_block e).trans f0, (World.frozen?_of_block e).trans f1, (World.frozen?_of_block e).trans f2⟩)
      go_upto_region 21 with (fail)
      obtain ⟨ι, ff, hne, hff, hfS⟩ := family (fun W => W.cell? ⟨g3, q * 4, none⟩ = some (.int .i64 cp) ∧ W.cell? ⟨g3, q * 4 + 1, none⟩ = some (.int .i64 ci) ∧ W.cell? ⟨g3, q * 4 + 2, none⟩ = some (.int .i64 co)) w6 ⟨x0, x1, x2⟩
      have hneW : Nonempty World := ⟨w⟩
      have s0 := fun p => (hff p).1
      have s1 := fun p => (hff p).2.1
      have s2 := fun p => (hff p).2.2
      refine wp_region_segs [8, 15, 22] [([0, 1, 2, 3, 4, 5, 7, 10, 11, 12, 14, 17, 18, 19, 21], [6, 13, 20], 8), ([9], [], 15), ([16], [], 22), ([23, 24, 25], [], 26), ([27, 28], [], 29), ([30, 31], [], 32)] (by kernel_rfl) (by kernel_rfl) (fun _ _ _ dd _ h => by cases dd <;> exact h) (fun W => ∃ p : ι, W = ff p) (hfS _ ⟨x0, x1, x2⟩) ?_
      refine wpSegs_step (by simp only [pick, List.getElem?_cons_succ, List.getElem?_cons_zero]; rfl) (by simp only [pick, List.getElem?_cons_succ, List.getElem?_cons_zero]; rfl) rfl (fun K0 hK0 L0 hL0 => ?_)
      repeat (first | go_big_quiet_step (fail) | quiet_step (fail))
      refine wpQuiet_nil (hL0 _ ?_)
      repeat (first | go_big_quiet_step (fail) | quiet_step (fail))
      refine wpQuiet_nil ?_
      go_simp
      refine (range_c sb n6 (-1) 1 w6.drew G6.out.str.drew (by omega) (by omega) (by omega) (by omega)).mono ?_
      rintro e w7 ⟨v7, n7, rfl, ⟨y7, ⟨hy7, hy7'⟩, rfl⟩, hn7, hs7, hg7⟩
      have hw7 : w6.grownBy w7 (some sb) := gTrans (gDrew (gRefl w6 sb)) hg7
      have ew7 : IntKind.i64.wrap (cp + y7) = cp + y7 := IntWalk.i64_in _ (by omega)
      refine ⟨hfS _ (HK.out _ hw7).1, hK0 _ _ ?_⟩
      refine wpSegs_step (by simp only [pick]; rfl) (by simp only [pick]; rfl) rfl (fun K1 hK1 L1 hL1 => ?_)
      repeat (first | go_big_quiet_step (fail) | quiet_step (fail))
      refine wpQuiet_nil (hL1 _ ?_)
      repeat (first | go_big_quiet_step (fail) | quiet_step (fail))
      refine wpQuiet_nil ?_
      go_simp
      refine (range_c sb n7 (-1) 1 w7 hs7 (by omega) (by omega) (by omega) (by omega)).mono ?_
      rintro e w8 ⟨v8, n8, rfl, ⟨y8, ⟨hy8, hy8'⟩, rfl⟩, hn8, hs8, hg8⟩
      have hw8 : w6.grownBy w8 (some sb) := gTrans (hw7) hg8
      have ew8 : IntKind.i64.wrap (ci + y8) = ci + y8 := IntWalk.i64_in _ (by omega)
      refine ⟨hfS _ (HK.out _ hw8).1, hK1 _ _ ?_⟩
      refine wpSegs_step (by simp only [pick]; rfl) (by simp only [pick]; rfl) rfl (fun K2 hK2 L2 hL2 => ?_)
      repeat (first | go_big_quiet_step (fail) | quiet_step (fail))
      refine wpQuiet_nil (hL2 _ ?_)
      repeat (first | go_big_quiet_step (fail) | quiet_step (fail))
      refine wpQuiet_nil ?_
      go_simp
      refine (range_c sb n8 (-1) 1 w8 hs8 (by omega) (by omega) (by omega) (by omega)).mono ?_
      rintro e w9 ⟨v9, n9, rfl, ⟨y9, ⟨hy9, hy9'⟩, rfl⟩, hn9, hs9, hg9⟩
      have hw9 : w6.grownBy w9 (some sb) := gTrans (hw8) hg9
      have ew9 : IntKind.i64.wrap (co + y9) = co + y9 := IntWalk.i64_in _ (by omega)
      obtain ⟨⟨d0, d1, d2⟩, e0, e1, e2⟩ := HK.out _ hw9
      refine ⟨hfS _ ⟨d0, d1, d2⟩, hK2 _ _ ?_⟩
      refine wpSegs_step (by simp only [pick]; rfl) (by simp only [pick]; rfl) rfl (fun K3 hK3 L3 hL3 => ?_)
      repeat (first | go_big_quiet_step (fail) | quiet_step (fail))
      refine wpQuiet_nil (hL3 _ ?_)
      repeat (first | go_big_quiet_step (fail) | quiet_step (fail))
      refine wpQuiet_nil ?_
      go_simp
      refine hK3 _ _ ?_
      refine wpSegs_step (by simp only [pick]; rfl) (by simp only [pick]; rfl) rfl (fun K4 hK4 L4 hL4 => ?_)
      repeat (first | go_big_quiet_step (fail) | quiet_step (fail))
      refine wpQuiet_nil (hL4 _ ?_)
      repeat (first | go_big_quiet_step (fail) | quiet_step (fail))
      refine wpQuiet_nil ?_
      go_simp
      refine hK4 _ _ ?_
      refine wpSegs_step (by simp only [pick]; rfl) (by simp only [pick]; rfl) rfl (fun K5 hK5 L5 hL5 => ?_)
      repeat (first | go_big_quiet_step (fail) | quiet_step (fail))
      refine wpQuiet_nil (hL5 _ ?_)
      repeat (first | go_big_quiet_step (fail) | quiet_step (fail))
      refine wpQuiet_nil ?_
      go_simp
      refine hK5 _ _ (wpSegs_end ?_)
      have hgg3 : g3 ≠ g := by omega
      have hown : (Value.slice (some ⟨g, 0, none⟩) l.length cap).ownBlock ≠ some g3 := fun e => by injection e with e; exact hgg3 e.symm
      have H9 := ((((G6.out.turn hw9 hs9).far (q * 4) (.int .i64 (cp + y7)) (by omega : w.heap.size ≤ g3) hown).far (q * 4 + 1) (.int .i64 (ci + y8)) (by omega : w.heap.size ≤ g3) hown).far (q * 4 + 2) (.int .i64 (co + y9)) (by omega : w.heap.size ≤ g3) hown)
      have hcs : ∃ cs : List Cov, Own covR (((w9.setCell ⟨g3, q * 4, none⟩ (.int .i64 (cp + y7))).setCell ⟨g3, q * 4 + 1, none⟩ (.int .i64 (ci + y8))).setCell ⟨g3, q * 4 + 2, none⟩ (.int .i64 (co + y9))) w.heap.size w.heap.size 124 cs (.slice (some ⟨g3, 0, none⟩) l[j].1.covers.length c4) ∧ cs.length = l[j].1.covers.length ∧ ∀ c ∈ cs, covB (B + 10) c := by
        have h7 := HC7.out.fkeep (fun b e hlt => hw9.block b hlt (by have := (HC7.out.block b e).1; simp; omega))
        have h8 := h7.modify (fun c : Cov => { c with para := cp + y7 }) q 0 (.int .i64 (cp + y7)) (fun _ => rfl) (by decide) hqc
        have h9 := h8.modify (fun c : Cov => { c with tin := ci + y8 }) q 1 (.int .i64 (ci + y8)) (fun _ => rfl) (by decide) (by rw [List.length_modify]; exact hqc)
        have h10 := h9.modify (fun c : Cov => { c with tout := co + y9 }) q 2 (.int .i64 (co + y9)) (fun _ => rfl) (by decide) (by rw [List.length_modify, List.length_modify]; exact hqc)
        have st : ∀ (l : List Cov) (f : Cov → Cov), (∀ y ∈ l, covB (B + 10) y) → (∀ y, covB (B + 10) y → covB (B + 10) (f y)) → ∀ y ∈ l.modify q f, covB (B + 10) y := fun l f h1 h2 y hy => by
          rcases mem_modify' hy with hy | ⟨x, hx, rfl⟩
          · exact h1 y hy
          · exact h2 x (h1 x (List.mem_iff_getElem?.2 ⟨q, hx⟩))
        refine ⟨_, h10, by rw [List.length_modify, List.length_modify, List.length_modify], st _ _ (st _ _ (st _ _ (fun c hc => (HCB.out c hc).more (by omega)) fun c h => ?_) fun c h => ?_) fun c h => ?_⟩
        · exact ⟨by dsimp only; omega, by dsimp only; omega, h.2.2⟩
        · exact ⟨h.1, h.2.1, by dsimp only; omega, by dsimp only; omega, h.2.2.2.2⟩
        · exact ⟨h.1, h.2.1, h.2.2.1, h.2.2.2.1, by dsimp only; omega, by dsimp only; omega⟩
      obtain ⟨cs, hcs1, hcs2, hcs3⟩ := hcs
      have HCS := Lib.hid (And.intro hcs1 (And.intro hcs2 hcs3))
      have hz9 := hw9.size
      have hF9 : ∀ y ∈ l, Sli covR (((w9.setCell ⟨g3, q * 4, none⟩ (.int .i64 (cp + y7))).setCell ⟨g3, q * 4 + 1, none⟩ (.int .i64 (ci + y8))).setCell ⟨g3, q * 4 + 2, none⟩ (.int .i64 (co + y9))) F y.1.covers y.2 := fun y hy =>
        ((((HIF6.out y hy).keep (fun b hb => hw9.block b (by have := (hF b hb).1; have := hw6.size; omega) (by have := (hF b hb).2; simp; omega))).setCell (p := ⟨g3, q * 4, none⟩) _ (fun h => by have := (hF g3 h).1; omega)).setCell (p := ⟨g3, q * 4 + 1, none⟩) _ (fun h => by have := (hF g3 h).1; omega)).setCell (p := ⟨g3, q * 4 + 2, none⟩) _ (fun h => by have := (hF g3 h).1; omega)
      have HG9 := Lib.hid (H9.recode (l' := lm.modify j fun y => ({ y.1 with covers := cs }, y.2)) (List.length_modify ..) (fun k x hx => by
        rw [List.getElem?_modify] at hx
        cases hlk : lm[k]? with
        | none => rw [hlk] at hx; simp at hx
        | some y =>
          rw [hlk] at hx
          simp at hx
          refine ⟨y, rfl, ?_⟩
          by_cases e : j = k
          · rw [if_pos e] at hx; subst hx; rfl
          · rw [if_neg e] at hx; subst hx; rfl))
      have HJ9 := Lib.hid (inT_cov (w := w) (g := g) (cs := cs) HLI.out hF9 (fun y hy => by
        rw [List.getElem?_eq_getElem hjl, hlj] at hy
        injection hy with hy
        subst hy
        obtain ⟨xs, ho, hx⟩ := hcs1
        exact Sli.own ho ⟨hx.1, hx.2⟩ rfl (fun b c e => .inr ⟨by injection e with e; injection e with e; injection e with e; omega, by injection e with e; injection e with e; injection e with e; simp [World.setCell]; omega, by injection e with e; injection e with e; injection e with e; omega⟩)))
      have HBB := Lib.hid (show ∀ y ∈ lm.modify j (fun y => ({ y.1 with covers := cs }, y.2)), tkB (B + 10) y.1 from fun y hy => by
        rcases mem_modify' hy with hy | ⟨x, hx, rfl⟩
        · exact HB5.out y hy
        · obtain ⟨h1, h2, h3, h4, h5, h6, h7, h8, h9, h10, h11, h12⟩ := HB5.out x (List.mem_iff_getElem?.2 ⟨j, hx⟩)
          exact ⟨h1, h2, h3, h4, h5, h6, h7, h8, h9, h10, by show cs.length ≤ 70; omega, hcs3⟩)
      clear hcs1 hcs2 hcs3 hF9 H9 HCS
      go_wp2
      go_ret
      exact FIN.out _ _ n9 _ 0 (.inr trivial) HG9.out HJ9.out (fun q hq => by injection hq with hq; exact .inl hq.symm) HBB.out (by rw [List.length_modify]; omega) (by omega) ⟨g, rfl⟩
  · have h0l : 0 < lm.length := by omega
    obtain ⟨⟨tk0, v0⟩, hy0⟩ : ∃ y0 : Tk × Value, lm[0] = y0 := ⟨_, rfl⟩
    have hm0 : (tk0, v0) ∈ lm := hy0 ▸ List.getElem_mem h0l
    obtain ⟨A9, c9, e9, _, _⟩ := (J5.out _ hm0).form
    dsimp only at e9
    subst e9
    have y := fun i hi => (Own.cellAt G5.out.own 0 h0l i hi).1
    rw [hy0] at y
    have x0 : w5.cell? ⟨g, 0, none⟩ = some (.string tk0.scene) := y 0 (by decide)
    have x1 : w5.cell? ⟨g, 1, none⟩ = some (.string tk0.setup) := y 1 (by decide)
    have x2 : w5.cell? ⟨g, 2, none⟩ = some (.int .i64 tk0.number) := y 2 (by decide)
    have x3 : w5.cell? ⟨g, 3, none⟩ = some (.string tk0.roll) := y 3 (by decide)
    have x4 : w5.cell? ⟨g, 4, none⟩ = some (.string tk0.sound) := y 4 (by decide)
    have x5 : w5.cell? ⟨g, 5, none⟩ = some (.int .i64 tk0.tin) := y 5 (by decide)
    have x6 : w5.cell? ⟨g, 6, none⟩ = some (.int .i64 tk0.tout) := y 6 (by decide)
    have x7 : w5.cell? ⟨g, 7, none⟩ = some (.bool tk0.good) := y 7 (by decide)
    have x8 : w5.cell? ⟨g, 8, none⟩ = some (.slice A9 tk0.covers.length c9) := y 8 (by decide)
    clear y hy0
    have hll : (0 : Int) < (l.length : Int) := by omega
    obtain ⟨i1, hk0', hk1, hk2, hk3⟩ := info_parts (show (Tryz.prog.info? 122).map (fun i => (i.zero, i.size, i.bytes)) = some (some (.agg #[.string ⟨#[]⟩, .string ⟨#[]⟩, .int .i64 0, .string ⟨#[]⟩, .string ⟨#[]⟩, .int .i64 0, .int .i64 0, .bool false, .slice none 0 0]), 9, 120) by kernel_rfl)
    have HLM := Lib.hid hlm
    have hlm2 : lm.length ≤ 1000 := by omega
    have ho5 : Own tvR w5 w.heap.size w.heap.size 122 lm (.slice (some ⟨g, 0, none⟩) l.length cap) := G5.out.own
    clear hlm
    go_wp2_with (at_builtin; (refine wpList_pushB (R := tvR) rfl _ _ _ rfl w.heap.size w.heap.size 122 i1 _ 120 Tryz.underlying48 hk0' hk1 hk2 hk3 rfl (by decide) _ (.slice (some ⟨g, 0, none⟩) l.length cap) lm rfl (ho5.alloc _) ((tk0, .slice A9 tk0.covers.length c9) : Tk × Value) _ rfl (oneC rfl) w5.heap.size _ _ (heap_alloc_new w5 _) rfl (by simp [maxLen]; omega) (by omega) (by simp; omega) ?_); intro g' cap' wE hown8 hg8 hat8 hlt8)
    go_ret
    have hw5e : w5.heap.size ≤ wE.heap.size := by have := hg8.size; simp at this; omega
    have G6 := (G5.out.alloc (.cells #[.string tk0.scene, .string tk0.setup, .int .i64 tk0.number, .string tk0.roll, .string tk0.sound, .int .i64 tk0.tin, .int .i64 tk0.tout, .bool tk0.good, .slice A9 tk0.covers.length c9] 122)).more hown8 hg8 rfl hat8
    have hk : ∀ b, b < w5.heap.size → b ≠ g → wE.heap[b]? = w5.heap[b]? := fun b hb hne => (hg8.block b (by simp; omega) (fun e => hne (by injection e))).trans (Below.heap_alloc w5 _ b hb)
    have hg' : g' = g ∨ w5.heap.size < g' := by
      rcases hat8 with h | h
      · injection h with h; exact .inl h.symm
      · right; simp at h; omega
    have hmem : ∀ y ∈ lm ++ [(tk0, Value.slice A9 tk0.covers.length c9)], y ∈ lm := fun y hy => by
      rcases List.mem_append.1 hy with h | h
      · exact h
      · rw [List.mem_singleton] at h; subst h; exact hm0
    have hJ6 : ∀ y ∈ lm ++ [(tk0, Value.slice A9 tk0.covers.length c9)], Sli covR wE (fun b => F b ∨ (w.heap.size ≤ b ∧ b < wE.heap.size ∧ b ≠ g')) y.1.covers y.2 := fun y hy =>
      ((J5.out y (hmem y hy)).keep (fun b hb => hk b (by rcases hb with hb | hb; have := (hF b hb).1; omega; exact hb.2.1) (by rcases hb with hb | hb; have := (hF b hb).1; omega; exact hb.2.2))).more fun b hb => hb.imp id fun hb => ⟨hb.1, by have := hb.2.1; omega, fun e => by
        rcases hg' with h | h
        · exact hb.2.2 (e.trans h)
        · have := hb.2.1; omega⟩
    exact FIN.out _ _ n5 wE 0 (.inr trivial) G6 (fun y hy => by
      rcases hg' with h | h
      · rw [← h]; exact hJ6 y hy
      · exact ((J5.out y (hmem y hy)).keep (fun b hb => hk b (by rcases hb with hb | hb; have := (hF b hb).1; omega; exact hb.2.1) (by rcases hb with hb | hb; have := (hF b hb).1; omega; exact hb.2.2))).more fun b hb => hb.imp id fun hb => ⟨hb.1, by have := hb.2.1; omega, hb.2.2⟩) (fun q hq => by
      injection hq with hq
      subst hq
      exact .inr hJ6) (fun y hy => HB5.out y (hmem y hy)) (by have := HLM.out; simp; omega) (by omega) ⟨g', rfl⟩
end Go.Proofs.YtmefjkfjpgblcaaGreatDoor

