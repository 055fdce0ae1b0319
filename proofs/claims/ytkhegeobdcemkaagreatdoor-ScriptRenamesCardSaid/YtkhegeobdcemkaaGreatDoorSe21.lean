/- Texts packed: EqX, TmW, CopW, RjN, RkW, SdS, RnS, RmS, RpS. -/
import Derived.Test.YtkhegeobdcemkaaGreatDoorSe20
import Derived.Test.YtkhegeobdcemkaaGreatDoorSe17
import Derived.Test.YtkhegeobdcemkaaGreatDoorSe01
import Derived.Test.YtkhegeobdcemkaaGreatDoorSe14
import Derived.Test.YtkhegeobdcemkaaGreatDoorSe15
import Derived.Test.YtkhegeobdcemkaaGreatDoorSe18
import Derived.Test.YtkhegeobdcemkaaGreatDoorSe09
import Derived.Test.YtkhegeobdcemkaaGreatDoorSe02
import Derived.Lib.Strings
/- Lists of scenes compared by a function. -/
namespace Go.Proofs.YtkhegeobdcemkaaGreatDoor
set_option linter.unusedVariables false
open Go.RowKit Go.Sort

/-- A function that compares two scenes. -/
def EqS (P : Program) (g : Nat) : Prop :=
  (∀ args W, (callFunc g args).run P W = .ok (.enter g args) W) ∧ ∀ (x y : Scene) (u v : Value) (F : Nat → Prop) (W : World), Sli paraR W F x.paras u → Sli paraR W F y.paras v → (∀ b, F b → b < W.heap.size) →
    Calls P g #[.agg #[.string x.no, .int .i64 x.place, .string x.set, .int .i64 x.time, u], .agg #[.string y.no, .int .i64 y.place, .string y.set, .int .i64 y.time, v]] W fun e w' => e = .returned (.bool (decide (x = y))) ∧ Below W.heap.size W w'
theorem eqS2 : EqS Tryz.prog 67 := ⟨fun _ _ => by kernel_rfl, fun x y u v F W h1 h2 h3 => sameScene1_c x y u v F W h1 h2 h3⟩
/-- Two lists of scenes in memory. -/
structure Sc2 (w : World) (F : Nat → Prop) (l : List (Scene × Value)) (v : Value) : Prop where
  sli : Sli svR w F l v
  par : ∀ y ∈ l, Sli paraR w F y.1.paras y.2
  lt : ∀ b, F b → b < w.heap.size
theorem Sc2.below {w w' : World} {F : Nat → Prop} {l : List (Scene × Value)} {v : Value} (h : Sc2 w F l v) (hb : Below w.heap.size w w') : Sc2 w' F l v :=
  ⟨h.sli.below hb h.lt, fun y hy => (h.par y hy).below hb h.lt, fun b hF => Nat.lt_of_lt_of_le (h.lt b hF) hb.size⟩
set_option maxRecDepth 100000 in
set_option maxHeartbeats 1600000 in
theorem eqScenes_c {F : Nat → Prop} (g : Nat) (l1 l2 : List (Scene × Value)) (v1 v2 : Value) (w : World) (h1 : Sc2 w F l1 v1) (h2 : Sc2 w F l2 v2) (hg : EqS Tryz.prog g) :
    Calls Tryz.prog 66 #[v1, v2, .func (.func g) #[] #[]] w fun e w' => e = .returned (.bool (decide (l1.map (·.1) = l2.map (·.1)))) ∧ Below w.heap.size w w' := by
  obtain ⟨A1, c1, rfl, hlc1, hc1⟩ := h1.sli.form
  obtain ⟨A2, c2, rfl, hlc2, hc2⟩ := h2.sli.form
  have eg := hg.1
  have HP := Lib.hid hg.2
  have H1 := Lib.hid h1; clear h1
  have H2 := Lib.hid h2; clear h2
  clear hg
  by_cases hne : l1.length = l2.length
  · obtain ⟨n, hn1⟩ : ∃ n, l1.length = n := ⟨_, rfl⟩
    have hn2 : l2.length = n := by omega
    have HN1 := Lib.hid hn1
    have HN2 := Lib.hid hn2
    rw [hn1] at H1 hlc1 ⊢
    rw [hn2] at H2 ⊢
    clear hn1 hn2 hne
    go_enter Tryz.func66, Tryz.ntmps66
    go_wp2
    go_loopw [17] (fun i wr => ∃ k : Nat, k ≤ n ∧ i = .int .i64 k ∧ Below w.heap.size w wr ∧ Hid ((l1.map (·.1)).take k = (l2.map (·.1)).take k)) (fun i _ => n - (intOf i).toNat)
    case atStart => exact ⟨0, Nat.zero_le _, rfl, Below.refl _ _, rfl⟩
    case round =>
      obtain ⟨k, hk, rfl, hb, HT⟩ := hrel
      by_cases hlt : k < n
      · have hk1 : k < l1.length := by rw [HN1.out]; exact hlt
        have hk2 : k < l2.length := by rw [HN2.out]; exact hlt
        have S1 := H1.out.below hb
        have S2 := H2.out.below hb
        obtain ⟨b, off, rfl, hfb, a0, a1, a2, a3, a4⟩ := scAt S1.sli k hk1
        obtain ⟨b2, off2, rfl, hfb2, d0, d1, d2, d3, d4⟩ := scAt S2.sli k hk2
        have hltb : b < wr.heap.size := S1.lt b hfb
        have hltb2 : b2 < wr.heap.size := S2.lt b2 hfb2
        have p1 := S1.par _ (List.getElem_mem hk1)
        have p2 := S2.par _ (List.getElem_mem hk2)
        obtain ⟨A3, c3, e3, _, _⟩ := p1.form
        obtain ⟨A4, c4, e4, _, _⟩ := p2.form
        have HEQ := Lib.hid (fun (W : World) (hW : Below w.heap.size w W) (hW2 : Below wr.heap.size wr W) => HP.out (l1[k]'hk1).1 (l2[k]'hk2).1 (l1[k]'hk1).2 (l2[k]'hk2).2 F W (p1.below hW2 S1.lt) (p2.below hW2 S2.lt) (fun b hb => Nat.lt_of_lt_of_le (S1.lt b hb) hW2.size))
        have HYES := Lib.hid (fun (h : (l1[k]'hk1).1 = (l2[k]'hk2).1) => eq_take_next (a := l1.map (·.1)) (b := l2.map (·.1)) (k := k) (by rw [List.length_map]; exact hk1) (by rw [List.length_map]; exact hk2) HT.out (by rw [List.getElem_map, List.getElem_map]; exact h))
        have HNO := Lib.hid (fun (h : ¬ (l1[k]'hk1).1 = (l2[k]'hk2).1) => ne_at (a := l1.map (·.1)) (b := l2.map (·.1)) (k := k) (by rw [List.length_map]; exact hk1) (by rw [List.length_map]; exact hk2) (by rw [List.getElem_map, List.getElem_map]; exact h))
        rw [e3] at a4 HEQ
        rw [e4] at d4 HEQ
        clear p1 p2 S1 S2 e3 e4
        generalize (l1[k]'hk1).1 = x at *
        generalize (l2[k]'hk2).1 = y at *
        generalize hx3 : x.paras.length = n3 at *
        generalize hy4 : y.paras.length = n4 at *
        have HBB := Lib.hid hb
        clear hk1 hk2 hx3 hy4 hfb hfb2 hb
        have HB2 := Lib.hid (fun (o1 o2 : Obj) => show Below wr.heap.size wr ((wr.alloc o1).alloc o2) from (((Below.refl _ wr).alloc (Nat.le_refl _) o1).alloc (by simp) o2))
        by_cases hxy : x = y
        · have HD := Lib.hid (show decide (x = y) = true from decide_eq_true hxy)
          have HX := Lib.hid (HYES.out hxy)
          clear hxy HYES HNO
          go_wp2_with fail
          refine (HEQ.out _ (by exact HBB.out.trans ((HB2.out _ _).mono HBB.out.size)) (by exact HB2.out _ _)).mono ?_
          rintro e w' ⟨rfl, hb'⟩
          have HB3 := Lib.hid (HBB.out.trans (((HB2.out _ _).trans (hb'.mono (HB2.out _ _).size)).mono HBB.out.size))
          clear hb'
          rw [HD.out]
          go_wp2
          go_roundw
          case rel => exact ⟨k + 1, by omega, intNum, HB3.out, HX.out⟩
          case measure => simp [intOf]; omega
        · have HD := Lib.hid (show decide (x = y) = false from decide_eq_false hxy)
          have HX := Lib.hid (HNO.out hxy)
          clear hxy HYES HNO
          go_wp2_with fail
          refine (HEQ.out _ (by exact HBB.out.trans ((HB2.out _ _).mono HBB.out.size)) (by exact HB2.out _ _)).mono ?_
          rintro e w' ⟨rfl, hb'⟩
          have HB3 := Lib.hid (HBB.out.trans (((HB2.out _ _).trans (hb'.mono (HB2.out _ _).size)).mono HBB.out.size))
          clear hb'
          rw [HD.out]
          go_wp2
          go_ret
          exact ⟨ret_bool (by symm; simpa using HX.out), HB3.out⟩
      · have e : k = n := by omega
        have HN := Lib.hid (show l1.map (·.1) = l2.map (·.1) by have := HT.out; rwa [List.take_of_length_le (by rw [List.length_map, HN1.out]; omega), List.take_of_length_le (by rw [List.length_map, HN2.out]; omega)] at this)
        go_wp2
        go_ret
        exact ⟨ret_bool (by symm; simpa using HN.out), hb⟩
  · have HN := Lib.hid (show ¬ l1.map (·.1) = l2.map (·.1) by intro h; exact hne (by have := congrArg List.length h; simpa using this))
    have hz : ¬ (l1.length : Int) = l2.length := by omega
    go_enter Tryz.func66, Tryz.ntmps66
    go_wp2
    go_ret
    exact ⟨ret_bool (by symm; simpa using HN.out), Below.refl _ _⟩

set_option maxRecDepth 100000 in
set_option maxHeartbeats 1600000 in
theorem SameScripts_c {F : Nat → Prop} (t1 t2 : ByteArray) (l1 l2 : List (Scene × Value)) (v1 v2 : Value) (w : World) (h1 : Sc2 w F l1 v1) (h2 : Sc2 w F l2 v2) :
    Calls Tryz.prog 22 #[.agg #[.string t1, v1], .agg #[.string t2, v2]] w fun e w' => e = .returned (.bool (decide ((⟨t1, l1.map (·.1)⟩ : Script) = ⟨t2, l2.map (·.1)⟩))) ∧ Below w.heap.size w w' := by
  obtain ⟨A1, c1, rfl, _, _⟩ := h1.sli.form
  obtain ⟨A2, c2, rfl, _, _⟩ := h2.sli.form
  have H1 := Lib.hid h1
  have H2 := Lib.hid h2
  clear h1 h2
  obtain ⟨n1, hn1⟩ : ∃ n, l1.length = n := ⟨_, rfl⟩
  obtain ⟨n2, hn2⟩ : ∃ n, l2.length = n := ⟨_, rfl⟩
  rw [hn1] at H1 ⊢
  rw [hn2] at H2 ⊢
  clear hn1 hn2
  go_enter Tryz.func22, Tryz.ntmps22
  go_upto_region 1 with (fail)
  have hG : PvG w [(w.heap.size + 1, xCs t2 (.slice A2 n2 c2), 28), (w.heap.size, xCs t1 (.slice A1 n1 c1), 28)] ((w.alloc (.cells (xCs t1 (.slice A1 n1 c1)) 28)).alloc (.cells (xCs t2 (.slice A2 n2 c2)) 28)) := by
    have h := ((pvStart w).new (xCs t1 (.slice A1 n1 c1)) 28).new (xCs t2 (.slice A2 n2 c2)) 28
    rw [show (w.alloc (.cells (xCs t1 (.slice A1 n1 c1)) 28)).heap.size = w.heap.size + 1 by simp] at h
    exact h
  generalize hW : (w.alloc (.cells #[.string t1, .slice A1 n1 c1] 28)).alloc (.cells #[.string t2, .slice A2 n2 c2] 28) = w1
  have hG1 : PvG w [(w.heap.size + 1, xCs t2 (.slice A2 n2 c2), 28), (w.heap.size, xCs t1 (.slice A1 n1 c1), 28)] w1 := by rw [← hW]; exact hG
  clear hG hW
  have ga := (hG1.cell (p := (w.heap.size, xCs t1 (.slice A1 n1 c1), 28)) (by simp)).1
  have gb := (hG1.cell (p := (w.heap.size + 1, xCs t2 (.slice A2 n2 c2), 28)) (by simp)).1
  have e0 : w1.cell? ⟨w.heap.size, 0, none⟩ = some (.string t1) := ga 0
  have e1 : w1.cell? ⟨w.heap.size, 1, none⟩ = some (.slice A1 n1 c1) := ga 1
  have d0 : w1.cell? ⟨w.heap.size + 1, 0, none⟩ = some (.string t2) := gb 0
  have d1 : w1.cell? ⟨w.heap.size + 1, 1, none⟩ = some (.slice A2 n2 c2) := gb 1
  have HB := Lib.hid hG1.bel
  have HEQ := Lib.hid (eqScenes_c 67 l1 l2 _ _ w1 (H1.out.below hG1.bel) (H2.out.below hG1.bel) eqS2)
  clear ga gb hG1 H1 H2
  by_cases ht : t1 = t2
  · subst ht
    go_wp2_with fail
    refine HEQ.out.mono ?_
    rintro e w2 ⟨rfl, hb2⟩
    have HB2 := Lib.hid (HB.out.trans (hb2.mono HB.out.size))
    have HDE := Lib.hid (show decide (l1.map (·.1) = l2.map (·.1)) = decide ((⟨t1, l1.map (·.1)⟩ : Script) = ⟨t1, l2.map (·.1)⟩) by simp)
    generalize decide (l1.map (·.1) = l2.map (·.1)) = d at *
    go_wp2
    go_ret
    exact ⟨ret_bool HDE.out, HB2.out⟩
  · have tt := beq_ne ht
    have HN := Lib.hid (show ¬ (⟨t1, l1.map (·.1)⟩ : Script) = ⟨t2, l2.map (·.1)⟩ from fun e => ht (by injection e))
    clear ht
    go_wp2
    go_ret
    exact ⟨ret_bool (by symm; simpa using HN.out), HB.out⟩

end Go.Proofs.YtkhegeobdcemkaaGreatDoor

/- The times of day of a script's scenes. -/
namespace Go.Proofs.YtkhegeobdcemkaaGreatDoor
set_option linter.unusedVariables false
open Go.RowKit Go.Sort

end Go.Proofs.YtkhegeobdcemkaaGreatDoor

/- A copy of a script, with memory of its own. -/
namespace Go.Proofs.YtkhegeobdcemkaaGreatDoor
set_option linter.unusedVariables false
open Go.RowKit Go.Sort

/-- A list of scenes of one's own, without a stream. -/
structure BI (w : World) (l : List (Scene × Value)) (v : Value) (P : List (Nat × Array Value × TypeId)) (wx : World) : Prop where
  bo : BO svR 71 w l v P wx
  inn : ∀ y ∈ l, Sli paraR wx (InF w wx v P) y.1.paras y.2
section
variable {w wx wy : World} {l : List (Scene × Value)} {v : Value} {P Q : List (Nat × Array Value × TypeId)}
theorem BI.start (w : World) : BI w [] (.slice none 0 0) [] w := ⟨BO.start w, fun x hx => by cases hx⟩
theorem BI.below (h : BI w l v P wx) (hb : Below wx.heap.size wx wy) : BI w l v P wy :=
  ⟨h.bo.below hb, fun y hy => ((h.inn y hy).below hb (fun q hq => hq.2.1)).more fun q hq => ⟨hq.1, Nat.lt_of_lt_of_le hq.2.1 hb.size, hq.2.2⟩⟩
theorem BI.alloc (h : BI w l v P wx) (o : Obj) : BI w l v P (wx.alloc o) := h.below ((Below.refl _ wx).alloc (Nat.le_refl _) o)
theorem BI.drew (h : BI w l v P wx) : BI w l v P wx.drew := ⟨h.bo.drew, fun y hy => (h.inn y hy).drew⟩
theorem BI.new (h : BI w l v P wx) (cs : Array Value) (T : TypeId) : BI w l v ((wx.heap.size, cs, T) :: P) (wx.alloc (.cells cs T)) := ⟨h.bo.new cs T, fun y hy => innNew (h.inn y hy) cs T⟩
theorem BI.set {b i : Nat} {cs : Array Value} {T : TypeId} (h : BI w l v ((b, cs, T) :: P) wx) (u : Value) (hd : ∀ p ∈ P, p.1 ≠ b) : BI w l v ((b, cs.setIfInBounds i u, T) :: P) (wx.setCell ⟨b, i, none⟩ u) := ⟨h.bo.set (fun h => h) u hd, fun y hy => innSet (h.inn y hy)⟩
theorem BI.less (h : BI w l v P wx) (hq : ∀ p ∈ Q, p ∈ P) : BI w l v Q wx := ⟨h.bo.less hq, fun y hy => (h.inn y hy).more fun _ hF => hF.less hq⟩
theorem BI.cell (h : BI w l v P wx) {p : Nat × Array Value × TypeId} (hp : p ∈ P) : (∀ i, wx.cell? ⟨p.1, i, none⟩ = p.2.1[i]?) ∧ (∀ i, wx.frozen? ⟨p.1, i, none⟩ = false) := h.bo.cell hp
theorem BI.more {x' : Scene × Value} {v' : Value} {g : Nat} (h : BI w l v P wx) (hown : Own svR wy w.heap.size w.heap.size 71 (l ++ [x']) v') (hg : wx.grownBy wy v.ownBlock) (hv : v'.ownBlock = some g) (hat : v.ownBlock = some g ∨ g = wx.heap.size)
    (hi : Sli paraR wx (InF w wx v P) x'.1.paras x'.2) : BI w (l ++ [x']) v' P wy := by
  have key : ∀ (k : List Para) u, Sli paraR wx (InF w wx v P) k u → Sli paraR wy (InF w wy v' P) k u := fun k u hs =>
    (hs.keep fun q hq => hg.block q hq.2.1 fun e => hq.2.2.2 e.symm).more fun q hq => ⟨hq.1, Nat.lt_of_lt_of_le hq.2.1 hg.size, hq.2.2.1, by
      rw [hv]
      intro e
      injection e with e
      rcases hat with hat | hat
      · exact hq.2.2.2 (by rw [hat, e])
      · have := hq.2.1; omega⟩
  exact ⟨h.bo.more hown hg hv hat, fun x hx => by
    rcases List.mem_append.1 hx with hx | hx
    · exact key _ _ (h.inn x hx)
    · rw [List.mem_singleton] at hx; subst hx; exact key _ _ hi⟩
/-- A list that a call has just made lies apart from all that stood. -/
theorem BI.fresh (h : BI w l v P wx) (hz : wx.heap.size ≤ wy.heap.size) {k : List Para} {u : Value} (hs : Sli paraR wy (fun q => wx.heap.size ≤ q ∧ q < wy.heap.size) k u) : Sli paraR wy (InF w wy v P) k u :=
  hs.more fun q hq => ⟨Nat.le_trans h.bo.size hq.1, hq.2, fun p hp => by have := h.bo.plt hp; omega, fun e => by have := (h.bo.own.block q e).2; omega⟩
theorem BI.modify {g M cap j : Nat} (h : BI w l (.slice (some ⟨g, 0, none⟩) M cap) P wx) (f : Scene × Value → Scene × Value) (k : Nat) (u : Value) (hf : ∀ x, (f x).1.cells (f x).2 = (x.1.cells x.2).set j u) (hj : j < 5) (hk : k < l.length) (hi : ∀ x, (f x).1.paras = x.1.paras ∧ (f x).2 = x.2) :
    BI w (l.modify k f) (.slice (some ⟨g, 0, none⟩) M cap) P (wx.setCell ⟨g, k * 5 + j, none⟩ u) := by
  refine ⟨BO.modify (n := 5) (enc := fun x : Scene × Value => x.1.cells x.2) (hn := fun _ => rfl) h.bo f k j u hf hj hk, fun y hy => ?_⟩
  have key : ∀ x ∈ l, Sli paraR (wx.setCell ⟨g, k * 5 + j, none⟩ u) (InF w (wx.setCell ⟨g, k * 5 + j, none⟩ u) (.slice (some ⟨g, 0, none⟩) M cap) P) x.1.paras x.2 := fun x hx =>
    ((h.inn x hx).setCell u (p := ⟨g, k * 5 + j, none⟩) (fun hF => hF.2.2.2 rfl)).more fun q hq => ⟨hq.1, by simpa [World.setCell] using hq.2.1, hq.2.2⟩
  rcases mem_mod hy with hy | ⟨x, hx, rfl⟩
  · exact key y hy
  · rw [(hi x).1, (hi x).2]; exact key x hx
end
end Go.Proofs.YtkhegeobdcemkaaGreatDoor

/- Scenes of one's own whose rows of paragraphs are one's own, too, each apart: stores into a paragraph. No program in sight. -/
namespace Go.Proofs.YtkhegeobdcemkaaGreatDoor
set_option linter.unusedVariables false
open Go.RowKit

section
variable {α : Type} {n : Nat} {enc : α → List Value} {hn : ∀ x, (enc x).length = n} {w : World} {base lo : Nat} {e : TypeId} {l l' : List α} {v : Value}
/-- What is told of a row of cells alone does not hang on what else its elements hold. -/
theorem Own.encs (h : Own (Rep.flat n enc hn) w base lo e l v) (hl : l'.length = l.length) (he : ∀ (i : Nat) x x', l[i]? = some x → l'[i]? = some x' → enc x' = enc x) : Own (Rep.flat n enc hn) w base lo e l' v := by
  obtain ⟨xs, ho, h1, h2⟩ := h
  refine ⟨xs, by rw [hl]; exact ho, by rw [hl]; exact h1, fun k x' hx' => ?_⟩
  have hk : k < l.length := by rw [← hl]; exact (List.getElem?_eq_some_iff.1 hx').1
  have h3 := h2 k _ (List.getElem?_eq_getElem hk)
  show _ = enc x'
  rw [he k _ _ (List.getElem?_eq_getElem hk) hx']
  exact h3
end
abbrev RnN (w : World) (l : List (Scene × Value)) (v : Value) (P : List (Nat × Array Value × TypeId)) (wx : World) : Prop := NF 5 2 (fun x : Scene × Value => x.1.cells x.2) (fun _ => rfl) Para.cells (fun _ => rfl) (fun y => y.1.paras) (fun y => y.2) 71 78 w l v P wx
/-- The same beside a row that no scene holds yet. -/
structure RnX (w : World) (l : List (Scene × Value)) (v : Value) (P : List (Nat × Array Value × TypeId)) (ps : List Para) (u : Value) (wx : World) : Prop where
  ns : RnN w l v P wx
  row : Own paraR wx w.heap.size w.heap.size 78 ps u
  apt : ∀ g, u.ownBlock = some g → v.ownBlock ≠ some g ∧ (∀ p ∈ P, p.1 ≠ g) ∧ ∀ y ∈ l, y.2.ownBlock ≠ some g
section
variable {w wx wy : World} {l : List (Scene × Value)} {v u : Value} {P Q : List (Nat × Array Value × TypeId)} {ps : List Para}
theorem RnX.of (h : RnN w l v P wx) (hb : Below wx.heap.size wx wy) (ho : Own paraR wy wx.heap.size wx.heap.size 78 ps u) : RnX w l v P ps u wy :=
  ⟨h.below hb, Own.less (enc := Para.cells) (hn := fun _ => rfl) ho h.bo.size, fun g hg => by
    have h1 := ho.block g hg
    refine ⟨fun e => by have := (h.bo.own.block g e).2; omega, fun p hp => by have := h.bo.plt hp; omega, fun y hy e => ?_⟩
    obtain ⟨i, hi⟩ := List.mem_iff_getElem?.1 hy
    have := ((h.row i y hi).1.block g e).2
    omega⟩
theorem RnX.alloc (h : RnX w l v P ps u wx) (o : Obj) : RnX w l v P ps u (wx.alloc o) := ⟨h.ns.alloc o, h.row.alloc o, h.apt⟩
theorem RnX.less (h : RnX w l v P ps u wx) (hq : ∀ p ∈ Q, p ∈ P) : RnX w l v Q ps u wx := ⟨h.ns.less hq, h.row, fun g hg => ⟨(h.apt g hg).1, fun p hp => (h.apt g hg).2.1 p (hq p hp), (h.apt g hg).2.2⟩⟩
theorem RnX.set {b i : Nat} {cs : Array Value} {T : TypeId} (h : RnX w l v ((b, cs, T) :: P) ps u wx) (z : Value) (hd : ∀ p ∈ P, p.1 ≠ b) : RnX w l v ((b, cs.setIfInBounds i z, T) :: P) ps u (wx.setCell ⟨b, i, none⟩ z) := by
  refine ⟨h.ns.set z hd, h.row.keepF (enc := Para.cells) (hn := fun _ => rfl) (fun g hg => Below.heap_setCell wx ⟨b, i, none⟩ z g (fun e => (h.apt g hg).2.1 (b, cs, T) (by simp) e.symm)) (by simp [World.setCell]), fun g hg => ⟨(h.apt g hg).1, fun p hp => ?_, (h.apt g hg).2.2⟩⟩
  rcases List.mem_cons.1 hp with rfl | hp
  · exact (h.apt g hg).2.1 (b, cs, T) (by simp)
  · exact (h.apt g hg).2.1 p (by simp [hp])
/-- The row goes into a scene behind the others. -/
theorem RnX.push {x' : Scene × Value} {v' : Value} {g : Nat} (h : RnX w l v P ps u wx) (hp : x'.1.paras = ps) (hu : x'.2 = u) (hown : Own svR wy w.heap.size w.heap.size 71 (l ++ [x']) v') (hg : wx.grownBy wy v.ownBlock) (hv : v'.ownBlock = some g) (hat : v.ownBlock = some g ∨ g = wx.heap.size) : RnN w (l ++ [x']) v' P wy := by
  have hlast : ∀ (i : Nat) x, (l ++ [x'])[i]? = some x → (i < l.length ∧ l[i]? = some x) ∨ (i = l.length ∧ x = x') := fun i x hx => by
    by_cases hil : i < l.length
    · rw [List.getElem?_append_left hil] at hx; exact .inl ⟨hil, hx⟩
    · have hlt := (List.getElem?_eq_some_iff.1 hx).1
      simp at hlt
      have : i = l.length := by omega
      subst this
      rw [List.getElem?_append_right (Nat.le_refl _)] at hx
      simp at hx
      exact .inr ⟨rfl, hx.symm⟩
  have hrow : ∀ {ps : List Para} {u : Value}, Own paraR wx w.heap.size w.heap.size 78 ps u → (∀ k, u.ownBlock = some k → v.ownBlock ≠ some k) → Own paraR wy w.heap.size w.heap.size 78 ps u ∧ ∀ k, u.ownBlock = some k → v'.ownBlock ≠ some k := fun ho hne =>
    ⟨ho.keepF (enc := Para.cells) (hn := fun _ => rfl) (fun k hk => hg.block k (ho.block k hk).2 (fun e => hne k hk e.symm)) hg.size, fun k hk e => by
      rw [hv] at e
      injection e with e
      rcases hat with hat | hat
      · exact hne k hk (by rw [hat, e])
      · have := (ho.block k hk).2; omega⟩
  refine ⟨h.ns.bo.more hown hg hv hat, fun i x hx => ?_, fun i j x y hx hy hij => ?_⟩
  · rcases hlast i x hx with ⟨hil, hx⟩ | ⟨_, rfl⟩
    · have hr := h.ns.row i x hx
      obtain ⟨a, b⟩ := hrow hr.1 (fun k hk => (hr.2 k hk).1)
      exact ⟨a, fun k hk => ⟨b k hk, (hr.2 k hk).2⟩⟩
    · obtain ⟨a, b⟩ := hrow h.row (fun k hk => (h.apt k hk).1)
      rw [← hp, ← hu] at a
      exact ⟨a, fun k hk => by
        have hk2 : u.ownBlock = some k := by rw [← hu]; exact hk
        exact ⟨b k hk2, (h.apt k hk2).2.1⟩⟩
  · rcases hlast i x hx with ⟨hil, hx2⟩ | ⟨hi2, rfl⟩
    · rcases hlast j y hy with ⟨hjl, hy2⟩ | ⟨_, rfl⟩
      · exact h.ns.dis i j x y hx2 hy2 hij
      · show Dis x.2 y.2
        rw [hu]
        exact fun k h1 h2 => (h.apt k h2).2.2 x (List.mem_of_getElem? hx2) h1
    · rcases hlast j y hy with ⟨hjl, hy2⟩ | ⟨hj2, rfl⟩
      · show Dis x.2 y.2
        rw [hu]
        exact fun k h1 h2 => (h.apt k h1).2.2 y (List.mem_of_getElem? hy2) h2
      · omega
/-- A store into a paragraph of scene k. -/
theorem RnN.poke {g0 M cap k g m c i j : Nat} (h : RnN w l (.slice (some ⟨g0, 0, none⟩) M cap) P wx) (hk : k < l.length) (hr : l[k].2 = .slice (some ⟨g, 0, none⟩) m c) (hi : i < l[k].1.paras.length) (f : Para → Para) (z : Value) (hf : ∀ p, (f p).cells = p.cells.set j z) (hj : j < 2) :
    RnN w (l.modify k (fun y => ({ y.1 with paras := y.1.paras.modify i f }, y.2))) (.slice (some ⟨g0, 0, none⟩) M cap) P (wx.setCell ⟨g, i * 2 + j, none⟩ z) := by
  have hrk := h.row k l[k] (List.getElem?_eq_getElem hk)
  have hgk : (l[k].2).ownBlock = some g := by rw [hr]; rfl
  have hne := hrk.2 g hgk
  have hg0 : g0 ≠ g := fun e => hne.1 (by rw [e]; rfl)
  have hmod : ∀ (q : Nat) x, (l.modify k (fun y => (({ y.1 with paras := y.1.paras.modify i f } : Scene), y.2)))[q]? = some x → (q = k ∧ x = ({ l[k].1 with paras := l[k].1.paras.modify i f }, l[k].2)) ∨ (q ≠ k ∧ l[q]? = some x) := fun q x hx => by
    rw [List.getElem?_modify] at hx
    by_cases e : k = q
    · subst e
      rw [List.getElem?_eq_getElem hk] at hx
      simp at hx
      exact .inl ⟨rfl, hx.symm⟩
    · refine .inr ⟨fun e2 => e e2.symm, ?_⟩
      rw [← hx]
      cases l[q]? <;> simp [e]
  have hz := (hrk.1.block g hgk)
  have hbo : BO svR 71 w (l.modify k (fun y => ({ y.1 with paras := y.1.paras.modify i f }, y.2))) (.slice (some ⟨g0, 0, none⟩) M cap) P (wx.setCell ⟨g, i * 2 + j, none⟩ z) := by
    refine ⟨belSet h.bo.bel hz.1 z, ?_, fun p hp => ?_⟩
    · refine Own.encs (enc := fun x : Scene × Value => x.1.cells x.2) (hn := fun _ => rfl) (h.bo.own.keepF (fun q hq => Below.heap_setCell wx ⟨g, i * 2 + j, none⟩ z q (fun e => hg0 (by injection hq with hq; exact hq.trans e))) (by simp [World.setCell])) (List.length_modify ..) fun q x x' hx hx' => ?_
      rcases hmod q x' hx' with ⟨rfl, rfl⟩ | ⟨hq, hx2⟩
      · rw [List.getElem?_eq_getElem hk] at hx
        obtain rfl : l[q] = x := by simpa using hx
        rfl
      · rw [hx] at hx2
        injection hx2 with hx2
        rw [hx2]
    · obtain ⟨k1, k2, k3⟩ := h.bo.prv p hp
      exact ⟨(Below.heap_setCell wx ⟨g, i * 2 + j, none⟩ z p.1 (fun e => hne.2 p hp e)).trans k1, k2, k3⟩
  refine ⟨hbo, fun q x hx => ?_, fun q q2 x y hx hy hij => ?_⟩
  · rcases hmod q x hx with ⟨rfl, rfl⟩ | ⟨hq, hx⟩
    · refine ⟨?_, hrk.2⟩
      have h1 : Own paraR wx w.heap.size w.heap.size 78 l[q].1.paras l[q].2 := hrk.1
      show Own paraR _ w.heap.size w.heap.size 78 (l[q].1.paras.modify i f) l[q].2
      rw [hr] at h1 ⊢
      exact Own.modify (enc := Para.cells) (hn := fun _ => rfl) h1 f i j z hf hj hi
    · have hrq := h.row q x hx
      have hd := h.dis q k x l[k] hx (List.getElem?_eq_getElem hk) hq
      exact ⟨hrq.1.keepF (enc := Para.cells) (hn := fun _ => rfl) (fun b hb => Below.heap_setCell wx ⟨g, i * 2 + j, none⟩ z b (fun e => hd b hb (by rw [hgk]; exact congrArg some e.symm))) (by simp [World.setCell]), hrq.2⟩
  · have key : ∀ (q : Nat) x, (l.modify k (fun y => (({ y.1 with paras := y.1.paras.modify i f } : Scene), y.2)))[q]? = some x → ∃ x0, l[q]? = some x0 ∧ x0.2 = x.2 := fun q x hx => by
      rcases hmod q x hx with ⟨rfl, rfl⟩ | ⟨_, hx⟩
      · exact ⟨l[q], List.getElem?_eq_getElem hk, rfl⟩
      · exact ⟨x, hx, rfl⟩
    obtain ⟨x0, hx0, ex⟩ := key q x hx
    obtain ⟨y0, hy0, ey⟩ := key q2 y hy
    have hd : Dis x0.2 y0.2 := h.dis q q2 x0 y0 hx0 hy0 hij
    show Dis x.2 y.2
    rw [← ex, ← ey]
    exact hd
end
end Go.Proofs.YtkhegeobdcemkaaGreatDoor

/- A copy of a script, its rows told apart. -/
namespace Go.Proofs.YtkhegeobdcemkaaGreatDoor
set_option linter.unusedVariables false
open Go.RowKit Go.Sort

def CopN (t : ByteArray) (l : List (Scene × Value)) (w : World) (e : Ending) (w' : World) : Prop := ∃ (l' : List (Scene × Value)) (v' : Value), e = .returned (.agg (xCs t v')) ∧ l'.map (·.1) = l.map (·.1) ∧ RnN w l' v' [] w'
set_option maxRecDepth 100000 in
set_option maxHeartbeats 4000000 in
theorem copiedN_c {F : Nat → Prop} (t : ByteArray) (l : List (Scene × Value)) (v : Value) (w : World) (h : Sc2 w F l v) (hl : l.length ≤ 1000) (hp : ∀ y ∈ l, y.1.paras.length ≤ 1000000) :
    Calls Tryz.prog 57 #[.agg #[.string t, v]] w (CopN t l w) := by
  obtain ⟨A, c, rfl, hc1, hc2⟩ := h.sli.form
  have HT := Lib.hid h
  have HO := Lib.hid (sli_forms h.par)
  have HPL := Lib.hid hp
  obtain ⟨L, hL⟩ : ∃ L, l.length = L := ⟨_, rfl⟩
  have HL := Lib.hid hL
  rw [hL] at hc1 hl ⊢
  obtain ⟨i0, hi0, hz0, hz1, hz2⟩ := info_parts (show (Tryz.prog.info? 71).map (fun i => (i.zero, i.size, i.bytes)) = some (some (.agg #[.string ⟨#[]⟩, .int .i64 0, .string ⟨#[]⟩, .int .i64 0, .slice none 0 0]), 5, 72) by kernel_rfl)
  clear hL h hp
  go_enter Tryz.func57, Tryz.ntmps57
  go_upto_region 2 with (fail)
  have hG : RnN w [] (.slice none 0 0) [(w.heap.size + 2, xCs t (.slice none 0 0), 28), (w.heap.size + 1, xCs ⟨#[]⟩ (.slice none 0 0), 28), (w.heap.size, xCs t (.slice A L c), 28)]
      (((w.alloc (.cells (xCs t (.slice A L c)) 28)).alloc (.cells (xCs ⟨#[]⟩ (.slice none 0 0)) 28)).alloc (.cells (xCs t (.slice none 0 0)) 28)) := by
    have h := (((NS.start w : RnN w [] (.slice none 0 0) [] w).new (xCs t (.slice A L c)) 28).new (xCs ⟨#[]⟩ (.slice none 0 0)) 28).new (xCs t (.slice none 0 0)) 28
    rw [show ((w.alloc (.cells (xCs t (.slice A L c)) 28)).alloc (.cells (xCs ⟨#[]⟩ (.slice none 0 0)) 28)).heap.size = w.heap.size + 2 by simp, show (w.alloc (.cells (xCs t (.slice A L c)) 28)).heap.size = w.heap.size + 1 by simp] at h
    exact h
  generalize hW : ((w.alloc (.cells #[.string t, .slice A L c] 28)).alloc (.cells #[.string ⟨#[]⟩, .slice none 0 0] 28)).alloc (.cells #[.string t, .slice none 0 0] 28) = w1
  have G1 := Lib.hid (show RnN w [] (.slice none 0 0) [(w.heap.size + 2, xCs t (.slice none 0 0), 28), (w.heap.size + 1, xCs ⟨#[]⟩ (.slice none 0 0), 28), (w.heap.size, xCs t (.slice A L c), 28)] w1 by rw [← hW]; exact hG)
  clear hG hW
  have d1 : w1.cell? ⟨w.heap.size, 1, none⟩ = some (.slice A L c) := (G1.out.cell (p := (w.heap.size, xCs t (.slice A L c), 28)) (by simp)).1 1
  have hX0 : w.heap.size + 2 < w1.heap.size := G1.out.bo.plt (p := (w.heap.size + 2, xCs t (.slice none 0 0), 28)) (by simp)
  go_wp2
  go_loopw [12] (fun i wr => ∃ (k : Nat) (lk : List (Scene × Value)) (vk : Value), k ≤ L ∧ i = .int .i64 k ∧ Hid (lk.length = k ∧ lk.map (·.1) = (l.take k).map (·.1)) ∧ Hid (RnN w lk vk [(w.heap.size + 2, xCs t vk, 28), (w.heap.size + 1, xCs ⟨#[]⟩ (.slice none 0 0), 28)] wr)) (fun i _ => L - (intOf i).toNat)
  case atStart => exact ⟨0, [], .slice none 0 0, Nat.zero_le _, rfl, ⟨rfl, rfl⟩, G1.out.less (by simp)⟩
  case round =>
    clear G1 d1 hX0
    obtain ⟨k, lk, vk, hk, rfl, HK, HG⟩ := hrel
    by_cases hlt : k < L
    · have hk2 : k < l.length := by rw [HL.out]; exact hlt
      have hS := HT.out.below HG.out.bo.bel
      obtain ⟨b, off, rfl, hfb, a0, a1, a2, a3, a4⟩ := scAt hS.sli k hk2
      have hltb : b < wr.heap.size := hS.lt b hfb
      obtain ⟨A4, n4, c4, h4⟩ := HO.out _ (List.getElem_mem hk2)
      have hpk := hS.par _ (List.getElem_mem hk2)
      have hpl := HPL.out _ (List.getElem_mem hk2)
      have htk := List.take_succ_eq_append_getElem hk2
      have HSN := Lib.hid (show (l.take (k + 1)).map (·.1) = (l.take k).map (·.1) ++ [(l[k]).1] by rw [htk, List.map_append]; rfl)
      rw [h4] at a4 hpk
      clear h4 htk
      have hpX : w.heap.size + 2 < wr.heap.size := HG.out.bo.plt (p := (w.heap.size + 2, xCs t vk, 28)) (by simp)
      have HB1 := Lib.hid (HG.out.new #[.string (l[k]).1.no, .int .i64 (l[k]).1.place, .string (l[k]).1.set, .int .i64 (l[k]).1.time, .slice A4 n4 c4] 71)
      have hpk5 := hpk.alloc (.cells #[.string (l[k]).1.no, .int .i64 (l[k]).1.place, .string (l[k]).1.set, .int .i64 (l[k]).1.time, .slice A4 n4 c4] 71) (fun q hq => hS.lt q hq)
      generalize (l[k]).1 = x at *
      clear hk2
      go_upto_region 5 with (fail)
      generalize hW : wr.alloc (.cells #[.string x.no, .int .i64 x.place, .string x.set, .int .i64 x.time, .slice A4 n4 c4] 71) = w5 at *
      have d4 : w5.cell? ⟨wr.heap.size, 4, none⟩ = some (.slice A4 n4 c4) := (HB1.out.cell (p := (wr.heap.size, #[.string x.no, .int .i64 x.place, .string x.set, .int .i64 x.time, .slice A4 n4 c4], 71)) (by simp)).1 4
      have HCL := Lib.hid (clonePara_c x.paras (.slice A4 n4 c4) w5 hpk5 hpl)
      have hw5 : wr.heap.size < w5.heap.size := HB1.out.bo.plt (p := (wr.heap.size, #[.string x.no, .int .i64 x.place, .string x.set, .int .i64 x.time, .slice A4 n4 c4], 71)) (by simp)
      clear hW a0 a1 a2 a3 a4 hS hpk hpk5 HG
      go_wp2_with fail
      refine HCL.out.mono ?_
      rintro e w6 ⟨vn, rfl, hown6, hb6⟩
      have hz6 := hb6.size
      have hX6 := RnX.of HB1.out hb6 hown6
      have f4 : w6.frozen? ⟨wr.heap.size, 4, none⟩ = false := (hX6.ns.cell (p := (wr.heap.size, #[.string x.no, .int .i64 x.place, .string x.set, .int .i64 x.time, .slice A4 n4 c4], 71)) (by simp)).2 4
      have e4 : w6.cell? ⟨wr.heap.size, 4, none⟩ = some (.slice A4 n4 c4) := (hX6.ns.cell (p := (wr.heap.size, #[.string x.no, .int .i64 x.place, .string x.set, .int .i64 x.time, .slice A4 n4 c4], 71)) (by simp)).1 4
      have hdX : ∀ p ∈ [(w.heap.size + 2, xCs t vk, 28), (w.heap.size + 1, xCs ⟨#[]⟩ (.slice none 0 0), 28)], p.1 ≠ wr.heap.size := fun p hp => by
        simp only [List.mem_cons, List.not_mem_nil, or_false] at hp
        rcases hp with rfl | rfl <;> (dsimp only; omega)
      have HB7 := Lib.hid (hX6.set (i := 4) vn hdX)
      obtain ⟨A6, c6, hv6, _, _⟩ := (hown6.sliF (enc := Para.cells) (hn := fun _ => rfl) (F := fun _ => True) (fun _ _ => trivial)).form
      subst hv6
      clear hX6 hdX hown6 hb6 HCL HB1 d4
      go_upto_region 6 with (fail)
      clear e4 f4
      generalize w6.setCell ⟨wr.heap.size, 4, none⟩ (.slice A6 x.paras.length c6) = w7 at *
      have HB7 := Lib.hid (show RnX w lk vk [(wr.heap.size, #[.string x.no, .int .i64 x.place, .string x.set, .int .i64 x.time, .slice A6 x.paras.length c6], 71), (w.heap.size + 2, xCs t vk, 28), (w.heap.size + 1, xCs ⟨#[]⟩ (.slice none 0 0), 28)] x.paras (.slice A6 x.paras.length c6) w7 from HB7.out)
      obtain ⟨gs, _⟩ := HB7.out.ns.cell (p := (wr.heap.size, #[.string x.no, .int .i64 x.place, .string x.set, .int .i64 x.time, .slice A6 x.paras.length c6], 71)) (by simp)
      have s0 : w7.cell? ⟨wr.heap.size, 0, none⟩ = some (.string x.no) := gs 0
      have s1 : w7.cell? ⟨wr.heap.size, 1, none⟩ = some (.int .i64 x.place) := gs 1
      have s2 : w7.cell? ⟨wr.heap.size, 2, none⟩ = some (.string x.set) := gs 2
      have s3 : w7.cell? ⟨wr.heap.size, 3, none⟩ = some (.int .i64 x.time) := gs 3
      have s4 : w7.cell? ⟨wr.heap.size, 4, none⟩ = some (.slice A6 x.paras.length c6) := gs 4
      have x1 : w7.cell? ⟨w.heap.size + 2, 1, none⟩ = some vk := (HB7.out.ns.cell (p := (w.heap.size + 2, xCs t vk, 28)) (by simp)).1 1
      have HLK := Lib.hid HK.out.1
      have hz7 := HB7.out.ns.bo.size
      clear gs
      go_wp2_with (at_builtin; (refine wpList_pushB (R := svR) rfl _ _ _ rfl w.heap.size w.heap.size 71 i0 _ 72 Tryz.underlying26 hi0 hz0 hz1 hz2 rfl (by decide) _ vk lk rfl (HB7.out.ns.bo.own.alloc _) ((x, .slice A6 x.paras.length c6) : Scene × Value) _ rfl (oneC rfl) w7.heap.size _ _ (heap_alloc_new w7 _) rfl (by rw [HLK.out]; simp [maxLen]; omega) (by rw [HLK.out]; omega) (by simp; omega) ?_); rw [HLK.out]; intro g cap w8 hown8 hg8 hat8 hlt8; have G8 := RnX.push (x' := (x, .slice A6 x.paras.length c6)) (HB7.out.alloc (.cells #[.string x.no, .int .i64 x.place, .string x.set, .int .i64 x.time, .slice A6 x.paras.length c6] 71)) rfl rfl hown8 hg8 rfl hat8; have x8 : w8.cell? ⟨w.heap.size + 2, 1, none⟩ = some vk := (G8.cell (p := (w.heap.size + 2, xCs t vk, 28)) (by simp)).1 1; have f8 : w8.frozen? ⟨w.heap.size + 2, 1, none⟩ = false := (G8.cell (p := (w.heap.size + 2, xCs t vk, 28)) (by simp)).2 1)
      go_roundw
      case rel => exact ⟨k + 1, lk ++ [(x, .slice A6 x.paras.length c6)], _, by omega, intNum, ⟨by rw [List.length_append, HK.out.1]; rfl, by rw [HSN.out, List.map_append, HK.out.2]; rfl⟩, Lib.hid ((G8.less (Q := [(w.heap.size + 2, xCs t vk, 28), (w.heap.size + 1, xCs ⟨#[]⟩ (.slice none 0 0), 28)]) (by simp)).set (i := 1) _ (by simp))⟩
      case measure => simp [intOf]; omega
    · obtain ⟨gx, _⟩ := HG.out.cell (p := (w.heap.size + 2, xCs t vk, 28)) (by simp)
      obtain ⟨gy, fy⟩ := HG.out.cell (p := (w.heap.size + 1, xCs ⟨#[]⟩ (.slice none 0 0), 28)) (by simp)
      have x0 : wr.cell? ⟨w.heap.size + 2, 0, none⟩ = some (.string t) := gx 0
      have x1 : wr.cell? ⟨w.heap.size + 2, 1, none⟩ = some vk := gx 1
      have y0 : wr.cell? ⟨w.heap.size + 1, 0, none⟩ = some (.string ⟨#[]⟩) := gy 0
      have y1 : wr.cell? ⟨w.heap.size + 1, 1, none⟩ = some (.slice none 0 0) := gy 1
      have f0 : wr.frozen? ⟨w.heap.size + 1, 0, none⟩ = false := fy 0
      have f1 : wr.frozen? ⟨w.heap.size + 1, 1, none⟩ = false := fy 1
      have HF := Lib.hid (((HG.out.less (Q := [(w.heap.size + 1, xCs ⟨#[]⟩ (.slice none 0 0), 28)]) (by simp)).set (i := 0) (.string t) (by simp)).set (i := 1) vk (by simp))
      have hlk := HK.out
      rw [List.take_of_length_le (by rw [HL.out]; omega)] at hlk
      have HKK := Lib.hid hlk
      have hv := (HG.out.bo.own.sliF (enc := fun x : Scene × Value => x.1.cells x.2) (hn := fun _ => rfl) (F := fun _ => True) (fun _ _ => trivial)).form
      obtain ⟨A6, c6, hv6, _, _⟩ := hv
      subst hv6
      clear gx gy fy HG HK hlk
      go_wp2
      refine ⟨rfl, .agg (xCs t (.slice A6 lk.length c6)), (by rw [results_cell1 rfl]; go_simp; rfl), ?_⟩
      exact ⟨lk, _, rfl, HKK.out.2, HF.out.less (by simp)⟩
end Go.Proofs.YtkhegeobdcemkaaGreatDoor

/- The part of one who speaks, in plain words. No program in sight. -/
namespace Go.Proofs.YtkhegeobdcemkaaGreatDoor
set_option linter.unusedVariables false
open Go.RowKit

def cueB (nm : ByteArray) (p : Para) : Bool := decide (p.kind = 2) && decide (p.text = nm)
def hcB (ps : List Para) (nm : ByteArray) : Bool := ps.any (cueB nm)
/-- What the group's name says of its first paragraph. -/
theorem GOk.nm {ps : List Para} {g : Grp} (h : GOk ps g) {p : Para} (hp : ps[g.1]? = some p) (nm : ByteArray) (hn : ¬ nm = ⟨#[]⟩) : decide (g.2.2 = nm) = cueB nm p := by
  unfold cueB
  by_cases h2 : p.kind = 2
  · rw [h.cue p hp h2, decide_eq_true h2]; rfl
  · rw [(h.no p hp h2).1, decide_eq_false h2, decide_eq_false (fun e => hn e.symm)]; rfl
end Go.Proofs.YtkhegeobdcemkaaGreatDoor

/- Another name for one who speaks, in plain words. No program in sight. -/
namespace Go.Proofs.YtkhegeobdcemkaaGreatDoor
set_option linter.unusedVariables false
open Go.RowKit

def inAt (s : List UInt8) (k : Nat) : Bool := match s[k]? with
  | some c => inWB c
  | none => false
/-- Whether a name stands by itself at a place. -/
def aloneB (s fr : List UInt8) (i : Nat) : Bool := decide ((s.drop i).take fr.length = fr) && !(decide (0 < i) && inAt s (i - 1)) && !inAt s (i + fr.length)
def repK (s fr tn : List UInt8) (i : Nat) : List UInt8 :=
  if h : i < s.length then (if aloneB s fr i = true then tn ++ repK s fr tn (i + max 1 fr.length) else s[i] :: repK s fr tn (i + 1)) else []
termination_by s.length - i
def repS (s fr tn : ByteArray) : ByteArray := ⟨(repK s.data.toList fr.data.toList tn.data.toList 0).toArray⟩
theorem repK_end {s fr tn : List UInt8} {i : Nat} (h : ¬ i < s.length) : repK s fr tn i = [] := by rw [repK, dif_neg h]
theorem repK_yes {s fr tn : List UInt8} {i : Nat} (h : i < s.length) (ha : aloneB s fr i = true) (h0 : 0 < fr.length) : repK s fr tn i = tn ++ repK s fr tn (i + fr.length) := by
  rw [repK, dif_pos h, if_pos ha, show max 1 fr.length = fr.length by omega]
theorem repK_no {s fr tn : List UInt8} {i : Nat} (h : i < s.length) (ha : aloneB s fr i = false) : repK s fr tn i = s[i] :: repK s fr tn (i + 1) := by
  rw [repK, dif_pos h, if_neg (by rw [ha]; decide)]
theorem aloneB_len {s fr : List UInt8} {i : Nat} (h : aloneB s fr i = true) (hi : i ≤ s.length) : i + fr.length ≤ s.length := by
  unfold aloneB at h
  simp only [Bool.and_eq_true, decide_eq_true_eq] at h
  have := congrArg List.length h.1.1
  rw [List.length_take, List.length_drop] at this
  omega
theorem repK_len (s fr tn : List UInt8) : ∀ (n i : Nat), s.length - i ≤ n → (repK s fr tn i).length ≤ n * (1 + tn.length)
  | 0, i, h => by rw [repK_end (by omega)]; simp
  | n + 1, i, h => by
    rw [Nat.add_mul, Nat.one_mul]
    by_cases hi : i < s.length
    · rw [repK, dif_pos hi]
      split
      · have := repK_len s fr tn n (i + max 1 fr.length) (by omega)
        rw [List.length_append]
        omega
      · have := repK_len s fr tn n (i + 1) (by omega)
        rw [List.length_cons]
        omega
    · rw [repK_end hi]; simp
theorem repS_sz (s fr tn : ByteArray) : (repS s fr tn).size ≤ s.size * (1 + tn.size) := by
  have h := repK_len s.data.toList fr.data.toList tn.data.toList s.size 0 (by simp)
  show (repK s.data.toList fr.data.toList tn.data.toList 0).toArray.size ≤ _
  rw [List.size_toArray]
  exact h
/-- Where a walk through a text stands. -/
def RepI (s fr tn : ByteArray) (i : Nat) (acc : List UInt8) : Prop := acc ++ repK s.data.toList fr.data.toList tn.data.toList i = (repS s fr tn).data.toList ∧ i ≤ s.size ∧ acc.length ≤ i * (1 + tn.size)
theorem RepI.start (s fr tn : ByteArray) : RepI s fr tn 0 [] := ⟨by simp [repS], Nat.zero_le _, by simp⟩
theorem RepI.yes {s fr tn : ByteArray} {i : Nat} {acc : List UInt8} (h : RepI s fr tn i acc) (hi : i < s.size) (ha : aloneB s.data.toList fr.data.toList i = true) (h0 : 0 < fr.size) : RepI s fr tn (i + fr.size) (acc ++ tn.data.toList) := by
  have hl := aloneB_len ha (by simpa using Nat.le_of_lt hi)
  have hl2 : i + fr.size ≤ s.size := by simpa using hl
  refine ⟨?_, hl2, ?_⟩
  · have h1 := h.1
    rw [repK_yes (by simpa using hi) ha (by simpa using h0)] at h1
    rw [List.append_assoc]
    simpa using h1
  · have := h.2.2
    rw [List.length_append, Nat.add_mul]
    have h3 : tn.data.toList.length = tn.size := by simp
    have h4 : 1 * (1 + tn.size) ≤ fr.size * (1 + tn.size) := Nat.mul_le_mul_right _ h0
    omega
theorem RepI.no {s fr tn : ByteArray} {i : Nat} {acc : List UInt8} (h : RepI s fr tn i acc) (hi : i < s.size) (ha : aloneB s.data.toList fr.data.toList i = false) : RepI s fr tn (i + 1) (acc ++ [s[i]]) := by
  refine ⟨?_, hi, ?_⟩
  · have h1 := h.1
    rw [repK_no (by simpa using hi) ha] at h1
    rw [List.append_assoc]
    exact h1
  · have := h.2.2
    rw [List.length_append, Nat.add_mul]
    simp
    omega
theorem RepI.done {s fr tn : ByteArray} {i : Nat} {acc : List UInt8} (h : RepI s fr tn i acc) (hi : ¬ i < s.size) : repS s fr tn = ⟨acc.toArray⟩ := by
  have h1 := h.1
  rw [repK_end (by simpa using hi), List.append_nil] at h1
  rw [h1]
/-- A paragraph in which somebody bears another name. -/
def renP (fr tn : ByteArray) (p : Para) : Para := if p.kind = 2 then (if p.text = fr then ⟨p.kind, tn⟩ else p) else ⟨p.kind, repS p.text fr tn⟩
theorem renP_kind (fr tn : ByteArray) (p : Para) : (renP fr tn p).kind = p.kind := by unfold renP; split <;> (try split) <;> rfl
def difP (fr tn : ByteArray) (p : Para) : Bool := !decide ((renP fr tn p).text = p.text)
def lrgP (p : Para) : Bool := decide (2000 < p.text.size) || (decide (p.kind = 3) && decide (200 < p.text.size))
def frmP (p : Para) : Bool := decide (p.kind = 5) && !turnB p.text
def manyL (fr tn : ByteArray) (l : List Para) : Int := ((l.filter (difP fr tn)).length : Int)
def lrgL (fr tn : ByteArray) (l : List Para) : Bool := l.any fun p => lrgP (renP fr tn p)
def frmL (fr tn : ByteArray) (l : List Para) : Bool := l.any fun p => frmP (renP fr tn p)
theorem manyL_snoc (fr tn : ByteArray) (l : List Para) (p : Para) : manyL fr tn (l ++ [p]) = manyL fr tn l + (if difP fr tn p then 1 else 0) := by
  unfold manyL
  rw [List.filter_append]
  cases h : difP fr tn p <;> simp [h]
theorem manyL_bd (fr tn : ByteArray) (l : List Para) : 0 ≤ manyL fr tn l ∧ manyL fr tn l ≤ l.length := by
  unfold manyL
  have := List.length_filter_le (difP fr tn) l
  omega
theorem lrgL_snoc (fr tn : ByteArray) (l : List Para) (p : Para) : lrgL fr tn (l ++ [p]) = (lrgL fr tn l || lrgP (renP fr tn p)) := by simp [lrgL]
theorem frmL_snoc (fr tn : ByteArray) (l : List Para) (p : Para) : frmL fr tn (l ++ [p]) = (frmL fr tn l || frmP (renP fr tn p)) := by simp [frmL]
def renX (fr tn : ByteArray) (x : Scene) : Scene := { x with paras := x.paras.map (renP fr tn) }
/-- The paragraphs up tn a scene and a paragraph of it. -/
def seenP (xs : List Scene) (k : Nat) : List Para := (xs.take k).flatMap (·.paras)
def seenQ (xs : List Scene) (k : Nat) (ps : List Para) (j : Nat) : List Para := seenP xs k ++ ps.take j
theorem seenP_next {xs : List Scene} {k : Nat} (h : k < xs.length) : seenP xs (k + 1) = seenQ xs k xs[k].paras xs[k].paras.length := by
  unfold seenQ seenP
  rw [List.take_succ_eq_append_getElem h, List.flatMap_append, List.take_length]
  simp
theorem seenQ_zero (xs : List Scene) (k : Nat) (ps : List Para) : seenQ xs k ps 0 = seenP xs k := by unfold seenQ; simp
theorem seenQ_next {xs : List Scene} {k : Nat} {ps : List Para} {j : Nat} (h : j < ps.length) : seenQ xs k ps (j + 1) = seenQ xs k ps j ++ [ps[j]] := by
  unfold seenQ
  rw [List.take_succ_eq_append_getElem h, List.append_assoc]
theorem seenP_len (xs : List Scene) {n : Nat} (h : ∀ x ∈ xs, x.paras.length ≤ n) : ∀ k, (seenP xs k).length ≤ k * n
  | 0 => by simp [seenP]
  | k + 1 => by
    have ih := seenP_len xs h k
    rw [Nat.add_mul, Nat.one_mul]
    by_cases hk : k < xs.length
    · rw [seenP_next hk]
      unfold seenQ
      rw [List.length_append, List.take_length]
      have := h _ (List.getElem_mem hk)
      omega
    · unfold seenP at ih ⊢
      rw [List.take_of_length_le (by omega)] at ih ⊢
      omega
/-- Whether somebody has the name. -/
def hasB (xs : List Scene) (nm : ByteArray) : Bool := xs.any fun x => hcB x.paras nm
def spkB (l : List Rx) (nm : ByteArray) : Bool := l.any fun r => decide (r.nm = nm)
theorem spk_nm (l : List Rx) (nm : ByteArray) : spkB l nm = (nmX l).any fun s => decide (s = nm) := by unfold spkB nmX; rw [List.any_map]; rfl
theorem spk_mod (l : List Rx) (nm : ByteArray) (n : Nat) (f : Rx → Rx) (hf : ∀ r, (f r).nm = r.nm) : spkB (l.modify n f) nm = spkB l nm := by rw [spk_nm, spk_nm, nmX_modify hf]
theorem spk_par (i : Int) (st : Cst) (p : Para) (nm : ByteArray) : spkB (parS i st p).out nm = (spkB st.out nm || cueB nm p) := by
  unfold parS cueB
  by_cases h2 : p.kind = 2
  · rw [if_pos h2, decide_eq_true h2, Bool.true_and]
    unfold cueS
    cases hp : posX st.out p.text with
    | some n =>
      obtain ⟨hn, he⟩ := posX_some hp
      dsimp only
      rw [spk_mod _ _ _ (cueU i) (fun _ => rfl)]
      by_cases e : p.text = nm
      · rw [decide_eq_true e, Bool.or_true]
        unfold spkB
        exact List.any_eq_true.2 ⟨st.out[n], List.getElem_mem hn, decide_eq_true (he.trans e)⟩
      · rw [decide_eq_false e, Bool.or_false]
    | none =>
      dsimp only
      unfold spkB
      rw [List.any_append]
      simp
  · rw [if_neg h2, decide_eq_false h2, Bool.false_and, Bool.or_false]
    split
    · exact spk_mod _ _ _ (wdU p.text) (fun _ => rfl)
    · rfl
theorem spk_parN (i : Int) (out : List Rx) (ps : List Para) (nm : ByteArray) : ∀ j, j ≤ ps.length → spkB (parN i out ps j).out nm = (spkB out nm || (ps.take j).any (cueB nm))
  | 0, _ => by simp [parN]
  | j + 1, hj => by
    have hj2 : j < ps.length := hj
    rw [parN_next hj2, spk_par, spk_parN i out ps nm j (by omega), List.take_succ_eq_append_getElem hj2, List.any_append, Bool.or_assoc]
    simp
theorem spk_castN (xs : List Scene) (nm : ByteArray) : ∀ k, k ≤ xs.length → spkB (castN xs k) nm = (xs.take k).any fun x => hcB x.paras nm
  | 0, _ => rfl
  | k + 1, hk => by
    have hk2 : k < xs.length := hk
    rw [castN_next hk2, spk_parN _ _ _ _ _ (Nat.le_refl _), spk_castN xs nm k (by omega), List.take_succ_eq_append_getElem hk2, List.any_append, List.take_length]
    simp [hcB]
theorem spk_cast (xs : List Scene) (nm : ByteArray) : spkB (castS xs) nm = hasB xs nm := by
  rw [castS, spk_castN xs nm _ (Nat.le_refl _), List.take_length]
  rfl
/-- The error of a renaming, and what it gives. -/
def renE (x : Script) (fr tn : ByteArray) : Int :=
  if ¬ chkE x = 0 then chkE x
  else if nameB fr = false ∨ nameB tn = false then 5
  else if hasB x.scenes fr = false then 8
  else if ¬ tn = fr ∧ hasB x.scenes tn = true then 6
  else if lrgL fr tn (seenP x.scenes x.scenes.length) = true then 2
  else if frmL fr tn (seenP x.scenes x.scenes.length) = true then 3
  else 0
end Go.Proofs.YtkhegeobdcemkaaGreatDoor

/- Scenes of which the first are renamed, in plain words; a copy takes the place of none. -/
namespace Go.Proofs.YtkhegeobdcemkaaGreatDoor
set_option linter.unusedVariables false
open Go.RowKit

def renJ (fr tn : ByteArray) (ps : List Para) (j : Nat) : List Para := (ps.take j).map (renP fr tn) ++ ps.drop j
theorem renJ_zero (fr tn : ByteArray) (ps : List Para) : renJ fr tn ps 0 = ps := rfl
theorem renJ_end (fr tn : ByteArray) (ps : List Para) : renJ fr tn ps ps.length = ps.map (renP fr tn) := by unfold renJ; rw [List.take_length, List.drop_length, List.append_nil]
theorem renJ_len (fr tn : ByteArray) (ps : List Para) (j : Nat) : (renJ fr tn ps j).length = ps.length := by
  unfold renJ
  rw [List.length_append, List.length_map, List.length_take, List.length_drop]
  omega
theorem renJ_at {fr tn : ByteArray} {ps : List Para} {j : Nat} (h : j < ps.length) : (renJ fr tn ps j)[j]? = some ps[j] := by
  have hl : ((ps.take j).map (renP fr tn)).length = j := by rw [List.length_map, List.length_take]; omega
  unfold renJ
  rw [List.getElem?_append_right (by omega), hl, Nat.sub_self, List.getElem?_drop, Nat.add_zero, List.getElem?_eq_getElem h]
theorem renJ_get {fr tn : ByteArray} {ps : List Para} {j : Nat} (h : j < ps.length) (h2 : j < (renJ fr tn ps j).length) : (renJ fr tn ps j)[j] = ps[j] := by
  have h3 := renJ_at (fr := fr) (tn := tn) h
  rw [List.getElem?_eq_getElem h2] at h3
  injection h3
theorem renJ_next {fr tn : ByteArray} {ps : List Para} {j : Nat} (h : j < ps.length) : (renJ fr tn ps j).modify j (fun q => ⟨q.kind, (renP fr tn ps[j]).text⟩) = renJ fr tn ps (j + 1) := by
  have hl : ((ps.take j).map (renP fr tn)).length = j := by rw [List.length_map, List.length_take]; omega
  unfold renJ
  rw [List.take_succ_eq_append_getElem h, List.map_append, List.append_assoc]
  apply List.ext_getElem?
  intro i
  rw [List.getElem?_modify]
  rcases Nat.lt_trichotomy i j with h1 | h1 | h1
  · rw [List.getElem?_append_left (by omega), List.getElem?_append_left (by omega)]
    cases ((ps.take j).map (renP fr tn))[i]? <;> simp [show ¬ j = i by omega]
  · subst h1
    rw [List.getElem?_append_right (by omega), List.getElem?_append_right (by omega), hl, Nat.sub_self, List.getElem?_drop]
    simp [List.getElem?_eq_getElem h]
    have hk := renP_kind fr tn ps[i]
    cases hx : renP fr tn ps[i] with
    | mk a b => rw [hx] at hk; dsimp only at hk ⊢; rw [hk]
  · rw [List.getElem?_append_right (by omega), List.getElem?_append_right (by omega), hl]
    obtain ⟨d, hd⟩ : ∃ d, i - j = d + 1 := ⟨i - j - 1, by omega⟩
    rw [hd, List.map_singleton, List.singleton_append, List.getElem?_cons_succ, List.getElem?_drop, List.getElem?_drop, show j + (d + 1) = j + 1 + d by omega]
    cases ps[j + 1 + d]? <;> simp [show ¬ j = i by omega]
def renK (fr tn : ByteArray) (xs : List Scene) (k : Nat) : List Scene := (xs.take k).map (renX fr tn) ++ xs.drop k
def renKJ (fr tn : ByteArray) (xs : List Scene) (k j : Nat) : List Scene := (renK fr tn xs k).modify k (fun x => { x with paras := renJ fr tn x.paras j })
theorem renK_len (fr tn : ByteArray) (xs : List Scene) (k : Nat) : (renK fr tn xs k).length = xs.length := by
  unfold renK
  rw [List.length_append, List.length_map, List.length_take, List.length_drop]
  omega
theorem renK_get {fr tn : ByteArray} {xs : List Scene} {k : Nat} (h : k < xs.length) : (renK fr tn xs k)[k]? = some xs[k] := by
  have hl : ((xs.take k).map (renX fr tn)).length = k := by rw [List.length_map, List.length_take]; omega
  unfold renK
  rw [List.getElem?_append_right (by omega), hl, Nat.sub_self, List.getElem?_drop, Nat.add_zero, List.getElem?_eq_getElem h]
theorem renK_end (fr tn : ByteArray) (xs : List Scene) : renK fr tn xs xs.length = xs.map (renX fr tn) := by unfold renK; rw [List.take_length, List.drop_length, List.append_nil]
theorem renKJ_zero (fr tn : ByteArray) (xs : List Scene) (k : Nat) : renKJ fr tn xs k 0 = renK fr tn xs k := by
  unfold renKJ
  apply List.ext_getElem?
  intro i
  rw [List.getElem?_modify]
  cases (renK fr tn xs k)[i]? with
  | none => rfl
  | some x => by_cases e : k = i <;> simp [e, renJ_zero]
theorem renKJ_get {fr tn : ByteArray} {xs : List Scene} {k j : Nat} (h : k < xs.length) : (renKJ fr tn xs k j)[k]? = some { xs[k] with paras := renJ fr tn xs[k].paras j } := by
  unfold renKJ
  rw [List.getElem?_modify, renK_get h]
  simp
theorem renKJ_next {fr tn : ByteArray} {xs : List Scene} {k j : Nat} (h : k < xs.length) (hj : j < xs[k].paras.length) : (renKJ fr tn xs k j).modify k (fun x => { x with paras := x.paras.modify j (fun q => ⟨q.kind, (renP fr tn xs[k].paras[j]).text⟩) }) = renKJ fr tn xs k (j + 1) := by
  unfold renKJ
  rw [modMod]
  apply List.ext_getElem?
  intro i
  rw [List.getElem?_modify, List.getElem?_modify]
  by_cases e : k = i
  · subst e
    rw [renK_get h]
    simp [renJ_next hj]
  · cases (renK fr tn xs k)[i]? <;> simp [e]
theorem renKJ_end {fr tn : ByteArray} {xs : List Scene} {k : Nat} (h : k < xs.length) : renKJ fr tn xs k xs[k].paras.length = renK fr tn xs (k + 1) := by
  have hl : ((xs.take k).map (renX fr tn)).length = k := by rw [List.length_map, List.length_take]; omega
  apply List.ext_getElem?
  intro i
  unfold renKJ
  rw [List.getElem?_modify]
  by_cases e : k = i
  · subst e
    rw [renK_get h]
    unfold renK
    rw [List.take_succ_eq_append_getElem h, List.map_append, List.append_assoc, List.getElem?_append_right (by omega), hl, Nat.sub_self]
    simp [renX, renJ_end]
  · unfold renK
    rw [List.take_succ_eq_append_getElem h, List.map_append, List.append_assoc]
    rcases Nat.lt_or_ge i k with h1 | h1
    · rw [List.getElem?_append_left (by omega), List.getElem?_append_left (by omega)]
      cases ((xs.take k).map (renX fr tn))[i]? <;> simp [e]
    · rw [List.getElem?_append_right (by omega), List.getElem?_append_right (by omega), hl]
      obtain ⟨d, hd⟩ : ∃ d, i - k = d + 1 := ⟨i - k - 1, by omega⟩
      rw [hd, List.map_singleton, List.singleton_append, List.getElem?_cons_succ, List.getElem?_drop, List.getElem?_drop, show k + (d + 1) = k + 1 + d by omega]
      cases xs[k + 1 + d]? <;> simp [e]
theorem map_mod1 (l : List (Scene × Value)) (k : Nat) (f : Scene → Scene) : (l.modify k (fun y => (f y.1, y.2))).map (·.1) = (l.map (·.1)).modify k f := by
  apply List.ext_getElem?
  intro i
  rw [List.getElem?_map, List.getElem?_modify, List.getElem?_modify, List.getElem?_map]
  cases l[i]? with
  | none => rfl
  | some y => by_cases e : k = i <;> simp [e]
theorem RnN.take {w wx wy : World} {l : List (Scene × Value)} {v : Value} {P : List (Nat × Array Value × TypeId)} (h : RnN w [] (.slice none 0 0) P wx) (hc : RnN wx l v [] wy) : RnN w l v P wy :=
  ⟨h.bo.take hc.bo.bel hc.bo.own (Own.less (enc := fun x : Scene × Value => x.1.cells x.2) (hn := fun _ => rfl) hc.bo.own h.bo.size), fun i x hx => ⟨Own.less (enc := Para.cells) (hn := fun _ => rfl) (hc.row i x hx).1 h.bo.size, fun g hg => ⟨((hc.row i x hx).2 g hg).1, fun p hp => by
    have h1 := ((hc.row i x hx).1.block g hg).1
    have h2 := h.bo.plt hp
    omega⟩⟩, hc.dis⟩
end Go.Proofs.YtkhegeobdcemkaaGreatDoor

/- A name that stands by itself at a place of a text: as the program asks. No program in sight. -/
namespace Go.Proofs.YtkhegeobdcemkaaGreatDoor
set_option linter.unusedVariables false
open Go.RowKit

def inI (s : ByteArray) (j : Int) : Bool := decide (0 ≤ j) && inAt s.data.toList j.toNat
theorem extDrop (s : ByteArray) (i : Nat) : (s.extract i s.size).data.toList = s.data.toList.drop i := by
  rw [ByteArray.data_extract, Array.toList_extract]
  simp only [List.extract_eq_take_drop]
  rw [List.take_of_length_le (by simp)]
theorem inAt_some {s : ByteArray} {k : Nat} (h : k < s.size) : inAt s.data.toList k = inWB s[k] := by
  unfold inAt
  rw [List.getElem?_eq_getElem (by simpa using h)]
  rfl
theorem inAt_none {s : ByteArray} {k : Nat} (h : s.size ≤ k) : inAt s.data.toList k = false := by
  unfold inAt
  rw [List.getElem?_eq_none (by simpa using h)]
def preB (s fr : ByteArray) (i : Nat) : Bool := Lib.hasPrefix (s.extract i s.size).data.toList fr.data.toList
theorem pre_drop (s fr : ByteArray) (i : Nat) : preB s fr i = decide ((s.data.toList.drop i).take fr.data.toList.length = fr.data.toList) := by
  unfold preB
  rw [extDrop, ← Lib.hasPrefix_of_take]
  by_cases h : (s.data.toList.drop i).take fr.data.toList.length = fr.data.toList
  · have hl := congrArg List.length h
    rw [List.length_take] at hl
    rw [decide_eq_true h, h, decide_eq_true (by omega)]
    simp
  · rw [decide_eq_false h]
    have : ((s.data.toList.drop i).take fr.data.toList.length == fr.data.toList) = false := by simpa using h
    rw [this, Bool.and_false]
theorem alone_p {s fr : ByteArray} {i : Nat} : aloneB s.data.toList fr.data.toList i = (preB s fr i && !inI s ((i : Int) - 1) && !inI s ((i : Int) + (fr.size : Int))) := by
  rw [pre_drop]
  unfold aloneB inI
  have h1 : ((i : Int) + (fr.size : Int)).toNat = i + fr.size := by omega
  have h2 : ((i : Int) - 1).toNat = i - 1 := by omega
  have h3 : decide ((0 : Int) ≤ (i : Int) + (fr.size : Int)) = true := decide_eq_true (by omega)
  have h4 : decide ((0 : Int) ≤ (i : Int) - 1) = decide (0 < i) := by
    by_cases h : 0 < i
    · rw [decide_eq_true h, decide_eq_true (by omega)]
    · rw [decide_eq_false h, decide_eq_false (by omega)]
  rw [h1, h2, h3, h4, Bool.true_and]
  simp
end Go.Proofs.YtkhegeobdcemkaaGreatDoor

