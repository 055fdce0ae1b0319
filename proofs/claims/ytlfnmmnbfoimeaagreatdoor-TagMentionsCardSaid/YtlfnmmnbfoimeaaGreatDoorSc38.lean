/- Texts packed: TlW, TlX, GrW, SdW, SdX, MnI, MnW, MnG0, MnG, MnP, MnA, MnB, MnC, MnF, MnQ, MnM. -/
import Derived.Test.YtlfnmmnbfoimeaaGreatDoorSc01
import Derived.Test.YtlfnmmnbfoimeaaGreatDoorSc02
import Derived.Test.YtlfnmmnbfoimeaaGreatDoorSc29
import Derived.Test.YtlfnmmnbfoimeaaGreatDoorSc37
import Derived.Test.YtlfnmmnbfoimeaaGreatDoorSc09
import Derived.Test.YtlfnmmnbfoimeaaGreatDoorSc13
import Derived.Test.YtlfnmmnbfoimeaaGreatDoorSc24
import Derived.Test.YtlfnmmnbfoimeaaGreatDoorSc35
import Derived.Test.YtlfnmmnbfoimeaaGreatDoorSc20
import Derived.Test.YtlfnmmnbfoimeaaGreatDoorSc36
import Derived.Test.YtlfnmmnbfoimeaaGreatDoorSc31
import Derived.Test.YtlfnmmnbfoimeaaGreatDoorSc26
import Derived.Test.YtlfnmmnbfoimeaaGreatDoorSc22
import Derived.Test.YtlfnmmnbfoimeaaGreatDoorSc23
import Derived.Test.YtlfnmmnbfoimeaaGreatDoorSc34
import Derived.Test.YtlfnmmnbfoimeaaGreatDoorSc08
/- script.Sets, walked. -/
namespace Go.Proofs.YtlfnmmnbfoimeaaGreatDoor
set_option linter.unusedVariables false
open Go.RowKit Go.Sort

end Go.Proofs.YtlfnmmnbfoimeaaGreatDoor

/- R.SetsOf, walked. -/
namespace Go.Proofs.YtlfnmmnbfoimeaaGreatDoor
set_option linter.unusedVariables false
open Go.RowKit Go.Sort

end Go.Proofs.YtlfnmmnbfoimeaaGreatDoor

/- R.groupsOf, walked. -/
namespace Go.Proofs.YtlfnmmnbfoimeaaGreatDoor
set_option linter.unusedVariables false
open Go.RowKit Go.Sort

end Go.Proofs.YtlfnmmnbfoimeaaGreatDoor

/- script.groups, walked. -/
namespace Go.Proofs.YtlfnmmnbfoimeaaGreatDoor
set_option linter.unusedVariables false
open Go.RowKit Go.Sort

end Go.Proofs.YtlfnmmnbfoimeaaGreatDoor

/- Whether a scene has a cue of somebody: the library's search, script.hasCue. -/
namespace Go.Proofs.YtlfnmmnbfoimeaaGreatDoor
set_option linter.unusedVariables false
open Go.RowKit Go.Sort

theorem idx_any {α : Type} (l : List α) (p : α → Bool) : decide (0 ≤ idxV (l.findIdx? p)) = l.any p := by
  cases h : l.findIdx? p with
  | none =>
    rw [List.findIdx?_eq_none_iff] at h
    rw [decide_eq_false (show ¬ 0 ≤ idxV none from fun e => absurd e (by decide))]
    symm
    rw [List.any_eq_false]
    simpa using h
  | some n =>
    obtain ⟨h1, h2, _⟩ := List.findIdx?_eq_some_iff_getElem.1 h
    rw [decide_eq_true (show 0 ≤ idxV (some n) from Int.natCast_nonneg n)]
    symm
    exact List.any_eq_true.2 ⟨_, List.getElem_mem h1, h2⟩
end Go.Proofs.YtlfnmmnbfoimeaaGreatDoor

/- A number looked for in a list: slices.Index, slices.Contains of ints; lists of mentions compared. -/
namespace Go.Proofs.YtlfnmmnbfoimeaaGreatDoor
set_option linter.unusedVariables false
open Go.RowKit Go.Sort

set_option maxRecDepth 100000 in
set_option maxHeartbeats 800000 in
theorem idxInt_c {F : Nat → Prop} (l : List Int) (v : Value) (x : Int) (w : World) (hv : Sli intR w F l v) (hF : ∀ b, F b → b < w.heap.size) (hlen : l.length ≤ 1000000000) :
    Calls Tryz.prog 56 #[v, .int .i64 x] w fun e w' => e = .returned (.int .i64 (idxV (l.findIdx? fun y => decide (y = x)))) ∧ Below w.heap.size w w' := by
  obtain ⟨A, c, rfl, _, _⟩ := hv.form
  have HV := Lib.hid hv
  have HF := Lib.hid hF
  obtain ⟨L, hL⟩ : ∃ L, l.length = L := ⟨_, rfl⟩
  have HL := Lib.hid hL
  rw [hL] at HV hlen ⊢
  clear hv hF hL
  go_enter Tryz.func56, Tryz.ntmps56
  go_wp2
  go_loopw [5, 8] (fun v i wr => ∃ k : Nat, k ≤ L ∧ i = .int .i64 k ∧ Hid (Below w.heap.size w wr) ∧ Hid (∀ y ∈ l.take k, decide (y = x) = false)) (fun _ i _ => L - (intOf i).toNat)
  case atStart => exact ⟨0, Nat.zero_le _, rfl, Lib.hid (Below.refl _ _), by intro x hx; simp at hx⟩
  case round =>
    obtain ⟨k, hk, rfl, HB1, HN⟩ := hrel
    by_cases hlt : k < L
    · have hk2 : k < l.length := by rw [HL.out]; exact hlt
      obtain ⟨b, off, rfl, hfb, c0⟩ := intAt (HV.out.below HB1.out HF.out) k hk2
      have HNX := Lib.hid (fun (h : decide ((l[k]'hk2) = x) = false) => take_next (q := fun y => decide (y = x) = false) hk2 HN.out h)
      have HAT := Lib.hid (fun (h : decide ((l[k]'hk2) = x) = true) => findIdx_at (p := fun y => decide (y = x)) HN.out hk2 h)
      generalize (l[k]'hk2) = y at *
      clear hk2 HN
      by_cases he : y = x
      · have HR := Lib.hid (HAT.out (decide_eq_true he))
        subst he
        clear HNX HAT
        go_wp2
        go_ret
        exact ⟨by rw [HR.out]; rfl, by first | exact HB1.out | exact HB1.out.drew | exact below_drewN HB1.out _⟩
      · have HR := Lib.hid (HNX.out (decide_eq_false he))
        have he2 : ¬ x = y := fun e => he e.symm
        clear HNX HAT he
        go_wp2
        go_roundw
        case rel => exact ⟨k + 1, by omega, intNum, Lib.hid (by first | exact HB1.out | exact HB1.out.drew | exact below_drewN HB1.out _), HR.out⟩
        case measure => simp [intOf]; omega
    · go_wp2
      go_ret
      have H := findIdx_no (take_all (q := fun y : Int => decide (y = x) = false) (by rw [HL.out]; exact hlt) HN.out)
      exact ⟨by rw [H]; rfl, HB1.out⟩
theorem any_mem (l : List Int) (x : Int) : l.any (fun y => decide (y = x)) = decide (x ∈ l) := by
  by_cases h : x ∈ l
  · rw [decide_eq_true h]; exact List.any_eq_true.2 ⟨x, h, decide_eq_true rfl⟩
  · rw [decide_eq_false h, List.any_eq_false]
    intro y hy e
    exact h (by rw [← of_decide_eq_true e]; exact hy)
set_option maxRecDepth 100000 in
set_option maxHeartbeats 800000 in
theorem contInt_c {F : Nat → Prop} (l : List Int) (v : Value) (x : Int) (w : World) (hv : Sli intR w F l v) (hF : ∀ b, F b → b < w.heap.size) (hlen : l.length ≤ 1000000000) :
    Calls Tryz.prog 23 #[v, .int .i64 x] w fun e w' => e = .returned (.bool (decide (x ∈ l))) ∧ Below w.heap.size w w' := by
  have HZ := Lib.hid ((idx_any l (fun y => decide (y = x))).trans (any_mem l x))
  have HI := Lib.hid (idxInt_c l v x w hv hF hlen)
  generalize l.findIdx? (fun y => decide (y = x)) = z at *
  clear hv hF
  go_enter Tryz.func23, Tryz.ntmps23
  go_wp2_with fail
  refine HI.out.mono ?_
  rintro e w2 ⟨rfl, hb2⟩
  clear HI
  generalize idxV z = i at *
  go_wp2
  go_ret
  exact ⟨ret_bool HZ.out, hb2⟩
theorem mnAt {w : World} {F : Nat → Prop} {l : List Mnt} {A : Option Addr} {n c : Nat} (h : Sli mnR w F l (.slice A n c)) (k : Nat) (hk : k < l.length) : ∃ b off, A = some ⟨b, off, none⟩ ∧ F b ∧ w.cell? ⟨b, off + k * 6, none⟩ = some (.int .i64 (l[k].rule : Int)) ∧ w.cell? ⟨b, off + k * 6 + 1, none⟩ = some (.int .i64 (l[k].scene : Int)) ∧ w.cell? ⟨b, off + k * 6 + 2, none⟩ = some (.int .i64 (l[k].para : Int)) ∧ w.cell? ⟨b, off + k * 6 + 3, none⟩ = some (.int .i64 (l[k].at_ : Int)) ∧ w.cell? ⟨b, off + k * 6 + 4, none⟩ = some (.int .i64 (l[k].long : Int)) ∧ w.cell? ⟨b, off + k * 6 + 5, none⟩ = some (.int .i64 l[k].count) := by
  obtain ⟨b, off, a, e, hb, hr, hc⟩ := h.at_ k hk
  have ha : a = (l[k]).cells := hr
  subst ha
  exact ⟨b, off, e, hb, hc 0 _ rfl, hc 1 _ rfl, hc 2 _ rfl, hc 3 _ rfl, hc 4 _ rfl, hc 5 _ rfl⟩
set_option maxRecDepth 100000 in
set_option maxHeartbeats 1600000 in
theorem eqMn_c (l : List Mnt) (v1 v2 : Value) (F : Nat → Prop) (w : World) (h1 : Sli mnR w F l v1) (h2 : Sli mnR w F l v2) (hF : ∀ b, F b → b < w.heap.size) :
    Calls Tryz.prog 11 #[v1, v2] w fun e w' => e = .returned (.bool true) ∧ Below w.heap.size w w' := by
  obtain ⟨A1, c1, rfl, hlc1, hc1⟩ := h1.form
  obtain ⟨A2, c2, rfl, hlc2, hc2⟩ := h2.form
  have H1 := Lib.hid h1; clear h1
  have H2 := Lib.hid h2; clear h2
  have HF := Lib.hid hF; clear hF
  obtain ⟨n, hn1⟩ : ∃ n, l.length = n := ⟨_, rfl⟩
  rw [hn1] at H1 H2 hlc1 hlc2 ⊢
  have HN := Lib.hid hn1
  clear hn1
  go_enter Tryz.func11, Tryz.ntmps11
  go_wp2
  go_loopw [13] (fun i wr => ∃ k : Nat, k ≤ n ∧ i = .int .i64 k ∧ Below w.heap.size w wr) (fun i _ => n - (intOf i).toNat)
  case atStart => exact ⟨0, Nat.zero_le _, rfl, Below.refl _ _⟩
  case round =>
    obtain ⟨k, hk, rfl, hb⟩ := hrel
    by_cases hlt : k < n
    · have hk2 : k < l.length := by rw [HN.out]; exact hlt
      obtain ⟨b, off, rfl, hfb, c0, c1, c2, c3, c4, c5⟩ := mnAt (H1.out.below hb HF.out) k hk2
      obtain ⟨b2, off2, rfl, hfb2, d0, d1, d2, d3, d4, d5⟩ := mnAt (H2.out.below hb HF.out) k hk2
      generalize l[k] = x at *
      obtain ⟨x1, x2, x3, x4, x5, x6⟩ := x
      dsimp only at c0 c1 c2 c3 c4 c5 d0 d1 d2 d3 d4 d5
      go_wp2
      go_region
      go_wp2
      go_roundw
      · exact ⟨k + 1, by omega, intNum, by first | exact hb | exact hb.drew | exact below_drewN hb _⟩
      · simp [intOf]; omega
    · go_wp2
      go_ret
      exact ⟨rfl, hb⟩
end Go.Proofs.YtlfnmmnbfoimeaaGreatDoor

/- Rules in memory. -/
namespace Go.Proofs.YtlfnmmnbfoimeaaGreatDoor
set_option linter.unusedVariables false
open Go.RowKit Go.Sort

abbrev ruR : Rep (Rul × Value) := Rep.flat 5 (fun x => x.1.cells x.2) (fun _ => rfl)
theorem ruFlat {w w' : World} {F : Nat → Prop} {x : Rul × Value} {cs : List Value} (h : ruR.rel w F x cs) : ruR.rel w' F x cs := h
/-- Rules in memory: their kinds lie in rows of their own. -/
structure RuW (w : World) (F : Nat → Prop) (l : List (Rul × Value)) (v : Value) : Prop where
  sli : Sli ruR w F l v
  kds : ∀ x ∈ l, Sli intR w F x.1.kinds x.2
  lt : ∀ b, F b → b < w.heap.size
  len : l.length ≤ 1000
  bd : ∀ x ∈ l, x.1.name.size ≤ 1000 ∧ x.1.pat.size ≤ 1000 ∧ x.1.set.size ≤ 1000 ∧ x.1.kinds.length ≤ 1000
theorem RuW.below {w w' : World} {F : Nat → Prop} {l : List (Rul × Value)} {v : Value} (h : RuW w F l v) (hb : Below w.heap.size w w') : RuW w' F l v :=
  ⟨h.sli.below hb h.lt, fun y hy => (h.kds y hy).below hb h.lt, fun b hF => Nat.lt_of_lt_of_le (h.lt b hF) hb.size, h.len, h.bd⟩
theorem RuW.drewN {w : World} {F : Nat → Prop} {l : List (Rul × Value)} {v : Value} (h : RuW w F l v) (n : Nat) : RuW (w.drewN n) F l v :=
  h.below (below_drewN (Below.refl _ _) n)
theorem ruAt {w : World} {F : Nat → Prop} {l : List (Rul × Value)} {A : Option Addr} {n c : Nat} (h : Sli ruR w F l (.slice A n c)) (k : Nat) (hk : k < l.length) : ∃ b off, A = some ⟨b, off, none⟩ ∧ F b ∧ w.cell? ⟨b, off + k * 5, none⟩ = some (.int .i64 l[k].1.kind) ∧ w.cell? ⟨b, off + k * 5 + 1, none⟩ = some (.string l[k].1.name) ∧ w.cell? ⟨b, off + k * 5 + 2, none⟩ = some (.string l[k].1.pat) ∧ w.cell? ⟨b, off + k * 5 + 3, none⟩ = some l[k].2 ∧ w.cell? ⟨b, off + k * 5 + 4, none⟩ = some (.string l[k].1.set) := by
  obtain ⟨b, off, a, e, hb, hr, hc⟩ := h.at_ k hk
  have ha : a = (l[k]).1.cells l[k].2 := hr
  subst ha
  exact ⟨b, off, e, hb, hc 0 _ rfl, hc 1 _ rfl, hc 2 _ rfl, hc 3 _ rfl, hc 4 _ rfl⟩
def ruCs (x : Rul) (v : Value) : Array Value := #[.int .i64 x.kind, .string x.name, .string x.pat, v, .string x.set]
def ruV (x : Rul) (v : Value) : Value := .agg #[.int .i64 x.kind, .string x.name, .string x.pat, v, .string x.set]
/-- What the generator gives. -/
def ruBd (x : Rul) : Prop := x.name.size ≤ 60 ∧ x.pat.size ≤ 200 ∧ x.set.size ≤ 100 ∧ x.kinds.length ≤ 4
def isRules (w : World) (v : Value) (w' : World) : Prop := ∃ l : List (Rul × Value), l.length ≤ 4 ∧ Own ruR w' w.heap.size w.heap.size 50 l v ∧ (∀ y ∈ l, Sli intR w' (InF w w' v []) y.1.kinds y.2) ∧ ∀ y ∈ l, ruBd y.1
end Go.Proofs.YtlfnmmnbfoimeaaGreatDoor

/- Rules under way in the generator. -/
namespace Go.Proofs.YtlfnmmnbfoimeaaGreatDoor
set_option linter.unusedVariables false
open Go.RowKit Go.Sort

abbrev RuG (w : World) (sb : Nat) (l : List (Rul × Value)) (v : Value) (P : List (Nat × Array Value × TypeId)) (n : Int) (wx : World) : Prop := GSI ruR intR (fun x => x.1.kinds) (fun x => x.2) 50 w sb l v P n wx
def rulCs (x : Rul) (u : Value) : Array Value := #[.int .i64 x.kind, .string x.name, .string x.pat, u, .string x.set]
/-- A rule in a box of its own, beside the rules that are made. -/
structure RuX (w : World) (sb : Nat) (l : List (Rul × Value)) (v : Value) (X : Nat) (x : Rul) (u : Value) (n : Int) (wx : World) : Prop where
  g : RuG w sb l v [(X, rulCs x u, 50)] n wx
  i : Sli intR wx (InF w wx v [(X, rulCs x u, 50)]) x.kinds u
  b : ruBd x
section
variable {w wx wy : World} {sb X : Nat} {l : List (Rul × Value)} {v u : Value} {x : Rul} {n n' : Int}
theorem ruFresh {P : List (Nat × Array Value × TypeId)} {k : List Int} (h : RuG w sb l v P n wx) (hs : Sli intR wy (fun q => wx.heap.size ≤ q ∧ q < wy.heap.size) k u) : Sli intR wy (InF w wy v P) k u :=
  hs.more fun q hq => ⟨Nat.le_trans h.gs.size hq.1, hq.2, fun p hp => by have := h.gs.plt hp; omega, fun e => by have := (h.gs.own.block q e).2; omega⟩
theorem RuX.turn (h : RuX w sb l v X x u n wx) (hg : wx.grownBy wy (some sb)) (hs : Str wy sb n') : RuX w sb l v X x u n' wy := ⟨h.g.turn hg hs, innTurn h.i h.g.gs.lt hg, h.b⟩
theorem RuX.below (h : RuX w sb l v X x u n wx) (hb : Below wx.heap.size wx wy) : RuX w sb l v X x u n wy := h.turn (gBelow (gRefl wx sb) hb) (h.g.gs.str.below hb)
theorem RuX.alloc (h : RuX w sb l v X x u n wx) (o : Obj) : RuX w sb l v X x u n (wx.alloc o) := h.turn (gAlloc (gRefl wx sb) o) (h.g.gs.str.alloc o)
theorem RuX.drewN (h : RuX w sb l v X x u n wx) (k : Nat) : RuX w sb l v X x u n (wx.drewN k) := h.turn (grown_drewN (gRefl wx sb) k) (h.g.gs.str.drewN k)
theorem RuX.str (h : RuX w sb l v X x u n wx) : Str wx sb n := h.g.gs.str
theorem RuX.cells (h : RuX w sb l v X x u n wx) : (wx.cell? ⟨X, 0, none⟩ = some (.int .i64 x.kind) ∧ wx.cell? ⟨X, 1, none⟩ = some (.string x.name) ∧ wx.cell? ⟨X, 2, none⟩ = some (.string x.pat) ∧ wx.cell? ⟨X, 3, none⟩ = some u ∧ wx.cell? ⟨X, 4, none⟩ = some (.string x.set)) ∧ (wx.frozen? ⟨X, 0, none⟩ = false ∧ wx.frozen? ⟨X, 1, none⟩ = false ∧ wx.frozen? ⟨X, 2, none⟩ = false ∧ wx.frozen? ⟨X, 3, none⟩ = false ∧ wx.frozen? ⟨X, 4, none⟩ = false) := by
  obtain ⟨y, f⟩ := h.g.gs.cell (p := (X, rulCs x u, 50)) (by simp)
  exact ⟨⟨y 0, y 1, y 2, y 3, y 4⟩, ⟨f 0, f 1, f 2, f 3, f 4⟩⟩
theorem RuX.set {i : Nat} {z : Value} {x' : Rul} (h : RuX w sb l v X x u n wx) (he : (rulCs x u).setIfInBounds i z = rulCs x' u) (hk : x'.kinds = x.kinds) (hb : ruBd x') : RuX w sb l v X x' u n (wx.setCell ⟨X, i, none⟩ z) := by
  have h1 := h.g.set (i := i) ruFlat z (by simp)
  have h2 := innSet (i := i) (z := z) h.i
  rw [he] at h1 h2
  rw [← hk] at h2
  exact ⟨h1, h2, hb⟩
theorem RuX.setK {u' : Value} {k : List Int} (h : RuX w sb l v X x u n wx) (hs : Sli intR wx (InF w wx v [(X, rulCs x u, 50)]) k u') (hk : k.length ≤ 4) : RuX w sb l v X ⟨x.kind, x.name, x.pat, k, x.set⟩ u' n (wx.setCell ⟨X, 3, none⟩ u') := by
  have h1 := h.g.set (i := 3) ruFlat u' (by simp)
  have h2 := innSet (i := 3) (z := u') hs
  exact ⟨h1, h2, ⟨h.b.1, h.b.2.1, h.b.2.2.1, hk⟩⟩
theorem RuX.lt (h : RuX w sb l v X x u n wx) : X < wx.heap.size := h.g.gs.plt (p := (X, rulCs x u, 50)) (by simp)
end
theorem allocZ (w : World) (o : Obj) : (w.alloc o).heap.size = w.heap.size + 1 := by simp
theorem allocA (w : World) (o : Obj) (i : Nat) : (w.alloc o).heap[i]? = if i = w.heap.size then some o else w.heap[i]? := by
  by_cases h : i = w.heap.size
  · rw [if_pos h, h]; exact heap_alloc_new w o
  · rw [if_neg h]
    by_cases h2 : i < w.heap.size
    · exact Below.heap_alloc w o i h2
    · rw [Array.getElem?_eq_none (by rw [allocZ]; omega), Array.getElem?_eq_none (by omega)]
/-- The rows of kinds that a rule may have, as they are laid. -/
def kdW (w : World) : World := ((((((w.alloc (.cells #[.int .i64 1] 3)).alloc (.cells #[.int .i64 3, .int .i64 4] 3)).alloc (.cells #[.int .i64 5] 3)).alloc (.cells #[.int .i64 2] 3)).alloc (.cells #[.int .i64 4, .int .i64 1] 3)).alloc (.cells #[.int .i64 1, .int .i64 3, .int .i64 4, .int .i64 5] 3)).alloc (.cells #[.slice (some ⟨w.heap.size, 0, none⟩) 1 1, .slice (some ⟨w.heap.size + 1, 0, none⟩) 2 2, .slice (some ⟨w.heap.size + 2, 0, none⟩) 1 1, .slice (some ⟨w.heap.size + 3, 0, none⟩) 1 1, .slice (some ⟨w.heap.size + 4, 0, none⟩) 2 2, .slice (some ⟨w.heap.size + 5, 0, none⟩) 4 4] 22)
theorem kdW_size (w : World) : (kdW w).heap.size = w.heap.size + 7 := by simp [kdW]
theorem kdW_below (w : World) : Below w.heap.size w (kdW w) := by
  unfold kdW
  repeat (first | exact Below.refl _ _ | refine Below.alloc ?_ (by simp <;> omega) _)
theorem sliInts {w : World} {F : Nat → Prop} {B : Nat} {T : TypeId} (l : List Int) (h : w.heap[B]? = some (.cells (l.map (Value.int .i64)).toArray T (0, 0))) (hF : F B) (hl : l.length ≤ 1000) : Sli intR w F l (.slice (some ⟨B, 0, none⟩) l.length l.length) :=
  Sli.mkF (n := 1) (enc := fun x : Int => [.int .i64 x]) (hn := fun _ => rfl) hF (Nat.le_refl _) (by omega) fun k x hx j u hj => by
    have hj0 : j = 0 := by
      cases j with
      | zero => rfl
      | succ j => simp at hj
    subst hj0
    have hu : u = .int .i64 x := by simpa using hj.symm
    subst hu
    rw [Nat.mul_one, Nat.add_zero, (str_cells h).1 k]
    simp [hx]
theorem kdW_at (w : World) (r : Nat) (hr : r < 6) : ∃ (k : List Int) (B : Nat), k.length ≤ 4 ∧ w.heap.size ≤ B ∧ B < w.heap.size + 7 ∧ (kdW w).cell? ⟨w.heap.size + 6, r, none⟩ = some (.slice (some ⟨B, 0, none⟩) k.length k.length) ∧ Sli intR (kdW w) (fun q => q = B) k (.slice (some ⟨B, 0, none⟩) k.length k.length) := by
  have ho : (kdW w).heap[w.heap.size + 6]? = some (.cells #[.slice (some ⟨w.heap.size, 0, none⟩) 1 1, .slice (some ⟨w.heap.size + 1, 0, none⟩) 2 2, .slice (some ⟨w.heap.size + 2, 0, none⟩) 1 1, .slice (some ⟨w.heap.size + 3, 0, none⟩) 1 1, .slice (some ⟨w.heap.size + 4, 0, none⟩) 2 2, .slice (some ⟨w.heap.size + 5, 0, none⟩) 4 4] 22 (0, 0)) := by
    simp only [kdW, allocA, allocZ]
    repeat (first | rw [if_pos trivial] | rw [if_pos (by omega)] | rw [if_neg (by omega)])
  have b0 : (kdW w).heap[w.heap.size]? = some (.cells ([1].map (Value.int .i64)).toArray 3 (0, 0)) := by
    simp only [kdW, allocA, allocZ]
    repeat rw [if_neg (by omega)]
    rw [if_pos (by first | trivial | omega)]
    rfl
  have b1 : (kdW w).heap[w.heap.size + 1]? = some (.cells ([3, 4].map (Value.int .i64)).toArray 3 (0, 0)) := by
    simp only [kdW, allocA, allocZ]
    repeat rw [if_neg (by omega)]
    rw [if_pos (by first | trivial | omega)]
    rfl
  have b2 : (kdW w).heap[w.heap.size + 2]? = some (.cells ([5].map (Value.int .i64)).toArray 3 (0, 0)) := by
    simp only [kdW, allocA, allocZ]
    repeat rw [if_neg (by omega)]
    rw [if_pos (by first | trivial | omega)]
    rfl
  have b3 : (kdW w).heap[w.heap.size + 3]? = some (.cells ([2].map (Value.int .i64)).toArray 3 (0, 0)) := by
    simp only [kdW, allocA, allocZ]
    repeat rw [if_neg (by omega)]
    rw [if_pos (by first | trivial | omega)]
    rfl
  have b4 : (kdW w).heap[w.heap.size + 4]? = some (.cells ([4, 1].map (Value.int .i64)).toArray 3 (0, 0)) := by
    simp only [kdW, allocA, allocZ]
    repeat rw [if_neg (by omega)]
    rw [if_pos (by first | trivial | omega)]
    rfl
  have b5 : (kdW w).heap[w.heap.size + 5]? = some (.cells ([1, 3, 4, 5].map (Value.int .i64)).toArray 3 (0, 0)) := by
    simp only [kdW, allocA, allocZ]
    repeat rw [if_neg (by omega)]
    rw [if_pos (by first | trivial | omega)]
    rfl
  have hc := (str_cells ho).1
  match r, hr with
  | 0, _ => exact ⟨[1], w.heap.size, by decide, by omega, by omega, hc 0, sliInts _ b0 rfl (by decide)⟩
  | 1, _ => exact ⟨[3, 4], w.heap.size + 1, by decide, by omega, by omega, hc 1, sliInts _ b1 rfl (by decide)⟩
  | 2, _ => exact ⟨[5], w.heap.size + 2, by decide, by omega, by omega, hc 2, sliInts _ b2 rfl (by decide)⟩
  | 3, _ => exact ⟨[2], w.heap.size + 3, by decide, by omega, by omega, hc 3, sliInts _ b3 rfl (by decide)⟩
  | 4, _ => exact ⟨[4, 1], w.heap.size + 4, by decide, by omega, by omega, hc 4, sliInts _ b4 rfl (by decide)⟩
  | 5, _ => exact ⟨[1, 3, 4, 5], w.heap.size + 5, by decide, by omega, by omega, hc 5, sliInts _ b5 rfl (by decide)⟩
end Go.Proofs.YtlfnmmnbfoimeaaGreatDoor

/- The generator's rules, walked. -/
namespace Go.Proofs.YtlfnmmnbfoimeaaGreatDoor
set_option linter.unusedVariables false
open Go.RowKit Go.Sort

def gunsB : ByteArray := ⟨#[103, 117, 110, 115]⟩
def gunB : ByteArray := ⟨#[103, 117, 110, 42]⟩
set_option maxRecDepth 100000 in
set_option maxHeartbeats 16000000 in
theorem Rules_c (sb : Nat) (k0 : Int) (w : World) (hs : Str w sb k0) (hk0 : k0 ≤ 3900000000000000000) (hM : ∀ W, w.grownBy W (some sb) → MaxLaid W) :
    Calls Tryz.prog 5 #[.pointer (some ⟨sb, 0, none⟩)] w (Took sb k0 300 (isRules w) w) := by
  obtain ⟨i0, hi0, hz0, hz1, hz2⟩ := info_parts (show (Tryz.prog.info? 50).map (fun i => (i.zero, i.size, i.bytes)) = some (some (.agg #[.int .i64 0, .string ⟨#[]⟩, .string ⟨#[]⟩, .slice none 0 0, .string ⟨#[]⟩]), 5, 80) by kernel_rfl)
  have hsb := hs.lt
  have G0 := Lib.hid (show RuG w sb [] (.slice none 0 0) [] k0 w from GSI.start hs)
  have HM := Lib.hid hM
  clear hs hM
  go_enter Tryz.func5, Tryz.ntmps5
  go_wp2_with fail
  refine (next_c sb k0 5 w G0.out.gs.str (by omega) (by decide) (by decide)).mono ?_
  rintro e w1 ⟨v1, n1, rfl, ⟨m1, hm0, hm1, rfl⟩, hn1, hs1, hg1⟩
  obtain ⟨m, rfl⟩ := Int.eq_ofNat_of_zero_le hm0
  have G1 := Lib.hid (G0.out.turn hg1 hs1)
  clear hs1 hg1 G0 hm0
  go_wp2
  go_loopw [3, 7] (fun ov iv wr => ∃ (q : Nat) (l : List (Rul × Value)) (n : Int), q ≤ m ∧ iv = .int .i64 q ∧ l.length = q ∧ n ≤ k0 + 1 + 50 * (q : Int) ∧ Hid (RuG w sb l ov [] n wr) ∧ Hid (∀ y ∈ l, ruBd y.1)) (fun _ iv _ => m - (intOf iv).toNat)
  case atStart => exact ⟨0, [], n1, Nat.zero_le _, rfl, rfl, by omega, G1.out, fun y hy => by cases hy⟩
  case round =>
    clear G1
    obtain ⟨q, l, n, hq, rfl, hlq, hn, HG, HBD⟩ := hrel
    by_cases hlt : q < m
    · go_wp2_with fail
      refine (Element_c sb n wr HG.out.gs.str (by omega)).mono ?_
      rintro e w2 ⟨v2, n2, rfl, ⟨ek, es, rfl, hk00, hk12, hes⟩, hn2, hs2, hg2⟩
      have G2 := Lib.hid (HG.out.turn hg2 hs2)
      clear hs2 hg2
      rw [show pCs ek es = #[.int .i64 ek, .string es] from rfl]
      go_wp2_with fail
      refine (Pattern_c sb n2 w2 G2.out.gs.str (by omega)).mono ?_
      rintro e w3 ⟨v3, n3, rfl, ⟨ps, hps, rfl⟩, hn3, hs3, hg3⟩
      have hG3 := G2.out.turn hg3 hs3
      clear hs3 hg3 G2 HG
      have h4 : RuX w sb l u3 w3.heap.size ⟨ek, es, ps, [], ⟨#[]⟩⟩ (.slice none 0 0) n3 (w3.alloc (.cells #[.int .i64 ek, .string es, .string ps, .slice none 0 0, .string ⟨#[]⟩] 50)) :=
        ⟨hG3.new (rulCs ⟨ek, es, ps, [], ⟨#[]⟩⟩ (.slice none 0 0)) 50, Sli.nil_, ⟨hes, hps, (show (⟨#[]⟩ : ByteArray).size ≤ 100 by decide), Nat.zero_le 4⟩⟩
      have R4 := Lib.hid h4
      clear hG3 h4 hps hes
      go_upto_region 5 with (fail)
      generalize w3.alloc (.cells #[.int .i64 ek, .string es, .string ps, .slice none 0 0, .string ⟨#[]⟩] 50) = w4 at *
      generalize w3.heap.size = X at *
      obtain ⟨⟨x0, x1, x2, x3, x4⟩, _⟩ := R4.out.cells
      dsimp only at x0 x1 x2 x3 x4
      go_cut [22] (fun s22 wx => ∃ (bb : Bool) (n' : Int), s22 = .bool bb ∧ n' ≤ n3 + 1 ∧ Hid (RuX w sb l u3 X ⟨ek, es, ps, [], ⟨#[]⟩⟩ (.slice none 0 0) n' wx))
      case first =>
        by_cases he : ek = 11
        · subst he
          go_wp2_with fail
          refine (flip_c sb n3 8 w4 R4.out.str (by omega) (by decide) (by decide)).mono ?_
          rintro e w5 ⟨v5, n5, rfl, ⟨b5, rfl⟩, hn5, hs5, hg5⟩
          have R5 := Lib.hid (R4.out.turn hg5 hs5)
          clear hs5 hg5 R4 x0 x1 x2 x3 x4
          go_wp2
          go_meet
          exact ⟨_, n5, rfl, hn5, by first | exact R5 | exact Lib.hid (R5.out.drewN _)⟩
        · have he1 : (ek == 11) = false := beq_eq_false_iff_ne.2 he
          clear he
          first | go_quiet (fail) | skip
          go_wp2
          go_meet
          exact ⟨false, n3, rfl, by omega, by first | exact R4 | exact Lib.hid (R4.out.drewN _)⟩
      case rest =>
      obtain ⟨b5, n5, rfl, hn5, R5⟩ := hcut
      clear x0 x1 x2 x3 x4 R4
      go_upto_if 22 with (fail)
      go_cut [] (fun wx => ∃ (k' : Int) (s' : ByteArray), Hid (RuX w sb l u3 X ⟨k', s', ps, [], ⟨#[]⟩⟩ (.slice none 0 0) n5 wx))
      case first =>
        cases b5 with
        | false =>
          go_wp2
          go_meet
          exact ⟨ek, es, by first | exact R5 | exact Lib.hid (R5.out.drewN _)⟩
        | true =>
          obtain ⟨⟨x0, x1, x2, x3, x4⟩, f0, f1, f2, f3, f4⟩ := R5.out.cells
          have hb := R5.out.b
          have HS1 := Lib.hid ((R5.out.set (i := 0) (z := .int .i64 2) (x' := ⟨2, es, ps, [], ⟨#[]⟩⟩) rfl rfl hb).set (i := 1) (z := .string gunsB) (x' := ⟨2, gunsB, ps, [], ⟨#[]⟩⟩) rfl rfl ⟨(show gunsB.size ≤ 60 by decide), hb.2.1, hb.2.2.1, hb.2.2.2⟩)
          have hX5 := R5.out.lt
          clear hb
          go_wp2
          go_meet
          exact ⟨2, gunsB, HS1⟩
      case rest =>
      obtain ⟨ek2, es2, R6⟩ := hcut
      clear R5 hk00 hk12
      go_upto_region 7 with (fail)
      go_cut [33] (fun s33 wx => ∃ (bb : Bool) (n' : Int), s33 = .bool bb ∧ n' ≤ n5 + 1 ∧ Hid (RuX w sb l u3 X ⟨ek2, es2, ps, [], ⟨#[]⟩⟩ (.slice none 0 0) n' wx))
      case first =>
        go_wp2_with fail
        refine (flip_c sb n5 5 wc R6.out.str (by omega) (by decide) (by decide)).mono ?_
        rintro e w7 ⟨v7, n7, rfl, ⟨b7, rfl⟩, hn7, hs7, hg7⟩
        have R7 := Lib.hid (R6.out.turn hg7 hs7)
        clear hs7 hg7 R6
        cases b7 with
        | true =>
          go_wp2
          go_meet
          exact ⟨_, n7, rfl, hn7, by first | exact R7 | exact Lib.hid (R7.out.drewN _)⟩
        | false =>
          obtain ⟨⟨x0, x1, x2, x3, x4⟩, _⟩ := R7.out.cells
          dsimp only at x2
          have HPF := Lib.hid (PatternFault_c ps w7 (by have := R7.out.b.2.1; dsimp only at this; omega) (HM.out w7 R7.out.g.gs.gr))
          go_wp2_with fail
          refine HPF.out.mono ?_
          rintro e w8 ⟨rfl, hb8⟩
          have R8 := Lib.hid (R7.out.below hb8)
          clear hb8 HPF R7 x0 x1 x2 x3 x4
          cases hpb : patB ps with
          | true =>
            rw [patE_yes hpb]
            clear hpb
            go_wp2
            go_meet
            exact ⟨_, n7, rfl, hn7, by first | exact R8 | exact Lib.hid (R8.out.drewN _)⟩
          | false =>
            rw [patE_bad hpb]
            clear hpb
            go_wp2
            go_meet
            exact ⟨_, n7, rfl, hn7, by first | exact R8 | exact Lib.hid (R8.out.drewN _)⟩
      case rest =>
      obtain ⟨b7, n7, rfl, hn7, R7⟩ := hcut
      clear R6
      go_upto_if 33 with (fail)
      go_cut [] (fun wx => ∃ (p' : ByteArray), Hid (RuX w sb l u3 X ⟨ek2, es2, p', [], ⟨#[]⟩⟩ (.slice none 0 0) n7 wx))
      case first =>
        cases b7 with
        | false =>
          go_wp2
          go_meet
          exact ⟨ps, by first | exact R7 | exact Lib.hid (R7.out.drewN _)⟩
        | true =>
          obtain ⟨⟨x0, x1, x2, x3, x4⟩, f0, f1, f2, f3, f4⟩ := R7.out.cells
          have hb := R7.out.b
          have HS1 := Lib.hid (R7.out.set (i := 2) (z := .string gunB) (x' := ⟨ek2, es2, gunB, [], ⟨#[]⟩⟩) rfl rfl ⟨hb.1, (show gunB.size ≤ 200 by decide), hb.2.2.1, hb.2.2.2⟩)
          have hX5 := R7.out.lt
          clear hb
          go_wp2
          go_meet
          exact ⟨gunB, HS1⟩
      case rest =>
      obtain ⟨pt, R8⟩ := hcut
      clear R7
      go_wp2_with fail
      refine (flip_c sb n7 3 wc R8.out.str (by omega) (by decide) (by decide)).mono ?_
      rintro e w9 ⟨v9, n9, rfl, ⟨b9, rfl⟩, hn9, hs9, hg9⟩
      have R9 := Lib.hid (R8.out.turn hg9 hs9)
      clear hs9 hg9 R8
      go_upto_if 36 with (fail)
      go_cut [] (fun wx => ∃ (kk : List Int) (uu : Value) (n' : Int), n' ≤ n9 + 1 ∧ Hid (RuX w sb l u3 X ⟨ek2, es2, pt, kk, ⟨#[]⟩⟩ uu n' wx))
      case first =>
        cases b9 with
        | false =>
          go_wp2
          go_meet
          exact ⟨[], _, n9, by omega, by first | exact R9 | exact Lib.hid (R9.out.drewN _)⟩
        | true =>
          have hS7 : Str (kdW w9) sb n9 := R9.out.str.below (kdW_below w9)
          have HNX := Lib.hid (next_c sb n9 6 (kdW w9) hS7 (by omega) (by decide) (by decide))
          have HKA := Lib.hid (fun r (hr : r < 6) => kdW_at w9 r hr)
          have HK7 := Lib.hid (kdW_below w9)
          have HZ7 := Lib.hid (kdW_size w9)
          clear hS7
          unfold kdW at HNX HKA HK7 HZ7
          go_wp2_with fail
          refine HNX.out.mono ?_
          rintro e wA ⟨vA, nA, rfl, ⟨r, hr0, hr1, rfl⟩, hnA, hsA, hgA⟩
          obtain ⟨r, rfl⟩ := Int.eq_ofNat_of_zero_le hr0
          have hr6 : r < 6 := by omega
          obtain ⟨kk, B, hkl, hB1, hB2, hc, hsl⟩ := HKA.out r hr6
          have hz7 := HZ7.out
          have hsz := R9.out.g.gs.size
          have RA := Lib.hid ((R9.out.below HK7.out).turn hgA hsA)
          have hcA : wA.cell? ⟨w9.heap.size + 6, r, none⟩ = some (.slice (some ⟨B, 0, none⟩) kk.length kk.length) := (cell_of_heap (hgA.block (w9.heap.size + 6) (by omega) (by simp; omega))).trans hc
          have HSL := Lib.hid (ruFresh R9.out.g ((hsl.keep (w' := wA) (fun q hq => hgA.block q (by rw [hq]; omega) (by rw [hq]; simp; omega))).more (G := fun q => w9.heap.size ≤ q ∧ q < wA.heap.size) (fun q hq => by rw [hq]; have := hgA.size; omega)))
          have HST := Lib.hid (RA.out.setK HSL.out hkl)
          obtain ⟨⟨x0, x1, x2, x3, x4⟩, f0, f1, f2, f3, f4⟩ := RA.out.cells
          have hXA := RA.out.lt
          have hOA : w9.heap.size + 6 < wA.heap.size := World.block_lt_of_cell? _ _ hcA
          clear HNX HKA HK7 HZ7 hsl hc hgA hsA hz7 hr0 hr1 R9 HSL
          obtain ⟨kn, hkn⟩ : ∃ kn, kk.length = kn := ⟨_, rfl⟩
          rw [hkn] at hcA HST
          clear hkn
          go_wp2
          go_meet
          exact ⟨kk, _, nA, by omega, HST⟩
      case rest =>
      obtain ⟨kk, uu, nA, hnA, RA⟩ := hcut
      clear R9
      go_wp2_with fail
      refine (flip_c sb nA 3 wc RA.out.str (by omega) (by decide) (by decide)).mono ?_
      rintro e wB ⟨vB, nB, rfl, ⟨bB, rfl⟩, hnB, hsB, hgB⟩
      have RB := Lib.hid (RA.out.turn hgB hsB)
      clear hsB hgB RA
      go_upto_if 50 with (fail)
      go_cut [] (fun wx => ∃ (st : ByteArray) (n' : Int), n' ≤ nB + 1 ∧ Hid (RuX w sb l u3 X ⟨ek2, es2, pt, kk, st⟩ uu n' wx))
      case first =>
        cases bB with
        | false =>
          go_wp2
          go_meet
          exact ⟨⟨#[]⟩, nB, by omega, by first | exact RB | exact Lib.hid (RB.out.drewN _)⟩
        | true =>
          go_wp2_with fail
          refine (oneL wB [⟨#[72, 65, 76, 76]⟩, ⟨#[77, 73, 76, 76]⟩, ⟨#[104, 97, 108, 108]⟩, ⟨#[66, 65, 82, 78, 32, 47, 32, 76, 79, 70, 84]⟩] _ _ _ _ rfl rfl (by decide) (by decide) RB.out.str (by omega)).mono ?_
          rintro e wC ⟨vC, nC, rfl, ⟨st, hst, rfl⟩, hnC, hsC, hgC⟩
          have hsz : st.size ≤ 100 := oneOf (by decide +kernel) hst
          have RC := Lib.hid ((RB.out.alloc _).turn hgC hsC)
          have hb := RC.out.b
          have HST := Lib.hid (RC.out.set (i := 4) (z := .string st) (x' := ⟨ek2, es2, pt, kk, st⟩) rfl rfl ⟨hb.1, hb.2.1, hsz, hb.2.2.2⟩)
          obtain ⟨⟨x0, x1, x2, x3, x4⟩, f0, f1, f2, f3, f4⟩ := RC.out.cells
          have hXA := RC.out.lt
          clear hst hsC hgC RB hb hsz
          go_wp2
          go_meet
          exact ⟨st, nC, hnC, HST⟩
      case rest =>
      obtain ⟨st, nC, hnC, RC⟩ := hcut
      clear RB
      obtain ⟨A9, c9, hv9, _, _⟩ := RC.out.i.form
      subst hv9
      obtain ⟨⟨x0, x1, x2, x3, x4⟩, _⟩ := RC.out.cells
      dsimp only at x0 x1 x2 x3 x4
      have hXA := RC.out.lt
      have HLQ := Lib.hid hlq
      have hll : l.length ≤ 4 := by omega
      obtain ⟨kn, hkn⟩ : ∃ kn, kk.length = kn := ⟨_, rfl⟩
      have HKN := Lib.hid hkn
      rw [hkn] at RC x3
      clear hkn hlq
      go_wp2_with (at_builtin; (refine wpList_pushB (R := ruR) rfl _ _ _ rfl w.heap.size w.heap.size 50 i0 _ 80 Tryz.underlying30 hi0 hz0 hz1 hz2 rfl (by decide) _ u3 l rfl (RC.out.g.gs.own.alloc _) ((⟨ek2, es2, pt, kk, st⟩ : Rul), Value.slice A9 kn c9) _ rfl (oneC rfl) wc.heap.size _ _ (heap_alloc_new wc _) rfl (by simp [maxLen]; omega) (by omega) (by have := RC.out.g.gs.size; simp; omega) ?_); intro g9 cap9 w10 hown9 hg9 hat9 hlt9)
      have HG9 := Lib.hid (((RC.out.alloc (.cells (Rul.cells ⟨ek2, es2, pt, kk, st⟩ (.slice A9 kn c9)).toArray 50)).g.more hown9 hg9 rfl hat9 (RC.out.alloc (.cells (Rul.cells ⟨ek2, es2, pt, kk, st⟩ (.slice A9 kn c9)).toArray 50)).i).less (Q := []) (fun p hp => by cases hp))
      have HBD2 := Lib.hid (show ∀ y ∈ l ++ [((⟨ek2, es2, pt, kk, st⟩ : Rul), Value.slice A9 kn c9)], ruBd y.1 from fun y hy => by
        rcases List.mem_append.1 hy with hy | hy
        · exact HBD.out y hy
        · rw [List.mem_singleton.1 hy]; exact RC.out.b)
      clear RC HBD hown9 hg9 hat9
      go_roundw
      case rel => exact ⟨q + 1, _, nC, by omega, intNum, by rw [List.length_append, HLQ.out]; rfl, by omega, HG9, HBD2⟩
      case measure => simp [intOf]; omega
    · have hqm : q = m := by omega
      go_wp2
      go_ret
      exact ⟨_, n, rfl, ⟨l, by omega, HG.out.gs.own, HG.out.inn, HBD.out⟩, by omega, HG.out.gs.str, HG.out.gs.gr⟩
end Go.Proofs.YtlfnmmnbfoimeaaGreatDoor

/- What Mentions gives, in plain words. No program in sight. -/
namespace Go.Proofs.YtlfnmmnbfoimeaaGreatDoor
set_option linter.unusedVariables false
open Go.RowKit

/-- Blocks laid between two worlds lie as they lay, and a growing list's row is none of them. -/
def KeepW (a : Nat) (wA : World) (v : Value) (W : World) : Prop := (∀ b, a ≤ b → b < wA.heap.size → W.heap[b]? = wA.heap[b]?) ∧ (∀ g, v.ownBlock = some g → g < a ∨ wA.heap.size ≤ g) ∧ wA.heap.size ≤ W.heap.size
theorem KeepW.below {a : Nat} {wA W W' : World} {v : Value} (h : KeepW a wA v W) (hb : Below W.heap.size W W') : KeepW a wA v W' := ⟨fun b h1 h2 => (hb.block b (Nat.lt_of_lt_of_le h2 h.2.2)).trans (h.1 b h1 h2), h.2.1, Nat.le_trans h.2.2 hb.size⟩
theorem KeepW.push {a g : Nat} {wA W W' : World} {v v' : Value} (h : KeepW a wA v W) (hg : W.grownBy W' v.ownBlock) (hv : v'.ownBlock = some g) (hat : v.ownBlock = some g ∨ g = W.heap.size) : KeepW a wA v' W' :=
  ⟨fun b h1 h2 => (hg.block b (Nat.lt_of_lt_of_le h2 h.2.2) (fun e => by have := h.2.1 b e.symm; omega)).trans (h.1 b h1 h2), fun q hq => by
    rw [hv] at hq
    injection hq with hq
    subst hq
    rcases hat with hat | hat
    · exact h.2.1 _ hat
    · have := h.2.2; exact .inr (by omega), Nat.le_trans h.2.2 hg.size⟩
def menE (x : Script) (rs : List Rul) : Int := if ¬ stE x = 0 then stE x else if ¬ rulesE rs = 0 then rulesE rs else if 20000 < (alM rs x.scenes).length then 2 else 0
def menL (x : Script) (rs : List Rul) : List Mnt := if menE x rs = 0 then alM rs x.scenes else []
def MenP (x : Script) (rs : List Rul) (w : World) (e : Ending) (w' : World) : Prop := ∃ v, e = .returned (.tuple #[v, .int .i64 (menE x rs)]) ∧ Own mnR w' w.heap.size w.heap.size 40 (menL x rs) v ∧ Below w.heap.size w w'
theorem MenP.bad {x : Script} {rs : List Rul} {w w' : World} {z : Int} (h : menE x rs = z) (hz : ¬ z = 0) (hb : Below w.heap.size w w') : MenP x rs w (.returned (.tuple #[.slice none 0 0, .int .i64 z])) w' :=
  ⟨_, by rw [h], by unfold menL; rw [if_neg (by rw [h]; exact hz)]; exact Own.nil_, hb⟩
theorem MenP.ok {x : Script} {rs : List Rul} {w w' : World} {v : Value} (h : menE x rs = 0) (ho : Own mnR w' w.heap.size w.heap.size 40 (alM rs x.scenes) v) (hb : Below w.heap.size w w') : MenP x rs w (.returned (.tuple #[v, .int .i64 0])) w' :=
  ⟨_, by rw [h], by unfold menL; rw [if_pos h]; exact ho, hb⟩
theorem menE_st {x : Script} {rs : List Rul} (h : ¬ stE x = 0) : menE x rs = stE x := if_pos h
theorem menE_ru {x : Script} {rs : List Rul} (h : stE x = 0) (h2 : ¬ rulesE rs = 0) : menE x rs = rulesE rs := by unfold menE; rw [if_neg (by rw [h]; decide), if_pos h2]
theorem menE_big {x : Script} {rs : List Rul} (h : stE x = 0) (h2 : rulesE rs = 0) (h3 : 20000 < (alM rs x.scenes).length) : menE x rs = 2 := by unfold menE; rw [if_neg (by rw [h]; decide), if_neg (by rw [h2]; decide), if_pos h3]
theorem menE_ok {x : Script} {rs : List Rul} (h : stE x = 0) (h2 : rulesE rs = 0) (h3 : ¬ 20000 < (alM rs x.scenes).length) : menE x rs = 0 := by unfold menE; rw [if_neg (by rw [h]; decide), if_neg (by rw [h2]; decide), if_neg h3]
theorem stE_chk {x : Script} (h : stE x = 0) : chkE x = 0 := by
  unfold stE at h
  by_cases c : ¬ chkE x = 0
  · rw [if_pos c] at h; exact absurd h c
  · exact Classical.byContradiction c
theorem le_sumM : ∀ (l : List Nat) (a : Nat), a ∈ l → a ≤ l.sum
  | [], _, h => by cases h
  | b :: r, a, h => by
    rw [List.sum_cons]
    rcases List.mem_cons.1 h with rfl | h
    · omega
    · have := le_sumM r a h; omega
theorem paraE_ks {p : Para} (h : paraE p = 0) : 1 ≤ p.kind ∧ p.kind ≤ 5 ∧ p.text.size ≤ 2000 := by
  unfold paraE at h
  by_cases c1 : p.kind < 1 ∨ 5 < p.kind
  · rw [if_pos c1] at h; exact absurd h (by decide)
  rw [if_neg c1] at h
  by_cases c2 : p.text.size = 0 ∨ plainB p.text = false
  · rw [if_pos c2] at h; exact absurd h (by decide)
  rw [if_neg c2] at h
  by_cases c3 : 2000 < p.text.size ∨ (p.kind = 3 ∧ 200 < p.text.size)
  · rw [if_pos c3] at h; exact absurd h (by decide)
  omega
/-- A right script's paragraphs: their kinds, the sizes of their texts. -/
theorem stE_paras {x : Script} (h : stE x = 0) : x.scenes.length ≤ 300 ∧ ∀ y ∈ x.scenes, y.paras.length ≤ 4000 ∧ ∀ p ∈ y.paras, 1 ≤ p.kind ∧ p.kind ≤ 5 ∧ p.text.size ≤ 2000 := by
  have hk := chkE_ok (stE_chk h)
  refine ⟨hk.sn, fun y hy => ⟨?_, fun p hp => ?_⟩⟩
  · have h1 := hk.pn
    have h2 : y.paras.length ≤ parasN x.scenes := by
      unfold parasN
      exact le_sumM _ _ (List.mem_map.2 ⟨y, hy, rfl⟩)
    omega
  · exact paraE_ks (parasE_ok _ _ (hk.sc y hy).2.2.2.2 p hp)
/-- The kinds that a rule without kinds looks at. -/
theorem apB_ref {r : Rul} {set : ByteArray} {kind : Int} (h1 : 1 ≤ kind) (h5 : kind ≤ 5) : apB r set kind = (decide (kind ∈ (if r.kinds.length = 0 then [1, 3, 4, 5] else r.kinds)) && !(!decide (r.set = ⟨#[]⟩) && !decide (r.set = set))) := by
  unfold apB
  by_cases c : ¬ r.set = ⟨#[]⟩ ∧ ¬ r.set = set
  · rw [if_pos c, decide_eq_false c.1, decide_eq_false c.2]; simp
  · rw [if_neg c]
    have h : (!decide (r.set = ⟨#[]⟩) && !decide (r.set = set)) = false := by
      by_cases c1 : r.set = ⟨#[]⟩
      · rw [decide_eq_true c1]; rfl
      · have c2 : r.set = set := Classical.byContradiction fun k => c ⟨c1, k⟩
        rw [decide_eq_true c2]; simp
    rw [h]
    by_cases c0 : r.kinds.length = 0
    · rw [if_pos c0, if_pos c0]
      have : (¬ kind = 2) ↔ kind ∈ [1, 3, 4, 5] := by simp; omega
      by_cases c2 : kind = 2
      · rw [decide_eq_false (fun k => k c2), decide_eq_false (fun k => (this.2 k) c2)]; rfl
      · rw [decide_eq_true c2, decide_eq_true (this.1 c2)]; rfl
    · rw [if_neg c0, if_neg c0]; simp
end Go.Proofs.YtlfnmmnbfoimeaaGreatDoor

/- tag.scriptFault, tag.isSet, walked. -/
namespace Go.Proofs.YtlfnmmnbfoimeaaGreatDoor
set_option linter.unusedVariables false
open Go.RowKit Go.Sort

set_option maxRecDepth 100000 in
set_option maxHeartbeats 4000000 in
theorem tagFault_c {F : Nat → Prop} (t : ByteArray) (ls : List (Scene × Value)) (v : Value) (w : World) (h : ScL w F t ls v) (hm : MaxLaid w) :
    Calls Tryz.prog 25 #[.agg #[.string t, v]] w (StP ⟨t, ls.map (·.1)⟩ w) := by
  obtain ⟨A, c, rfl, hlc, hcm⟩ := h.sli.form
  have HB := Lib.hid ((Below.refl w.heap.size w).alloc (Nat.le_refl _) (.cells #[.string t, .slice A ls.length c] 28))
  have h1 := h.below HB.out
  have HCK := Lib.hid (Check_c t ls (.slice A ls.length c) (w.alloc (.cells #[.string t, .slice A ls.length c] 28)) h1 (max_alloc hm _))
  have HH := Lib.hid h1
  have HY := Lib.hid (fun (W : World) (hb : Below (w.alloc (.cells #[.string t, .slice A ls.length c] 28)).heap.size (w.alloc (.cells #[.string t, .slice A ls.length c] 28)) W) => show W.cell? ⟨w.heap.size, 0, none⟩ = some (.string t) ∧ W.cell? ⟨w.heap.size, 1, none⟩ = some (.slice A ls.length c) by
    obtain ⟨y, _⟩ := str_cells ((hb.block w.heap.size (by simp)).trans (heap_alloc_new w _))
    exact ⟨y 0, y 1⟩)
  have HST := Lib.hid (show stE ⟨t, ls.map (·.1)⟩ = if ¬ chkE ⟨t, ls.map (·.1)⟩ = 0 then chkE ⟨t, ls.map (·.1)⟩ else if (ls.any fun x => decide (x.1.no = ⟨#[]⟩)) = true then 10 else 0 by unfold stE; rw [List.any_map]; rfl)
  clear h h1 hm
  obtain ⟨L, hL⟩ : ∃ L, ls.length = L := ⟨_, rfl⟩
  have HL := Lib.hid hL
  rw [hL] at HCK HH HY hlc HB ⊢
  clear hL
  go_enter Tryz.func25, Tryz.ntmps25
  go_wp2_with fail
  refine HCK.out.mono ?_
  rintro e w2 ⟨rfl, hb2⟩
  obtain ⟨y0, y1⟩ := HY.out w2 hb2
  have HH2 := Lib.hid (HH.out.below hb2)
  have HB2 := Lib.hid (HB.out.trans (hb2.mono HB.out.size))
  clear hb2 HCK HY HB HH
  by_cases hc : chkE ⟨t, ls.map (·.1)⟩ = 0
  case neg =>
    have HR := Lib.hid (HST.out.trans (if_pos hc))
    have hne : (chkE ⟨t, ls.map (·.1)⟩ != 0) = true := by rw [bne_iff_ne]; exact hc
    clear hc
    generalize chkE ⟨t, ls.map (·.1)⟩ = ce at *
    go_wp2
    go_ret
    exact StP.mk HR.out HB2.out
  have HE := Lib.hid (HST.out.trans (if_neg (fun h => h hc)))
  rw [hc]
  clear hc HST
  go_wp2
  go_loopw [14] (fun iv wr => ∃ k : Nat, k ≤ L ∧ iv = .int .i64 k ∧ Hid (Below w2.heap.size w2 wr) ∧ Hid (∀ x ∈ ls.take k, ¬ x.1.no = ⟨#[]⟩)) (fun iv _ => L - (intOf iv).toNat)
  case atStart => exact ⟨0, Nat.zero_le _, rfl, Lib.hid (Below.refl _ _), by intro x hx; simp at hx⟩
  case round =>
    obtain ⟨k, hk, rfl, HBR, HN⟩ := hrel
    clear y0 y1
    by_cases hlt : k < L
    · have hkl : k < ls.length := by rw [HL.out]; exact hlt
      obtain ⟨b, off, rfl, hfb, c0, c1, c2, c3, c4⟩ := scAt (HH2.out.below HBR.out).sli k hkl
      obtain ⟨A4, cc4, h4, _, _⟩ := (HH2.out.par _ (List.getElem_mem hkl)).form
      rw [h4] at c4
      have HNX := Lib.hid (fun (h : ¬ (ls[k]'hkl).1.no = ⟨#[]⟩) => take_next (q := fun x : Scene × Value => ¬ x.1.no = ⟨#[]⟩) hkl HN.out h)
      have HAT := Lib.hid (fun (h : (ls[k]'hkl).1.no = ⟨#[]⟩) => show (ls.any fun x => decide (x.1.no = ⟨#[]⟩)) = true from List.any_eq_true.2 ⟨_, List.getElem_mem hkl, decide_eq_true h⟩)
      generalize (ls[k]'hkl).1 = x at *
      have HBX := Lib.hid (HBR.out.alloc HBR.out.size (.cells #[.string x.no, .int .i64 x.place, .string x.set, .int .i64 x.time, .slice A4 x.paras.length cc4] 66))
      have HBZ := Lib.hid (HB2.out.trans (HBX.out.mono HB2.out.size))
      have hx6 := heap_alloc_new wr (.cells #[.string x.no, .int .i64 x.place, .string x.set, .int .i64 x.time, .slice A4 x.paras.length cc4] 66)
      clear h4 HN
      go_upto_region 7 with (fail)
      generalize wr.alloc (.cells #[.string x.no, .int .i64 x.place, .string x.set, .int .i64 x.time, .slice A4 x.paras.length cc4] 66) = w6 at *
      generalize wr.heap.size = X at *
      obtain ⟨e0, e1, e2, e3, e4⟩ := sc_cells (str_cells hx6)
      clear hx6
      cases hne : x.no.toList.isEmpty with
      | true =>
        have HR := Lib.hid (HE.out.trans (if_pos (HAT.out ((empty_iff _).1 hne))))
        clear HNX HAT HE
        go_wp2
        go_ret
        exact StP.mk HR.out HBZ.out
      | false =>
        have HR := Lib.hid (HNX.out (fun e => by rw [(empty_iff _).2 e] at hne; cases hne))
        clear HNX HAT
        go_wp2
        go_roundw
        case rel => exact ⟨k + 1, by omega, intNum, HBX, HR.out⟩
        case measure => simp [intOf]; omega
    · have HR := Lib.hid (HE.out.trans (if_neg (by
        rw [Bool.not_eq_true, List.any_eq_false]
        intro x hx
        have h := take_all (q := fun x : Scene × Value => ¬ x.1.no = ⟨#[]⟩) (by rw [HL.out]; exact hlt) HN.out x hx
        simpa using h)))
      have HBZ := Lib.hid (HB2.out.trans (HBR.out.mono HB2.out.size))
      clear HE HN
      go_wp2
      go_ret
      exact StP.mk HR.out HBZ.out
set_option maxRecDepth 100000 in
set_option maxHeartbeats 800000 in
theorem tagSet_c (s : ByteArray) (w : World) (hs : s.size ≤ 1000000) (hm : MaxLaid w) :
    Calls Tryz.prog 51 #[.string s] w fun e w' => e = .returned (.bool (setB s)) ∧ Below w.heap.size w w' := by
  have HG := Lib.hid (Heading_c ⟨⟨#[]⟩, 1, s, 1, []⟩ none 0 0 w (show (⟨#[]⟩ : ByteArray).size ≤ 1000000 by decide) hs hm)
  have hz : headE ⟨⟨#[]⟩, 1, s, 1, []⟩ = if setB s = false then 3 else 0 := by
    unfold headE
    rw [if_neg (by simp), if_neg (by simp)]
  have HZ := Lib.hid hz
  have HG2 := Lib.hid (show Calls Tryz.prog 90 #[.agg #[.string ⟨#[]⟩, .int .i64 1, .string s, .int .i64 1, .slice none 0 0]] w (fun e w' => ∃ t, e = .returned (.tuple #[.string t, .int .i64 (if setB s = false then 3 else 0)]) ∧ Below w.heap.size w w') from HG.out.mono fun e w' h => ⟨hdV ⟨⟨#[]⟩, 1, s, 1, []⟩, by rw [← HZ.out]; exact h.1, h.2⟩)
  clear hz hm HG HZ
  cases hb : setB s with
  | true =>
    rw [hb] at HG2
    go_enter Tryz.func51, Tryz.ntmps51
    go_wp2_with fail
    refine HG2.out.mono ?_
    rintro e w2 ⟨t, rfl, hb2⟩
    go_wp2
    go_ret
    exact ⟨rfl, hb2⟩
  | false =>
    rw [hb] at HG2
    go_enter Tryz.func51, Tryz.ntmps51
    go_wp2_with fail
    refine HG2.out.mono ?_
    rintro e w2 ⟨t, rfl, hb2⟩
    go_wp2
    go_ret
    exact ⟨rfl, hb2⟩
end Go.Proofs.YtlfnmmnbfoimeaaGreatDoor

/- tag.applies, walked. -/
namespace Go.Proofs.YtlfnmmnbfoimeaaGreatDoor
set_option linter.unusedVariables false
open Go.RowKit Go.Sort

set_option maxRecDepth 100000 in
set_option maxHeartbeats 4000000 in
theorem applies_c {F : Nat → Prop} (x : Rul) (v : Value) (y : Scene) (A : Option Addr) (n c : Nat) (kind : Int) (w : World) (hv : Sli intR w F x.kinds v) (hF : ∀ b, F b → b < w.heap.size) (hlen : x.kinds.length ≤ 1000) :
    Calls Tryz.prog 28 #[ruV x v, .agg #[.string y.no, .int .i64 y.place, .string y.set, .int .i64 y.time, .slice A n c], .int .i64 kind] w fun e w' => e = .returned (.bool (apB x y.set kind)) ∧ Below w.heap.size w w' := by
  obtain ⟨A1, c1, rfl, hlc, hcm⟩ := hv.form
  obtain ⟨L, hL⟩ : ∃ L, x.kinds.length = L := ⟨_, rfl⟩
  have HL := Lib.hid hL
  have HA := Lib.hid (show apB x y.set kind = if ¬ x.set = ⟨#[]⟩ ∧ ¬ x.set = y.set then false else if L = 0 then decide (¬ kind = 2) else decide (kind ∈ x.kinds) by rw [← hL]; rfl)
  rw [hL] at hlc hlen hv ⊢
  rw [show ruV x (.slice A1 L c1) = .agg #[.int .i64 x.kind, .string x.name, .string x.pat, .slice A1 L c1, .string x.set] from rfl]
  have HV := Lib.hid hv
  have HF := Lib.hid hF
  have HB := Lib.hid (((Below.refl w.heap.size w).alloc (Nat.le_refl _) (.cells #[.int .i64 x.kind, .string x.name, .string x.pat, .slice A1 L c1, .string x.set] 50)).alloc (by simp) (.cells #[.string y.no, .int .i64 y.place, .string y.set, .int .i64 y.time, .slice A n c] 66))
  have hx1 : ((w.alloc (.cells #[.int .i64 x.kind, .string x.name, .string x.pat, .slice A1 L c1, .string x.set] 50)).alloc (.cells #[.string y.no, .int .i64 y.place, .string y.set, .int .i64 y.time, .slice A n c] 66)).heap[w.heap.size]? = some (.cells #[.int .i64 x.kind, .string x.name, .string x.pat, .slice A1 L c1, .string x.set] 50 (0, 0)) := (Below.heap_alloc _ _ _ (by simp)).trans (heap_alloc_new w _)
  have hx2 : ((w.alloc (.cells #[.int .i64 x.kind, .string x.name, .string x.pat, .slice A1 L c1, .string x.set] 50)).alloc (.cells #[.string y.no, .int .i64 y.place, .string y.set, .int .i64 y.time, .slice A n c] 66)).heap[w.heap.size + 1]? = some (.cells #[.string y.no, .int .i64 y.place, .string y.set, .int .i64 y.time, .slice A n c] 66 (0, 0)) := by
    have h := heap_alloc_new (w.alloc (.cells #[.int .i64 x.kind, .string x.name, .string x.pat, .slice A1 L c1, .string x.set] 50)) (.cells #[.string y.no, .int .i64 y.place, .string y.set, .int .i64 y.time, .slice A n c] 66)
    rw [show (w.alloc (.cells #[.int .i64 x.kind, .string x.name, .string x.pat, .slice A1 L c1, .string x.set] 50)).heap.size = w.heap.size + 1 by simp] at h
    exact h
  have hcx : (w.alloc (.cells #[.int .i64 x.kind, .string x.name, .string x.pat, .slice A1 L c1, .string x.set] 50)).heap.size = w.heap.size + 1 := by simp
  have hs2 : ((w.alloc (.cells #[.int .i64 x.kind, .string x.name, .string x.pat, .slice A1 L c1, .string x.set] 50)).alloc (.cells #[.string y.no, .int .i64 y.place, .string y.set, .int .i64 y.time, .slice A n c] 66)).heap.size = w.heap.size + 2 := by simp
  clear hv hF hL
  go_enter Tryz.func28, Tryz.ntmps28
  go_upto_region 1 with (fail)
  clear hcx
  generalize (w.alloc (.cells #[.int .i64 x.kind, .string x.name, .string x.pat, .slice A1 L c1, .string x.set] 50)).alloc (.cells #[.string y.no, .int .i64 y.place, .string y.set, .int .i64 y.time, .slice A n c] 66) = w1 at *
  have HX := Lib.hid (fun (W : World) (hb : Below w1.heap.size w1 W) => show W.cell? ⟨w.heap.size, 2, none⟩ = some (.string x.pat) ∧ W.cell? ⟨w.heap.size, 3, none⟩ = some (.slice A1 L c1) ∧ W.cell? ⟨w.heap.size, 4, none⟩ = some (.string x.set) ∧ W.cell? ⟨w.heap.size + 1, 2, none⟩ = some (.string y.set) by
    obtain ⟨z, _⟩ := str_cells ((hb.block w.heap.size (by omega)).trans hx1)
    obtain ⟨z2, _⟩ := str_cells ((hb.block (w.heap.size + 1) (by omega)).trans hx2)
    exact ⟨z 2, z 3, z 4, z2 2⟩)
  clear hx1 hx2
  obtain ⟨x2, x3, x4, y2⟩ := HX.out w1 (Below.refl _ _)
  obtain ⟨b1, hb1⟩ : ∃ b1 : Bool, decide (¬ x.set = ⟨#[]⟩ ∧ ¬ x.set = y.set) = b1 := ⟨_, rfl⟩
  have HB1 := Lib.hid hb1
  clear hb1
  go_cut [16] (fun s16 wx => s16 = .bool b1 ∧ Hid (Below w1.heap.size w1 wx))
  case first =>
    cases he : x.set.toList.isEmpty with
    | true =>
      have hb : b1 = false := by rw [← HB1.out]; exact decide_eq_false (fun h => h.1 ((empty_iff _).1 he))
      subst hb
      first | go_quiet (fail) | skip
      go_wp2
      go_meet
      exact ⟨rfl, Lib.hid (by first | exact Below.refl _ _ | exact below_drewN (Below.refl _ _) _)⟩
    | false =>
      have hne : ¬ x.set = ⟨#[]⟩ := fun e => by rw [(empty_iff _).2 e] at he; cases he
      by_cases hq : x.set = y.set
      · have hb : b1 = false := by rw [← HB1.out]; exact decide_eq_false (fun h => h.2 hq)
        subst hb
        rw [hq] at x4 he
        clear hne hq
        first | go_quiet (fail) | skip
        go_wp2
        go_meet
        exact ⟨rfl, Lib.hid (by first | exact Below.refl _ _ | exact below_drewN (Below.refl _ _) _)⟩
      · have hb : b1 = true := by rw [← HB1.out]; exact decide_eq_true ⟨hne, hq⟩
        subst hb
        have q2 := beq_ne (a := x.set) (b := y.set) hq
        have q2' : ¬ x.set.toList = y.set.toList := by simpa using q2
        clear hne hq
        first | go_quiet (fail) | skip
        go_wp2
        go_meet
        exact ⟨rfl, Lib.hid (by first | exact Below.refl _ _ | exact below_drewN (Below.refl _ _) _)⟩
  case rest =>
  obtain ⟨rfl, HBC⟩ := hcut
  have HBZ := Lib.hid (HB.out.trans (HBC.out.mono HB.out.size))
  clear x2 x3 x4 y2 HB
  obtain ⟨x2, x3, x4, y2⟩ := HX.out wc HBC.out
  cases b1 with
  | true =>
    have HR := Lib.hid (HA.out.trans (if_pos (of_decide_eq_true HB1.out)))
    clear HA HB1
    go_wp2
    go_ret
    exact ⟨ret_bool HR.out.symm, HBZ.out⟩
  | false =>
  have HA2 := Lib.hid (HA.out.trans (if_neg (of_decide_eq_false HB1.out)))
  clear HB1 HA
  by_cases hL0 : L = 0
  · subst hL0
    have HR := Lib.hid (HA2.out.trans (if_pos rfl))
    clear HA2
    by_cases hk2 : kind = 2
    · subst hk2
      go_wp2
      go_ret
      exact ⟨ret_bool (by rw [HR.out]; rfl), HBZ.out⟩
    · have q1 : (kind != 2) = true := by rw [bne_iff_ne]; exact hk2
      have HR2 := Lib.hid (HR.out.trans (decide_eq_true hk2))
      clear HR hk2
      go_wp2
      go_ret
      exact ⟨ret_bool (by rw [HR2.out]), HBZ.out⟩
  · have HR := Lib.hid (HA2.out.trans (if_neg hL0))
    have hL1 : ((L : Int) == 0) = false := beq_eq_false_iff_ne.2 (by omega)
    have HCI := Lib.hid (contInt_c x.kinds (.slice A1 L c1) kind wc (HV.out.below HBZ.out HF.out) (fun b hb => Nat.lt_of_lt_of_le (HF.out b hb) HBZ.out.size) (by rw [HL.out]; omega))
    clear HA2 hL0
    go_wp2_with fail
    refine HCI.out.mono ?_
    rintro e w4 ⟨rfl, hb4⟩
    have HB4 := Lib.hid (HBZ.out.trans (hb4.mono HBZ.out.size))
    clear hb4 HCI
    generalize decide (kind ∈ x.kinds) = bb at *
    go_wp2
    go_ret
    exact ⟨ret_bool HR.out.symm, HB4.out⟩
end Go.Proofs.YtlfnmmnbfoimeaaGreatDoor

/- tag.ruleFault, tag.CheckRules, walked. -/
namespace Go.Proofs.YtlfnmmnbfoimeaaGreatDoor
set_option linter.unusedVariables false
open Go.RowKit Go.Sort

def RuP (x : Rul) (w : World) (e : Ending) (w' : World) : Prop := e = .returned (.int .i64 (ruE x)) ∧ Below w.heap.size w w'
theorem RuP.mk {x : Rul} {q : Int} {w w' : World} (h : ruE x = q) (hb : Below w.heap.size w w') : RuP x w (.returned (.int .i64 q)) w' := ⟨by rw [h], hb⟩
theorem ruE_1 {x : Rul} (h : ¬ elE x.kind x.name = 0) : ruE x = elE x.kind x.name := if_pos h
theorem ruE_2 {x : Rul} (h : elE x.kind x.name = 0) (h2 : x.kind = 11) : ruE x = 4 := by unfold ruE; rw [if_neg (by rw [h]; decide), if_pos h2]
theorem ruE_3 {x : Rul} (h : elE x.kind x.name = 0) (h2 : ¬ x.kind = 11) (h3 : patB x.pat = false) : ruE x = 9 := by unfold ruE; rw [if_neg (by rw [h]; decide), if_neg h2, if_pos h3]
theorem ruE_4 {x : Rul} (h : elE x.kind x.name = 0) (h2 : ¬ x.kind = 11) (h3 : patB x.pat = true) : ruE x = if ¬ kdE none x.kinds = 0 then kdE none x.kinds else if ¬ x.set = ⟨#[]⟩ ∧ setB x.set = false then 5 else 0 := by
  unfold ruE; rw [if_neg (by rw [h]; decide), if_neg h2, if_neg (by rw [h3]; decide)]
set_option maxRecDepth 100000 in
set_option maxHeartbeats 8000000 in
theorem ruleFault_c {F : Nat → Prop} (x : Rul) (v : Value) (w : World) (hv : Sli intR w F x.kinds v) (hF : ∀ b, F b → b < w.heap.size) (hz : x.name.size ≤ 1000 ∧ x.pat.size ≤ 1000 ∧ x.set.size ≤ 1000 ∧ x.kinds.length ≤ 1000) (hm : MaxLaid w) :
    Calls Tryz.prog 21 #[ruV x v] w (RuP x w) := by
  obtain ⟨A, c, rfl, hlc, hcm⟩ := hv.form
  obtain ⟨L, hL⟩ : ∃ L, x.kinds.length = L := ⟨_, rfl⟩
  have HL := Lib.hid hL
  have HV := Lib.hid hv
  have HF := Lib.hid hF
  have HB := Lib.hid ((Below.refl w.heap.size w).alloc (Nat.le_refl _) (.cells (ruCs x (.slice A L c)) 50))
  have HM := Lib.hid (fun (W : World) (h : Below w.heap.size w W) => max_below hm h (Nat.le_refl _))
  have HX := Lib.hid (fun (W : World) (hb : Below (w.alloc (.cells (ruCs x (.slice A L c)) 50)).heap.size (w.alloc (.cells (ruCs x (.slice A L c)) 50)) W) => show W.cell? ⟨w.heap.size, 0, none⟩ = some (.int .i64 x.kind) ∧ W.cell? ⟨w.heap.size, 1, none⟩ = some (.string x.name) ∧ W.cell? ⟨w.heap.size, 2, none⟩ = some (.string x.pat) ∧ W.cell? ⟨w.heap.size, 3, none⟩ = some (.slice A L c) ∧ W.cell? ⟨w.heap.size, 4, none⟩ = some (.string x.set) by
    obtain ⟨y, _⟩ := str_cells ((hb.block w.heap.size (by simp)).trans (heap_alloc_new w _))
    exact ⟨y 0, y 1, y 2, y 3, y 4⟩)
  obtain ⟨z1, z2, z3, z4⟩ := hz
  rw [hL] at HV hlc z4 ⊢
  rw [show ruV x (.slice A L c) = .agg #[.int .i64 x.kind, .string x.name, .string x.pat, .slice A L c, .string x.set] from rfl]
  rw [show ruCs x (.slice A L c) = #[.int .i64 x.kind, .string x.name, .string x.pat, .slice A L c, .string x.set] from rfl] at HB HX
  have H1 := Lib.hid (@ruE_1 x)
  have H2 := Lib.hid (@ruE_2 x)
  have H3 := Lib.hid (@ruE_3 x)
  have H4 := Lib.hid (@ruE_4 x)
  clear hv hF hm hL
  go_enter Tryz.func21, Tryz.ntmps21
  go_upto_region 1 with (fail)
  generalize w.alloc (.cells #[.int .i64 x.kind, .string x.name, .string x.pat, .slice A L c, .string x.set] 50) = w1 at *
  obtain ⟨x0, x1, x2, x3, x4⟩ := HX.out w1 (Below.refl _ _)
  go_wp2_with fail
  refine (CheckElement_c x.kind x.name w1 (by omega) (HM.out w1 HB.out)).mono ?_
  rintro e w2 ⟨rfl, hb2⟩
  have HK2 := Lib.hid hb2
  have HB2 := Lib.hid (HB.out.trans (hb2.mono HB.out.size))
  clear hb2 x0 x1 x2 x3 x4
  obtain ⟨x0, x1, x2, x3, x4⟩ := HX.out w2 HK2.out
  obtain ⟨E, hE⟩ : ∃ E, elE x.kind x.name = E := ⟨_, rfl⟩
  rw [hE] at H1 H2 H3 H4 ⊢
  clear hE
  by_cases hE0 : E = 0
  case neg =>
    have hne : (E != 0) = true := by rw [bne_iff_ne]; exact hE0
    have HR := Lib.hid (H1.out hE0)
    clear H1 H2 H3 H4 hE0
    go_wp2
    go_ret
    exact RuP.mk HR.out HB2.out
  subst hE0
  clear H1
  by_cases hk1 : x.kind = 11
  · have HR := Lib.hid (H2.out rfl hk1)
    rw [hk1] at x0
    clear H2 H3 H4
    go_wp2
    go_ret
    exact RuP.mk HR.out HB2.out
  have H3b := Lib.hid (H3.out rfl hk1)
  have H4b := Lib.hid (H4.out rfl hk1)
  have hk1b : (x.kind == 11) = false := beq_eq_false_iff_ne.2 hk1
  clear H2 H3 H4
  go_wp2_with fail
  refine (CheckPattern_c x.pat w2 (by omega) (HM.out w2 HB2.out)).mono ?_
  rintro e w3 ⟨rfl, hb3⟩
  have HK3 := Lib.hid (HK2.out.trans (hb3.mono HK2.out.size))
  have HB3 := Lib.hid (HB2.out.trans (hb3.mono HB2.out.size))
  clear hb3 x0 x1 x2 x3 x4 hk1b hk1 HK2 HB2
  obtain ⟨x0, x1, x2, x3, x4⟩ := HX.out w3 HK3.out
  cases hp : patB x.pat with
  | false =>
    have HR := Lib.hid (H3b.out hp)
    rw [patE_bad hp]
    clear H3b H4b hp
    go_wp2
    go_ret
    exact RuP.mk HR.out HB3.out
  | true =>
  have H4c := Lib.hid (H4b.out hp)
  rw [patE_yes hp]
  clear H3b H4b hp
  go_wp2
  go_loopw [26] (fun iv wr => ∃ k : Nat, k ≤ L ∧ iv = .int .i64 k ∧ Hid (Below w3.heap.size w3 wr) ∧ Hid (kdE none x.kinds = kdE (kdOf x.kinds k) (x.kinds.drop k))) (fun iv _ => L - (intOf iv).toNat)
  case atStart => exact ⟨0, Nat.zero_le _, rfl, Lib.hid (Below.refl _ _), rfl⟩
  case round =>
    obtain ⟨k, hk, rfl, HBR, HN⟩ := hrel
    have HBZ := Lib.hid (HB3.out.trans (HBR.out.mono HB3.out.size))
    have HKZ := Lib.hid (HK3.out.trans (HBR.out.mono HK3.out.size))
    clear x0 x1 x2 x3 x4
    obtain ⟨x0, x1, x2, x3, x4⟩ := HX.out wr HKZ.out
    by_cases hlt : k < L
    · have hkl : k < x.kinds.length := by rw [HL.out]; exact hlt
      obtain ⟨b, off, rfl, hfb, c0⟩ := intAt (HV.out.below HBZ.out HF.out) k hkl
      have HE1 := Lib.hid (fun h : isKd (x.kinds[k]'hkl) = false => HN.out.trans (kdE_kind hkl h))
      have HE2 := Lib.hid (fun (h : isKd (x.kinds[k]'hkl) = true) (h0 : 0 < k) (ho : (x.kinds[k]'hkl) ≤ x.kinds[k - 1]'(by omega)) => HN.out.trans (kdE_order hkl h h0 ho))
      have HE3 := Lib.hid (fun (h : isKd (x.kinds[k]'hkl) = true) (ho : ∀ h0 : 0 < k, ¬ (x.kinds[k]'hkl) ≤ x.kinds[k - 1]'(by omega)) => HN.out.trans (kdE_next hkl h ho))
      generalize (x.kinds[k]'hkl) = kk at *
      go_upto_region 12 with (fail)
      go_cut [44] (fun s44 wx => s44 = .bool (!isKd kk) ∧ Hid (Below wr.heap.size wr wx))
      case first =>
        clear HE1 HE2 HE3 HN
        by_cases h1 : kk = 1
        · subst h1
          go_wp2
          go_meet
          exact ⟨rfl, Lib.hid (by first | exact Below.refl _ _ | exact below_drewN (Below.refl _ _) _)⟩
        have q1 : (kk != 1) = true := by rw [bne_iff_ne]; exact h1
        by_cases h3 : kk = 3
        · subst h3
          go_wp2
          go_meet
          exact ⟨rfl, Lib.hid (by first | exact Below.refl _ _ | exact below_drewN (Below.refl _ _) _)⟩
        have q3 : (kk != 3) = true := by rw [bne_iff_ne]; exact h3
        by_cases h4 : kk = 4
        · subst h4
          go_wp2
          go_meet
          exact ⟨rfl, Lib.hid (by first | exact Below.refl _ _ | exact below_drewN (Below.refl _ _) _)⟩
        have q4 : (kk != 4) = true := by rw [bne_iff_ne]; exact h4
        by_cases h5 : kk = 5
        · subst h5
          go_wp2
          go_meet
          exact ⟨rfl, Lib.hid (by first | exact Below.refl _ _ | exact below_drewN (Below.refl _ _) _)⟩
        have q5 : (kk != 5) = true := by rw [bne_iff_ne]; exact h5
        have HVK := Lib.hid (show isKd kk = false by unfold isKd; rw [decide_eq_false h1, decide_eq_false h3, decide_eq_false h4, decide_eq_false h5]; rfl)
        clear h1 h3 h4 h5
        go_wp2
        go_meet
        exact ⟨by rw [HVK.out]; rfl, Lib.hid (by first | exact Below.refl _ _ | exact below_drewN (Below.refl _ _) _)⟩
      case rest =>
      obtain ⟨rfl, HBC⟩ := hcut
      have HBR2 := Lib.hid (HBR.out.trans (HBC.out.mono HBR.out.size))
      have HBZ2 := Lib.hid (HBZ.out.trans (HBC.out.mono HBZ.out.size))
      have HKZ2 := Lib.hid (HKZ.out.trans (HBC.out.mono HKZ.out.size))
      clear x0 x1 x2 x3 x4 c0 HBR HBZ HKZ HBC
      obtain ⟨x0, x1, x2, x3, x4⟩ := HX.out wc HKZ2.out
      cases hkd : isKd kk with
      | false =>
        have hz : kdE none x.kinds = 4 := HE1.out hkd
        have HR := Lib.hid (show ruE x = 4 by rw [H4c.out, if_pos (by rw [hz]; decide), hz])
        clear HE1 HE2 HE3 HN hz hkd H4c
        go_wp2
        go_ret
        exact RuP.mk HR.out HBZ2.out
      | true =>
      have HE2b := Lib.hid (HE2.out hkd)
      have HE3b := Lib.hid (HE3.out hkd)
      clear HE1 HE2 HE3 HN hkd
      obtain ⟨od, hod⟩ : ∃ od : Bool, (if h0 : 0 < k then decide (kk ≤ x.kinds[k - 1]'(by omega)) else false) = od := ⟨_, rfl⟩
      have HOD := Lib.hid hod
      clear hod
      go_upto_region 14 with (fail)
      go_cut [56] (fun s56 wx => s56 = .bool od ∧ Hid (Below wc.heap.size wc wx))
      case first =>
        clear HE2b HE3b
        by_cases hk0 : k = 0
        · subst hk0
          have hpb : od = false := by rw [← HOD.out, dif_neg (by omega)]
          subst hpb
          first | go_quiet (fail) | skip
          go_wp2
          go_meet
          exact ⟨rfl, Lib.hid (by first | exact Below.refl _ _ | exact below_drewN (Below.refl _ _) _)⟩
        · obtain ⟨K, rfl⟩ : ∃ K, k = K + 1 := ⟨k - 1, by omega⟩
          have hKl : K < x.kinds.length := by rw [HL.out]; omega
          obtain ⟨b', off', hA, hfb', e0⟩ := intAt (HV.out.below HBZ2.out HF.out) K hKl
          have hpz : decide (kk ≤ x.kinds[K]'hKl) = od := by rw [← HOD.out, dif_pos (by omega)]; simp
          generalize (x.kinds[K]'hKl) = z at *
          injection hA with hA
          injection hA with hA1 hA2
          subst hA1
          subst hA2
          have q1 : (0 : Int) ≤ K := by omega
          have q2 : (0 : Int) < (K : Int) + 1 := by omega
          have q3 : (K : Int) < (L : Int) := by omega
          have q4 : IntKind.i64.wrap (K : Int) = K := IntWalk.i64_in _ (by omega)
          have q5 : IntKind.i64.wrap ((K : Int) + 1 - 1) = K := by rw [show (K : Int) + 1 - 1 = K by omega]; exact q4
          clear hk0 hKl
          by_cases b1 : kk ≤ z
          · have hpb : od = true := by rw [← hpz, decide_eq_true b1]
            subst hpb
            clear hpz
            first | go_quiet (fail) | skip
            go_wp2
            go_meet
            exact ⟨rfl, Lib.hid (by first | exact Below.refl _ _ | exact below_drewN (Below.refl _ _) _)⟩
          · have b1' : z < kk := by omega
            have HD := Lib.hid (decide_eq_false b1)
            have hpb : od = false := by rw [← hpz, decide_eq_false b1]
            subst hpb
            clear hpz b1
            first | go_quiet (fail) | skip
            go_wp2
            go_meet
            exact ⟨by first | rfl | rw [HD.out], Lib.hid (by first | exact Below.refl _ _ | exact below_drewN (Below.refl _ _) _)⟩
      case rest =>
      obtain ⟨rfl, HBD⟩ := hcut
      have HBR3 := Lib.hid (HBR2.out.trans (HBD.out.mono HBR2.out.size))
      have HBZ3 := Lib.hid (HBZ2.out.trans (HBD.out.mono HBZ2.out.size))
      clear x0 x1 x2 x3 x4 HBR2 HBZ2 HKZ2 HBD
      cases od with
      | true =>
        have hz : kdE none x.kinds = 7 := by
          by_cases h0 : 0 < k
          · have h := HOD.out
            rw [dif_pos h0] at h
            exact HE2b.out h0 (of_decide_eq_true h)
          · have h := HOD.out
            rw [dif_neg h0] at h
            cases h
        have HR := Lib.hid (show ruE x = 7 by rw [H4c.out, if_pos (by rw [hz]; decide), hz])
        clear HE2b HE3b HOD hz H4c
        go_wp2
        go_ret
        exact RuP.mk HR.out HBZ3.out
      | false =>
        have HR := Lib.hid (HE3b.out (fun h0 hle => by
          have h := HOD.out
          rw [dif_pos h0, decide_eq_true hle] at h
          cases h))
        clear HE2b HE3b HOD
        go_wp2
        go_roundw
        case rel => exact ⟨k + 1, by omega, intNum, HBR3, HR.out⟩
        case measure => simp [intOf]; omega
    · have hz : kdE none x.kinds = 0 := HN.out.trans (kdE_end (by rw [HL.out]; exact hlt))
      have H5 := Lib.hid (H4c.out.trans (if_neg (by rw [hz]; decide)))
      clear hz H4c HN
      have HTS := Lib.hid (tagSet_c x.set wr (by omega) (HM.out wr HBZ.out))
      go_upto_region 17 with (fail)
      cases he : x.set.toList.isEmpty with
      | true =>
        have HR := Lib.hid (H5.out.trans (if_neg (fun h => h.1 ((empty_iff _).1 he))))
        clear H5 HTS
        go_cut [66] (fun s66 wx => s66 = .bool false ∧ Hid (Below wr.heap.size wr wx))
        case first =>
          first | go_quiet (fail) | skip
          go_wp2
          go_meet
          exact ⟨rfl, Lib.hid (by first | exact Below.refl _ _ | exact below_drewN (Below.refl _ _) _)⟩
        case rest =>
        obtain ⟨rfl, HBC⟩ := hcut
        have HBZ2 := Lib.hid (HBZ.out.trans (HBC.out.mono HBZ.out.size))
        clear HBC HBZ x0 x1 x2 x3 x4
        go_wp2
        go_ret
        exact RuP.mk HR.out HBZ2.out
      | false =>
        have hne : ¬ x.set = ⟨#[]⟩ := fun e => by rw [(empty_iff _).2 e] at he; cases he
        cases hsb : setB x.set with
        | true =>
          have HR := Lib.hid (H5.out.trans (if_neg (fun h => by rw [hsb] at h; cases h.2)))
          rw [hsb] at HTS
          clear H5 hne hsb
          go_wp2_with (first | (go_at_call 51; with_reducible refine HTS.out.mono ?_; rintro e w4 ⟨rfl, hb4⟩) | fail)
          go_ret
          exact RuP.mk HR.out (HBZ.out.trans (hb4.mono HBZ.out.size))
        | false =>
          have HR := Lib.hid (H5.out.trans (if_pos ⟨hne, hsb⟩))
          rw [hsb] at HTS
          clear H5 hne hsb
          go_wp2_with (first | (go_at_call 51; with_reducible refine HTS.out.mono ?_; rintro e w4 ⟨rfl, hb4⟩) | fail)
          go_ret
          exact RuP.mk HR.out (HBZ.out.trans (hb4.mono HBZ.out.size))
def RusP (l : List Rul) (w : World) (e : Ending) (w' : World) : Prop := e = .returned (.int .i64 (rulesE l)) ∧ Below w.heap.size w w'
theorem RusP.mk {l : List Rul} {q : Int} {w w' : World} (h : rulesE l = q) (hb : Below w.heap.size w w') : RusP l w (.returned (.int .i64 q)) w' := ⟨by rw [h], hb⟩
set_option maxRecDepth 100000 in
set_option maxHeartbeats 4000000 in
theorem CheckRules_c {F : Nat → Prop} (l : List (Rul × Value)) (v : Value) (w : World) (h : RuW w F l v) (hm : MaxLaid w) :
    Calls Tryz.prog 6 #[v] w (RusP (l.map (·.1)) w) := by
  obtain ⟨A, c, rfl, hlc, hcm⟩ := h.sli.form
  obtain ⟨L, hL⟩ : ∃ L, l.length = L := ⟨_, rfl⟩
  have HL := Lib.hid hL
  have HW := Lib.hid h
  have HM := Lib.hid (fun (W : World) (h : Below w.heap.size w W) => max_below hm h (Nat.le_refl _))
  have hlen := h.len
  rw [hL] at hlc hlen ⊢
  clear h hm hL
  by_cases h200 : 200 < L
  · have HR := Lib.hid (show rulesE (l.map (·.1)) = 2 by unfold rulesE; rw [List.length_map, HL.out, if_pos h200])
    have h200' : (200 : Int) < (L : Int) := by omega
    go_enter Tryz.func6, Tryz.ntmps6
    go_wp2
    go_ret
    exact RusP.mk HR.out (Below.refl _ _)
  have HRE := Lib.hid (show rulesE (l.map (·.1)) = rusE (l.map (·.1)) by unfold rulesE; rw [List.length_map, HL.out, if_neg h200])
  have h200' : (L : Int) ≤ 200 := by omega
  clear h200
  go_enter Tryz.func6, Tryz.ntmps6
  go_wp2
  go_loopw [11] (fun iv wr => ∃ k : Nat, k ≤ L ∧ iv = .int .i64 k ∧ Hid (Below w.heap.size w wr) ∧ Hid (rusE (l.map (·.1)) = rusE ((l.map (·.1)).drop k))) (fun iv _ => L - (intOf iv).toNat)
  case atStart => exact ⟨0, Nat.zero_le _, rfl, Lib.hid (Below.refl _ _), rfl⟩
  case round =>
    obtain ⟨k, hk, rfl, HBR, HN⟩ := hrel
    by_cases hlt : k < L
    · have hkl : k < l.length := by rw [HL.out]; exact hlt
      have hkm : k < (l.map (·.1)).length := by rw [List.length_map]; exact hkl
      have hWr := HW.out.below HBR.out
      obtain ⟨b, off, rfl, hfb, c0, c1, c2, c3, c4⟩ := ruAt hWr.sli k hkl
      have HN1 := Lib.hid (fun (h : ¬ ruE (l[k]'hkl).1 = 0) => HN.out.trans ((rusE_bad hkm (by rw [List.getElem_map]; exact h)).trans (by rw [List.getElem_map])))
      have HN2 := Lib.hid (fun (h : ruE (l[k]'hkl).1 = 0) => HN.out.trans (rusE_next hkm (by rw [List.getElem_map]; exact h)))
      obtain ⟨A4, cc4, h4, hlc4, _⟩ := (hWr.kds _ (List.getElem_mem hkl)).form
      have HKD := Lib.hid (hWr.kds _ (List.getElem_mem hkl))
      have hz := hWr.bd _ (List.getElem_mem hkl)
      rw [h4] at c3 HKD
      generalize (l[k]'hkl).1 = x at *
      clear h4 HN
      have hrf := ruleFault_c (F := F) x (.slice A4 x.kinds.length cc4) (wr.alloc (.cells #[.int .i64 x.kind, .string x.name, .string x.pat, .slice A4 x.kinds.length cc4, .string x.set] 50)) (HKD.out.alloc _ hWr.lt) (fun b hb => by have := hWr.lt b hb; simp; omega) hz (HM.out _ (HBR.out.alloc HBR.out.size _))
      have HBX := Lib.hid (HBR.out.alloc HBR.out.size (.cells #[.int .i64 x.kind, .string x.name, .string x.pat, .slice A4 x.kinds.length cc4, .string x.set] 50))
      have hx6 := heap_alloc_new wr (.cells #[.int .i64 x.kind, .string x.name, .string x.pat, .slice A4 x.kinds.length cc4, .string x.set] 50)
      obtain ⟨kl, hkl4⟩ : ∃ kl, x.kinds.length = kl := ⟨_, rfl⟩
      rw [show ruV x (.slice A4 x.kinds.length cc4) = .agg #[.int .i64 x.kind, .string x.name, .string x.pat, .slice A4 x.kinds.length cc4, .string x.set] from rfl] at hrf
      rw [hkl4] at c3 hrf HBX hx6
      have HRF := Lib.hid hrf
      clear hWr hrf hz hkl4 HKD
      go_upto_region 6 with (fail)
      generalize wr.alloc (.cells #[.int .i64 x.kind, .string x.name, .string x.pat, .slice A4 kl cc4, .string x.set] 50) = w6 at *
      obtain ⟨y, _⟩ := str_cells hx6
      have y0 : w6.cell? ⟨wr.heap.size, 0, none⟩ = some (.int .i64 x.kind) := y 0
      have y1 : w6.cell? ⟨wr.heap.size, 1, none⟩ = some (.string x.name) := y 1
      have y2 : w6.cell? ⟨wr.heap.size, 2, none⟩ = some (.string x.pat) := y 2
      have y3 : w6.cell? ⟨wr.heap.size, 3, none⟩ = some (.slice A4 kl cc4) := y 3
      have y4 : w6.cell? ⟨wr.heap.size, 4, none⟩ = some (.string x.set) := y 4
      clear y hx6 c0 c1 c2 c3 c4
      go_wp2_with fail
      refine HRF.out.mono ?_
      rintro e w7 ⟨rfl, hb7⟩
      have HB7 := Lib.hid (HBX.out.trans (hb7.mono HBX.out.size))
      clear hb7 HRF HBX y0 y1 y2 y3 y4
      by_cases h0 : ruE x = 0
      · have HR := Lib.hid (HN2.out h0)
        rw [h0]
        clear HN1 HN2 h0
        go_wp2
        go_roundw
        case rel => exact ⟨k + 1, by omega, intNum, HB7, HR.out⟩
        case measure => simp [intOf]; omega
      · have HR := Lib.hid (HRE.out.trans (HN1.out h0))
        have hne : (ruE x != 0) = true := by rw [bne_iff_ne]; exact h0
        clear HN1 HN2 h0
        generalize ruE x = q at *
        go_wp2
        go_ret
        exact RusP.mk HR.out HB7.out
    · have HR := Lib.hid (HRE.out.trans (HN.out.trans (rusE_end (by rw [List.length_map, HL.out]; exact hlt))))
      clear HN
      go_wp2
      go_ret
      exact RusP.mk HR.out HBR.out
end Go.Proofs.YtlfnmmnbfoimeaaGreatDoor

/- R.TagRulesFault, walked. -/
namespace Go.Proofs.YtlfnmmnbfoimeaaGreatDoor
set_option linter.unusedVariables false
open Go.RowKit Go.Sort

theorem isKd_mem (k : Int) : decide (k ∈ [1, 3, 4, 5]) = isKd k := by
  unfold isKd
  by_cases h1 : k = 1
  · subst h1; rfl
  by_cases h3 : k = 3
  · subst h3; rfl
  by_cases h4 : k = 4
  · subst h4; rfl
  by_cases h5 : k = 5
  · subst h5; rfl
  rw [decide_eq_false h1, decide_eq_false h3, decide_eq_false h4, decide_eq_false h5]
  simp [h1, h3, h4, h5]
theorem kdRow (w : World) (T : TypeId) : Sli intR (w.alloc (.cells #[.int .i64 1, .int .i64 3, .int .i64 4, .int .i64 5] T)) (fun q => q = w.heap.size) [1, 3, 4, 5] (.slice (some ⟨w.heap.size, 0, none⟩) 4 4) := by
  have h := Sli.new (R := intR) (w := w) (F := fun q => q = w.heap.size) (l := [1, 3, 4, 5]) (cs := [.int .i64 1, .int .i64 3, .int .i64 4, .int .i64 5]) T 4 (by
    have h0 := (((Lay.nil_ (R := intR) (w := w.alloc (.cells #[.int .i64 1, .int .i64 3, .int .i64 4, .int .i64 5] T)) (F := fun q => q = w.heap.size)).snoc (x := (1 : Int)) (a := [.int .i64 1]) rfl).snoc (x := (3 : Int)) (a := [.int .i64 3]) rfl).snoc (x := (4 : Int)) (a := [.int .i64 4]) rfl
    exact h0.snoc (x := (5 : Int)) (a := [.int .i64 5]) rfl) rfl (by decide) (by decide)
  exact h
set_option maxRecDepth 100000 in
set_option maxHeartbeats 8000000 in
theorem TagRulesFault_c {F : Nat → Prop} (l : List (Rul × Value)) (v : Value) (w : World) (h : RuW w F l v) (hm : MaxLaid w) (hs : SpLaid w) :
    Calls Tryz.prog 7 #[v] w (RusP (l.map (·.1)) w) := by
  obtain ⟨A, c, rfl, hlc, hcm⟩ := h.sli.form
  obtain ⟨N, hL⟩ : ∃ N, l.length = N := ⟨_, rfl⟩
  have HNL := Lib.hid hL
  have HW := Lib.hid h
  have HM := Lib.hid (fun (W : World) (h : Below w.heap.size w W) => max_below hm h (Nat.le_refl _))
  have HS := Lib.hid (fun (W : World) (h : Below w.heap.size w W) => sp_below hs h (Nat.le_refl _))
  have hlen := h.len
  rw [hL] at hlc hlen ⊢
  clear h hm hL hs
  by_cases h200 : 200 < N
  · have HR := Lib.hid (show rulesE (l.map (·.1)) = 2 by unfold rulesE; rw [List.length_map, HNL.out, if_pos h200])
    have h200' : (200 : Int) < (N : Int) := by omega
    go_enter Tryz.func7, Tryz.ntmps7
    go_wp2
    go_ret
    exact RusP.mk HR.out (Below.refl _ _)
  have HRE := Lib.hid (show rulesE (l.map (·.1)) = rusE (l.map (·.1)) by unfold rulesE; rw [List.length_map, HNL.out, if_neg h200])
  have h200' : (N : Int) ≤ 200 := by omega
  clear h200
  go_enter Tryz.func7, Tryz.ntmps7
  go_wp2
  go_loopw [14] (fun iv wr => ∃ k : Nat, k ≤ N ∧ iv = .int .i64 k ∧ Hid (Below w.heap.size w wr) ∧ Hid (rusE (l.map (·.1)) = rusE ((l.map (·.1)).drop k))) (fun iv _ => N - (intOf iv).toNat)
  case atStart => exact ⟨0, Nat.zero_le _, rfl, Lib.hid (Below.refl _ _), rfl⟩
  case round =>
    obtain ⟨n, hk, rfl, HBR, HN⟩ := hrel
    by_cases hltn : n < N
    · have hkl : n < l.length := by rw [HNL.out]; exact hltn
      have hkm : n < (l.map (·.1)).length := by rw [List.length_map]; exact hkl
      have hWr := HW.out.below HBR.out
      obtain ⟨b, off, rfl, hfb, c0, c1, c2, c3, c4⟩ := ruAt hWr.sli n hkl
      have HN1 := Lib.hid (fun (z : Int) (hz : ¬ z = 0) (h : ruE (l[n]'hkl).1 = z) => show rulesE (l.map (·.1)) = z from HRE.out.trans (HN.out.trans ((rusE_bad hkm (by rw [List.getElem_map, h]; exact hz)).trans (by rw [List.getElem_map]; exact h))))
      have HN2 := Lib.hid (fun (h : ruE (l[n]'hkl).1 = 0) => HN.out.trans (rusE_next hkm (by rw [List.getElem_map]; exact h)))
      obtain ⟨A4, cc4, h4, hlc4, hcm4⟩ := (hWr.kds _ (List.getElem_mem hkl)).form
      have HKD := Lib.hid (hWr.kds _ (List.getElem_mem hkl))
      have hz := hWr.bd _ (List.getElem_mem hkl)
      have HF := Lib.hid hWr.lt
      rw [h4] at c3 HKD
      generalize (l[n]'hkl).1 = x at *
      obtain ⟨z1, z2, z3, z4⟩ := hz
      clear h4 HN hkm
      obtain ⟨L, hL⟩ : ∃ L, x.kinds.length = L := ⟨_, rfl⟩
      have HL := Lib.hid hL
      rw [hL] at c3 HKD hlc4 z4
      clear hL hWr
      have HBX := Lib.hid (HBR.out.alloc HBR.out.size (.cells #[.int .i64 x.kind, .string x.name, .string x.pat, .slice A4 L cc4, .string x.set] 50))
      have hx6 := heap_alloc_new wr (.cells #[.int .i64 x.kind, .string x.name, .string x.pat, .slice A4 L cc4, .string x.set] 50)
      have HV := Lib.hid (HKD.out.alloc (.cells #[.int .i64 x.kind, .string x.name, .string x.pat, .slice A4 L cc4, .string x.set] 50) HF.out)
      have hF6 : ∀ b, F b → b < (wr.alloc (.cells #[.int .i64 x.kind, .string x.name, .string x.pat, .slice A4 L cc4, .string x.set] 50)).heap.size := fun b hb => by have := HF.out b hb; simp; omega
      have HF6 := Lib.hid hF6
      have hXlt : wr.heap.size < (wr.alloc (.cells #[.int .i64 x.kind, .string x.name, .string x.pat, .slice A4 L cc4, .string x.set] 50)).heap.size := by simp
      clear hF6 HKD HF
      go_upto_region 6 with (fail)
      generalize wr.alloc (.cells #[.int .i64 x.kind, .string x.name, .string x.pat, .slice A4 L cc4, .string x.set] 50) = w1 at *
      generalize wr.heap.size = X at *
      have HX := Lib.hid (fun (W : World) (hb : Below w1.heap.size w1 W) => show W.cell? ⟨X, 0, none⟩ = some (.int .i64 x.kind) ∧ W.cell? ⟨X, 1, none⟩ = some (.string x.name) ∧ W.cell? ⟨X, 2, none⟩ = some (.string x.pat) ∧ W.cell? ⟨X, 3, none⟩ = some (.slice A4 L cc4) ∧ W.cell? ⟨X, 4, none⟩ = some (.string x.set) by
        obtain ⟨y, _⟩ := str_cells ((hb.block X hXlt).trans hx6)
        exact ⟨y 0, y 1, y 2, y 3, y 4⟩)
      have H1 := Lib.hid (@ruE_1 x)
      have H2 := Lib.hid (@ruE_2 x)
      have H3 := Lib.hid (@ruE_3 x)
      have H4 := Lib.hid (@ruE_4 x)
      clear hx6 c0 c1 c2 c3 c4 HBR
      obtain ⟨x0, x1, x2, x3, x4⟩ := HX.out w1 (Below.refl _ _)
      go_wp2_with fail
      refine (ElementFault_c x.kind x.name w1 (by omega) (HS.out w1 HBX.out)).mono ?_
      rintro e w2 ⟨rfl, hb2⟩
      have HK2 := Lib.hid hb2
      have HB2 := Lib.hid (HBX.out.trans (hb2.mono HBX.out.size))
      clear hb2 x0 x1 x2 x3 x4
      obtain ⟨x0, x1, x2, x3, x4⟩ := HX.out w2 HK2.out
      obtain ⟨E, hE⟩ : ∃ E, elE x.kind x.name = E := ⟨_, rfl⟩
      rw [hE] at H1 H2 H3 H4 ⊢
      clear hE
      by_cases hE0 : E = 0
      case neg =>
        have hne : (E != 0) = true := by rw [bne_iff_ne]; exact hE0
        have HR := Lib.hid (HN1.out _ hE0 (H1.out hE0))
        clear H1 H2 H3 H4 hE0 HN1 HN2
        go_wp2
        go_ret
        exact RusP.mk HR.out HB2.out
      subst hE0
      clear H1
      by_cases hk1 : x.kind = 11
      · have HR := Lib.hid (HN1.out 4 (by decide) (H2.out rfl hk1))
        rw [hk1] at x0
        clear H2 H3 H4 HN1 HN2
        go_wp2
        go_ret
        exact RusP.mk HR.out HB2.out
      have H3b := Lib.hid (H3.out rfl hk1)
      have H4b := Lib.hid (H4.out rfl hk1)
      have hk1b : (x.kind == 11) = false := beq_eq_false_iff_ne.2 hk1
      clear H2 H3 H4
      go_wp2_with fail
      refine (PatternFault_c x.pat w2 (by omega) (HM.out w2 HB2.out)).mono ?_
      rintro e w3 ⟨rfl, hb3⟩
      have HK3 := Lib.hid (HK2.out.trans (hb3.mono HK2.out.size))
      have HB3 := Lib.hid (HB2.out.trans (hb3.mono HB2.out.size))
      clear hb3 x0 x1 x2 x3 x4 hk1b hk1 HK2 HB2
      obtain ⟨x0, x1, x2, x3, x4⟩ := HX.out w3 HK3.out
      cases hp : patB x.pat with
      | false =>
        have HR := Lib.hid (HN1.out 9 (by decide) (H3b.out hp))
        rw [patE_bad hp]
        clear H3b H4b hp HN1 HN2
        go_wp2
        go_ret
        exact RusP.mk HR.out HB3.out
      | true =>
      have H4c := Lib.hid (H4b.out hp)
      rw [patE_yes hp]
      clear H3b H4b hp
      go_wp2
      go_loopw [37] (fun iv wr => ∃ k : Nat, k ≤ L ∧ iv = .int .i64 k ∧ Hid (Below w3.heap.size w3 wr) ∧ Hid (kdE none x.kinds = kdE (kdOf x.kinds k) (x.kinds.drop k))) (fun iv _ => L - (intOf iv).toNat)
      case atStart => exact ⟨0, Nat.zero_le _, rfl, Lib.hid (Below.refl _ _), rfl⟩
      case round =>
        obtain ⟨k, hkL, rfl, HBR, HN⟩ := hrel
        have HBZ := Lib.hid (HB3.out.trans (HBR.out.mono HB3.out.size))
        have HKZ := Lib.hid (HK3.out.trans (HBR.out.mono HK3.out.size))
        clear x0 x1 x2 x3 x4
        obtain ⟨x0, x1, x2, x3, x4⟩ := HX.out wr HKZ.out
        by_cases hlt : k < L
        · have hklk : k < x.kinds.length := by rw [HL.out]; exact hlt
          obtain ⟨b1, off1, rfl, hfb1, c0⟩ := intAt (HV.out.below HKZ.out HF6.out) k hklk
          have HE1 := Lib.hid (fun h : isKd (x.kinds[k]'hklk) = false => HN.out.trans (kdE_kind hklk h))
          have HE2 := Lib.hid (fun (h : isKd (x.kinds[k]'hklk) = true) (h0 : 0 < k) (ho : (x.kinds[k]'hklk) ≤ x.kinds[k - 1]'(by omega)) => HN.out.trans (kdE_order hklk h h0 ho))
          have HE3 := Lib.hid (fun (h : isKd (x.kinds[k]'hklk) = true) (ho : ∀ h0 : 0 < k, ¬ (x.kinds[k]'hklk) ≤ x.kinds[k - 1]'(by omega)) => HN.out.trans (kdE_next hklk h ho))
          generalize (x.kinds[k]'hklk) = kk at *
          clear HN
          have HCI := Lib.hid (contInt_c (F := fun q => q = wr.heap.size) [1, 3, 4, 5] (.slice (some ⟨wr.heap.size, 0, none⟩) 4 4) kk (wr.alloc (.cells #[.int .i64 1, .int .i64 3, .int .i64 4, .int .i64 5] 3)) (kdRow wr _) (fun b hb => by rw [hb]; simp) (by decide))
          rw [isKd_mem] at HCI
          have hal := (Below.refl wr.heap.size wr).alloc (Nat.le_refl _) (.cells #[.int .i64 1, .int .i64 3, .int .i64 4, .int .i64 5] 3)
          have HAL := Lib.hid hal
          clear hal
          go_wp2_with fail
          refine HCI.out.mono ?_
          rintro e w4 ⟨rfl, hb4⟩
          have HBC := Lib.hid (HAL.out.trans (hb4.mono HAL.out.size))
          have HBR2 := Lib.hid (HBR.out.trans (HBC.out.mono HBR.out.size))
          have HBZ2 := Lib.hid (HBZ.out.trans (HBC.out.mono HBZ.out.size))
          have HKZ2 := Lib.hid (HKZ.out.trans (HBC.out.mono HKZ.out.size))
          clear x0 x1 x2 x3 x4 c0 HBR HBZ HKZ HBC HCI HAL hb4
          obtain ⟨x0, x1, x2, x3, x4⟩ := HX.out w4 HKZ2.out
          cases hkd : isKd kk with
          | false =>
            have hz : kdE none x.kinds = 4 := HE1.out hkd
            have HR := Lib.hid (HN1.out 4 (by decide) (show ruE x = 4 by rw [H4c.out, if_pos (by rw [hz]; decide), hz]))
            clear HE1 HE2 HE3 hz hkd H4c HN1 HN2
            go_wp2
            go_ret
            exact RusP.mk HR.out HBZ2.out
          | true =>
          have HE2b := Lib.hid (HE2.out hkd)
          have HE3b := Lib.hid (HE3.out hkd)
          clear HE1 HE2 HE3 hkd
          obtain ⟨od, hod⟩ : ∃ od : Bool, (if h0 : 0 < k then decide (kk ≤ x.kinds[k - 1]'(by omega)) else false) = od := ⟨_, rfl⟩
          have HOD := Lib.hid hod
          clear hod
          go_upto_region 19 with (fail)
          go_cut [47] (fun s47 wx => s47 = .bool od ∧ Hid (Below w4.heap.size w4 wx))
          case first =>
            clear HE2b HE3b HN1 HN2
            by_cases hk0 : k = 0
            · subst hk0
              have hpb : od = false := by rw [← HOD.out, dif_neg (by omega)]
              subst hpb
              first | go_quiet (fail) | skip
              go_wp2
              go_meet
              exact ⟨rfl, Lib.hid (by first | exact Below.refl _ _ | exact below_drewN (Below.refl _ _) _)⟩
            · obtain ⟨K, rfl⟩ : ∃ K, k = K + 1 := ⟨k - 1, by omega⟩
              have hKl : K < x.kinds.length := by rw [HL.out]; omega
              obtain ⟨b', off', hA, hfb', e0⟩ := intAt (HV.out.below HKZ2.out HF6.out) K hKl
              have hpz : decide (kk ≤ x.kinds[K]'hKl) = od := by rw [← HOD.out, dif_pos (by omega)]; simp
              generalize (x.kinds[K]'hKl) = z at *
              injection hA with hA
              injection hA with hA1 hA2
              subst hA1
              subst hA2
              have q1 : (0 : Int) ≤ K := by omega
              have q2 : (0 : Int) < (K : Int) + 1 := by omega
              have q3 : (K : Int) < (L : Int) := by omega
              have q4 : IntKind.i64.wrap (K : Int) = K := IntWalk.i64_in _ (by omega)
              have q5 : IntKind.i64.wrap ((K : Int) + 1 - 1) = K := by rw [show (K : Int) + 1 - 1 = K by omega]; exact q4
              clear hk0 hKl
              by_cases b1 : kk ≤ z
              · have hpb : od = true := by rw [← hpz, decide_eq_true b1]
                subst hpb
                clear hpz
                first | go_quiet (fail) | skip
                go_wp2
                go_meet
                exact ⟨rfl, Lib.hid (by first | exact Below.refl _ _ | exact below_drewN (Below.refl _ _) _)⟩
              · have b1' : z < kk := by omega
                have HD := Lib.hid (decide_eq_false b1)
                have hpb : od = false := by rw [← hpz, decide_eq_false b1]
                subst hpb
                clear hpz b1
                first | go_quiet (fail) | skip
                go_wp2
                go_meet
                exact ⟨by first | rfl | rw [HD.out], Lib.hid (by first | exact Below.refl _ _ | exact below_drewN (Below.refl _ _) _)⟩
          case rest =>
          obtain ⟨rfl, HBD⟩ := hcut
          have HBR3 := Lib.hid (HBR2.out.trans (HBD.out.mono HBR2.out.size))
          have HBZ3 := Lib.hid (HBZ2.out.trans (HBD.out.mono HBZ2.out.size))
          clear x0 x1 x2 x3 x4 HBR2 HBZ2 HKZ2 HBD
          cases od with
          | true =>
            have hz : kdE none x.kinds = 7 := by
              by_cases h0 : 0 < k
              · have h := HOD.out
                rw [dif_pos h0] at h
                exact HE2b.out h0 (of_decide_eq_true h)
              · have h := HOD.out
                rw [dif_neg h0] at h
                cases h
            have HR := Lib.hid (HN1.out 7 (by decide) (show ruE x = 7 by rw [H4c.out, if_pos (by rw [hz]; decide), hz]))
            clear HE2b HE3b HOD hz H4c HN1 HN2
            go_wp2
            go_ret
            exact RusP.mk HR.out HBZ3.out
          | false =>
            have HR := Lib.hid (HE3b.out (by
              intro h0
              have h := HOD.out
              rw [dif_pos h0] at h
              have h2 := of_decide_eq_false h
              omega))
            clear HE2b HE3b HOD HN1 HN2
            go_wp2
            go_roundw
            case rel => exact ⟨k + 1, by omega, intNum, HBR3, HR.out⟩
            case measure => simp [intOf]; omega
        · have hz : kdE none x.kinds = 0 := HN.out.trans (kdE_end (by rw [HL.out]; exact hlt))
          have H5 := Lib.hid (H4c.out.trans (if_neg (by rw [hz]; decide)))
          clear hz H4c HN
          have HTS := Lib.hid (SetOf_c x.set wr (by omega) (HS.out wr HBZ.out) (HM.out wr HBZ.out))
          go_upto_region 22 with (fail)
          cases he : x.set.toList.isEmpty with
          | true =>
            have HR := Lib.hid (HN2.out (H5.out.trans (if_neg (fun h => h.1 ((empty_iff _).1 he)))))
            clear H5 HTS HN1 HN2
            go_cut [69] (fun s69 wx => s69 = .bool false ∧ Hid (Below wr.heap.size wr wx))
            case first =>
              first | go_quiet (fail) | skip
              go_wp2
              go_meet
              exact ⟨rfl, Lib.hid (by first | exact Below.refl _ _ | exact below_drewN (Below.refl _ _) _)⟩
            case rest =>
            obtain ⟨rfl, HBC⟩ := hcut
            have HBZ2 := Lib.hid (HBZ.out.trans (HBC.out.mono HBZ.out.size))
            clear HBC HBZ x0 x1 x2 x3 x4
            go_wp2
            go_roundw
            case rel => exact ⟨n + 1, by omega, intNum, HBZ2, HR.out⟩
            case measure => simp [intOf]; omega
          | false =>
            have hne : ¬ x.set = ⟨#[]⟩ := fun e => by rw [(empty_iff _).2 e] at he; cases he
            cases hsb : setB x.set with
            | true =>
              have HR := Lib.hid (HN2.out (H5.out.trans (if_neg (fun h => by rw [hsb] at h; cases h.2))))
              rw [hsb] at HTS
              clear H5 hne hsb HN1 HN2
              go_wp2_with (first | (go_at_call 24; with_reducible refine HTS.out.mono ?_; rintro e w4 ⟨rfl, hb4⟩) | fail)
              have HB4 := Lib.hid (HBZ.out.trans (hb4.mono HBZ.out.size))
              go_roundw
              case rel => exact ⟨n + 1, by omega, intNum, HB4, HR.out⟩
              case measure => simp [intOf]; omega
            | false =>
              have HR := Lib.hid (HN1.out 5 (by decide) (H5.out.trans (if_pos ⟨hne, hsb⟩)))
              rw [hsb] at HTS
              clear H5 hne hsb HN1 HN2
              go_wp2_with (first | (go_at_call 24; with_reducible refine HTS.out.mono ?_; rintro e w4 ⟨rfl, hb4⟩) | fail)
              go_ret
              exact RusP.mk HR.out (HBZ.out.trans (hb4.mono HBZ.out.size))
    · have HR := Lib.hid (HRE.out.trans (HN.out.trans (rusE_end (by rw [List.length_map, HNL.out]; exact hltn))))
      clear HN
      go_wp2
      go_ret
      exact RusP.mk HR.out HBR.out
end Go.Proofs.YtlfnmmnbfoimeaaGreatDoor

/- A made row of patterns' parts, filled one by one. -/
namespace Go.Proofs.YtlfnmmnbfoimeaaGreatDoor
set_option linter.unusedVariables false
open Go.RowKit Go.Sort

theorem heap_setSelfQ {w : World} {b i : Nat} {cs : Array Value} {e : TypeId} {u : Value} (h : w.heap[b]? = some (.cells cs e (0, 0))) : (w.setCell ⟨b, i, none⟩ u).heap[b]? = some (.cells (cs.setIfInBounds i u) e (0, 0)) := by
  simp [World.setCell, Array.getElem?_modify, h]
def ptCs (N : Nat) (pv : Nat → Value) (k : Nat) : Array Value := ((List.range N).map fun j => if j < k then pv j else .slice none 0 0).toArray
theorem ptCs_size (N : Nat) (pv : Nat → Value) (k : Nat) : (ptCs N pv k).size = N := by unfold ptCs; simp
theorem ptCs_get (N : Nat) (pv : Nat → Value) (k j : Nat) (hj : j < N) : (ptCs N pv k)[j]? = some (if j < k then pv j else .slice none 0 0) := by
  unfold ptCs
  simp [hj]
theorem ptCs_next (N : Nat) (pv : Nat → Value) (k : Nat) (u : Value) : (ptCs N pv k).setIfInBounds k u = ptCs N (fun i => if i = k then u else pv i) (k + 1) := by
  apply Array.ext
  · simp [ptCs_size]
  · intro j h1 h2
    rw [ptCs_size] at h2
    rw [Array.getElem_setIfInBounds (by simpa using h1)]
    have e1 := ptCs_get N pv k j h2
    have e2 := ptCs_get N (fun i => if i = k then u else pv i) (k + 1) j h2
    rw [Array.getElem?_eq_getElem (by rw [ptCs_size]; exact h2)] at e1 e2
    injection e1 with e1
    injection e2 with e2
    rw [e2]
    by_cases hk : k = j
    · subst hk; simp
    · rw [if_neg hk, e1]
      have : ¬ j = k := fun e => hk e.symm
      rw [if_neg this]
      by_cases hlt : j < k
      · rw [if_pos hlt, if_pos (by omega)]
      · rw [if_neg hlt, if_neg (by omega)]
theorem ptCs_made (N : Nat) (pv : Nat → Value) : madeCells #[Value.slice none 0 0] N = ptCs N pv 0 := by
  apply Array.ext
  · rw [ptCs_size, size_madeCells]
  · intro j h1 h2
    rw [ptCs_size] at h2
    have e2 := ptCs_get N pv 0 j h2
    rw [Array.getElem?_eq_getElem (by rw [ptCs_size]; exact h2)] at e2
    injection e2 with e2
    rw [e2, if_neg (by omega)]
    have hN : 0 < N := by omega
    simp [madeCells, Nat.mod_one]
/-- The row under way: its first k cells hold the patterns' parts. -/
structure PtM (w : World) (rs : List Rul) (N : Nat) (o : Nat) (pv : Nat → Value) (k : Nat) (wx : World) : Prop where
  bel : Below w.heap.size w wx
  out : wx.heap[o]? = some (.cells (ptCs N pv k) 61 (0, 0))
  ob : w.heap.size ≤ o
  row : ∀ (r : Nat) (hr : r < rs.length), r < k → Sli itmR wx (fun b => w.heap.size ≤ b ∧ b < wx.heap.size ∧ b ≠ o) (itmsP rs[r].pat) (pv r)
section
variable {w wx wy : World} {rs : List Rul} {N o k : Nat} {pv : Nat → Value}
theorem PtM.below (h : PtM w rs N o pv k wx) (hb : Below wx.heap.size wx wy) : PtM w rs N o pv k wy :=
  ⟨h.bel.trans (hb.mono h.bel.size), by rw [hb.block o (heap_lt h.out)]; exact h.out, h.ob, fun r hr hk => ((h.row r hr hk).below hb (fun b hb => hb.2.1)).more fun b hq => ⟨hq.1, Nat.lt_of_lt_of_le hq.2.1 hb.size, hq.2.2⟩⟩
theorem PtM.start (w : World) (rs : List Rul) (N : Nat) (pv : Nat → Value) : PtM w rs N w.heap.size pv 0 (w.alloc (.cells (ptCs N pv 0) 61)) :=
  ⟨(Below.refl _ w).alloc (Nat.le_refl _) _, heap_alloc_new w _, Nat.le_refl _, fun r _ h => absurd h (by omega)⟩
theorem PtM.cell (h : PtM w rs N o pv k wx) {i : Nat} (hi : i < N) : wx.cell? ⟨o, i, none⟩ = some (if i < k then pv i else .slice none 0 0) ∧ wx.frozen? ⟨o, i, none⟩ = false :=
  ⟨by rw [(str_cells h.out).1 i, ptCs_get _ _ _ _ hi], (str_cells h.out).2 i⟩
theorem PtM.add (h : PtM w rs N o pv k wx) (hk : k < rs.length) (hb : Below wx.heap.size wx wy) {u : Value} (hu : Sli itmR wy (fun b => wx.heap.size ≤ b ∧ b < wy.heap.size) (itmsP rs[k].pat) u) :
    PtM w rs N o (fun i => if i = k then u else pv i) (k + 1) (wy.setCell ⟨o, k, none⟩ u) := by
  have h2 := h.below hb
  have hol := heap_lt h.out
  have hz : (wy.setCell ⟨o, k, none⟩ u).heap.size = wy.heap.size := by simp [World.setCell]
  refine ⟨belSet h2.bel h.ob _, ?_, h.ob, fun r hr hlt => ?_⟩
  · rw [heap_setSelfQ h2.out, ptCs_next]
  · by_cases e : r = k
    · subst e
      rw [if_pos rfl]
      refine (hu.setCell u (p := ⟨o, r, none⟩) (fun hF => ?_)).more fun b hq => ⟨by have := h.bel.size; omega, by rw [hz]; exact hq.2, by omega⟩
      have := hF.1
      dsimp only at this
      omega
    · rw [if_neg e]
      exact ((h2.row r hr (by omega)).setCell u (p := ⟨o, k, none⟩) (fun hF => hF.2.2 rfl)).more fun b hq => ⟨hq.1, by rw [hz]; exact hq.2.1, hq.2.2⟩
end
end Go.Proofs.YtlfnmmnbfoimeaaGreatDoor

/- tag.Mentions, walked. -/
namespace Go.Proofs.YtlfnmmnbfoimeaaGreatDoor
set_option linter.unusedVariables false
open Go.RowKit Go.Sort

set_option maxRecDepth 100000 in
set_option maxHeartbeats 16000000 in
theorem Mentions_c {F F2 : Nat → Prop} (t : ByteArray) (ls : List (Scene × Value)) (v : Value) (rl : List (Rul × Value)) (rv : Value) (w : World) (h : ScL w F t ls v) (hr : RuW w F2 rl rv) (hm : MaxLaid w) (hE : ErrsLaid w) :
    Calls Tryz.prog 8 #[.agg #[.string t, v], rv] w (MenP ⟨t, ls.map (·.1)⟩ (rl.map (·.1)) w) := by
  obtain ⟨A, c, rfl, hlc, hcm⟩ := h.sli.form
  obtain ⟨A2, c2, rfl, hlc2, hcm2⟩ := hr.sli.form
  obtain ⟨i0, hi0, hz0, hz1, hz2⟩ := info_parts (show (Tryz.prog.info? 40).map (fun i => (i.zero, i.size, i.bytes)) = some (some (.agg #[.int .i64 0, .int .i64 0, .int .i64 0, .int .i64 0, .int .i64 0, .int .i64 0]), 6, 48) by kernel_rfl)
  obtain ⟨n, hn⟩ : ∃ n, ls.length = n := ⟨_, rfl⟩
  obtain ⟨R, hR⟩ : ∃ R, rl.length = R := ⟨_, rfl⟩
  obtain ⟨rs, hrs⟩ : ∃ rs, rl.map (·.1) = rs := ⟨_, rfl⟩
  obtain ⟨sc, hsc⟩ : ∃ sc, ls.map (·.1) = sc := ⟨_, rfl⟩
  have HN := Lib.hid hn
  have HRR := Lib.hid hR
  have HRS := Lib.hid hrs
  have HSC := Lib.hid hsc
  have HRL := Lib.hid (show rs.length = R by rw [← hrs, List.length_map]; exact hR)
  have HSL := Lib.hid (show sc.length = n by rw [← hsc, List.length_map]; exact hn)
  have HSW := Lib.hid (fun (W : World) (hb : Below w.heap.size w W) => h.below hb)
  have HRW := Lib.hid (fun (W : World) (hb : Below w.heap.size w W) => hr.below hb)
  have HM := Lib.hid (fun (W : World) (h : Below w.heap.size w W) => max_below hm h (Nat.le_refl _))
  have HER := Lib.hid (fun (W : World) (h : Below w.heap.size w W) => hE.below h (Nat.le_refl _))
  have HCK := Lib.hid (fun (W : World) (hb : Below w.heap.size w W) => show Calls Tryz.prog 25 #[.agg #[.string t, .slice A n c]] W (StP ⟨t, sc⟩ W) from by
    have h1 := tagFault_c t ls (.slice A ls.length c) W (h.below hb) (max_below hm hb (Nat.le_refl _))
    rw [hn, hsc] at h1
    exact h1)
  have HCR := Lib.hid (fun (W : World) (hb : Below w.heap.size w W) => show Calls Tryz.prog 6 #[.slice A2 R c2] W (RusP rs W) from by
    have h1 := CheckRules_c rl (.slice A2 rl.length c2) W (hr.below hb) (max_below hm hb (Nat.le_refl _))
    rw [hR, hrs] at h1
    exact h1)
  have hrlen := hr.len
  have hslen := h.len
  rw [hn] at hlc hslen ⊢
  rw [hR] at hlc2 hrlen ⊢
  rw [hrs, hsc]
  have HB1 := Lib.hid ((Below.refl w.heap.size w).alloc (Nat.le_refl _) (.cells #[.string t, .slice A n c] 28))
  have hx1 := heap_alloc_new w (.cells #[.string t, .slice A n c] 28)
  have hs1 : (w.alloc (.cells #[.string t, .slice A n c] 28)).heap.size = w.heap.size + 1 := by simp
  clear h hr hm hE hn hR hrs hsc
  go_enter Tryz.func8, Tryz.ntmps8
  go_upto_region 1 with (fail)
  generalize w.alloc (.cells #[.string t, .slice A n c] 28) = w1 at *
  have HXC := Lib.hid (fun (W : World) (hb : Below w1.heap.size w1 W) => show W.cell? ⟨w.heap.size, 0, none⟩ = some (.string t) ∧ W.cell? ⟨w.heap.size, 1, none⟩ = some (.slice A n c) from by
    obtain ⟨y, _⟩ := str_cells ((hb.block w.heap.size (by omega)).trans hx1)
    exact ⟨y 0, y 1⟩)
  clear hx1 hs1
  obtain ⟨x0, x1⟩ := HXC.out w1 (Below.refl _ _)
  go_wp2_with fail
  refine (HCK.out w1 HB1.out).mono ?_
  rintro e w2 ⟨rfl, hb2⟩
  have HK2 := Lib.hid hb2
  have HB2 := Lib.hid (HB1.out.trans (hb2.mono HB1.out.size))
  clear hb2 x0 x1 HCK
  obtain ⟨E, hE⟩ : ∃ E, stE ⟨t, sc⟩ = E := ⟨_, rfl⟩
  have HE := Lib.hid hE
  rw [hE]
  clear hE
  by_cases hE0 : E = 0
  case neg =>
    have hne : (E != 0) = true := by rw [bne_iff_ne]; exact hE0
    have HR := Lib.hid (fun (W : World) (hb : Below w.heap.size w W) => MenP.bad (x := ⟨t, sc⟩) (rs := rs) (by rw [menE_st (by rw [HE.out]; exact hE0)]; exact HE.out) hE0 hb)
    clear hE0
    go_wp2
    go_ret2
    exact HR.out _ HB2.out
  subst hE0
  go_wp2_with fail
  refine (HCR.out w2 HB2.out).mono ?_
  rintro e w3 ⟨rfl, hb3⟩
  have HK3 := Lib.hid (HK2.out.trans (hb3.mono HK2.out.size))
  have HB3 := Lib.hid (HB2.out.trans (hb3.mono HB2.out.size))
  clear hb3 HCR HB1 HB2 HK2
  obtain ⟨E, hE⟩ : ∃ E, rulesE rs = E := ⟨_, rfl⟩
  have HE2 := Lib.hid hE
  rw [hE]
  clear hE
  by_cases hE0 : E = 0
  case neg =>
    have hne : (E != 0) = true := by rw [bne_iff_ne]; exact hE0
    have HR := Lib.hid (fun (W : World) (hb : Below w.heap.size w W) => MenP.bad (x := ⟨t, sc⟩) (rs := rs) (by rw [menE_ru HE.out (by rw [HE2.out]; exact hE0)]; exact HE2.out) hE0 hb)
    clear hE0
    go_wp2
    go_ret2
    exact HR.out _ HB3.out
  subst hE0
  have HPA := Lib.hid (stE_paras HE.out)
  have HOK := Lib.hid (rulesE_ok HE2.out)
  have hR200 : R ≤ 200 := by have := HOK.out.1; rw [HRL.out] at this; exact this
  have hmk := run_make_row' (P := Tryz.prog) 60 61 (.slice none 0 0) 24 Tryz.underlying60 (by kernel_rfl) rfl .i64 .i64 R (by omega) (by omega) w3
  rw [ptCs_made R (fun _ => .slice none 0 0)] at hmk
  have HT0 := Lib.hid (PtM.start w3 rs R (fun _ => .slice none 0 0))
  go_upto_region 8 with (fail)
  clear hmk
  obtain ⟨o, ho⟩ : ∃ o, w3.heap.size = o := ⟨_, rfl⟩
  rw [ho] at HT0
  rw [show (w3.heap.size) = o from ho]
  generalize w3.alloc (.cells (ptCs R (fun _ => .slice none 0 0) 0) 61) = w4 at *
  have HO3 := Lib.hid ho
  clear ho
  go_wp2
  go_loopw [36] (fun iv wr => ∃ (k : Nat) (pv : Nat → Value), k ≤ R ∧ iv = .int .i64 k ∧ Hid (PtM w3 rs R o pv k wr)) (fun iv _ => R - (intOf iv).toNat)
  case atStart => exact ⟨0, _, Nat.zero_le _, rfl, HT0⟩
  case round =>
    clear HT0
    obtain ⟨k, pv, hk, rfl, HT⟩ := hrel
    by_cases hlt : k < R
    · have hkl : k < rl.length := by rw [HRR.out]; exact hlt
      have hkr : k < rs.length := by rw [HRL.out]; exact hlt
      have HBW := Lib.hid (HB3.out.trans (HT.out.bel.mono HB3.out.size))
      have hWr := HRW.out wr HBW.out
      obtain ⟨b, off, rfl, hfb, c0, c1, c2, c3, c4⟩ := ruAt hWr.sli k hkl
      obtain ⟨A4, cc4, h4, hlc4, hcm4⟩ := (hWr.kds _ (List.getElem_mem hkl)).form
      rw [h4] at c3
      have hxe : (rl[k]'hkl).1 = rs[k]'hkr := by simp only [← HRS.out, List.getElem_map]
      have hz := (hWr.bd _ (List.getElem_mem hkl)).2.1
      rw [hxe] at c0 c1 c2 c3 c4 hz
      have hpt := ruE_pat (HOK.out.2 _ (List.getElem_mem hkr))
      have HAD := Lib.hid (fun (wy : World) (u : Value) (hb : Below wr.heap.size wr wy) (hu : Sli itmR wy (fun b => wr.heap.size ≤ b ∧ b < wy.heap.size) (itmsP (rs[k]'hkr).pat) u) => HT.out.add hkr hb hu)
      generalize (rs[k]'hkr) = x at *
      obtain ⟨kl, hkl4⟩ : ∃ kl, x.kinds.length = kl := ⟨_, rfl⟩
      rw [hkl4] at c3
      have HX6 := Lib.hid ((Below.refl wr.heap.size wr).alloc (Nat.le_refl _) (.cells #[.int .i64 x.kind, .string x.name, .string x.pat, .slice A4 kl cc4, .string x.set] 50))
      have hx6 := heap_alloc_new wr (.cells #[.int .i64 x.kind, .string x.name, .string x.pat, .slice A4 kl cc4, .string x.set] 50)
      have HM6 := Lib.hid (HM.out _ (HBW.out.trans (HX6.out.mono HBW.out.size)))
      clear h4 hxe hkl4 hWr
      go_upto_region 11 with (fail)
      generalize wr.alloc (.cells #[.int .i64 x.kind, .string x.name, .string x.pat, .slice A4 kl cc4, .string x.set] 50) = w6 at *
      obtain ⟨y, _⟩ := str_cells hx6
      have y2 : w6.cell? ⟨wr.heap.size, 2, none⟩ = some (.string x.pat) := y 2
      clear y hx6 c0 c1 c2 c3 c4
      go_wp2_with fail
      refine (readPattern_c x.pat w6 (by omega) HM6.out).mono ?_
      rintro e w7 ⟨u, rfl, hb7, hu7⟩
      have HK7 := Lib.hid (HX6.out.trans (hb7.mono HX6.out.size))
      have HU := Lib.hid ((hu7 hpt).more (G := fun b => wr.heap.size ≤ b ∧ b < w7.heap.size) (fun b hb => ⟨Nat.le_trans HX6.out.size hb.1, hb.2⟩))
      obtain ⟨A7, c7, rfl, _, _⟩ := HU.out.form
      have HAD2 := Lib.hid (HAD.out w7 _ HK7.out HU.out)
      obtain ⟨p0, f0⟩ := (HT.out.below HK7.out).cell (i := k) hlt
      rw [if_neg (Nat.lt_irrefl k)] at p0
      clear hb7 hu7 y2 HAD HU hpt
      generalize ((partsP x.pat).map fun s => (rdItm s).1).length = pn at *
      go_wp2
      go_roundw
      case rel => exact ⟨k + 1, _, by omega, intNum, HAD2⟩
      case measure => simp [intOf]; omega
    · have hkR : R = k := by omega
      subst hkR
      have HBW := Lib.hid (HB3.out.trans (HT.out.bel.mono HB3.out.size))
      have HKW := Lib.hid (HK3.out.trans (HT.out.bel.mono HK3.out.size))
      have HPT := Lib.hid (fun (W : World) (hb : Below wr.heap.size wr W) => HT.out.below hb)
      have HXW := Lib.hid (fun (W : World) (hb : Below wr.heap.size wr W) => HXC.out W (HKW.out.trans (hb.mono HKW.out.size)))
      have HBA := Lib.hid (fun (W : World) (hb : Below wr.heap.size wr W) => HBW.out.trans (hb.mono HBW.out.size))
      clear HT HXC HK3 hlt hk
      obtain ⟨wp, rfl⟩ : ∃ wp, wp = wr := ⟨_, rfl⟩
      obtain ⟨x0, x1⟩ := HXW.out wp (Below.refl _ _)
      go_wp2
      go_loopw [11, 54] (fun ov iv wr => ∃ q : Nat, q ≤ n ∧ iv = .int .i64 q ∧ (fm (scM rs sc) q).length ≤ 20000 ∧ Hid (BO mnR 40 wp (fm (scM rs sc) q) ov [] wr)) (fun _ iv _ => n - (intOf iv).toNat)
      case atStart => exact ⟨0, Nat.zero_le _, rfl, Nat.zero_le _, Lib.hid (BO.start wp)⟩
      case round =>
        clear x0 x1
        obtain ⟨q, hq, rfl, hql, HG⟩ := hrel
        by_cases hlt : q < n
        · have hil : q < ls.length := by rw [HN.out]; exact hlt
          have hic : q < sc.length := by rw [HSL.out]; exact hlt
          have hSx := HSW.out wr (HBA.out wr HG.out.bel)
          obtain ⟨bs, of2, rfl, hfbs, s0, s1, s2, s3, s4⟩ := scAt hSx.sli q hil
          obtain ⟨A5, c5, h5, hlc5, hcm5⟩ := (hSx.par _ (List.getElem_mem hil)).form
          have hse : (ls[q]'hil).1 = sc[q]'hic := by simp only [← HSC.out, List.getElem_map]
          rw [hse] at h5 hlc5 s0 s1 s2 s3
          rw [h5] at s4
          have HPS := Lib.hid (fun (W : World) (hb : Below w.heap.size w W) => show Sli paraR W F (sc[q]'hic).paras (.slice A5 (sc[q]'hic).paras.length c5) ∧ ∀ b, F b → b < W.heap.size from ⟨by
            have h1 := (HSW.out W hb).par _ (List.getElem_mem hil)
            rw [h5, hse] at h1
            exact h1, (HSW.out W hb).lt⟩)
          have HPM := Lib.hid (HPA.out.2 _ (List.getElem_mem hic))
          have HPRE := Lib.hid (fun j (hj : j ≤ (sc[q]'hic).paras.length) => alM_pre (rs := rs) hic hj)
          have HNX := Lib.hid (show fm (scM rs sc) (q + 1) = fm (scM rs sc) q ++ fm (paM rs q (sc[q]'hic)) (sc[q]'hic).paras.length by rw [fm_succ, scM_at hic])
          generalize (sc[q]'hic) = s at *
          obtain ⟨np, hnp⟩ : ∃ np, s.paras.length = np := ⟨_, rfl⟩
          have HNP := Lib.hid hnp
          rw [hnp] at s4 hlc5 HPS HPRE HNX
          have hnp4 : np ≤ 4000 := by have := HPM.out.1; rw [hnp] at this; exact this
          have hG5 := HG.out.new #[.string s.no, .int .i64 s.place, .string s.set, .int .i64 s.time, .slice A5 np c5] 66
          generalize fm (scM rs sc) q = cur0 at *
          clear h5 hse hSx hnp HG
          go_upto_region 17 with (fail)
          generalize hW : wr.alloc (.cells #[.string s.no, .int .i64 s.place, .string s.set, .int .i64 s.time, .slice A5 np c5] 66) = w5 at *
          generalize wr.heap.size = X at *
          have G5 := Lib.hid hG5
          clear hG5 hW s0 s1 s2 s3 s4
          have HXS := Lib.hid (fun (P : List (Nat × Array Value × TypeId)) (l : List Mnt) (v : Value) (W : World) (h : BO mnR 40 wp l v P W) (hp : (X, (#[.string s.no, .int .i64 s.place, .string s.set, .int .i64 s.time, .slice A5 np c5] : Array Value), 66) ∈ P) => show W.cell? ⟨X, 0, none⟩ = some (.string s.no) ∧ W.cell? ⟨X, 1, none⟩ = some (.int .i64 s.place) ∧ W.cell? ⟨X, 2, none⟩ = some (.string s.set) ∧ W.cell? ⟨X, 3, none⟩ = some (.int .i64 s.time) ∧ W.cell? ⟨X, 4, none⟩ = some (.slice A5 np c5) from by
            obtain ⟨y, _⟩ := h.cell hp
            exact ⟨y 0, y 1, y 2, y 3, y 4⟩)
          obtain ⟨s0, s1, s2, s3, s4⟩ := HXS.out _ _ _ _ G5.out (by simp)
          go_wp2
          go_loopw [11, 62] (fun ov iv wr => ∃ j : Nat, j ≤ np ∧ iv = .int .i64 j ∧ (cur0 ++ fm (paM rs q s) j).length ≤ 20000 ∧ Hid (BO mnR 40 wp (cur0 ++ fm (paM rs q s) j) ov [(X, #[.string s.no, .int .i64 s.place, .string s.set, .int .i64 s.time, .slice A5 np c5], 66)] wr)) (fun _ iv _ => np - (intOf iv).toNat)
          case atStart => exact ⟨0, Nat.zero_le _, rfl, by rw [fm_zero, List.append_nil]; exact hql, by rw [fm_zero, List.append_nil]; exact G5⟩
          case round =>
            clear s0 s1 s2 s3 s4 G5
            obtain ⟨j, hj, rfl, hjl, HG⟩ := hrel
            by_cases hjlt : j < np
            · have hjp : j < s.paras.length := by rw [HNP.out]; exact hjlt
              obtain ⟨hSP, hFl⟩ := HPS.out wr (HBA.out wr HG.out.bel)
              obtain ⟨bp, op, rfl, hfbp, p0, p1⟩ := paraAt hSP j hjp
              obtain ⟨_, _, hpz⟩ := HPM.out.2 _ (List.getElem_mem hjp)
              have HNX2 := Lib.hid (show fm (paM rs q s) (j + 1) = fm (paM rs q s) j ++ fm (ruM rs q j s.set (s.paras[j]'hjp)) rs.length by rw [fm_succ, paM_at hjp])
              have HPR2 := Lib.hid (HPRE.out (j + 1) (by omega))
              generalize (s.paras[j]'hjp) = p at *
              have hG6 := HG.out.new #[.int .i64 p.kind, .string p.text] 68
              have HCC := Lib.hid (show cur0 ++ fm (paM rs q s) (j + 1) = (cur0 ++ fm (paM rs q s) j) ++ fm (ruM rs q j s.set p) R by rw [HNX2.out, HRL.out, List.append_assoc])
              generalize cur0 ++ fm (paM rs q s) j = cur1 at *
              clear hSP hFl hfbp HG HNX2
              go_upto_region 20 with (fail)
              generalize hW : wr.alloc (.cells #[.int .i64 p.kind, .string p.text] 68) = w6 at *
              generalize wr.heap.size = Y at *
              have G6 := Lib.hid hG6
              clear hG6 hW p0 p1
              have HXP := Lib.hid (fun (P : List (Nat × Array Value × TypeId)) (l : List Mnt) (v : Value) (W : World) (h : BO mnR 40 wp l v P W) (hp : (Y, (#[.int .i64 p.kind, .string p.text] : Array Value), 68) ∈ P) => show W.cell? ⟨Y, 0, none⟩ = some (.int .i64 p.kind) ∧ W.cell? ⟨Y, 1, none⟩ = some (.string p.text) from by
                obtain ⟨y, _⟩ := h.cell hp
                exact ⟨y 0, y 1⟩)
              obtain ⟨p0, p1⟩ := HXP.out _ _ _ _ G6.out (by simp)
              go_wp2_with fail
              refine (Words_c p.text w6 (by omega)).mono ?_
              rintro e w7 ⟨wv, rfl, hown7, hb7⟩
              have G7 := Lib.hid (G6.out.below hb7)
              have HI7 := Lib.hid (hown7.sliF (F := fun b => w6.heap.size ≤ b ∧ b < w7.heap.size) (fun b hb => hown7.block b hb))
              have HK7 := Lib.hid (show KeepW w6.heap.size w7 u11 w7 from ⟨fun _ _ _ => rfl, fun g hg => .inl (G6.out.own.block g hg).2, Nat.le_refl _⟩)
              obtain ⟨A7, c7, rfl, hlc7, hcm7⟩ := HI7.out.form
              have hwl := wordsT_len p.text
              have HWZ := Lib.hid (fun s (hs : s ∈ wordsT p.text) => show s.size ≤ p.text.size from wordsT_sz hs)
              obtain ⟨nw, hnw⟩ : ∃ nw, (wordsT p.text).length = nw := ⟨_, rfl⟩
              have HNW := Lib.hid hnw
              rw [hnw] at HI7 hlc7 hwl ⊢
              clear hown7 hb7 G6 p0 p1 hnw
              go_wp2
              go_loopw [11, 72] (fun ov iv wr => ∃ i : Nat, i ≤ R ∧ iv = .int .i64 i ∧ Hid (BO mnR 40 wp (cur1 ++ fm (ruM rs q j s.set p) i) ov [(Y, #[.int .i64 p.kind, .string p.text], 68), (X, #[.string s.no, .int .i64 s.place, .string s.set, .int .i64 s.time, .slice (some ⟨bp, op, none⟩) np c5], 66)] wr) ∧ Hid (KeepW w6.heap.size w7 ov wr)) (fun _ iv _ => R - (intOf iv).toNat)
              case atStart => exact ⟨0, Nat.zero_le _, rfl, by rw [fm_zero, List.append_nil]; exact G7, HK7⟩
              case round =>
                clear G7 HK7
                obtain ⟨i, hi, rfl, HG, HK⟩ := hrel
                by_cases hilt : i < R
                · have hkl : i < rl.length := by rw [HRR.out]; exact hilt
                  have hkr : i < rs.length := by rw [HRL.out]; exact hilt
                  have hWr := HRW.out wr (HBA.out wr HG.out.bel)
                  obtain ⟨b, off, rfl, hfb, c0, c1, c2, c3, c4⟩ := ruAt hWr.sli i hkl
                  obtain ⟨A4, cc4, h4, hlc4, hcm4⟩ := (hWr.kds _ (List.getElem_mem hkl)).form
                  have hxe : (rl[i]'hkl).1 = rs[i]'hkr := by simp only [← HRS.out, List.getElem_map]
                  have hKD := hWr.kds _ (List.getElem_mem hkl)
                  have hz := (hWr.bd _ (List.getElem_mem hkl)).2
                  have hF2 := hWr.lt
                  rw [h4, hxe] at hKD
                  rw [hxe] at h4 c0 c1 c2 c4 hz hlc4
                  rw [h4] at c3
                  have hRW := fun (W : World) (hb : Below wp.heap.size wp W) => (HPT.out W hb).row i hkr hilt
                  have HYES := Lib.hid (fun (h : apB (rs[i]'hkr) s.set p.kind = true) => (show fm (ruM rs q j s.set p) (i + 1) = fm (ruM rs q j s.set p) i ++ (hitsP (rs[i]'hkr).pat p.text).map (mnOf i q j (partsP (rs[i]'hkr).pat).length) by rw [fm_succ, ruM_yes hkr h]))
                  have HNO := Lib.hid (fun (h : apB (rs[i]'hkr) s.set p.kind = false) => (show fm (ruM rs q j s.set p) (i + 1) = fm (ruM rs q j s.set p) i by rw [fm_succ, ruM_no hkr h, List.append_nil]))
                  generalize (rs[i]'hkr) = x at *
                  have HRW2 := Lib.hid hRW
                  have hap := applies_c (F := F2) x (.slice A4 x.kinds.length cc4) s (some ⟨bp, op, none⟩) np c5 p.kind (wr.alloc (.cells #[.int .i64 x.kind, .string x.name, .string x.pat, .slice A4 x.kinds.length cc4, .string x.set] 50)) (hKD.alloc _ hF2) (fun b hb => by have := hF2 b hb; simp; omega) hz.2.2
                  rw [show ruV x (.slice A4 x.kinds.length cc4) = .agg #[.int .i64 x.kind, .string x.name, .string x.pat, .slice A4 x.kinds.length cc4, .string x.set] from rfl] at hap
                  obtain ⟨kl, hkl4⟩ : ∃ kl, x.kinds.length = kl := ⟨_, rfl⟩
                  rw [hkl4] at c3 hap hlc4
                  have hG8 := HG.out.new #[.int .i64 x.kind, .string x.name, .string x.pat, .slice A4 kl cc4, .string x.set] 50
                  have hK8 := HK.out.below ((Below.refl _ wr).alloc (Nat.le_refl _) (.cells #[.int .i64 x.kind, .string x.name, .string x.pat, .slice A4 kl cc4, .string x.set] 50))
                  have hfl := fmM_len (f := ruM rs q j s.set p) (M := p.text.size + 1) (n := i) (fun k _ => ruM_len (Nat.le_refl _) k)
                  have HAP := Lib.hid hap
                  clear hap h4 hxe hWr hKD hF2 hRW hkl4 HG HK
                  go_upto_region 24 with (fail)
                  generalize wr.alloc (.cells #[.int .i64 x.kind, .string x.name, .string x.pat, .slice A4 kl cc4, .string x.set] 50) = w8 at *
                  generalize wr.heap.size = Z at *
                  obtain ⟨y, _⟩ := hG8.cell (p := (Z, (#[.int .i64 x.kind, .string x.name, .string x.pat, .slice A4 kl cc4, .string x.set] : Array Value), 50)) (by simp)
                  have z0 : w8.cell? ⟨Z, 0, none⟩ = some (.int .i64 x.kind) := y 0
                  have z1 : w8.cell? ⟨Z, 1, none⟩ = some (.string x.name) := y 1
                  have z2 : w8.cell? ⟨Z, 2, none⟩ = some (.string x.pat) := y 2
                  have z3 : w8.cell? ⟨Z, 3, none⟩ = some (.slice A4 kl cc4) := y 3
                  have z4 : w8.cell? ⟨Z, 4, none⟩ = some (.string x.set) := y 4
                  obtain ⟨s0, s1, s2, s3, s4⟩ := HXS.out _ _ _ _ hG8 (by simp)
                  obtain ⟨p0, p1⟩ := HXP.out _ _ _ _ hG8 (by simp)
                  have G8 := Lib.hid hG8
                  have HK8 := Lib.hid hK8
                  clear y hG8 hK8 c0 c1 c2 c3 c4
                  cases hab : apB x s.set p.kind with
                  | false =>
                    have HNO := Lib.hid (HNO.out hab)
                    rw [hab] at HAP
                    clear HYES hab
                    go_wp2_with fail
                    refine HAP.out.mono ?_
                    rintro e w9 ⟨rfl, hb9⟩
                    have HG9 := Lib.hid ((G8.out.below hb9).less (Q := [(Y, #[.int .i64 p.kind, .string p.text], 68), (X, #[.string s.no, .int .i64 s.place, .string s.set, .int .i64 s.time, .slice (some ⟨bp, op, none⟩) np c5], 66)]) (fun r hr => List.mem_cons_of_mem _ hr))
                    have HK9 := Lib.hid (HK8.out.below hb9)
                    clear hb9 G8 HK8 HAP z0 z1 z2 z3 z4 s0 s1 s2 s3 s4 p0 p1
                    go_wp2
                    go_roundw
                    case rel => exact ⟨i + 1, by omega, intNum, by rw [HNO.out]; exact HG9, HK9⟩
                    case measure => simp [intOf]; omega
                  | true =>
                    have HYES := Lib.hid (HYES.out hab)
                    rw [hab] at HAP
                    clear HNO hab
                    go_wp2_with fail
                    refine HAP.out.mono ?_
                    rintro e w9 ⟨rfl, hb9⟩
                    have G9 := Lib.hid ((G8.out.below hb9).less (Q := [(Y, #[.int .i64 p.kind, .string p.text], 68), (X, #[.string s.no, .int .i64 s.place, .string s.set, .int .i64 s.time, .slice (some ⟨bp, op, none⟩) np c5], 66)]) (fun r hr => List.mem_cons_of_mem _ hr))
                    have HK9 := Lib.hid (HK8.out.below hb9)
                    clear hb9 G8 HK8 HAP z0 z1 z2 z3 z4 s0 s1 s2 s3 s4 p0 p1
                    obtain ⟨t0, _⟩ := (HPT.out w9 G9.out.bel).cell (i := i) hilt
                    rw [if_pos hilt] at t0
                    have hsp := HRW2.out w9 G9.out.bel
                    obtain ⟨A8, c8, h8, hlc8, hcm8⟩ := hsp.form
                    rw [h8] at t0 hsp
                    have hht := hits_c (itmsP x.pat) _ (wordsT p.text) (.slice A7 nw c7) w9 hsp (fun b hb => hb.2.1) (HI7.out.keep (fun b hb => HK9.out.1 b hb.1 hb.2)) (fun b hb => by have := HK9.out.2.2; omega) (by rw [itmsP_len]; exact partsP_pos _) (by have := words_le x.pat 32; rw [itmsP_len]; have h2 : (partsP x.pat).length ≤ x.pat.size + 1 := this; omega) (by rw [HNW.out]; omega) (fun s hs => by have := HWZ.out s hs; omega) (fun y hy => by
                      obtain ⟨z, hz, rfl⟩ := List.mem_map.1 hy
                      exact begins_ws z) (HER.out w9 (HBA.out w9 G9.out.bel))
                    have HHT := Lib.hid hht
                    obtain ⟨ni, hni⟩ : ∃ ni, (itmsP x.pat).length = ni := ⟨_, rfl⟩
                    rw [hni] at HHT t0 hlc8
                    rw [show (partsP x.pat).length = ni by rw [← itmsP_len]; exact hni] at HYES
                    have hhl := hitsP_len x.pat p.text
                    rw [show hitsAt (itmsP x.pat) (wordsT p.text) 0 = hitsP x.pat p.text from rfl] at HHT
                    generalize hitsP x.pat p.text = hl at *
                    clear hsp h8 hht hni
                    go_wp2_with fail
                    refine HHT.out.mono ?_
                    rintro e wA ⟨hv, rfl, hownA, hbA⟩
                    have GA := Lib.hid (G9.out.below hbA)
                    have HKA := Lib.hid (HK9.out.below hbA)
                    have HIA := Lib.hid (hownA.sliF (F := fun b => w9.heap.size ≤ b ∧ b < wA.heap.size) (fun b hb => hownA.block b hb))
                    have HKH := Lib.hid (show KeepW w9.heap.size wA u11 wA from ⟨fun _ _ _ => rfl, fun g hg => .inl (G9.out.own.block g hg).2, Nat.le_refl _⟩)
                    obtain ⟨A9, c9, rfl, hlc9, hcm9⟩ := HIA.out.form
                    obtain ⟨hn, hhn⟩ : ∃ hn, hl.length = hn := ⟨_, rfl⟩
                    have HHN := Lib.hid hhn
                    rw [hhn] at HIA hlc9 hhl ⊢
                    have hc2l : (cur1 ++ fm (ruM rs q j s.set p) i).length ≤ 1000000 := by
                      rw [List.length_append]
                      have h3 : i * (p.text.size + 1) ≤ 200 * 2001 := Nat.mul_le_mul (by omega) (by omega)
                      omega
                    have HC2 := Lib.hid (show ∀ L2, L2 = hl → cur1 ++ fm (ruM rs q j s.set p) (i + 1) = (cur1 ++ fm (ruM rs q j s.set p) i) ++ L2.map (mnOf i q j ni) from fun L2 h2 => by rw [HYES.out, h2, List.append_assoc])
                    generalize cur1 ++ fm (ruM rs q j s.set p) i = cur2 at *
                    clear hownA hbA G9 HK9 HHT t0 hhn HYES hfl
                    go_wp2
                    go_loopw [11, 90] (fun ov iv wr => ∃ h : Nat, h ≤ hn ∧ iv = .int .i64 h ∧ Hid (BO mnR 40 wp (cur2 ++ (hl.take h).map (mnOf i q j ni)) ov [(Y, #[.int .i64 p.kind, .string p.text], 68), (X, #[.string s.no, .int .i64 s.place, .string s.set, .int .i64 s.time, .slice (some ⟨bp, op, none⟩) np c5], 66)] wr) ∧ Hid (KeepW w6.heap.size w7 ov wr) ∧ Hid (KeepW w9.heap.size wA ov wr)) (fun _ iv _ => hn - (intOf iv).toNat)
                    case atStart => exact ⟨0, Nat.zero_le _, rfl, by rw [List.take_zero, List.map_nil, List.append_nil]; exact GA, HKA, HKH⟩
                    case round =>
                      clear GA HKA HKH
                      obtain ⟨h, hh, rfl, HG, HK, HKH⟩ := hrel
                      by_cases hhlt : h < hn
                      · have hhl2 : h < hl.length := by rw [HHN.out]; exact hhlt
                        obtain ⟨bh, oh, rfl, hfh, e0, e1, e2⟩ := hitAt_cells (HIA.out.keep (fun b hb => HKH.out.1 b hb.1 hb.2)) h hhl2
                        have HTK := Lib.hid (show cur2 ++ (hl.take (h + 1)).map (mnOf i q j ni) = (cur2 ++ (hl.take h).map (mnOf i q j ni)) ++ [mnOf i q j ni (hl[h]'hhl2)] by rw [List.take_succ_eq_append_getElem hhl2, List.map_append, List.append_assoc]; rfl)
                        generalize (hl[h]'hhl2) = y at *
                        obtain ⟨ya, yc⟩ := y
                        dsimp only at e0 e1 e2
                        have hccl : (cur2 ++ (hl.take h).map (mnOf i q j ni)).length ≤ 2000000 := by
                          rw [List.length_append, List.length_map, List.length_take]; omega
                        obtain ⟨qn, hqn⟩ : ∃ qn, (cur2 ++ (hl.take h).map (mnOf i q j ni)).length = qn := ⟨_, rfl⟩
                        have HQ := Lib.hid hqn
                        rw [hqn] at hccl
                        generalize cur2 ++ (hl.take h).map (mnOf i q j ni) = cc at *
                        have hG9 := HG.out.alloc (.cells #[.int .i64 (ya : Int), .int .i64 (ni : Int), .int .i64 yc] 75)
                        have hba := (Below.refl _ wr).alloc (Nat.le_refl _) (.cells #[.int .i64 (ya : Int), .int .i64 (ni : Int), .int .i64 yc] 75)
                        have hK9 := HK.out.below hba
                        have hKH9 := HKH.out.below hba
                        have hx9 := heap_alloc_new wr (.cells #[.int .i64 (ya : Int), .int .i64 (ni : Int), .int .i64 yc] 75)
                        clear hqn HG HK HKH hba
                        go_upto_region 28 with (fail)
                        generalize wr.alloc (.cells #[.int .i64 (ya : Int), .int .i64 (ni : Int), .int .i64 yc] 75) = wB at *
                        obtain ⟨y, _⟩ := str_cells hx9
                        have g0 : wB.cell? ⟨wr.heap.size, 0, none⟩ = some (.int .i64 (ya : Int)) := y 0
                        have g1 : wB.cell? ⟨wr.heap.size, 1, none⟩ = some (.int .i64 (ni : Int)) := y 1
                        have g2 : wB.cell? ⟨wr.heap.size, 2, none⟩ = some (.int .i64 yc) := y 2
                        have GB := Lib.hid hG9
                        have HKB := Lib.hid hK9
                        have HKHB := Lib.hid hKH9
                        clear y hx9 hG9 hK9 hKH9 e0 e1 e2
                        go_wp2_with (at_builtin; (refine wpList_pushB (R := mnR) rfl _ _ _ rfl wp.heap.size wp.heap.size 40 i0 _ 48 Tryz.underlying34 hi0 hz0 hz1 hz2 rfl (by decide) _ u11 cc rfl (GB.out.own.alloc _) (⟨i, q, j, ya, ni, yc⟩ : Mnt) _ rfl (oneC rfl) wB.heap.size _ _ (heap_alloc_new wB _) rfl (by rw [HQ.out]; simp [maxLen]; omega) (by rw [HQ.out]; omega) (by have := GB.out.size; simp; omega) ?_); intro g9 cap9 w10 hown9 hg9 hat9 hlt9)
                        go_roundw
                        case rel => exact ⟨h + 1, by omega, intNum, by rw [HTK.out]; exact Lib.hid ((GB.out.alloc (.cells (Mnt.cells ⟨i, q, j, ya, ni, yc⟩).toArray 40)).more hown9 hg9 rfl hat9), Lib.hid ((HKB.out.below ((Below.refl _ wB).alloc (Nat.le_refl _) (.cells (Mnt.cells ⟨i, q, j, ya, ni, yc⟩).toArray 40))).push hg9 rfl hat9), Lib.hid ((HKHB.out.below ((Below.refl _ wB).alloc (Nat.le_refl _) (.cells (Mnt.cells ⟨i, q, j, ya, ni, yc⟩).toArray 40))).push hg9 rfl hat9)⟩
                        case measure => simp [intOf]; omega
                      · have hhe : h = hn := by omega
                        subst hhe
                        have HCE := Lib.hid (HC2.out (hl.take h) (List.take_of_length_le (by rw [HHN.out]; exact Nat.le_refl _)))
                        rw [← HCE.out] at HG
                        clear HKH HC2 HCE
                        go_wp2
                        go_roundw
                        case rel => exact ⟨i + 1, by omega, intNum, HG, HK⟩
                        case measure => simp [intOf]; omega
                · have hiR : i = R := by omega
                  subst hiR
                  rw [← HCC.out] at HG
                  have hjl2 := HPR2.out
                  obtain ⟨A9, c9, hv9, _, _⟩ := (HG.out.own.sliF (F := fun _ => True) (fun _ _ => trivial)).form
                  obtain ⟨qn, hqn⟩ : ∃ qn, (cur0 ++ fm (paM rs q s) (j + 1)).length = qn := ⟨_, rfl⟩
                  have HQ := Lib.hid hqn
                  rw [hqn] at hv9 hjl2
                  subst hv9
                  clear HK hqn hilt
                  by_cases hbig : 20000 < qn
                  · have hbi : (20000 : Int) < (qn : Int) := by omega
                    have HR := Lib.hid (fun (W : World) (hb : Below w.heap.size w W) => MenP.bad (x := ⟨t, sc⟩) (rs := rs) (menE_big HE.out HE2.out (show 20000 < (alM rs sc).length by omega)) (by decide) hb)
                    have HBE := Lib.hid (HBA.out wr HG.out.bel)
                    clear hbig
                    go_wp2
                    go_ret2
                    exact HR.out _ HBE.out
                  · have hbi : (qn : Int) ≤ (20000 : Int) := by omega
                    have HGL := Lib.hid (HG.out.less (Q := [(X, #[.string s.no, .int .i64 s.place, .string s.set, .int .i64 s.time, .slice (some ⟨bp, op, none⟩) np c5], 66)]) (fun r hr => List.mem_cons_of_mem _ hr))
                    have hqn20 : qn ≤ 20000 := by omega
                    clear hbig HG
                    go_wp2
                    go_roundw
                    case rel => exact ⟨j + 1, by omega, intNum, by rw [HQ.out]; exact hqn20, HGL⟩
                    case measure => simp [intOf]; omega
            · have hjn : j = np := by omega
              subst hjn
              rw [← HNX.out] at HG hjl
              have HGL := Lib.hid (HG.out.less (Q := []) (fun r hr => by cases hr))
              clear HG
              go_wp2
              go_roundw
              case rel => exact ⟨q + 1, by omega, intNum, hjl, HGL⟩
              case measure => simp [intOf]; omega
        · have hqn : q = n := by omega
          have HAL := Lib.hid (show fm (scM rs sc) q = alM rs sc by unfold alM; rw [HSL.out, hqn])
          have hz5 := HBW.out.size
          have HFN := Lib.hid (MenP.ok (x := ⟨t, sc⟩) (rs := rs) (w := w) (w' := wr) (menE_ok HE.out HE2.out (show ¬ 20000 < (alM rs sc).length by rw [← HAL.out]; omega)) (by
            rw [← HAL.out]
            exact HG.out.own.less hz5) (HBA.out wr HG.out.bel))
          clear hqn
          go_wp2
          go_ret2
          exact HFN.out
end Go.Proofs.YtlfnmmnbfoimeaaGreatDoor

