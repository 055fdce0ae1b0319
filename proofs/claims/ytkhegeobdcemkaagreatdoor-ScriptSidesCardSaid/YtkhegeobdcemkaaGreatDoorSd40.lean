/- Texts packed: SoA. -/
import Derived.Test.YtkhegeobdcemkaaGreatDoorSd39
import Derived.Test.YtkhegeobdcemkaaGreatDoorSd24
import Derived.Test.YtkhegeobdcemkaaGreatDoorSd38
import Derived.Test.YtkhegeobdcemkaaGreatDoorSd37
/- Searching the groups of a scene; rows that are only read beside scenes of one's own. -/
namespace Go.Proofs.YtkhegeobdcemkaaGreatDoor
set_option linter.unusedVariables false
open Go.RowKit Go.Sort

/-- A row that a call has made and that is only read from now on takes its place among the private blocks. -/
theorem BI.keepNew {β : Type} {m : Nat} {enc2 : β → List Value} {hm : ∀ x, (enc2 x).length = m} {w wx wy : World} {v v2 : Value} {l2 : List β} {P : List (Nat × Array Value × TypeId)} {lo : Nat} {e2 : TypeId} (h : BI w [] v P wx) (hb : Below wx.heap.size wx wy) (ho : Own (Rep.flat m enc2 hm) wy wx.heap.size lo e2 l2 v2) :
    ∃ PT : List (Nat × Array Value × TypeId), BI w [] v (PT ++ P) wy ∧ (∀ p ∈ PT, wx.heap.size ≤ p.1) ∧ ∀ (W : World) l v' P', BI w l v' P' W → (∀ p ∈ PT, p ∈ P') → Sli (Rep.flat m enc2 hm) W (fun q => v2.ownBlock = some q) l2 v2 ∧ ∀ q, v2.ownBlock = some q → q < W.heap.size := by
  obtain ⟨xs, hor, hl⟩ := ho
  rcases hor.2 with ⟨rfl, h0⟩ | ⟨g, cap, cur, hv, hbg, hg, h1, h2, h3, h4⟩
  · obtain rfl : l2 = [] := List.length_eq_zero_iff.1 h0
    exact ⟨[], h.below hb, fun p hp => (by cases hp), fun W l v' P' _ _ => ⟨Sli.nil_, fun q hq => (by cases hq)⟩⟩
  · have hB := h.below hb
    refine ⟨[(g, cur, e2)], ⟨⟨hB.bo.bel, hB.bo.own, fun p hp => ?_⟩, fun y hy => (by cases hy)⟩, fun p hp => (by rw [List.mem_singleton] at hp; subst hp; exact hbg), fun W l v' P' hW hP => ?_⟩
    · rcases List.mem_cons.1 hp with rfl | hp
      · exact ⟨hg, Nat.le_trans h.bo.size hbg, fun e => by have := (h.bo.own.block g e).2; omega⟩
      · exact hB.bo.prv p hp
    · have hw := (hW.bo.prv (g, cur, e2) (hP _ (by simp))).1
      dsimp only at hw
      subst hv
      have hs : Own (Rep.flat m enc2 hm) wy wx.heap.size lo e2 l2 (.slice (some ⟨g, 0, none⟩) l2.length cap) := ⟨xs, hor, hl⟩
      refine ⟨Sli.keep (hs.sliF (F := fun q => (Value.slice (some ⟨g, 0, none⟩) l2.length cap).ownBlock = some q) (fun q hq => hq)) fun q hq => ?_, fun q hq => ?_⟩
      · obtain rfl : g = q := by injection hq
        rw [hw, hg]
      · obtain rfl : g = q := by injection hq
        exact heap_lt hw
/-- A block that has been laid since takes its place among the private ones. -/
theorem BI.blk {w wx wy : World} {l : List (Scene × Value)} {v : Value} {P : List (Nat × Array Value × TypeId)} (h : BI w l v P wx) (hb : Below wx.heap.size wx wy) {B : Nat} {cs : Array Value} {T : TypeId} (hB : wx.heap.size ≤ B) (hc : wy.heap[B]? = some (.cells cs T (0, 0))) : BI w l v ((B, cs, T) :: P) wy := by
  have h2 := h.below hb
  refine ⟨⟨h2.bo.bel, h2.bo.own, fun p hp => ?_⟩, fun y hy => ?_⟩
  · rcases List.mem_cons.1 hp with rfl | hp
    · exact ⟨hc, Nat.le_trans h.bo.size hB, fun e => by have := (h.bo.own.block B e).2; omega⟩
    · exact h2.bo.prv p hp
  · refine ((h.inn y hy).below hb (fun q hq => hq.2.1)).more fun q hq => ⟨hq.1, Nat.lt_of_lt_of_le hq.2.1 hb.size, fun p hp => ?_, hq.2.2.2⟩
    rcases List.mem_cons.1 hp with rfl | hp
    · have := hq.2.1; dsimp only; omega
    · exact hq.2.2.1 p hp
def Grp.val (g : Grp) : Value := .agg #[.int .i64 (g.1 : Int), .int .i64 (g.2.1 : Int), .string g.2.2]
set_option maxHeartbeats 800000 in
theorem idxGrp_c {F : Nat → Prop} (l : List Grp) (v : Value) (g : Nat) (cb : Array Value) (p : Grp → Bool) (w : World) (hv : Sli gpR w F l v) (hF : ∀ b, F b → b < w.heap.size) (hlen : l.length ≤ 1000000000)
    (hp : PredC Tryz.prog g cb Grp.val p w) :
    Calls Tryz.prog 122 #[v, .func (.func g) #[] cb] w fun e w' => e = .returned (.int .i64 (idxV (l.findIdx? p))) ∧ Below w.heap.size w w' := by
  obtain ⟨A, c, rfl, _, _⟩ := hv.form
  have eg := hp.1
  have HP := Lib.hid hp.2
  have HV := Lib.hid hv
  have HF := Lib.hid hF
  obtain ⟨L, hL⟩ : ∃ L, l.length = L := ⟨_, rfl⟩
  have HL := Lib.hid hL
  rw [hL] at HV hlen ⊢
  clear hp hv hF hL
  go_enter Tryz.func122, Tryz.ntmps122
  go_wp2
  go_loopw [5, 8] (fun v i wr => ∃ k : Nat, k ≤ L ∧ i = .int .i64 k ∧ Below w.heap.size w wr ∧ Hid (∀ x ∈ l.take k, p x = false)) (fun _ i _ => L - (intOf i).toNat)
  case atStart => exact ⟨0, Nat.zero_le _, rfl, Below.refl _ _, by intro x hx; simp at hx⟩
  case round =>
    obtain ⟨k, hk, rfl, hb, HN⟩ := hrel
    by_cases hlt : k < L
    · have hk2 : k < l.length := by rw [HL.out]; exact hlt
      obtain ⟨b, off, rfl, hfb, c0, c1, c2⟩ := gp_at (HV.out.below hb HF.out) k hk2
      have HNX := Lib.hid (fun (h : p (l[k]'hk2) = false) => take_next (q := fun x => p x = false) hk2 HN.out h)
      have HAT := Lib.hid (fun (h : p (l[k]'hk2) = true) => findIdx_at (p := p) HN.out hk2 h)
      generalize (l[k]'hk2) = x at *
      have HPX := Lib.hid (HP.out x wr hb)
      have HBB := Lib.hid hb
      rw [show x.val = .agg #[.int .i64 (x.1 : Int), .int .i64 (x.2.1 : Int), .string x.2.2] from rfl] at HPX
      clear hk2 HN hb
      cases hv : p x
      all_goals
        have HV := Lib.hid hv; clear hv
        go_wp2_with fail
        refine HPX.out.mono ?_
        rintro e w' ⟨rfl, hb'⟩
        have HB2 := Lib.hid (HBB.out.trans (hb'.mono HBB.out.size))
        clear hb'
        rw [HV.out]
        go_wp2
      · go_roundw
        case rel => exact ⟨k + 1, by omega, intNum, HB2.out, HNX.out HV.out⟩
        case measure => simp [intOf]; omega
      · go_ret
        exact ⟨by rw [HAT.out HV.out]; rfl, HB2.out⟩
    · go_wp2
      go_ret
      have H := findIdx_no (take_all (q := fun x : Grp => p x = false) (by rw [HL.out]; exact hlt) HN.out)
      exact ⟨by rw [H]; rfl, hb⟩
theorem contGrp_c {F : Nat → Prop} (l : List Grp) (v : Value) (g : Nat) (cb : Array Value) (p : Grp → Bool) (w : World) (hv : Sli gpR w F l v) (hF : ∀ b, F b → b < w.heap.size) (hlen : l.length ≤ 1000000000)
    (hp : PredC Tryz.prog g cb Grp.val p w) :
    Calls Tryz.prog 72 #[v, .func (.func g) #[] cb] w fun e w' => e = .returned (.bool (l.any p)) ∧ Below w.heap.size w w' := by
  have HI := Lib.hid (idxGrp_c l v g cb p w hv hF hlen hp)
  have HZ := Lib.hid (idx_any l p)
  obtain ⟨A, c, rfl, _, _⟩ := hv.form
  generalize l.findIdx? p = z at *
  clear hv hF hp
  go_enter Tryz.func72, Tryz.ntmps72
  go_wp2_with fail
  refine HI.out.mono ?_
  rintro e w2 ⟨rfl, hb2⟩
  have HE := Lib.hid hb2
  clear hb2 HI
  generalize idxV z = i at *
  go_wp2
  go_ret
  exact ⟨ret_bool HZ.out, HE.out⟩
set_option maxHeartbeats 400000 in
theorem sides1_p (s : ByteArray) (b : Nat) (w : World) (h : w.cell? ⟨b, 0, none⟩ = some (.string s)) (hlt : b < w.heap.size) :
    PredC Tryz.prog 73 #[.pointer (some ⟨b, 0, none⟩)] Grp.val (fun y => decide (y.2.2 = s)) w := by
  refine ⟨fun _ _ => by kernel_rfl, fun x W hb => ?_⟩
  have hc : W.cell? ⟨b, 0, none⟩ = some (.string s) := (hb.cell (p := ⟨b, 0, none⟩) hlt).trans h
  have hs := hb.size
  have hl : b < W.heap.size := by omega
  clear h hb hlt hs
  show Calls Tryz.prog _ #[.agg #[.int .i64 (x.1 : Int), .int .i64 (x.2.1 : Int), .string x.2.2], .pointer (some ⟨b, 0, none⟩)] W _
  go_enter Tryz.func73, Tryz.ntmps73
  go_wp2
  go_ret
  exact ⟨ret_bool (beqS _ _), (Below.refl _ _).alloc (Nat.le_refl _) _⟩
end Go.Proofs.YtkhegeobdcemkaaGreatDoor

