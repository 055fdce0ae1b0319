/- Texts packed: StoryB. -/
import Derived.Test.YtlfnmmnbfoimeaaGreatDoorSc16
import Derived.Test.YtlfnmmnbfoimeaaGreatDoorSc01
import Derived.Deep.RegionLaw
/- The generator's scenes. -/
namespace Go.Proofs.YtlfnmmnbfoimeaaGreatDoor
set_option linter.unusedVariables false
open Go.RowKit Go.Sort

theorem results_cell1 {fn : Func} {p : Tmp} {ty : TypeId} (h : fn.results = #[.cell p ty]) (tmps : Array Value) (P : Program) (w : World) : (results fn tmps).run P w = ((asAddr (tmps.getD p undef)).run P w).andThen fun a w₁ => (loadVar ty a).run P w₁ := by
  simp only [results, h]
  simp [Sem.run_bind, Result.andThen]
def setList : List ByteArray := [⟨#[72, 65, 76, 76]⟩, ⟨#[77, 73, 76, 76]⟩, ⟨#[66, 65, 82, 78, 32, 47, 32, 76, 79, 70, 84]⟩]
set_option maxHeartbeats 400000 in
theorem Sets_c (w : World) : Calls Tryz.prog 84 #[] w (fun e w' => e = .returned (.slice (some ⟨w.heap.size, 0, none⟩) 3 3) ∧ w' = w.alloc (.cells (setList.map Value.string).toArray 9)) := by
  go_enter Tryz.func84, Tryz.ntmps84
  go_wp2
  go_ret
  exact ⟨rfl, rfl⟩
def scCs (no : ByteArray) (p : Int) (s : ByteArray) (t : Int) (v : Value) : Array Value := #[.string no, .int .i64 p, .string s, .int .i64 t, v]
/-- A scene by value: its paragraphs lie in blocks of their own. -/
def isScene (w : World) (v : Value) (w' : World) : Prop := ∃ (s : Scene) (pv : Value), v = .agg (scCs s.no s.place s.set s.time pv) ∧ Sli paraR w' (fun q => w.heap.size ≤ q ∧ q < w'.heap.size) s.paras pv ∧ sceneBd s
/-- The same, its place and time of day such as a heading has. -/
def isSceneR (w : World) (v : Value) (w' : World) : Prop := ∃ (s : Scene) (pv : Value), v = .agg (scCs s.no s.place s.set s.time pv) ∧ Sli paraR w' (fun q => w.heap.size ≤ q ∧ q < w'.heap.size) s.paras pv ∧ sceneBd s ∧ (1 ≤ s.place ∧ s.place ≤ 3) ∧ (1 ≤ s.time ∧ s.time ≤ 5)
theorem paraFlat {w w' : World} {F F' : Nat → Prop} {x : Para} {cs : List Value} (h : paraR.rel w F x cs) : paraR.rel w' F' x cs := h
theorem paraOne (w : World) (F : Nat → Prop) (y : Para) (cs : List Value) (h : paraR.rel w F y cs) : ∀ u ∈ cs, u.oneCell' = true := by
  have e : cs = Para.cells y := h
  subst e
  exact oneC rfl

set_option maxRecDepth 100000 in
set_option maxHeartbeats 6000000 in
theorem SceneR_c (sb : Nat) (k0 : Int) (w : World) (hs : Str w sb k0) (hk0 : k0 ≤ 3300000000000000000) :
    Calls Tryz.prog 43 #[.pointer (some ⟨sb, 0, none⟩)] w (Took sb k0 60100 (isSceneR w) w) := by
  have S0 := Lib.hid hs
  have hsb := hs.lt
  clear hs
  obtain ⟨i0, hi0, hz0, hz1, hz2⟩ := info_parts (show (Tryz.prog.info? 68).map (fun i => (i.zero, i.size, i.bytes)) = some (some (.agg #[.int .i64 0, .string ⟨#[]⟩]), 2, 24) by kernel_rfl)
  have G0 := Lib.hid ((GS.start (R := paraR) (e := 68) S0.out).new (scCs ⟨#[]⟩ 0 ⟨#[]⟩ 0 (.slice none 0 0)) 66)
  go_enter Tryz.func43, Tryz.ntmps43
  go_wp2_with fail
  refine (range_c sb k0 1 3 _ G0.out.str (by omega) (by decide) (by decide) (by decide)).mono ?_
  rintro e w1 ⟨v1, n1, rfl, ⟨y1, ⟨hy1, hy1'⟩, rfl⟩, hn1, hs1, hg1⟩
  have G1 := Lib.hid (G0.out.turn hg1 hs1)
  clear hs1 hg1 G0 S0
  go_wp2_with fail
  refine (Sets_c _).mono ?_
  rintro e w2 ⟨rfl, rfl⟩
  go_wp2_with fail
  refine (oneL w1 setList _ _ _ _ rfl rfl (by decide) (by decide) G1.out.str (by omega)).mono ?_
  rintro e w2 ⟨v2, n2, rfl, ⟨x2, hx2, rfl⟩, hn2, hs2, hg2⟩
  have b2 : x2.size ≤ 20 := oneOf (by decide +kernel) hx2
  have G2 := Lib.hid ((G1.out.alloc _).turn hg2 hs2)
  clear hs2 hg2 hx2 G1
  go_wp2_with fail
  refine (range_c sb n2 1 5 _ G2.out.str (by omega) (by decide) (by decide) (by decide)).mono ?_
  rintro e w3 ⟨v3, n3, rfl, ⟨y3, ⟨hy3, hy3'⟩, rfl⟩, hn3, hs3, hg3⟩
  have hG := G2.out.turn hg3 hs3
  have hze := hG.plt (p := (w.heap.size, scCs ⟨#[]⟩ 0 ⟨#[]⟩ 0 (.slice none 0 0), 66)) (by simp)
  dsimp only at hze
  have G3 := Lib.hid (hG.new (scCs ⟨#[]⟩ y1 x2 y3 (.slice none 0 0)) 66)
  clear hs3 hg3 G2 hG
  go_upto_region 2 with (fail)
  generalize hW : w3.alloc (.cells #[.string ⟨#[]⟩, .int .i64 y1, .string x2, .int .i64 y3, .slice none 0 0] 66) = wE
  have G4 := Lib.hid (show GS paraR 68 w sb [] (.slice none 0 0) [(w3.heap.size, scCs ⟨#[]⟩ y1 x2 y3 (.slice none 0 0), 66), (w.heap.size, scCs ⟨#[]⟩ 0 ⟨#[]⟩ 0 (.slice none 0 0), 66)] n3 wE by rw [← hW]; exact G3.out)
  generalize w3.heap.size = E0 at *
  clear G3 hW
  go_wp2_with fail
  refine (pickL wE [2, 5, 12] _ _ _ _ rfl rfl (by decide) (by decide) G4.out.str (by omega)).mono ?_
  rintro e w5 ⟨v5, n5, rfl, ⟨y, hy, rfl⟩, hn5, hs5, hg5⟩
  have hyb : 1 ≤ y ∧ y ≤ 12 := by simp at hy; omega
  have G5 := Lib.hid ((G4.out.alloc _).turn hg5 hs5)
  clear hs5 hg5 hy G4
  go_wp2_with fail
  refine (next_c sb n5 y _ G5.out.str (by omega) (by omega) (by omega)).mono ?_
  rintro e w6 ⟨v6, n6, rfl, ⟨m6, hm0, hm1, rfl⟩, hn6, hs6, hg6⟩
  obtain ⟨m, rfl⟩ := Int.eq_ofNat_of_zero_le hm0
  have hm : m < 12 := by omega
  have G6 := Lib.hid (G5.out.turn hg6 hs6)
  clear hs6 hg6 G5 hm0 hm1
  go_wp2
  go_loopw [17] (fun i wr => ∃ (k : Nat) (l : List Para) (v : Value) (n : Int), k ≤ m ∧ i = .int .i64 k ∧ n ≤ k0 + 5 + 5000 * (k : Int) ∧ l.length ≤ 5 * k ∧ Hid (GS paraR 68 w sb l v [(E0, scCs ⟨#[]⟩ y1 x2 y3 v, 66), (w.heap.size, scCs ⟨#[]⟩ 0 ⟨#[]⟩ 0 (.slice none 0 0), 66)] n wr) ∧ Hid (∀ x ∈ l, paraBd x)) (fun i _ => m - (intOf i).toNat)
  case atStart => exact ⟨0, [], _, n6, by omega, rfl, by omega, by simp, G6.out, fun x hx => by cases hx⟩
  case round =>
    clear G6
    obtain ⟨k, l, v, n, hk, rfl, hn, hll, HG, HX⟩ := hrel
    obtain ⟨A5, c5, hv, hc51, hc52⟩ := (HG.out.own.sli (F := fun _ => True) (fun _ _ _ => trivial) (fun _ _ => trivial)).form
    clear hc51 hc52
    generalize l.length = L5 at hv
    subst hv
    by_cases hlt : k < m
    · go_upto_region 4 with (fail)
      have c4 : wr.cell? ⟨E0, 4, none⟩ = some (.slice A5 L5 c5) := (HG.out.cell (p := (E0, scCs ⟨#[]⟩ y1 x2 y3 (.slice A5 L5 c5), 66)) (by simp)).1 4
      have hz := HG.out.size
      go_region_law (first
        | (go_simp; go_at_call 85; refine (paras_c sb n _ HG.out.str.drew (by omega)).mono ?_; rintro e w7 ⟨v7, n7, rfl, ⟨l2, hl2, hl5, hl0, hx2⟩, hn7, hs7, hg7⟩; have G7 := HG.out.drew.turn hg7 hs7; have c7 : w7.cell? ⟨E0, 4, none⟩ = some (.slice A5 L5 c5) := (G7.cell (p := (E0, scCs ⟨#[]⟩ y1 x2 y3 (.slice A5 L5 c5), 66)) (by simp)).1 4; have hz7 := hg7.size)
        | (refine step_app rfl _ _ _ rfl w.heap.size w.heap.size 68 i0 _ 24 Tryz.underlying64 hi0 hz0 hz1 hz2 rfl (by decide) _ (.slice A5 L5 c5) l rfl G7.own l2 v7 rfl (G7.from_ (b0 := wr.heap.size) (fun g hg => (HG.out.own.block g hg).2) HG.out.size hl2) paraOne hl0 (by simp [maxLen]; omega) (by omega) G7.size ?_; intro g cap w8 hown8 hg8 hat8 hlt8; have G8 := G7.more hown8 hg8 rfl hat8; have c8 : w8.cell? ⟨E0, 4, none⟩ = some (.slice A5 L5 c5) := (G8.cell (p := (E0, scCs ⟨#[]⟩ y1 x2 y3 (.slice A5 L5 c5), 66)) (by simp)).1 4; have f8 : w8.frozen? ⟨E0, 4, none⟩ = false := (G8.cell (p := (E0, scCs ⟨#[]⟩ y1 x2 y3 (.slice A5 L5 c5), 66)) (by simp)).2 4))
      all_goals
        have hEw : E0 ≠ w.heap.size := by omega
        have G9 := Lib.hid (G8.set (i := 4) paraFlat (.slice (some ⟨g, 0, none⟩) (l.length + l2.length) cap) (by simp; omega))
        go_wp2
        go_roundw
        case rel => exact ⟨k + 1, l ++ l2, _, n7, by omega, intNum, by omega, by simp; omega, G9.out, fun x hx => by
          rcases List.mem_append.1 hx with h | h
          · exact HX.out x h
          · exact hx2 x h⟩
        case measure => simp [intOf]; omega
    · have c0 := (HG.out.cell (p := (E0, scCs ⟨#[]⟩ y1 x2 y3 (.slice A5 L5 c5), 66)) (by simp)).1
      have e0 : wr.cell? ⟨E0, 0, none⟩ = some (.string ⟨#[]⟩) := c0 0
      have e1 : wr.cell? ⟨E0, 1, none⟩ = some (.int .i64 y1) := c0 1
      have e2 : wr.cell? ⟨E0, 2, none⟩ = some (.string x2) := c0 2
      have e3 : wr.cell? ⟨E0, 3, none⟩ = some (.int .i64 y3) := c0 3
      have e4 : wr.cell? ⟨E0, 4, none⟩ = some (.slice A5 L5 c5) := c0 4
      obtain ⟨d, f⟩ := HG.out.cell (p := (w.heap.size, scCs ⟨#[]⟩ 0 ⟨#[]⟩ 0 (.slice none 0 0), 66)) (by simp)
      have f0 : wr.frozen? ⟨w.heap.size, 0, none⟩ = false := f 0
      have f1 : wr.frozen? ⟨w.heap.size, 1, none⟩ = false := f 1
      have f2 : wr.frozen? ⟨w.heap.size, 2, none⟩ = false := f 2
      have f3 : wr.frozen? ⟨w.heap.size, 3, none⟩ = false := f 3
      have f4 : wr.frozen? ⟨w.heap.size, 4, none⟩ = false := f 4
      have hEw : E0 ≠ w.heap.size := by omega
      have d0 : wr.cell? ⟨w.heap.size, 0, none⟩ = some (.string ⟨#[]⟩) := d 0
      have d1 : wr.cell? ⟨w.heap.size, 1, none⟩ = some (.int .i64 0) := d 1
      have d2 : wr.cell? ⟨w.heap.size, 2, none⟩ = some (.string ⟨#[]⟩) := d 2
      have d3 : wr.cell? ⟨w.heap.size, 3, none⟩ = some (.int .i64 0) := d 3
      have d4 : wr.cell? ⟨w.heap.size, 4, none⟩ = some (.slice none 0 0) := d 4
      clear f c0 d
      have q := HG.out.less (Q := [(w.heap.size, scCs ⟨#[]⟩ 0 ⟨#[]⟩ 0 (.slice none 0 0), 66)]) (by simp)
      have q0 := q.set (i := 0) paraFlat (.string ⟨#[]⟩) (by simp)
      have q1 := q0.set (i := 1) paraFlat (.int .i64 y1) (by simp)
      have q2 := q1.set (i := 2) paraFlat (.string x2) (by simp)
      have q3 := q2.set (i := 3) paraFlat (.int .i64 y3) (by simp)
      have q4 := Lib.hid (q3.set (i := 4) paraFlat (.slice A5 L5 c5) (by simp))
      clear q q0 q1 q2 q3
      go_wp2
      refine ⟨rfl, .agg (scCs ⟨#[]⟩ y1 x2 y3 (.slice A5 L5 c5)), (by rw [results_cell1 rfl]; go_simp; rfl), ?_⟩
      refine ⟨_, n, rfl, ⟨⟨⟨#[]⟩, y1, x2, y3, l⟩, .slice A5 L5 c5, rfl, q4.out.own.sli (fun q h1 h2 => ⟨h1, h2⟩) (fun g hg => q4.out.own.block g hg), ?_, ⟨hy1, hy1'⟩, ⟨hy3, hy3'⟩⟩, by omega, q4.out.str, q4.out.gr⟩
      exact ⟨by show (0 : Nat) ≤ 1000; omega, by dsimp only; omega, by dsimp only; omega, by dsimp only; omega, by dsimp only; omega, by dsimp only; omega, by dsimp only; omega, HX.out⟩
theorem Scene_c (sb : Nat) (k0 : Int) (w : World) (hs : Str w sb k0) (hk0 : k0 ≤ 3300000000000000000) :
    Calls Tryz.prog 43 #[.pointer (some ⟨sb, 0, none⟩)] w (Took sb k0 60100 (isScene w) w) :=
  (SceneR_c sb k0 w hs hk0).mono fun _ _ h =>
    have ⟨v, n, e, ⟨s, pv, h1, h2, h3, _⟩, hr⟩ := h
    ⟨v, n, e, ⟨s, pv, h1, h2, h3⟩, hr⟩
end Go.Proofs.YtlfnmmnbfoimeaaGreatDoor

