/- Texts packed: GenI. -/
import Derived.Test.YtodlfdfkhdfblaaGreatDoorEm15
import Derived.Test.YtodlfdfkhdfblaaGreatDoorEm13
import Derived.RegionTactic
/- The generator's events. -/
namespace Go.Proofs.YtodlfdfkhdfblaaGreatDoor
set_option linter.unusedVariables false
open Go.RowKit Go.Sort

/-- What an event of the generator stays within after K of them. -/
def evB (K : Nat) (x : Ev) : Prop := x.roll.size ≤ 1000 ∧ -40000000 - 100 * (K : Int) ≤ x.tin ∧ x.tin ≤ 40000000 + 100 * (K : Int) ∧ -40000000 - 100 * (K : Int) ≤ x.tout ∧ x.tout ≤ 40000000 + 100 * (K : Int)
theorem evB.more {K K' : Nat} {x : Ev} (h : evB K x) (hk : K ≤ K') : evB K' x := by unfold evB at *; omega
def rollCs (r : Roll) : Array Value := #[.string r.name, .int .i64 r.rate, .int .i64 r.start, .int .i64 r.long, .int .i64 r.drift]
def evCs (x : Ev) : Array Value := #[.string x.roll, .int .i64 x.tin, .int .i64 x.tout]
theorem evFlat {w w' : World} {F F' : Nat → Prop} {x : Ev} {cs : List Value} (h : evR.rel w F x cs) : evR.rel w' F' x cs := h
theorem cell_set3' {w : World} {B : Nat} {u v x y : Value} {p : Addr} (h : w.cell? p = some y) (hne : p.block ≠ B) : (((w.setCell ⟨B, 0, none⟩ u).setCell ⟨B, 1, none⟩ v).setCell ⟨B, 2, none⟩ x).cell? p = some y := by
  rw [World.cell?_setCell_other _ _ _ _ (fun e => hne (congrArg Addr.block e).symm), World.cell?_setCell_other _ _ _ _ (fun e => hne (congrArg Addr.block e).symm), World.cell?_setCell_other _ _ _ _ (fun e => hne (congrArg Addr.block e).symm)]
  exact h
theorem oneD {sb : Nat} {k : Int} (w : World) (l : List ByteArray) (cs : Array Value) (T n c : Nat) (hcs : cs = (l.map Value.string).toArray) (hn : n = l.length) (h0 : 0 < n) (h1 : n ≤ 1000) (hs : Str w sb k) (hk : k ≤ 4611686018427387904) :
    Calls Tryz.prog 47 #[.pointer (some ⟨sb, 0, none⟩), .slice (some ⟨w.heap.size, 0, none⟩) n c] (w.alloc (.cells cs T)).drew (Took sb k 1 (isStr (· ∈ l)) (w.alloc (.cells cs T)).drew) := by
  subst hcs; subst hn
  exact one_c sb k _ l c w.heap.size (w.heap.size + 1) _ (hs.alloc _).drew hk h0 (by omega) ((Rs.new1 w l .string T _ (Nat.le_refl _)).keep (fun _ _ _ => rfl)) hs.lt (by show w.heap.size + 1 ≤ (w.alloc _).heap.size; simp)
theorem rollAt {w : World} {B : Nat} {a b c : Roll} (h : RollsBlk w B a b c) (ha : rollBd a) (hb : rollBd b) (hc : rollBd c) (j : Nat) (hj : j < 3) : ∃ r, rollBd r ∧ w.cell? ⟨B, j * 5, none⟩ = some (.string r.name) ∧ w.cell? ⟨B, j * 5 + 1, none⟩ = some (.int .i64 r.rate) ∧ w.cell? ⟨B, j * 5 + 2, none⟩ = some (.int .i64 r.start) ∧ w.cell? ⟨B, j * 5 + 3, none⟩ = some (.int .i64 r.long) ∧ w.cell? ⟨B, j * 5 + 4, none⟩ = some (.int .i64 r.drift) := by
  obtain ⟨h1, _⟩ := str_cells h
  rcases (by omega : j = 0 ∨ j = 1 ∨ j = 2) with rfl | rfl | rfl
  · exact ⟨a, ha, h1 _, h1 _, h1 _, h1 _, h1 _⟩
  · exact ⟨b, hb, h1 _, h1 _, h1 _, h1 _, h1 _⟩
  · exact ⟨c, hc, h1 _, h1 _, h1 _, h1 _, h1 _⟩

set_option maxRecDepth 100000 in
set_option maxHeartbeats 12000000 in
theorem GEvents_c (sb B : Nat) (k0 : Int) (a b c : Roll) (w : World) (hs : Str w sb k0) (hk0 : k0 ≤ 3000000000000000000) (hR : RollsBlk w B a b c) (ha : rollBd a) (hb : rollBd b) (hc : rollBd c) (hB : sb < B) :
    Calls Tryz.prog 13 #[.pointer (some ⟨sb, 0, none⟩), .slice (some ⟨B, 0, none⟩) 3 3] w (Took sb k0 40 (fun v w' => ∃ l : List Ev, Sli evR w' (fun q => w.heap.size ≤ q ∧ q < w'.heap.size) l v ∧ (∀ x ∈ l, evB 10 x) ∧ l.length ≤ 5) w) := by
  have S0 := Lib.hid hs
  have HR := Lib.hid hR
  have HA := Lib.hid (And.intro ha (And.intro hb hc))
  have hsb := hs.lt
  have hBw := heap_lt hR
  clear hs hR ha hb hc
  obtain ⟨i0, hi0, hz0, hz1, hz2⟩ := info_parts (show (Tryz.prog.info? 44).map (fun i => (i.zero, i.size, i.bytes)) = some (some (.agg #[.string ⟨#[]⟩, .int .i64 0, .int .i64 0]), 3, 32) by kernel_rfl)
  go_enter Tryz.func13, Tryz.ntmps13
  go_wp2_with fail
  refine (next_c sb k0 5 _ S0.out (by omega) (by omega) (by omega)).mono ?_
  rintro e w1 ⟨v1, n1, rfl, ⟨m1, hm0, hm1, rfl⟩, hn1, hs1, hg1⟩
  obtain ⟨m, rfl⟩ := Int.eq_ofNat_of_zero_le hm0
  have hm : m < 5 := by omega
  have GS1 := Lib.hid ((GS.start (R := evR) (e := 44) S0.out).turn hg1 hs1)
  clear hs1 hg1 hm0 hm1
  go_wp2
  go_loopw [5, 11] (fun v i wr => ∃ (k : Nat) (l : List Ev) (n : Int), k ≤ m ∧ i = .int .i64 k ∧ n ≤ k0 + 1 + 7 * (k : Int) ∧ l.length = k ∧ Hid (GS evR 44 w sb l v [] n wr) ∧ Hid (∀ x ∈ l, evB k x)) (fun _ i _ => m - (intOf i).toNat)
  case atStart => exact ⟨0, [], n1, by omega, rfl, by omega, rfl, GS1.out, fun x hx => by cases hx⟩
  case round =>
    clear GS1
    obtain ⟨k, l, n, hk, rfl, hn, hll, HG, HX⟩ := hrel
    by_cases hlt : k < m
    · go_wp2_with fail
      refine (next_c sb n 2 _ HG.out.str (by omega) (by omega) (by omega)).mono ?_
      rintro e w2 ⟨v2, n2, rfl, ⟨j1, hj0, hj1, rfl⟩, hn2, hs2, hg2⟩
      obtain ⟨j, rfl⟩ := Int.eq_ofNat_of_zero_le hj0
      have hj : j < 3 := by omega
      have G2 := Lib.hid (HG.out.turn hg2 hs2)
      clear hs2 hg2 HG
      have hjj : (j : Int) < 3 := by omega
      obtain ⟨r, hr, c0, c1, c2, c3, c4⟩ := rollAt (HR.out.keep (G2.out.gr.block B hBw (by simp; omega))) HA.out.1 HA.out.2.1 HA.out.2.2 j hj
      have HRB := Lib.hid hr
      have G3 := Lib.hid (G2.out.new (rollCs r) 82)
      go_upto_region 5 with (fail)
      generalize hW3 : w2.alloc (.cells #[.string r.name, .int .i64 r.rate, .int .i64 r.start, .int .i64 r.long, .int .i64 r.drift] 82) = w3
      have G3' := Lib.hid (show GS evR 44 w sb l u5 [(w2.heap.size, rollCs r, 82)] n2 w3 by rw [← hW3]; exact G3.out)
      have hR0 : w.heap.size ≤ w2.heap.size := G2.out.size
      generalize w2.heap.size = R0 at *
      clear G3 G2 hW3 c0 c1 c2 c3 c4 hr
      go_wp2_with fail
      refine (flip_c sb n2 15 _ G3'.out.str (by omega) (by omega) (by omega)).mono ?_
      rintro e w4 ⟨v4, n4, rfl, ⟨b4, rfl⟩, hn4, hs4, hg4⟩
      have G4 := Lib.hid (G3'.out.turn hg4 hs4)
      clear hs4 hg4 G3'
      go_upto_if 19 with (fail)
      go_cut [20] (fun _ wx => ∃ (r : Roll) (n : Int), rollBd r ∧ n ≤ n4 ∧ Hid (GS evR 44 w sb l u5 [(R0, rollCs r, 82)] n wx))
      case first =>
        cases b4 with
        | false =>
          go_wp2
          go_meet
          exact ⟨r, n4, HRB.out, Int.le_refl _, G4.out⟩
        | true =>
          obtain ⟨r2, hr2, c0, c1, c2, c3, c4⟩ := rollAt (HR.out.keep (G4.out.gr.block B hBw (by simp; omega))) HA.out.1 HA.out.2.1 HA.out.2.2 2 (by omega)
          have HR2 := Lib.hid hr2
          obtain ⟨y, f⟩ := G4.out.cell (p := (R0, rollCs r, 82)) (by simp)
          have y0 := y 0; have y1 := y 1; have y2 := y 2; have y3 := y 3; have y4 := y 4
          have f0 := f 0; have f1 := f 1; have f2 := f 2; have f3 := f 3; have f4 := f 4
          simp only [rollCs] at y0 y1 y2 y3 y4
          clear y f hr2
          have hRB : R0 ≠ B := by omega
          go_wp2
          go_meet
          have q0 := G4.out.set (i := 0) evFlat (.string r2.name) (by simp)
          have q1 := q0.set (i := 1) evFlat (.int .i64 r2.rate) (by simp)
          have q2 := q1.set (i := 2) evFlat (.int .i64 r2.start) (by simp)
          have q3 := q2.set (i := 3) evFlat (.int .i64 r2.long) (by simp)
          have q4 := q3.set (i := 4) evFlat (.int .i64 r2.drift) (by simp)
          exact ⟨r2, n4, HR2.out, Int.le_refl _, q4⟩
      case rest =>
        clear G4 HRB
        obtain ⟨r, n5, hr5, hn5, G5⟩ := hcut
        have HRB := Lib.hid hr5
        have hst := hr5
        unfold rollBd at hst
        obtain ⟨y, _⟩ := G5.out.cell (p := (R0, rollCs r, 82)) (by simp)
        have y0 := y 0
        have y2 := y 2
        simp only [rollCs] at y0 y2
        have y0 : wc.cell? ⟨R0, 0, none⟩ = some (.string r.name) := y0
        have y2 : wc.cell? ⟨R0, 2, none⟩ = some (.int .i64 r.start) := y2
        clear y hr5
        have hRs : R0 ≠ sb := by omega
        have hRl := G5.out.plt (p := (R0, rollCs r, 82)) (by simp)
        dsimp only at hRl
        have hnw : wc.heap.size ≠ R0 := by omega
        go_upto_region 7 with (fail)
        go_cut [7] (fun s7 wx => ∃ (E0 : Nat) (x : Ev) (n : Int), s7 = .pointer (some ⟨E0, 0, none⟩) ∧ (x.roll.size ≤ 1000 ∧ -20000000 ≤ x.tin ∧ x.tin ≤ 20000000) ∧ n ≤ n5 + 1 ∧ E0 ≠ R0 ∧ Hid (GS evR 44 w sb l u5 [(E0, evCs x, 44), (R0, rollCs r, 82)] n wx))
        case first =>
          go_region_held3 (fun W' => W'.cell? ⟨R0, 0, none⟩ = some (.string r.name) ∧ W'.cell? ⟨R0, 2, none⟩ = some (.int .i64 r.start))
            (first
              | exact ⟨y0, y2⟩
              | exact ⟨z0, z2⟩
              | exact ⟨(World.cell?_alloc_lt _ _ _ (by dsimp only; omega)).trans z0, (World.cell?_alloc_lt _ _ _ (by dsimp only; omega)).trans z2⟩
              | exact ⟨(World.cell?_alloc_lt wc _ ⟨R0, 0, none⟩ hRl).trans y0, (World.cell?_alloc_lt wc _ ⟨R0, 2, none⟩ hRl).trans y2⟩
              | exact ⟨cell_set3' z0 hnw.symm, cell_set3' z2 hnw.symm⟩
              | fail)
            (first
              | (go_at_call 46; refine (next_c sb n5 100 _ G5.out.str.drew (by omega) (by omega) (by omega)).mono ?_; rintro e w6 ⟨v6, n6, rfl, ⟨y6, hy0, hy1, rfl⟩, hn6, hs6, hg6⟩; have ew : IntKind.i64.wrap (r.start + y6) = r.start + y6 := IntWalk.i64_in _ (by omega); have G6 := G5.out.drew.turn hg6 hs6; have hz6 : R0 < w6.heap.size := Nat.lt_of_lt_of_le hRl hg6.size; have z0 : w6.cell? ⟨R0, 0, none⟩ = some (.string r.name) := (World.cell?_of_block (a := ⟨R0, 0, none⟩) (hg6.block R0 hRl (by simp; omega))).trans y0; have z2 : w6.cell? ⟨R0, 2, none⟩ = some (.int .i64 r.start) := (World.cell?_of_block (a := ⟨R0, 2, none⟩) (hg6.block R0 hRl (by simp; omega))).trans y2)
              | (go_at_call 46; refine (next_c sb n5 100 _ (G5.out.str.alloc _).drew (by omega) (by omega) (by omega)).mono ?_; rintro e w6 ⟨v6, n6, rfl, ⟨y6, hy0, hy1, rfl⟩, hn6, hs6, hg6⟩; have ew : IntKind.i64.wrap (r.start + y6) = r.start + y6 := IntWalk.i64_in _ (by omega); have G6 := (G5.out.new (evCs ⟨⟨#[]⟩, 0, 0⟩) 44).drew.turn hg6 hs6; have hz6 : wc.heap.size < w6.heap.size := Nat.lt_of_lt_of_le (by simp) hg6.size; have z0 : w6.cell? ⟨R0, 0, none⟩ = some (.string r.name) := (G6.cell (p := (R0, rollCs r, 82)) (by simp)).1 0; have z2 : w6.cell? ⟨R0, 2, none⟩ = some (.int .i64 r.start) := (G6.cell (p := (R0, rollCs r, 82)) (by simp)).1 2; have u0 : w6.cell? ⟨wc.heap.size, 0, none⟩ = some (.string ⟨#[]⟩) := (G6.cell (p := (wc.heap.size, evCs ⟨⟨#[]⟩, 0, 0⟩, 44)) (by simp)).1 0; have u1 : w6.cell? ⟨wc.heap.size, 1, none⟩ = some (.int .i64 0) := (G6.cell (p := (wc.heap.size, evCs ⟨⟨#[]⟩, 0, 0⟩, 44)) (by simp)).1 1; have u2 : w6.cell? ⟨wc.heap.size, 2, none⟩ = some (.int .i64 0) := (G6.cell (p := (wc.heap.size, evCs ⟨⟨#[]⟩, 0, 0⟩, 44)) (by simp)).1 2; have t0 := (G6.cell (p := (wc.heap.size, evCs ⟨⟨#[]⟩, 0, 0⟩, 44)) (by simp)).2 0; have t1 := (G6.cell (p := (wc.heap.size, evCs ⟨⟨#[]⟩, 0, 0⟩, 44)) (by simp)).2 1; have t2 := (G6.cell (p := (wc.heap.size, evCs ⟨⟨#[]⟩, 0, 0⟩, 44)) (by simp)).2 2))
          all_goals
            go_wp2
            go_meet
            first
              | exact ⟨w6.heap.size, ⟨r.name, r.start + y6, 0⟩, n6, rfl, ⟨hst.1, by dsimp only; omega, by dsimp only; omega⟩, hn6, by omega, G6.new (evCs ⟨r.name, r.start + y6, 0⟩) 44⟩
              | exact ⟨wc.heap.size, ⟨r.name, r.start + y6, 0⟩, n6, rfl, ⟨hst.1, by dsimp only; omega, by dsimp only; omega⟩, hn6, hnw, ((G6.set (i := 0) evFlat (.string r.name) (by simp; omega)).set (i := 1) evFlat (.int .i64 (r.start + y6)) (by simp; omega)).set (i := 2) evFlat (.int .i64 0) (by simp; omega)⟩
        case rest =>
          clear G5 y0 y2 hRl hnw
          obtain ⟨E0, x, n6, rfl, hx, hn6, hne, G6⟩ := hcut
          have hEs : E0 ≠ sb := by have := (G6.out.prv (E0, evCs x, 44) (by simp)).2.1; dsimp only at this; omega
          have y1 : wc.cell? ⟨E0, 1, none⟩ = some (.int .i64 x.tin) := (G6.out.cell (p := (E0, evCs x, 44)) (by simp)).1 1
          obtain ⟨hx1, hx2, hx3⟩ := hx
          go_wp2
          go_region_held3 (fun W' => W'.cell? ⟨E0, 1, none⟩ = some (.int .i64 x.tin))
            (first
              | exact y1
              | exact z1
              | exact (World.cell?_setCell_other _ _ _ _ (fun h => by have := congrArg Addr.off h; dsimp only at this; omega)).trans z1
              | fail)
            (first
              | (go_at_call 48; refine (range_c sb n6 1 50 _ G6.out.str.drew (by omega) (by omega) (by omega) (by omega)).mono ?_; rintro e w7 ⟨v7, n7, rfl, ⟨y7, ⟨hy1, hy2⟩, rfl⟩, hn7, hs7, hg7⟩; have ew : IntKind.i64.wrap (x.tin + y7) = x.tin + y7 := IntWalk.i64_in _ (by omega); have G7 := G6.out.drew.turn hg7 hs7; have z1 : w7.cell? ⟨E0, 1, none⟩ = some (.int .i64 x.tin) := (G7.cell (p := (E0, evCs x, 44)) (by simp)).1 1; have z2 : w7.cell? ⟨E0, 2, none⟩ = some (.int .i64 x.tout) := (G7.cell (p := (E0, evCs x, 44)) (by simp)).1 2; have t2 := (G7.cell (p := (E0, evCs x, 44)) (by simp)).2 2))
          have G8 := Lib.hid (G7.set (i := 2) evFlat (.int .i64 (x.tin + y7)) (by simp; omega))
          generalize hW8 : w7.setCell ⟨E0, 2, none⟩ (.int .i64 (x.tin + y7)) = w8 at *
          have hx8 : evB (k + 1) ⟨x.roll, x.tin, x.tin + y7⟩ := ⟨hx1, by dsimp only; omega, by dsimp only; omega, by dsimp only; omega, by dsimp only; omega⟩
          have G8' := Lib.hid (show GS evR 44 w sb l u5 [(E0, evCs ⟨x.roll, x.tin, x.tin + y7⟩, 44), (R0, rollCs r, 82)] n7 w8 from G8.out)
          have HX8 := Lib.hid hx8
          generalize (⟨x.roll, x.tin, x.tin + y7⟩ : Ev) = x8 at *
          clear G8 G7 G6 z1 z2 t2 ew hs7 hg7 hW8 hx1 hx2 hx3 hy1 hy2 y1 hx8
          obtain ⟨A5, c5, rfl, hc51, hc52⟩ := (G8'.out.own.sli (F := fun _ => True) (fun _ _ _ => trivial) (fun _ _ => trivial)).form
          have HLL := Lib.hid hll
          have hll1 : l.length ≤ k := by omega
          have hll2 : k ≤ l.length := by omega
          have G8k := Lib.hid (show GS evR 44 w sb l (.slice A5 k c5) [(E0, evCs x8, 44), (R0, rollCs r, 82)] n7 w8 by rw [← hll]; exact G8'.out)
          rw [hll]
          clear hll G8'
          go_upto_region 10 with (fail)
          go_cut [45] (fun s45 wx => ∃ (bb : Bool) (n : Int), s45 = .bool bb ∧ (bb = true → 0 < k) ∧ n ≤ n7 + 1 ∧ Hid (GS evR 44 w sb l (.slice A5 k c5) [(E0, evCs x8, 44), (R0, rollCs r, 82)] n wx))
          case first =>
            by_cases hk0 : k = 0
            · have h1 : ¬ (1 : Int) ≤ (k : Int) := by omega
              have h2 : ¬ (0 : Int) ≤ (k : Int) - 1 := by omega
              have HK := Lib.hid hk0
              clear hk0
              go_wp2
              go_meet
              exact ⟨false, n7, rfl, (fun h => by cases h), by omega, G8k.out⟩
            · have h1 : (1 : Int) ≤ (k : Int) := by omega
              have h2 : (0 : Int) ≤ (k : Int) - 1 := by omega
              go_wp2_with fail
              refine (flip_c sb n7 4 _ G8k.out.str (by omega) (by omega) (by omega)).mono ?_
              rintro e w9 ⟨v9, n9, rfl, ⟨b9, rfl⟩, hn9, hs9, hg9⟩
              have G9 := Lib.hid (G8k.out.turn hg9 hs9)
              clear hs9 hg9
              go_wp2
              go_meet
              exact ⟨b9, n9, rfl, fun _ => by omega, hn9, G9.out⟩
          case rest =>
            clear G8k
            obtain ⟨bb, n9, rfl, hbb, hn9, G9⟩ := hcut
            go_upto_if 45 with (fail)
            go_cut [8, 46] (fun _ _ wx => ∃ (x : Ev), Hid (evB (k + 1) x) ∧ Hid (GS evR 44 w sb l (.slice A5 k c5) [(E0, evCs x, 44), (R0, rollCs r, 82)] n9 wx))
            case first =>
              cases bb with
              | false =>
                go_wp2
                go_meet
                exact ⟨x8, HX8.out, G9.out⟩
              | true =>
                obtain ⟨kk, rfl⟩ : ∃ kk, k = kk + 1 := ⟨k - 1, by have := hbb rfl; omega⟩
                obtain ⟨g, off, rfl, _, c0, c1, c2⟩ := evAt (G9.out.own.sli (F := fun _ => True) (fun _ _ _ => trivial) (fun _ _ => trivial)) kk (by omega)
                have hgE : g ≠ E0 := fun e => (G9.out.prv (E0, evCs x8, 44) (by simp)).2.2 (by rw [e]; rfl)
                have hyb := HX.out l[kk] (List.getElem_mem (by omega))
                generalize l[kk] = y at *
                obtain ⟨o1, o2, o3, o4, o5⟩ := hyb
                have hE1 : E0 ≠ g := fun e => hgE e.symm
                obtain ⟨q, f⟩ := G9.out.cell (p := (E0, evCs x8, 44)) (by simp)
                have q0 : wc.cell? ⟨E0, 0, none⟩ = some (.string x8.roll) := q 0
                have q1 : wc.cell? ⟨E0, 1, none⟩ = some (.int .i64 x8.tin) := q 1
                have q2 : wc.cell? ⟨E0, 2, none⟩ = some (.int .i64 x8.tout) := q 2
                have f0 := f 0
                have f1 := f 1
                have f2 := f 2
                dsimp only at f0 f1 f2
                clear q f
                have k1 : (0 : Int) ≤ (kk : Int) := by omega
                have k2 : (kk : Int) < (kk : Int) + 1 := by omega
                have hyr := o1
                go_wp2
                go_region
                go_wp2
                go_meet
                exact ⟨⟨y.roll, y.tout, y.tout + 3⟩, ⟨o1, by dsimp only; omega, by dsimp only; omega, by dsimp only; omega, by dsimp only; omega⟩, (((G9.out.set (i := 0) evFlat (.string y.roll) (by simp; omega)).set (i := 1) evFlat (.int .i64 y.tout) (by simp; omega)).set (i := 2) evFlat (.int .i64 (y.tout + 3)) (by simp; omega)).drew⟩
            case rest =>
              clear G9 HX8
              obtain ⟨x9, HX9, G10⟩ := hcut
              go_wp2_with fail
              refine (flip_c sb n9 15 _ G10.out.str (by omega) (by omega) (by omega)).mono ?_
              rintro e w11 ⟨v11, n11, rfl, ⟨b11, rfl⟩, hn11, hs11, hg11⟩
              have G11 := Lib.hid (G10.out.turn hg11 hs11)
              clear hs11 hg11 G10
              go_upto_if 64 with (fail)
              go_cut [65] (fun _ wx => ∃ (x : Ev) (n : Int), Hid (evB (k + 1) x) ∧ n ≤ n11 + 1 ∧ Hid (GS evR 44 w sb l (.slice A5 k c5) [(E0, evCs x, 44), (R0, rollCs r, 82)] n wx))
              case first =>
                cases b11 with
                | false =>
                  go_wp2
                  go_meet
                  exact ⟨x9, n11, HX9.out, by omega, G11.out⟩
                | true =>
                  obtain ⟨y, _⟩ := G11.out.cell (p := (R0, rollCs r, 82)) (by simp)
                  have y0 : w11.cell? ⟨R0, 0, none⟩ = some (.string r.name) := y 0
                  have y2 : w11.cell? ⟨R0, 2, none⟩ = some (.int .i64 r.start) := y 2
                  have y3 : w11.cell? ⟨R0, 3, none⟩ = some (.int .i64 r.long) := y 3
                  clear y
                  have hRl := G11.out.plt (p := (R0, rollCs r, 82)) (by simp)
                  dsimp only at hRl
                  have ew1 : IntKind.i64.wrap (r.start - 1) = r.start - 1 := IntWalk.i64_in _ (by omega)
                  have ew2 : IntKind.i64.wrap (r.start + r.long) = r.start + r.long := IntWalk.i64_in _ (by omega)
                  have ew3 : IntKind.i64.wrap (r.start + r.long + 1) = r.start + r.long + 1 := IntWalk.i64_in _ (by omega)
                  go_wp2
                  go_region_held3 (fun W' => W'.cell? ⟨R0, 0, none⟩ = some (.string r.name) ∧ W'.cell? ⟨R0, 2, none⟩ = some (.int .i64 r.start) ∧ W'.cell? ⟨R0, 3, none⟩ = some (.int .i64 r.long))
                    (first
                      | exact ⟨y0, y2, y3⟩
                      | exact ⟨(World.cell?_alloc_lt w11 _ ⟨R0, 0, none⟩ hRl).trans y0, (World.cell?_alloc_lt w11 _ ⟨R0, 2, none⟩ hRl).trans y2, (World.cell?_alloc_lt w11 _ ⟨R0, 3, none⟩ hRl).trans y3⟩
                      | exact ⟨z0, z2, z3⟩
                      | exact ⟨cell_set3' z0 (Ne.symm hne), cell_set3' z2 (Ne.symm hne), cell_set3' z3 (Ne.symm hne)⟩
                      | fail)
                    (first
                      | (go_at_call 47; refine (oneD w11 [⟨#[90, 90]⟩, r.name] _ _ 2 _ rfl rfl (by decide) (by decide) G11.out.str (by omega)).mono ?_; rintro e w12 ⟨v12, n12, rfl, ⟨s12, hs12, rfl⟩, hn12, hst12, hg12⟩; have G12 := ((G11.out.alloc _).drew.turn hg12 hst12); have z0 : w12.cell? ⟨R0, 0, none⟩ = some (.string r.name) := (G12.cell (p := (R0, rollCs r, 82)) (by simp)).1 0; have z2 : w12.cell? ⟨R0, 2, none⟩ = some (.int .i64 r.start) := (G12.cell (p := (R0, rollCs r, 82)) (by simp)).1 2; have z3 : w12.cell? ⟨R0, 3, none⟩ = some (.int .i64 r.long) := (G12.cell (p := (R0, rollCs r, 82)) (by simp)).1 3; have p0 : w12.cell? ⟨E0, 0, none⟩ = some (.string x9.roll) := (G12.cell (p := (E0, evCs x9, 44)) (by simp)).1 0; have p1 : w12.cell? ⟨E0, 1, none⟩ = some (.int .i64 x9.tin) := (G12.cell (p := (E0, evCs x9, 44)) (by simp)).1 1; have p2 : w12.cell? ⟨E0, 2, none⟩ = some (.int .i64 x9.tout) := (G12.cell (p := (E0, evCs x9, 44)) (by simp)).1 2; have f0 := (G12.cell (p := (E0, evCs x9, 44)) (by simp)).2 0; have f1 := (G12.cell (p := (E0, evCs x9, 44)) (by simp)).2 1; have f2 := (G12.cell (p := (E0, evCs x9, 44)) (by simp)).2 2))
                  have hs1000 : s12.size ≤ 1000 := by
                    simp at hs12
                    rcases hs12 with rfl | rfl
                    · decide
                    · exact hst.1
                  go_wp2
                  go_meet
                  exact ⟨⟨s12, r.start - 1, r.start + r.long + 1⟩, n12, ⟨hs1000, by dsimp only; omega, by dsimp only; omega, by dsimp only; omega, by dsimp only; omega⟩, by omega, ((G12.set (i := 0) evFlat (.string s12) (by simp; omega)).set (i := 1) evFlat (.int .i64 (r.start - 1)) (by simp; omega)).set (i := 2) evFlat (.int .i64 (r.start + r.long + 1)) (by simp; omega)⟩
              case rest =>
                clear G11 HX9
                obtain ⟨x12, n12, HX12, hn12, G12⟩ := hcut
                obtain ⟨q, _⟩ := G12.out.cell (p := (E0, evCs x12, 44)) (by simp)
                have q0 : wc.cell? ⟨E0, 0, none⟩ = some (.string x12.roll) := q 0
                have q1 : wc.cell? ⟨E0, 1, none⟩ = some (.int .i64 x12.tin) := q 1
                have q2 : wc.cell? ⟨E0, 2, none⟩ = some (.int .i64 x12.tout) := q 2
                clear q
                have hzc := G12.out.size
                go_wp2_with (at_builtin; (refine wpList_pushB (R := evR) rfl _ _ _ rfl w.heap.size w.heap.size 44 i0 _ 32 Tryz.underlying36 hi0 hz0 (by assumption) (by assumption) rfl (by decide) _ (.slice A5 k c5) l rfl (G12.out.own.alloc _) x12 _ rfl (oneC rfl) wc.heap.size _ _ (heap_alloc_new wc _) rfl (by simp [maxLen]; omega) (by omega) (by simp; omega) ?_); intro g cap w13 hown13 hg13 hat13 hlt13)
                go_roundw
                case rel => exact ⟨k + 1, l ++ [x12], n12, by omega, intNum, by omega, by rw [List.length_append, HLL.out]; rfl, G12.out.push hown13 hg13, fun z hz => by
                  rcases List.mem_append.1 hz with h | h
                  · exact (HX.out z h).more (by omega)
                  · rw [List.mem_singleton] at h; subst h; exact HX12.out⟩
                case measure => simp [intOf]; omega
    · go_wp2
      go_ret
      exact ⟨_, n, rfl, ⟨l, HG.out.own.sli (fun q h1 h2 => ⟨h1, h2⟩) (fun g hg => HG.out.own.block g hg), fun x hx => (HX.out x hx).more (by omega), by omega⟩, by omega, HG.out.str, HG.out.gr⟩
end Go.Proofs.YtodlfdfkhdfblaaGreatDoor

