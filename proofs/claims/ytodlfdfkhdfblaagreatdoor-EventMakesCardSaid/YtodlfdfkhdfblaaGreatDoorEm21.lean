/- Texts packed: MkC. -/
import Derived.Test.YtodlfdfkhdfblaaGreatDoorRows
import Derived.Test.YtodlfdfkhdfblaaGreatDoorEm04
import Derived.Test.YtodlfdfkhdfblaaGreatDoorEm14
import Derived.Test.YtodlfdfkhdfblaaGreatDoorEm02
import Derived.Deep.RegionHeld3
import Derived.Deep.DeepCutAuto
import Derived.RegionTactic
/- The generator's clips. -/
namespace Go.Proofs.YtodlfdfkhdfblaaGreatDoor
set_option linter.unusedVariables false
open Go.RowKit Go.Sort

/-- What a clip of the generator stays within after K of them. -/
def clB (K : Nat) (x : Clip) : Prop := -1000000000 - 10 * (K : Int) ≤ x.tin ∧ x.tin ≤ 1000000000 + 10 * (K : Int) ∧ -1000000000 - 10 * (K : Int) ≤ x.tout ∧ x.tout ≤ 1000000000 + 10 * (K : Int)
theorem clB.more {K K' : Nat} {x : Clip} (h : clB K x) (hk : K ≤ K') : clB K' x := by unfold clB at *; omega
def clCs (x : Clip) : Array Value := #[.int .i64 x.take, .int .i64 x.tin, .int .i64 x.tout]
theorem maxI_bd (x y B : Int) (hx : x ≤ B) (hy : y ≤ B) : y ≤ maxI x y ∧ maxI x y ≤ B := by unfold maxI; split <;> omega

set_option maxRecDepth 100000 in
set_option maxHeartbeats 12000000 in
theorem GClips_c {F : Nat → Prop} (sb : Nat) (k0 : Int) (tl : List (Tk × Value)) (tv : Value) (w : World) (hs : Str w sb k0) (hk0 : k0 ≤ 4000000000000000000) (hT : Sli tvR w F tl tv) (hF : ∀ q, F q → q < w.heap.size ∧ q ≠ sb) (hto : ∀ x ∈ tl, ∃ A n c, x.2 = .slice A n c) (htb : ∀ x ∈ tl, tkB 300000000 x.1) (htl : tl.length ≤ 1000) :
    Calls Tryz.prog 10 #[.pointer (some ⟨sb, 0, none⟩), tv] w (Took sb k0 40 (fun v w' => ∃ l : List Clip, Sli clipR w' (fun q => w.heap.size ≤ q ∧ q < w'.heap.size) l v ∧ l.length ≤ 5) w) := by
  have S0 := Lib.hid hs
  have hsb := hs.lt
  have HTO := Lib.hid hto
  have HTB := Lib.hid htb
  have HF := Lib.hid hF
  obtain ⟨A2, c2, rfl, hl2, hc2⟩ := hT.form
  have HT := Lib.hid (fun (W : World) (hg : w.grownBy W (some sb)) => show Sli tvR W F tl (.slice A2 tl.length c2) from hT.keep fun q hq => hg.block q (hF q hq).1 (by have := (hF q hq).2; simp; omega))
  obtain ⟨L, hL⟩ : ∃ L, tl.length = L := ⟨_, rfl⟩
  have HL := Lib.hid hL
  rw [hL] at HT htl hl2 ⊢
  clear hs hF hto htb hT hL
  have hmx := @run_max Tryz.prog
  obtain ⟨i0, hi0, hz0, hz1, hz2⟩ := info_parts (show (Tryz.prog.info? 91).map (fun i => (i.zero, i.size, i.bytes)) = some (some (.agg #[.int .i64 0, .int .i64 0, .int .i64 0]), 3, 24) by kernel_rfl)
  go_enter Tryz.func10, Tryz.ntmps10
  go_wp2_with fail
  refine (next_c sb k0 6 _ S0.out (by omega) (by omega) (by omega)).mono ?_
  rintro e w1 ⟨v1, n1, rfl, ⟨m1, hm0, hm1, rfl⟩, hn1, hs1, hg1⟩
  obtain ⟨m, rfl⟩ := Int.eq_ofNat_of_zero_le hm0
  have hm : m < 6 := by omega
  have GS1 := Lib.hid ((GS.start (R := clipR) (e := 91) S0.out).turn hg1 hs1)
  clear hs1 hg1 hm0 hm1
  go_wp2
  go_loopw [5, 11] (fun v i wr => ∃ (k : Nat) (l : List Clip) (n : Int), k ≤ m ∧ i = .int .i64 k ∧ n ≤ k0 + 1 + 7 * (k : Int) ∧ l.length ≤ k ∧ Hid (GS clipR 91 w sb l v [] n wr) ∧ Hid (∀ x ∈ l, clB k x)) (fun _ i _ => m - (intOf i).toNat)
  case atStart => exact ⟨0, [], n1, by omega, rfl, by omega, Nat.le_refl _, GS1.out, fun x hx => by cases hx⟩
  case round =>
    clear GS1
    obtain ⟨k, l, n, hk, rfl, hn, hll, HG, HX⟩ := hrel
    by_cases hlt : k < m
    · go_upto_region 4 with (fail)
      go_wp2_with fail
      refine (next_c sb n ((L : Int) + 1) _ HG.out.str (by omega) (by omega) (by omega)).mono ?_
      rintro e w2 ⟨v2, n2, rfl, ⟨j1, hj0, hj1, rfl⟩, hn2, hs2, hg2⟩
      obtain ⟨j, rfl⟩ := Int.eq_ofNat_of_zero_le hj0
      have hj : j ≤ L := by omega
      have G2 := Lib.hid (HG.out.turn hg2 hs2)
      clear hs2 hg2 HG hj0 hj1
      have G3 := Lib.hid (G2.out.new (clCs ⟨(j : Int), 0, 0⟩) 91)
      go_upto_if 23 with (fail)
      generalize hW3 : w2.alloc (.cells #[.int .i64 (j : Int), .int .i64 0, .int .i64 0] 91) = w3
      have G3' := Lib.hid (show GS clipR 91 w sb l u5 [(w2.heap.size, clCs ⟨(j : Int), 0, 0⟩, 91)] n2 w3 by rw [← hW3]; exact G3.out)
      have hX0 : w.heap.size ≤ w2.heap.size := G2.out.size
      generalize w2.heap.size = X at *
      clear G3 G2 hW3
      have hXsb : X ≠ sb := by omega
      obtain ⟨A5, c5, rfl, hc51, hc52⟩ := (G3'.out.own.sli (F := fun _ => True) (fun _ _ _ => trivial) (fun _ _ => trivial)).form
      obtain ⟨q, hq⟩ : ∃ q, l.length = q := ⟨_, rfl⟩
      have HQ := Lib.hid hq
      rw [hq] at G3' hc51 hll ⊢
      clear hq
      go_cut [8] (fun _ wx => ∃ (x : Clip) (n : Int), x.take = (j : Int) ∧ Hid (clB (k + 1) x) ∧ n ≤ n2 + 3 ∧ Hid (GS clipR 91 w sb l (.slice A5 q c5) [(X, clCs x, 91)] n wx))
      case first =>
        by_cases hjl : j < L
        · obtain ⟨b5, off5, rfl, hfb5, t0, t1, t2, t3, t4, t5, t6, t7, t8⟩ := tkAt (HT.out _ G3'.out.gr) j (by rw [HL.out]; exact hjl)
          obtain ⟨A8, n8, c8, h8⟩ := HTO.out _ (List.getElem_mem (by rw [HL.out]; exact hjl))
          have htb := HTB.out _ (List.getElem_mem (show j < tl.length by rw [HL.out]; exact hjl))
          rw [h8] at t8
          have hb5 : b5 < w.heap.size := (HF.out b5 hfb5).1
          clear h8
          obtain ⟨tk, htk⟩ : ∃ tk, (tl[j]'(by rw [HL.out]; exact hjl)).1 = tk := ⟨_, rfl⟩
          rw [htk] at htb t0 t1 t2 t3 t4 t5 t6 t7
          clear htk
          have htn : -300000000 ≤ tk.tin ∧ tk.tin ≤ 300000000 ∧ -300000000 ≤ tk.tout ∧ tk.tout ≤ 300000000 := by
            unfold tkB at htb
            omega
          clear htb
          have x0 : w3.cell? ⟨X, 0, none⟩ = some (.int .i64 (j : Int)) := (G3'.out.cell (p := (X, clCs ⟨(j : Int), 0, 0⟩, 91)) (by simp)).1 0
          have hXlt : X < w3.heap.size := G3'.out.plt (p := (X, clCs ⟨(j : Int), 0, 0⟩, 91)) (by simp)
          go_upto_region 7 with (fail)
          have G4 := G3'.out.new #[.string tk.scene, .string tk.setup, .int .i64 tk.number, .string tk.roll, .string tk.sound, .int .i64 tk.tin, .int .i64 tk.tout, .bool tk.good, .slice A8 n8 c8] 52
          generalize hW4 : w3.alloc (.cells #[.string tk.scene, .string tk.setup, .int .i64 tk.number, .string tk.roll, .string tk.sound, .int .i64 tk.tin, .int .i64 tk.tout, .bool tk.good, .slice A8 n8 c8] 52) = w4 at *
          have G4' := Lib.hid G4
          have hTX : X < w3.heap.size := hXlt
          generalize w3.heap.size = T at *
          clear G4 hW4 G3' x0 t0 t1 t2 t3 t4 t5 t6 t7 t8 hXlt
          have hTX1 : X ≠ T := by omega
          have y5 : w4.cell? ⟨T, 5, none⟩ = some (.int .i64 tk.tin) := (G4'.out.cell (p := (T, #[.string tk.scene, .string tk.setup, .int .i64 tk.number, .string tk.roll, .string tk.sound, .int .i64 tk.tin, .int .i64 tk.tout, .bool tk.good, .slice A8 n8 c8], 52)) (by simp)).1 5
          have y6 : w4.cell? ⟨T, 6, none⟩ = some (.int .i64 tk.tout) := (G4'.out.cell (p := (T, #[.string tk.scene, .string tk.setup, .int .i64 tk.number, .string tk.roll, .string tk.sound, .int .i64 tk.tin, .int .i64 tk.tout, .bool tk.good, .slice A8 n8 c8], 52)) (by simp)).1 6
          have ew : IntKind.i64.wrap (tk.tout - tk.tin) = tk.tout - tk.tin := IntWalk.i64_in _ (by omega)
          have hmb := maxI_bd (tk.tout - tk.tin) 1 600000001 (by omega) (by omega)
          go_region_held3 (fun W' => W'.cell? ⟨T, 5, none⟩ = some (.int .i64 tk.tin) ∧ W'.cell? ⟨T, 6, none⟩ = some (.int .i64 tk.tout))
            (first
              | exact ⟨y5, y6⟩
              | exact ⟨z5, z6⟩
              | exact ⟨(World.cell?_setCell_other _ _ _ _ (fun h => hTX1 (congrArg Addr.block h))).trans z5, (World.cell?_setCell_other _ _ _ _ (fun h => hTX1 (congrArg Addr.block h))).trans z6⟩
              | fail)
            (first
              | (go_at_call 46; refine (next_c sb n2 (maxI (tk.tout - tk.tin) 1) _ G4'.out.str.drew (by omega) (by omega) (by omega)).mono ?_; rintro e w6 ⟨v6, n6, rfl, ⟨y, hy0, hy1, rfl⟩, hn6, hs6, hg6⟩; have ew6 : IntKind.i64.wrap (tk.tin + y) = tk.tin + y := IntWalk.i64_in _ (by omega); have G6 := G4'.out.drew.turn hg6 hs6; have z5 : w6.cell? ⟨T, 5, none⟩ = some (.int .i64 tk.tin) := (G6.cell (p := (T, #[.string tk.scene, .string tk.setup, .int .i64 tk.number, .string tk.roll, .string tk.sound, .int .i64 tk.tin, .int .i64 tk.tout, .bool tk.good, .slice A8 n8 c8], 52)) (by simp)).1 5; have z6 : w6.cell? ⟨T, 6, none⟩ = some (.int .i64 tk.tout) := (G6.cell (p := (T, #[.string tk.scene, .string tk.setup, .int .i64 tk.number, .string tk.roll, .string tk.sound, .int .i64 tk.tin, .int .i64 tk.tout, .bool tk.good, .slice A8 n8 c8], 52)) (by simp)).1 6; have xx1 : w6.cell? ⟨X, 1, none⟩ = some (.int .i64 0) := (G6.cell (p := (X, clCs ⟨(j : Int), 0, 0⟩, 91)) (by simp)).1 1; have ff1 := (G6.cell (p := (X, clCs ⟨(j : Int), 0, 0⟩, 91)) (by simp)).2 1))
          have G7 := (G6.less (Q := [(X, clCs ⟨(j : Int), 0, 0⟩, 91)]) (by simp)).set (i := 1) clipFlat (.int .i64 (tk.tin + y)) (by simp)
          go_upto_region 8 with (fail)
          generalize hW7 : w6.setCell ⟨X, 1, none⟩ (.int .i64 (tk.tin + y)) = w7 at *
          have hy2 : tk.tin + y ≤ 900000002 ∧ -300000000 ≤ tk.tin + y := by omega
          have G7' := Lib.hid (show GS clipR 91 w sb l (.slice A5 q c5) [(X, clCs ⟨(j : Int), tk.tin + y, 0⟩, 91)] n6 w7 from G7)
          clear G7 hW7 G6 z5 z6 xx1 ff1 ew6 hs6 hg6 hy0 hy1 hmb ew y5 y6 G4' htn
          generalize tk.tin + y = ti at *
          have y1 : w7.cell? ⟨X, 1, none⟩ = some (.int .i64 ti) := (G7'.out.cell (p := (X, clCs ⟨(j : Int), ti, 0⟩, 91)) (by simp)).1 1
          go_region_held3 (fun W' => W'.cell? ⟨X, 1, none⟩ = some (.int .i64 ti))
            (first
              | exact y1
              | exact z1
              | exact (World.cell?_setCell_other _ _ _ _ (fun h => by have := congrArg Addr.off h; dsimp only at this; omega)).trans z1
              | fail)
            (first
              | (go_at_call 48; refine (range_c sb n6 1 5 _ G7'.out.str.drew (by omega) (by omega) (by omega) (by omega)).mono ?_; rintro e w8 ⟨v8, n8', rfl, ⟨y8, ⟨hy81, hy82⟩, rfl⟩, hn8, hs8, hg8⟩; have ew8 : IntKind.i64.wrap (ti + y8) = ti + y8 := IntWalk.i64_in _ (by omega); have G8 := G7'.out.drew.turn hg8 hs8; have z1 : w8.cell? ⟨X, 1, none⟩ = some (.int .i64 ti) := (G8.cell (p := (X, clCs ⟨(j : Int), ti, 0⟩, 91)) (by simp)).1 1; have z2 : w8.cell? ⟨X, 2, none⟩ = some (.int .i64 0) := (G8.cell (p := (X, clCs ⟨(j : Int), ti, 0⟩, 91)) (by simp)).1 2; have t2 := (G8.cell (p := (X, clCs ⟨(j : Int), ti, 0⟩, 91)) (by simp)).2 2))
          have G9 := G8.set (i := 2) clipFlat (.int .i64 (ti + y8)) (by simp)
          generalize hW9 : w8.setCell ⟨X, 2, none⟩ (.int .i64 (ti + y8)) = w9 at *
          have G9' := Lib.hid (show GS clipR 91 w sb l (.slice A5 q c5) [(X, clCs ⟨(j : Int), ti, ti + y8⟩, 91)] n8' w9 from G9)
          have HB9 := Lib.hid (show clB (k + 1) ⟨(j : Int), ti, ti + y8⟩ from ⟨by dsimp only; omega, by dsimp only; omega, by dsimp only; omega, by dsimp only; omega⟩)
          clear G9 hW9 G8 z1 z2 t2 ew8 hs8 hg8 hy81 hy82 y1 G7' hy2
          generalize ti + y8 = to8 at *
          go_upto_region 10 with (fail)
          go_cut [8, 65] (fun s8 s65 wx => ∃ (bb : Bool) (z : Int) (n : Int), s8 = .int .i64 z ∧ z = (q : Int) - 1 ∧ s65 = .bool bb ∧ (bb = true → 0 < q) ∧ n ≤ n8' + 1 ∧ Hid (GS clipR 91 w sb l (.slice A5 q c5) [(X, clCs ⟨(j : Int), ti, to8⟩, 91)] n wx))
          case first =>
            have x0 : w9.cell? ⟨X, 0, none⟩ = some (.int .i64 (j : Int)) := (G9'.out.cell (p := (X, clCs ⟨(j : Int), ti, to8⟩, 91)) (by simp)).1 0
            rcases Nat.eq_zero_or_pos q with rfl | hq0
            · go_wp2
              go_region
              go_wp2
              go_meet
              exact ⟨false, _, n8', rfl, by omega, rfl, fun h => (by cases h), by omega, G9'.out.drew⟩
            · obtain ⟨q, rfl⟩ : ∃ m, q = m + 1 := ⟨q - 1, by omega⟩
              have hml : q < l.length := by rw [HQ.out]; omega
              obtain ⟨g, cap, hv, hgb, hgl⟩ := G9'.out.own.some_ (show 0 < l.length by omega)
              injection hv with hv1 hv2 hv3
              subst hv1
              have o0 : w9.cell? ⟨g, q * 3, none⟩ = some (.int .i64 (l[q]'hml).take) := (G9'.out.own.cellAt q hml 0 (by decide)).1
              generalize (l[q]'hml).take = ot at *
              have k1 : (0 : Int) ≤ (q : Int) := by omega
              have k2 : (q : Int) < (q : Int) + 1 := by omega
              clear hml hv2 hv3 hq0
              by_cases hoj : ot = (j : Int)
              · have hoj' : (ot == (j : Int)) = true := by rw [hoj]; exact beq_self_eq_true _
                have x0d : w9.drew.cell? ⟨X, 0, none⟩ = some (.int .i64 (j : Int)) := x0
                have o0d : w9.drew.cell? ⟨g, q * 3, none⟩ = some (.int .i64 ot) := o0
                clear hoj
                go_wp2
                go_region_held3 (fun W' => W'.cell? ⟨X, 0, none⟩ = some (.int .i64 (j : Int)) ∧ W'.cell? ⟨g, q * 3, none⟩ = some (.int .i64 ot))
                  (first
                    | exact ⟨x0d, o0d⟩
                    | exact ⟨z0, z3⟩
                    | fail)
                  (first
                    | (go_at_call 19; refine (flip_c sb n8' 2 _ G9'.out.str.drew (by omega) (by omega) (by omega)).mono ?_; rintro e w10 ⟨v10, n10, rfl, ⟨b10, rfl⟩, hn10, hs10, hg10⟩; have G10 := G9'.out.drew.turn hg10 hs10; have z0 : w10.cell? ⟨X, 0, none⟩ = some (.int .i64 (j : Int)) := (G10.cell (p := (X, clCs ⟨(j : Int), ti, to8⟩, 91)) (by simp)).1 0; have z3 : w10.cell? ⟨g, q * 3, none⟩ = some (.int .i64 ot) := (World.cell?_of_block (a := ⟨g, q * 3, none⟩) (hg10.block g hgl (by simp; omega))).trans o0d))
                all_goals
                  go_wp2
                  go_meet
                  exact ⟨b10, _, n10, rfl, by omega, rfl, fun _ => by omega, by omega, G10⟩
              · have hoj' : (ot == (j : Int)) = false := beq_eq_false_iff_ne.2 hoj
                clear hoj
                go_wp2
                go_region
                go_wp2
                go_meet
                exact ⟨false, _, n8', rfl, by omega, rfl, fun h => (by cases h), by omega, G9'.out.drew⟩
          case rest =>
            clear G9'
            obtain ⟨bb, z8, n11, rfl, hz8, rfl, hbb, hn11, G11⟩ := hcut
            cases bb with
            | false =>
              go_wp2
              go_meet
              exact ⟨⟨(j : Int), ti, to8⟩, n11, rfl, HB9.out, by omega, G11.out⟩
            | true =>
              obtain ⟨q, rfl⟩ : ∃ m, q = m + 1 := ⟨q - 1, by have := hbb rfl; omega⟩
              obtain rfl : z8 = (q : Int) := by omega
              have hml : q < l.length := by rw [HQ.out]; omega
              obtain ⟨g, cap, hv, hgb, hgl⟩ := G11.out.own.some_ (show 0 < l.length by omega)
              injection hv with hv1 hv2 hv3
              subst hv1
              have o2 : wc.cell? ⟨g, q * 3 + 2, none⟩ = some (.int .i64 (l[q]'hml).tout) := (G11.out.own.cellAt q hml 2 (by decide)).1
              have hob := HX.out _ (List.getElem_mem hml)
              have hgX : g ≠ X := fun e => (G11.out.prv (X, clCs ⟨(j : Int), ti, to8⟩, 91) (by simp)).2.2 (by rw [e]; rfl)
              have hXg : X ≠ g := fun e => hgX e.symm
              generalize (l[q]'hml) = y at *
              obtain ⟨p1, p2, p3, p4⟩ := hob
              have k1 : (0 : Int) ≤ (q : Int) := by omega
              have k2 : (q : Int) < (q : Int) + 1 := by omega
              have hk10 : k < 10 := by omega
              have f1 := (G11.out.cell (p := (X, clCs ⟨(j : Int), ti, to8⟩, 91)) (by simp)).2 1
              have f2 := (G11.out.cell (p := (X, clCs ⟨(j : Int), ti, to8⟩, 91)) (by simp)).2 2
              have c1 : wc.cell? ⟨X, 1, none⟩ = some (.int .i64 ti) := (G11.out.cell (p := (X, clCs ⟨(j : Int), ti, to8⟩, 91)) (by simp)).1 1
              have c2' : wc.cell? ⟨X, 2, none⟩ = some (.int .i64 to8) := (G11.out.cell (p := (X, clCs ⟨(j : Int), ti, to8⟩, 91)) (by simp)).1 2
              dsimp only at f1 f2
              clear hml hv2 hv3 hbb hz8
              go_wp2
              go_region
              go_wp2
              go_meet
              exact ⟨⟨(j : Int), y.tout, y.tout + 1⟩, n11, rfl, ⟨by dsimp only; omega, by dsimp only; omega, by dsimp only; omega, by dsimp only; omega⟩, by omega, ((G11.out.set (i := 1) clipFlat (.int .i64 y.tout) (by simp)).set (i := 2) clipFlat (.int .i64 (y.tout + 1)) (by simp)).drew⟩
        · go_wp2
          go_meet
          exact ⟨⟨(j : Int), 0, 0⟩, n2, rfl, ⟨by dsimp only; omega, by dsimp only; omega, by dsimp only; omega, by dsimp only; omega⟩, by omega, G3'.out⟩
      case rest =>
        clear G3'
        obtain ⟨x, n12, hxt, HBx, hn12, G12⟩ := hcut
        obtain ⟨z0, _⟩ := G12.out.cell (p := (X, clCs x, 91)) (by simp)
        have x0 : wc.cell? ⟨X, 0, none⟩ = some (.int .i64 (j : Int)) := by rw [← hxt]; exact z0 0
        clear z0
        go_wp2_with fail
        refine (flip_c sb n12 12 _ G12.out.str (by omega) (by omega) (by omega)).mono ?_
        rintro e w13 ⟨v13, n13, rfl, ⟨b13, rfl⟩, hn13, hs13, hg13⟩
        have G13 := Lib.hid (G12.out.turn hg13 hs13)
        clear hs13 hg13 G12 x0
        obtain ⟨z, _⟩ := G13.out.cell (p := (X, clCs x, 91)) (by simp)
        have x0 : w13.cell? ⟨X, 0, none⟩ = some (.int .i64 (j : Int)) := by rw [← hxt]; exact z 0
        have x0' : w13.cell? ⟨X, 0, none⟩ = some (.int .i64 x.take) := z 0
        have x1 : w13.cell? ⟨X, 1, none⟩ = some (.int .i64 x.tin) := z 1
        have x2 : w13.cell? ⟨X, 2, none⟩ = some (.int .i64 x.tout) := z 2
        have hjx : (j : Int) = x.take := hxt.symm
        clear z hxt
        have hzc := G13.out.size
        cases b13 with
        | true =>
          go_wp2_with (at_builtin; (refine wpList_pushB (R := clipR) rfl _ _ _ rfl w.heap.size w.heap.size 91 i0 _ 24 Tryz.underlying34 hi0 hz0 (by assumption) (by assumption) rfl (by decide) _ (.slice A5 q c5) l rfl (G13.out.own.alloc _) x _ rfl (oneC rfl) w13.heap.size _ _ (heap_alloc_new w13 _) rfl (by simp [maxLen]; have := HQ.out; omega) (by have := HQ.out; omega) (by simp; omega) ?_); intro g cap w14 hown14 hg14 hat14 hlt14)
          go_roundw
          case rel => exact ⟨k + 1, l ++ [x], n13, by omega, intNum, by omega, by rw [List.length_append, HQ.out]; simp; omega, G13.out.push hown14 hg14, fun z hz => by
            rcases List.mem_append.1 hz with h | h
            · exact (HX.out z h).more (by omega)
            · rw [List.mem_singleton] at h; subst h; exact HBx.out⟩
          case measure => simp [intOf]; omega
        | false =>
          by_cases hjL : j = L
          · have hjL' : ((j : Int) == (L : Int)) = true := by rw [hjL]; exact beq_self_eq_true _
            clear hjL hjx
            go_wp2
            go_roundw
            case rel => exact ⟨k + 1, l, n13, by omega, intNum, by omega, by rw [HQ.out]; omega, G13.out.less (fun p hp => by cases hp), fun z hz => (HX.out z hz).more (by omega)⟩
            case measure => simp [intOf]; omega
          · have hjL' : ((j : Int) == (L : Int)) = false := beq_eq_false_iff_ne.2 (by omega)
            clear hjL
            go_wp2_with (at_builtin; (refine wpList_pushB (R := clipR) rfl _ _ _ rfl w.heap.size w.heap.size 91 i0 _ 24 Tryz.underlying34 hi0 hz0 (by assumption) (by assumption) rfl (by decide) _ (.slice A5 q c5) l rfl (G13.out.own.alloc _) x _ rfl (oneC rfl) w13.heap.size _ _ (heap_alloc_new w13 _) rfl (by simp [maxLen]; have := HQ.out; omega) (by have := HQ.out; omega) (by simp; omega) ?_); intro g cap w14 hown14 hg14 hat14 hlt14)
            go_roundw
            case rel => exact ⟨k + 1, l ++ [x], n13, by omega, intNum, by omega, by rw [List.length_append, HQ.out]; simp; omega, G13.out.push hown14 hg14, fun z hz => by
              rcases List.mem_append.1 hz with h | h
              · exact (HX.out z h).more (by omega)
              · rw [List.mem_singleton] at h; subst h; exact HBx.out⟩
            case measure => simp [intOf]; omega
    · go_wp2
      go_ret
      exact ⟨_, n, rfl, ⟨l, HG.out.own.sli (fun q h1 h2 => ⟨h1, h2⟩) (fun g hg => HG.out.own.block g hg), by omega⟩, by omega, HG.out.str, HG.out.gr⟩
end Go.Proofs.YtodlfdfkhdfblaaGreatDoor

