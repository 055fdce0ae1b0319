/- Texts packed: TkA. -/
import Derived.Test.YtmefjkfjpgblcaaGreatDoorSc01
import Derived.Test.YtmefjkfjpgblcaaGreatDoorSc29
import Derived.Test.YtmefjkfjpgblcaaGreatDoorSc18
import Derived.Test.YtmefjkfjpgblcaaGreatDoorSc03
import Derived.Deep.RegionHeld3
import Derived.Deep.DeepCutAuto
import Derived.RegionTactic
/- The generator's takes. -/
namespace Go.Proofs.YtmefjkfjpgblcaaGreatDoor
set_option linter.unusedVariables false
open Go.RowKit Go.Sort

/-- The generator's own blocks beside a take: the numbers by slate, where the two rolls stand, the script. -/
abbrev tkP (At XB : Nat) (xs : Array Value) (a0 a1 : Int) (mp : List (ByteArray × Value)) : List Pb := [(At + 1, mapP Value.string mp), (At, cellsP #[.int .i64 a0, .int .i64 a1] 3), (XB, cellsP xs 44)]
abbrev sceneCs (s : Scene) (v : Value) : Array Value := #[.string s.no, .int .i64 s.place, .string s.set, .int .i64 s.time, v]
abbrev takeCs (t : Tk) (v : Value) : Array Value := #[.string t.scene, .string t.setup, .int .i64 t.number, .string t.roll, .string t.sound, .int .i64 t.tin, .int .i64 t.tout, .bool t.good, v]
theorem keyS2 : PlainKey Tryz.prog 9 Value.string := plainKey_string Tryz.underlying9
theorem zeroI (w : World) : (zeroValue 3).run Tryz.prog w = .ok (.int .i64 0) w := by kernel_rfl
theorem lkInt {mp : List (ByteArray × Value)} {k : Nat} (h : ∀ s u, lk mp s = some u → ∃ z : Int, u = .int .i64 z ∧ 0 ≤ z ∧ z ≤ k) (s : ByteArray) : ∃ z : Int, (lk mp s).getD (.int .i64 0) = .int .i64 z ∧ 0 ≤ z ∧ z ≤ k := by
  cases hl : lk mp s with
  | none => exact ⟨0, rfl, by omega, by omega⟩
  | some u =>
    obtain ⟨z, rfl, h1, h2⟩ := h s u hl
    exact ⟨z, rfl, h1, h2⟩
theorem lkUp {mp : List (ByteArray × Value)} {k : Nat} (h : ∀ s u, lk mp s = some u → ∃ z : Int, u = .int .i64 z ∧ 0 ≤ z ∧ z ≤ k) (s : ByteArray) (z : Int) (h0 : 0 ≤ z) (h1 : z ≤ (k : Int) + 1) : ∀ s' u, lk (up mp s (.int .i64 z)) s' = some u → ∃ z : Int, u = .int .i64 z ∧ 0 ≤ z ∧ z ≤ (k + 1 : Nat) := by
  intro s' u hu
  rw [lk_up] at hu
  by_cases e : s' = s
  · rw [if_pos e] at hu
    injection hu with hu
    exact ⟨z, hu.symm, h0, by omega⟩
  · rw [if_neg e] at hu
    obtain ⟨z', hz, a, b⟩ := h s' u hu
    exact ⟨z', hz, a, by omega⟩
theorem rollAt2 {w : World} {B : Nat} {a b c : Roll} (h : RollsBlk w B a b c) (ha : rollBd a) (hb : rollBd b) (j : Nat) (hj : j < 2) : ∃ nm : ByteArray, nm.size ≤ 1000 ∧ w.cell? ⟨B, j * 5, none⟩ = some (.string nm) := by
  obtain ⟨h1, _⟩ := str_cells h
  rcases (by omega : j = 0 ∨ j = 1) with rfl | rfl
  · exact ⟨a.name, ha.1, h1 _⟩
  · exact ⟨b.name, hb.1, h1 _⟩
/-- A literal list, by the block that holds it. -/
theorem Rs.ofHeap {α : Type} {W : World} {l : List α} {enc1 : α → Value} {cs : Array Value} {T : TypeId} {B lo : Nat} (h : W.heap[B]? = some (.cells cs T (0, 0))) (hcs : cs = (l.map enc1).toArray) (hlo : lo ≤ B) : Rs W lo W.heap.size 1 (fun x => [enc1 x]) (some ⟨B, 0, none⟩) l := by
  intro _
  refine ⟨_, _, rfl, hlo, heap_lt h, fun j x hx i u hu => ?_⟩
  rw [(str_cells h).1, hcs]
  cases i with
  | zero => simp at hu; simp [hx, hu]
  | succ i => simp at hu

set_option maxRecDepth 100000 in
set_option maxHeartbeats 12000000 in
theorem TakesG_c {F : Nat → Prop} (sb RB : Nat) (k0 : Int) (t : ByteArray) (ls : List (Scene × Value)) (sv : Value) (a b c : Roll) (w : World) (hs : Str w sb k0) (hk0 : k0 ≤ 3000000000000000000) (hS : Sli svR w F ls sv) (hF : ∀ q, F q → q < w.heap.size ∧ q ≠ sb) (hl : ls.length ≤ 1000) (ho : ∀ x ∈ ls, ∃ A c, x.2 = .slice A x.1.paras.length c) (hb : ∀ x ∈ ls, x.1.no.size ≤ 1000 ∧ x.1.paras.length ≤ 60)
    (hR : RollsBlk w RB a b c) (ha : rollBd a) (hb2 : rollBd b) (hc : rollBd c) (hRB : sb ≠ RB) :
    Calls Tryz.prog 22 #[.pointer (some ⟨sb, 0, none⟩), .agg (xCs t sv), .slice (some ⟨RB, 0, none⟩) 3 3] w (Took sb k0 40000 (isTakes 300000000 w) w) := by
  have S0 := Lib.hid hs
  have HS := Lib.hid hS
  have HO := Lib.hid ho
  have HB := Lib.hid hb
  have HR := Lib.hid hR
  have HA := Lib.hid (And.intro ha (And.intro hb2 hc))
  have hsb := hs.lt
  have hRBw := heap_lt hR
  obtain ⟨i0, hi0, hi1, hi2, hi3⟩ := info_parts (show (Tryz.prog.info? 124).map (fun i => (i.zero, i.size, i.bytes)) = some (some (.agg #[.int .i64 0, .int .i64 0, .int .i64 0, .bool false]), 4, 32) by kernel_rfl)
  obtain ⟨i1, hk0', hk1, hk2, hk3⟩ := info_parts (show (Tryz.prog.info? 122).map (fun i => (i.zero, i.size, i.bytes)) = some (some (.agg #[.string ⟨#[]⟩, .string ⟨#[]⟩, .int .i64 0, .string ⟨#[]⟩, .string ⟨#[]⟩, .int .i64 0, .int .i64 0, .bool false, .slice none 0 0]), 9, 120) by kernel_rfl)
  obtain ⟨A0, c0, hv0, _, _⟩ := hS.form
  subst hv0
  clear hs hS ho hb hR ha hb2 hc
  have G0 := Lib.hid ((TkG.start S0.out).new #[.string t, .slice A0 ls.length c0] 44)
  rw [show xCs t (.slice A0 ls.length c0) = #[.string t, .slice A0 ls.length c0] from rfl]
  go_enter Tryz.func22, Tryz.ntmps22
  by_cases h0 : ls.length = 0
  · have h00 : ((ls.length : Int) == 0) = true := by rw [beq_iff_eq]; omega
    clear h0
    go_wp2
    go_ret
    exact ⟨_, k0, rfl, ⟨[], Own.nil_, fun y hy => (by cases hy), fun y hy => (by cases hy), by simp⟩, by omega, G0.out.str, G0.out.gr⟩
  · have h00 : ((ls.length : Int) == 0) = false := by rw [beq_eq_false_iff_ne]; omega
    have hmm := @run_makeMap Tryz.prog
    obtain ⟨b0, off0, _, rfl, hFb, _, _⟩ := HS.out.at_ 0 (by omega)
    have HE := Lib.hid (fun (W : World) (hg : w.grownBy W (some sb)) (q : Nat) (hq : q < ls.length) => show W.cell? ⟨b0, off0 + q * 5, none⟩ = some (.string ls[q].1.no) ∧ W.cell? ⟨b0, off0 + q * 5 + 1, none⟩ = some (.int .i64 ls[q].1.place) ∧ W.cell? ⟨b0, off0 + q * 5 + 2, none⟩ = some (.string ls[q].1.set) ∧ W.cell? ⟨b0, off0 + q * 5 + 3, none⟩ = some (.int .i64 ls[q].1.time) ∧ W.cell? ⟨b0, off0 + q * 5 + 4, none⟩ = some ls[q].2 by
      obtain ⟨b1, off1, cs, e1, hb1, e2, hc⟩ := (HS.out.keep (fun b hb => hg.block b (hF b hb).1 (by have := (hF b hb).2; simp; omega))).at_ q hq
      injection e1 with e1
      injection e1 with e1 e3
      subst e1; subst e3
      have e4 : cs = ls[q].1.cells ls[q].2 := e2
      subst e4
      exact ⟨hc 0 _ rfl, hc 1 _ rfl, hc 2 _ rfl, hc 3 _ rfl, hc 4 _ rfl⟩)
    obtain ⟨fs, fA, fc, hfq⟩ : ∃ (fs : Nat → Scene) (fA : Nat → Option Addr) (fc : Nat → Nat), ∀ q (hq : q < ls.length), ls[q] = (fs q, .slice (fA q) (fs q).paras.length (fc q)) := by
      refine ⟨fun q => if h : q < ls.length then ls[q].1 else ⟨⟨#[]⟩, 0, ⟨#[]⟩, 0, []⟩, fun q => if h : q < ls.length then (HO.out _ (List.getElem_mem h)).choose else none, fun q => if h : q < ls.length then (HO.out _ (List.getElem_mem h)).choose_spec.choose else 0, fun q hq => ?_⟩
      have h := (HO.out _ (List.getElem_mem hq)).choose_spec.choose_spec
      simp only [dif_pos hq]
      exact Prod.ext rfl h
    have HFQ := Lib.hid hfq
    clear hfq
    have HES := Lib.hid (fun (W : World) (hg : w.grownBy W (some sb)) (q : Nat) (hq : q < ls.length) => show W.cell? ⟨b0, off0 + q * 5, none⟩ = some (.string (fs q).no) ∧ W.cell? ⟨b0, off0 + q * 5 + 1, none⟩ = some (.int .i64 (fs q).place) ∧ W.cell? ⟨b0, off0 + q * 5 + 2, none⟩ = some (.string (fs q).set) ∧ W.cell? ⟨b0, off0 + q * 5 + 3, none⟩ = some (.int .i64 (fs q).time) ∧ W.cell? ⟨b0, off0 + q * 5 + 4, none⟩ = some (.slice (fA q) (fs q).paras.length (fc q)) by
      have h := HE.out W hg q hq
      rw [HFQ.out q hq] at h
      exact h)
    have hbw := (hF b0 hFb).1
    go_upto_region 3 with (fail)
    generalize hW : w.alloc (.cells #[.string t, .slice (some ⟨b0, off0, none⟩) ls.length c0] 44) = wR
    have G1 := Lib.hid (show TkG w sb [] (.slice none 0 0) [] (.slice none 0 0) [(w.heap.size, cellsP #[.string t, .slice (some ⟨b0, off0, none⟩) ls.length c0] 44)] k0 wR by rw [← hW]; exact G0.out)
    clear G0 hW
    have HRK := Lib.hid (fun (W : World) (hg : w.grownBy W (some sb)) => show RollsBlk W RB a b c from HR.out.keep (hg.block RB hRBw (by simp; omega)))
    obtain ⟨r0, _⟩ := str_cells (HRK.out _ G1.out.gr)
    have r2 : wR.cell? ⟨RB, 2, none⟩ = some (.int .i64 a.start) := r0 2
    have r7 : wR.cell? ⟨RB, 7, none⟩ = some (.int .i64 b.start) := r0 7
    clear r0
    go_region
    have hG2 := G1.out.new #[.int .i64 a.start, .int .i64 b.start] 3
    have hG3 := (hG2.newMap Value.string).drew
    go_upto_region 6 with (fail)
    have hz1 := G1.out.size
    have hXR := (G1.out.plt (b := w.heap.size) (List.mem_cons_self ..)).2
    generalize hM : ((wR.alloc (.cells #[.int .i64 a.start, .int .i64 b.start] 3)).alloc (.map #[] 0)).drew = wM
    have G3 := Lib.hid (show TkG w sb [] (.slice none 0 0) [] (.slice none 0 0) [(wR.heap.size + 1, mapP Value.string ([] : List (ByteArray × Value))), (wR.heap.size, cellsP #[.int .i64 a.start, .int .i64 b.start] 3), (w.heap.size, cellsP #[.string t, .slice (some ⟨b0, off0, none⟩) ls.length c0] 44)] k0 wM by
      have h := hG3
      rw [hM, show (wR.alloc (.cells #[.int .i64 a.start, .int .i64 b.start] 3)).heap.size = wR.heap.size + 1 by simp] at h
      exact h)
    clear hG3 hG2 hM G1 r2 r7
    generalize wR.heap.size = At at *
    go_wp2_with fail
    refine (next_c sb k0 8 _ G3.out.str (by omega) (by omega) (by omega)).mono ?_
    rintro e w1 ⟨v1, n1, rfl, ⟨m1, hm0, hm1, rfl⟩, hn1, hs1, hg1⟩
    obtain ⟨m, rfl⟩ := Int.eq_ofNat_of_zero_le hm0
    have hm : m < 8 := by omega
    have G4 := Lib.hid (G3.out.turn hg1 hs1)
    clear hs1 hg1 hm0 hm1 G3
    have hA1 := HA.out.1
    have hA2 := HA.out.2.1
    unfold rollBd at hA1 hA2
    go_wp2
    go_loopw [32, 9] (fun i v wr => ∃ (k : Nat) (l : List (Tk × Value)) (n : Int) (a0 a1 : Int) (mp : List (ByteArray × Value)), k ≤ m ∧ i = .int .i64 k ∧ l.length ≤ k ∧ n ≤ k0 + 5 + 4000 * (k : Int) ∧ (-20000000 - 40000 * (k : Int) ≤ a0 ∧ a0 ≤ 20000000 + 40000 * (k : Int)) ∧ (-20000000 - 40000 * (k : Int) ≤ a1 ∧ a1 ≤ 20000000 + 40000 * (k : Int))
      ∧ Hid (∀ s u, lk mp s = some u → ∃ z : Int, u = .int .i64 z ∧ 0 ≤ z ∧ z ≤ k) ∧ Hid (∀ x ∈ l, tkBd x.1)
      ∧ Hid (TkG w sb l v [] (.slice none 0 0) [(At + 1, mapP Value.string mp), (At, cellsP #[.int .i64 a0, .int .i64 a1] 3), (w.heap.size, cellsP #[.string t, .slice (some ⟨b0, off0, none⟩) ls.length c0] 44)] n wr)) (fun i _ _ => m - (intOf i).toNat)
    case atStart => exact ⟨0, [], n1, a.start, b.start, [], by omega, rfl, by simp, by omega, by omega, by omega, Lib.hid (fun s u h => by cases h), Lib.hid (fun x hx => by cases hx), G4⟩
    case round =>
      clear G4 hA1 hA2
      obtain ⟨k, l, n, a0, a1, mp, hk, rfl, hll, hn, hb0, hb1, HM, HX, HG⟩ := hrel
      by_cases hlt : k < m
      · go_wp2_with fail
        refine (next_c sb n 2 _ HG.out.str (by omega) (by omega) (by omega)).mono ?_
        rintro e w2 ⟨v2, n2, rfl, ⟨j1, hj0, hj1, rfl⟩, hn2, hs2, hg2⟩
        obtain ⟨j, rfl⟩ := Int.eq_ofNat_of_zero_le hj0
        have hj : j < 2 := by omega
        have G2 := Lib.hid (HG.out.turn hg2 hs2)
        clear hs2 hg2 HG hj0 hj1
        go_upto_region 9 with (fail)
        have c1 : w2.cell? ⟨w.heap.size, 1, none⟩ = some (.slice (some ⟨b0, off0, none⟩) ls.length c0) := (G2.out.cell (b := w.heap.size) (cs := #[.string t, .slice (some ⟨b0, off0, none⟩) ls.length c0]) (T := 44) (by simp)).1 1
        have hX2 := (G2.out.plt (b := w.heap.size) (f := cellsP #[.string t, .slice (some ⟨b0, off0, none⟩) ls.length c0] 44) (by simp)).2
        have hz2 := G2.out.size
        have HK9 := Lib.hid (fun (W : World) (hg : w2.grownBy W (some sb)) => show W.cell? ⟨w.heap.size, 1, none⟩ = some (.slice (some ⟨b0, off0, none⟩) ls.length c0) ∧ ∀ q, q < ls.length → W.cell? ⟨b0, off0 + q * 5, none⟩ = some (.string (fs q).no) ∧ W.cell? ⟨b0, off0 + q * 5 + 1, none⟩ = some (.int .i64 (fs q).place) ∧ W.cell? ⟨b0, off0 + q * 5 + 2, none⟩ = some (.string (fs q).set) ∧ W.cell? ⟨b0, off0 + q * 5 + 3, none⟩ = some (.int .i64 (fs q).time) ∧ W.cell? ⟨b0, off0 + q * 5 + 4, none⟩ = some (.slice (fA q) (fs q).paras.length (fc q)) from ⟨(World.cell?_of_block (hg.block w.heap.size hX2 (by simp; omega))).trans c1, HES.out W (gTrans G2.out.gr hg)⟩)
        have hY2 : w2.heap.size ≠ sb := by omega
        go_cut [11] (fun p wx => ∃ (Y q : Nat) (n : Int), p = .pointer (some ⟨Y, 0, none⟩) ∧ n ≤ n2 + 1 ∧ q < ls.length ∧ w2.heap.size ≤ Y ∧ Hid (∃ s A c, ls[q]? = some (s, .slice A s.paras.length c) ∧ TkG w sb l u9 [] (.slice none 0 0) [(Y, cellsP #[.string s.no, .int .i64 s.place, .string s.set, .int .i64 s.time, .slice A s.paras.length c] 119), (At + 1, mapP Value.string mp), (At, cellsP #[.int .i64 a0, .int .i64 a1] 3), (w.heap.size, cellsP #[.string t, .slice (some ⟨b0, off0, none⟩) ls.length c0] 44)] n wx))
        case first =>
          go_region_held3 (fun W' => W'.cell? ⟨w.heap.size, 1, none⟩ = some (.slice (some ⟨b0, off0, none⟩) ls.length c0) ∧ ∀ q, q < ls.length → W'.cell? ⟨b0, off0 + q * 5, none⟩ = some (.string (fs q).no) ∧ W'.cell? ⟨b0, off0 + q * 5 + 1, none⟩ = some (.int .i64 (fs q).place) ∧ W'.cell? ⟨b0, off0 + q * 5 + 2, none⟩ = some (.string (fs q).set) ∧ W'.cell? ⟨b0, off0 + q * 5 + 3, none⟩ = some (.int .i64 (fs q).time) ∧ W'.cell? ⟨b0, off0 + q * 5 + 4, none⟩ = some (.slice (fA q) (fs q).paras.length (fc q)))
            (first
              | (refine HK9.out _ ?_; (repeat (first | with_reducible exact hw6 | with_reducible exact gRefl w2 sb | with_reducible refine gAlloc ?_ _ | with_reducible refine gDrew ?_ | with_reducible refine gSet ?_ (by dsimp only; omega) _)); done)
              | fail)
            (first
              | (go_at_call 75; refine (next_c sb n2 ls.length _ ?_ (by omega) (by omega) (by omega)).mono ?_; (first | with_reducible exact G2.out.str.drew | with_reducible exact (G2.out.str.alloc _).drew); rintro e w6 ⟨v6, n6, rfl, ⟨q6, hq0, hq1, rfl⟩, hn6, hs6, hg6⟩; obtain ⟨q, rfl⟩ := Int.eq_ofNat_of_zero_le hq0; have hq : q < ls.length := (by omega); have hw6 : w2.grownBy w6 (some sb) := (by first | with_reducible exact gTrans (gDrew (gRefl w2 sb)) hg6 | with_reducible exact gTrans (gDrew (gAlloc (gRefl w2 sb) _)) hg6); have hz6 := hw6.size; have hb6 : b0 < w6.heap.size := (by omega); try (obtain ⟨y, f⟩ := str_cells ((hg6.block w2.heap.size (by simp) (by simp; omega)).trans (heap_alloc_new w2 (.cells #[.string ⟨#[]⟩, .int .i64 0, .string ⟨#[]⟩, .int .i64 0, .slice none 0 0] 119))); have z0 := y 0; have z1 := y 1; have z2 := y 2; have z3 := y 3; have z4 := y 4; have f0 := f 0; have f1 := f 1; have f2 := f 2; have f3 := f 3; have f4 := f 4; simp only [List.getElem?_toArray, List.getElem?_cons_zero, List.getElem?_cons_succ] at z0 z1 z2 z3 z4; clear y f))
              | fail)
          all_goals
            go_wp2
            go_meet
            refine ⟨_, q, n6, rfl, hn6, hq, (by first | exact Nat.le_refl _ | exact hw6.size), Lib.hid ⟨fs q, fA q, fc q, by rw [List.getElem?_eq_getElem hq, HFQ.out q hq], ?_⟩⟩
            first
              | exact (G2.out.turn hw6 hs6).new #[.string (fs q).no, .int .i64 (fs q).place, .string (fs q).set, .int .i64 (fs q).time, .slice (fA q) (fs q).paras.length (fc q)] 119
              | exact G2.out.blockSet hw6 hs6 (Nat.le_refl _) ((hg6.block w2.heap.size (by simp) (by simp; omega)).trans (heap_alloc_new w2 (.cells #[.string ⟨#[]⟩, .int .i64 0, .string ⟨#[]⟩, .int .i64 0, .slice none 0 0] 119))) [.string (fs q).no, .int .i64 (fs q).place, .string (fs q).set, .int .i64 (fs q).time, .slice (fA q) (fs q).paras.length (fc q)] rfl
        case rest =>
          have hAt1 := (G2.out.plt (b := At + 1) (f := mapP Value.string mp) (by simp)).2
          clear G2 c1 HK9 hX2 hz2 hY2
          obtain ⟨Y, q, n3, rfl, hn3, hq, hY2, HQ⟩ := hcut
          obtain ⟨s, A, c, hsq, hG3⟩ := HQ.out
          have G3 := Lib.hid hG3
          have hsm : (s, Value.slice A s.paras.length c) ∈ ls := List.mem_iff_getElem?.2 ⟨q, hsq⟩
          have HSB := Lib.hid (HB.out _ hsm)
          clear hG3 HQ hsq hsm
          obtain ⟨nm, hnm, c54⟩ := rollAt2 (HRK.out _ G3.out.gr) HA.out.1 HA.out.2.1 j hj
          have hj2 : (j : Int) < 2 := by omega
          have hj3 : (j : Int) < 3 := by omega
          have hj0 : (0 : Int) ≤ (j : Int) := by omega
          obtain ⟨aj, haj, c58⟩ : ∃ aj : Int, (-20000000 - 40000 * (k : Int) ≤ aj ∧ aj ≤ 20000000 + 40000 * (k : Int)) ∧ wc.cell? ⟨At, j, none⟩ = some (.int .i64 aj) := by
            have h := (G3.out.cell (b := At) (cs := #[.int .i64 a0, .int .i64 a1]) (T := 3) (by simp)).1 j
            rcases (by omega : j = 0 ∨ j = 1) with rfl | rfl
            · exact ⟨a0, hb0, h⟩
            · exact ⟨a1, hb1, h⟩
          have c46 : wc.cell? ⟨Y, 0, none⟩ = some (.string s.no) := (G3.out.cell (b := Y) (cs := #[.string s.no, .int .i64 s.place, .string s.set, .int .i64 s.time, .slice A s.paras.length c]) (T := 119) (by simp)).1 0
          have hYw := G3.out.plt (b := Y) (f := cellsP #[.string s.no, .int .i64 s.place, .string s.set, .int .i64 s.time, .slice A s.paras.length c] 119) (by simp)
          have hAw := G3.out.plt (b := At) (f := cellsP #[.int .i64 a0, .int .i64 a1] 3) (by simp)
          have hz3 := G3.out.size
          have HK := Lib.hid (fun (W : World) (hg : wc.grownBy W (some sb)) => show W.cell? ⟨Y, 0, none⟩ = some (.string s.no) ∧ W.cell? ⟨RB, j * 5, none⟩ = some (.string nm) ∧ W.cell? ⟨At, j, none⟩ = some (.int .i64 aj) from
            ⟨(World.cell?_of_block (hg.block Y hYw.2 (by simp; omega))).trans c46, (World.cell?_of_block (hg.block RB (by omega) (by simp; omega))).trans c54, (World.cell?_of_block (hg.block At hAw.2 (by simp; omega))).trans c58⟩)
          have hne3 : wc.heap.size ≠ sb := by omega
          have HL1 := Lib.hid (show ((wc.alloc (.cells #[.string ⟨#[]⟩, .string ⟨#[65]⟩, .string ⟨#[66]⟩, .string ⟨#[65, 65]⟩] 9)).drew).heap[wc.heap.size]? = some (.cells #[.string ⟨#[]⟩, .string ⟨#[65]⟩, .string ⟨#[66]⟩, .string ⟨#[65, 65]⟩] 9 (0, 0)) from heap_alloc_new wc _)
          have HL2 := Lib.hid (show (wc.drew.alloc (.cells #[.string ⟨#[]⟩, .string ⟨#[65]⟩, .string ⟨#[66]⟩, .string ⟨#[65, 65]⟩] 9)).heap[wc.heap.size]? = some (.cells #[.string ⟨#[]⟩, .string ⟨#[65]⟩, .string ⟨#[66]⟩, .string ⟨#[65, 65]⟩] 9 (0, 0)) from heap_alloc_new wc.drew _)
          have HL3 := Lib.hid (fun (o : Obj) => show (((wc.alloc (.cells #[.string ⟨#[]⟩, .string ⟨#[65]⟩, .string ⟨#[66]⟩, .string ⟨#[65, 65]⟩] 9)).alloc o).drew).heap[wc.heap.size]? = some (.cells #[.string ⟨#[]⟩, .string ⟨#[65]⟩, .string ⟨#[66]⟩, .string ⟨#[65, 65]⟩] 9 (0, 0)) from (Below.heap_alloc (wc.alloc _) o wc.heap.size (by simp)).trans (heap_alloc_new wc _))
          have HL4 := Lib.hid (fun (o : Obj) => show ((wc.drew.alloc (.cells #[.string ⟨#[]⟩, .string ⟨#[65]⟩, .string ⟨#[66]⟩, .string ⟨#[65, 65]⟩] 9)).alloc o).heap[wc.heap.size]? = some (.cells #[.string ⟨#[]⟩, .string ⟨#[65]⟩, .string ⟨#[66]⟩, .string ⟨#[65, 65]⟩] 9 (0, 0)) from (Below.heap_alloc (wc.drew.alloc _) o wc.heap.size (by simp)).trans (heap_alloc_new wc.drew _))
          have HL5 := Lib.hid (fun (o : Obj) => show (((wc.alloc o).alloc (.cells #[.string ⟨#[]⟩, .string ⟨#[65]⟩, .string ⟨#[66]⟩, .string ⟨#[65, 65]⟩] 9)).drew).heap[wc.heap.size + 1]? = some (.cells #[.string ⟨#[]⟩, .string ⟨#[65]⟩, .string ⟨#[66]⟩, .string ⟨#[65, 65]⟩] 9 (0, 0)) from (show ((wc.alloc o).alloc _).heap[(wc.heap.size + 1)]? = _ by rw [show wc.heap.size + 1 = (wc.alloc o).heap.size by simp]; exact heap_alloc_new (wc.alloc o) _))
          have HL6 := Lib.hid (fun (o : Obj) => show ((wc.drew.alloc o).alloc (.cells #[.string ⟨#[]⟩, .string ⟨#[65]⟩, .string ⟨#[66]⟩, .string ⟨#[65, 65]⟩] 9)).heap[wc.heap.size + 1]? = some (.cells #[.string ⟨#[]⟩, .string ⟨#[65]⟩, .string ⟨#[66]⟩, .string ⟨#[65, 65]⟩] 9 (0, 0)) from (show ((wc.drew.alloc o).alloc _).heap[(wc.heap.size + 1)]? = _ by rw [show wc.heap.size + 1 = (wc.drew.alloc o).heap.size by simp]; exact heap_alloc_new (wc.drew.alloc o) _))
          have HQ1 := Lib.hid (show Rs ((wc.alloc (.cells #[.string ⟨#[]⟩, .string ⟨#[65]⟩, .string ⟨#[66]⟩, .string ⟨#[65, 65]⟩] 9)).drew) wc.heap.size ((wc.alloc (.cells #[.string ⟨#[]⟩, .string ⟨#[65]⟩, .string ⟨#[66]⟩, .string ⟨#[65, 65]⟩] 9)).drew).heap.size 1 strc (some ⟨wc.heap.size, 0, none⟩) [⟨#[]⟩, ⟨#[65]⟩, ⟨#[66]⟩, ⟨#[65, 65]⟩] from Rs.ofHeap (enc1 := .string) (HL1.out) rfl (Nat.le_refl _))
          have HQ2 := Lib.hid (show Rs (wc.drew.alloc (.cells #[.string ⟨#[]⟩, .string ⟨#[65]⟩, .string ⟨#[66]⟩, .string ⟨#[65, 65]⟩] 9)) wc.heap.size (wc.drew.alloc (.cells #[.string ⟨#[]⟩, .string ⟨#[65]⟩, .string ⟨#[66]⟩, .string ⟨#[65, 65]⟩] 9)).heap.size 1 strc (some ⟨wc.heap.size, 0, none⟩) [⟨#[]⟩, ⟨#[65]⟩, ⟨#[66]⟩, ⟨#[65, 65]⟩] from Rs.ofHeap (enc1 := .string) (HL2.out) rfl (Nat.le_refl _))
          have HQ3 := Lib.hid (fun (o : Obj) => show Rs (((wc.alloc (.cells #[.string ⟨#[]⟩, .string ⟨#[65]⟩, .string ⟨#[66]⟩, .string ⟨#[65, 65]⟩] 9)).alloc o).drew) wc.heap.size (((wc.alloc (.cells #[.string ⟨#[]⟩, .string ⟨#[65]⟩, .string ⟨#[66]⟩, .string ⟨#[65, 65]⟩] 9)).alloc o).drew).heap.size 1 strc (some ⟨wc.heap.size, 0, none⟩) [⟨#[]⟩, ⟨#[65]⟩, ⟨#[66]⟩, ⟨#[65, 65]⟩] from Rs.ofHeap (enc1 := .string) (HL3.out o) rfl (Nat.le_refl _))
          have HQ4 := Lib.hid (fun (o : Obj) => show Rs ((wc.drew.alloc (.cells #[.string ⟨#[]⟩, .string ⟨#[65]⟩, .string ⟨#[66]⟩, .string ⟨#[65, 65]⟩] 9)).alloc o) wc.heap.size ((wc.drew.alloc (.cells #[.string ⟨#[]⟩, .string ⟨#[65]⟩, .string ⟨#[66]⟩, .string ⟨#[65, 65]⟩] 9)).alloc o).heap.size 1 strc (some ⟨wc.heap.size, 0, none⟩) [⟨#[]⟩, ⟨#[65]⟩, ⟨#[66]⟩, ⟨#[65, 65]⟩] from Rs.ofHeap (enc1 := .string) (HL4.out o) rfl (Nat.le_refl _))
          have HQ5 := Lib.hid (fun (o : Obj) => show Rs (((wc.alloc o).alloc (.cells #[.string ⟨#[]⟩, .string ⟨#[65]⟩, .string ⟨#[66]⟩, .string ⟨#[65, 65]⟩] 9)).drew) wc.heap.size (((wc.alloc o).alloc (.cells #[.string ⟨#[]⟩, .string ⟨#[65]⟩, .string ⟨#[66]⟩, .string ⟨#[65, 65]⟩] 9)).drew).heap.size 1 strc (some ⟨wc.heap.size + 1, 0, none⟩) [⟨#[]⟩, ⟨#[65]⟩, ⟨#[66]⟩, ⟨#[65, 65]⟩] from Rs.ofHeap (enc1 := .string) (HL5.out o) rfl (Nat.le_succ _))
          have HQ6 := Lib.hid (fun (o : Obj) => show Rs ((wc.drew.alloc o).alloc (.cells #[.string ⟨#[]⟩, .string ⟨#[65]⟩, .string ⟨#[66]⟩, .string ⟨#[65, 65]⟩] 9)) wc.heap.size ((wc.drew.alloc o).alloc (.cells #[.string ⟨#[]⟩, .string ⟨#[65]⟩, .string ⟨#[66]⟩, .string ⟨#[65, 65]⟩] 9)).heap.size 1 strc (some ⟨wc.heap.size + 1, 0, none⟩) [⟨#[]⟩, ⟨#[65]⟩, ⟨#[66]⟩, ⟨#[65, 65]⟩] from Rs.ofHeap (enc1 := .string) (HL6.out o) rfl (Nat.le_succ _))
          clear HL1 HL2 HL3 HL4 HL5 HL6
          have HTA := Lib.hid (show (((wc.alloc (.cells #[.string ⟨#[]⟩, .string ⟨#[]⟩, .int .i64 0, .string ⟨#[]⟩, .string ⟨#[]⟩, .int .i64 0, .int .i64 0, .bool false, .slice none 0 0] 122)).alloc (.cells #[.string ⟨#[]⟩, .string ⟨#[65]⟩, .string ⟨#[66]⟩, .string ⟨#[65, 65]⟩] 9)).drew).heap[wc.heap.size]? = some (.cells #[.string ⟨#[]⟩, .string ⟨#[]⟩, .int .i64 0, .string ⟨#[]⟩, .string ⟨#[]⟩, .int .i64 0, .int .i64 0, .bool false, .slice none 0 0] 122 (0, 0)) from (Below.heap_alloc (wc.alloc _) _ wc.heap.size (by simp)).trans (heap_alloc_new wc _))
          have HTB := Lib.hid (show (((wc.alloc (.cells #[.string ⟨#[]⟩, .string ⟨#[65]⟩, .string ⟨#[66]⟩, .string ⟨#[65, 65]⟩] 9)).alloc (.cells #[.string ⟨#[]⟩, .string ⟨#[]⟩, .int .i64 0, .string ⟨#[]⟩, .string ⟨#[]⟩, .int .i64 0, .int .i64 0, .bool false, .slice none 0 0] 122)).drew).heap[wc.heap.size + 1]? = some (.cells #[.string ⟨#[]⟩, .string ⟨#[]⟩, .int .i64 0, .string ⟨#[]⟩, .string ⟨#[]⟩, .int .i64 0, .int .i64 0, .bool false, .slice none 0 0] 122 (0, 0)) from (show ((wc.alloc _).alloc _).heap[(wc.heap.size + 1)]? = _ by rw [show wc.heap.size + 1 = (wc.alloc (.cells #[.string ⟨#[]⟩, .string ⟨#[65]⟩, .string ⟨#[66]⟩, .string ⟨#[65, 65]⟩] 9)).heap.size by simp]; exact heap_alloc_new (wc.alloc _) _))
          go_upto_region 10 with (fail)
          go_cut [12] (fun p wx => ∃ (T : Nat) (n : Int) (tk : Tk), p = .pointer (some ⟨T, 0, none⟩) ∧ n ≤ n3 + 3 ∧ tk.number = 0 ∧ tk.sound = ⟨#[]⟩ ∧ tk.tout = 0 ∧ tk.covers = [] ∧ (aj ≤ tk.tin ∧ tk.tin ≤ aj + 3) ∧ (T ≠ Y ∧ T ≠ At + 1 ∧ T ≠ At ∧ T ≠ w.heap.size ∧ Y ≠ At + 1 ∧ Y ≠ At ∧ Y ≠ w.heap.size) ∧ Hid (tkBd tk ∧ TkG w sb l u9 [] (.slice none 0 0) ((T, cellsP (takeCs tk (.slice none 0 0)) 122) :: (Y, cellsP (sceneCs s (.slice A s.paras.length c)) 119) :: tkP At w.heap.size #[.string t, .slice (some ⟨b0, off0, none⟩) ls.length c0] a0 a1 mp) n wx))
          case first =>
            go_region_held3 (fun W => W.cell? ⟨Y, 0, none⟩ = some (.string s.no) ∧ W.cell? ⟨RB, j * 5, none⟩ = some (.string nm) ∧ W.cell? ⟨At, j, none⟩ = some (.int .i64 aj))
              (first
                | (refine HK.out _ ?_; (repeat (first | with_reducible exact hw8 | with_reducible exact hw7 | with_reducible exact hw6 | with_reducible exact gRefl wc sb | with_reducible refine gAlloc ?_ _ | with_reducible refine gDrew ?_ | with_reducible refine gSet ?_ (by dsimp only; omega) _)); done)
                | fail)
              (first
                | (go_at_call 55; refine (one_c sb n3 _ [⟨#[]⟩, ⟨#[65]⟩, ⟨#[66]⟩, ⟨#[65, 65]⟩] 4 wc.heap.size _ _ ?_ (by omega) (by decide) (by decide) ?_ ?_ (Nat.le_refl _)).mono ?_; (repeat (first | with_reducible exact hs8 | with_reducible exact hs7 | with_reducible exact hs6 | with_reducible exact G3.out.str | with_reducible refine Str.alloc ?_ _ | with_reducible refine Str.drew ?_)); (first | with_reducible exact HQ1.out | with_reducible exact HQ2.out | with_reducible exact HQ3.out _ | with_reducible exact HQ4.out _ | with_reducible exact HQ5.out _ | with_reducible exact HQ6.out _); omega; rintro e w6 ⟨v6, n6, rfl, ⟨x6, hx6, rfl⟩, hn6, hs6, hg6⟩; have hw6 : wc.grownBy w6 (some sb) := (by refine gTrans ?_ hg6; (repeat (first | with_reducible exact hw8 | with_reducible exact hw7 | with_reducible exact hw6 | with_reducible exact gRefl wc sb | with_reducible refine gAlloc ?_ _ | with_reducible refine gDrew ?_ | with_reducible refine gSet ?_ (by dsimp only; omega) _))); have hxz6 : x6.size ≤ 2 := oneOf (by decide +kernel) hx6; have hz6 := hw6.size; (first | have hT6 : w6.heap[wc.heap.size]? = some (.cells #[.string ⟨#[]⟩, .string ⟨#[]⟩, .int .i64 0, .string ⟨#[]⟩, .string ⟨#[]⟩, .int .i64 0, .int .i64 0, .bool false, .slice none 0 0] 122 (0, 0)) := (by with_reducible exact (hg6.block _ (heap_lt HTA.out) (by simp; omega)).trans HTA.out) | have hT6 : w6.heap[wc.heap.size + 1]? = some (.cells #[.string ⟨#[]⟩, .string ⟨#[]⟩, .int .i64 0, .string ⟨#[]⟩, .string ⟨#[]⟩, .int .i64 0, .int .i64 0, .bool false, .slice none 0 0] 122 (0, 0)) := (by with_reducible exact (hg6.block _ (heap_lt HTB.out) (by simp; omega)).trans HTB.out) | skip))
                | (go_at_call 75; refine (next_c sb n6 3 _ ?_ (by omega) (by omega) (by omega)).mono ?_; (repeat (first | with_reducible exact hs8 | with_reducible exact hs7 | with_reducible exact hs6 | with_reducible exact G3.out.str | with_reducible refine Str.alloc ?_ _ | with_reducible refine Str.drew ?_)); rintro e w7 ⟨v7, n7, rfl, ⟨y7, hy0, hy1, rfl⟩, hn7, hs7, hg7⟩; have hw7 : wc.grownBy w7 (some sb) := (by refine gTrans ?_ hg7; (repeat (first | with_reducible exact hw8 | with_reducible exact hw7 | with_reducible exact hw6 | with_reducible exact gRefl wc sb | with_reducible refine gAlloc ?_ _ | with_reducible refine gDrew ?_ | with_reducible refine gSet ?_ (by dsimp only; omega) _))); have ew7 : IntKind.i64.wrap (aj + y7) = aj + y7 := IntWalk.i64_in _ (by omega); have hz7 := hw7.size; (first | have hT7 := (by with_reducible exact (hg7.block _ (heap_lt hT6) (by simp; omega)).trans hT6) | have hT7 : w7.heap[w6.heap.size]? = some (.cells #[.string ⟨#[]⟩, .string ⟨#[]⟩, .int .i64 0, .string ⟨#[]⟩, .string ⟨#[]⟩, .int .i64 0, .int .i64 0, .bool false, .slice none 0 0] 122 (0, 0)) := (by with_reducible exact (hg7.block _ (heap_lt (heap_alloc_new w6 (.cells #[.string ⟨#[]⟩, .string ⟨#[]⟩, .int .i64 0, .string ⟨#[]⟩, .string ⟨#[]⟩, .int .i64 0, .int .i64 0, .bool false, .slice none 0 0] 122))) (by simp; omega)).trans (heap_alloc_new w6 (.cells #[.string ⟨#[]⟩, .string ⟨#[]⟩, .int .i64 0, .string ⟨#[]⟩, .string ⟨#[]⟩, .int .i64 0, .int .i64 0, .bool false, .slice none 0 0] 122))) | skip))
                | (go_at_call 23; refine (flip_c sb n7 3 _ ?_ (by omega) (by omega) (by omega)).mono ?_; (repeat (first | with_reducible exact hs8 | with_reducible exact hs7 | with_reducible exact hs6 | with_reducible exact G3.out.str | with_reducible refine Str.alloc ?_ _ | with_reducible refine Str.drew ?_)); rintro e w8 ⟨v8, n8, rfl, ⟨b8, rfl⟩, hn8, hs8, hg8⟩; have hw8 : wc.grownBy w8 (some sb) := (by refine gTrans ?_ hg8; (repeat (first | with_reducible exact hw8 | with_reducible exact hw7 | with_reducible exact hw6 | with_reducible exact gRefl wc sb | with_reducible refine gAlloc ?_ _ | with_reducible refine gDrew ?_ | with_reducible refine gSet ?_ (by dsimp only; omega) _))); have hz8 := hw8.size; (first | have hT8 := (by with_reducible exact (hg8.block _ (heap_lt hT7) (by simp; omega)).trans hT7) | have hT8 : w8.heap[w7.heap.size]? = some (.cells #[.string ⟨#[]⟩, .string ⟨#[]⟩, .int .i64 0, .string ⟨#[]⟩, .string ⟨#[]⟩, .int .i64 0, .int .i64 0, .bool false, .slice none 0 0] 122 (0, 0)) := (by with_reducible exact (hg8.block _ (heap_lt (heap_alloc_new w7 (.cells #[.string ⟨#[]⟩, .string ⟨#[]⟩, .int .i64 0, .string ⟨#[]⟩, .string ⟨#[]⟩, .int .i64 0, .int .i64 0, .bool false, .slice none 0 0] 122))) (by simp; omega)).trans (heap_alloc_new w7 (.cells #[.string ⟨#[]⟩, .string ⟨#[]⟩, .int .i64 0, .string ⟨#[]⟩, .string ⟨#[]⟩, .int .i64 0, .int .i64 0, .bool false, .slice none 0 0] 122))) | skip); try (obtain ⟨y, f⟩ := str_cells hT8; have z0 := y 0; have z1 := y 1; have z2 := y 2; have z3 := y 3; have z4 := y 4; have z5 := y 5; have z6 := y 6; have z7 := y 7; have z8 := y 8; have f0 := f 0; have f1 := f 1; have f2 := f 2; have f3 := f 3; have f4 := f 4; have f5 := f 5; have f6 := f 6; have f7 := f 7; have f8 := f 8; simp only [List.getElem?_toArray, List.getElem?_cons_zero, List.getElem?_cons_succ] at z0 z1 z2 z3 z4 z5 z6 z7 z8; clear y f))
                | fail)
            all_goals
              go_wp2
              go_meet
              refine ⟨_, n8, ⟨s.no, x6, 0, nm, ⟨#[]⟩, aj + y7, 0, !b8, []⟩, rfl, by omega, rfl, rfl, rfl, rfl, ⟨by dsimp only; omega, by dsimp only; omega⟩, (by refine ⟨?_, ?_, ?_, ?_, ?_, ?_, ?_⟩ <;> omega), Lib.hid ⟨⟨HSB.out.1, by dsimp only; omega, by dsimp only; omega, by dsimp only; omega, hnm, by show (0 : Nat) ≤ 1000; omega, by dsimp only; omega, by dsimp only; omega, by dsimp only; omega, by dsimp only; omega, by show (0 : Nat) ≤ 70; omega, fun c hc => by cases hc⟩, ?_⟩⟩
              first
                | exact (G3.out.turn hw8 hs8).new (takeCs ⟨s.no, x6, 0, nm, ⟨#[]⟩, aj + y7, 0, !b8, []⟩ (.slice none 0 0)) 122
                | exact G3.out.blockSet hw8 hs8 (by omega) hT8 [.string s.no, .string x6, .int .i64 0, .string nm, .string ⟨#[]⟩, .int .i64 (aj + y7), .int .i64 0, .bool !b8, .slice none 0 0] rfl
          case rest =>
            have HSB2 := HSB
            clear c46 c54 c58 HK HQ1 HQ2 HQ3 HQ4 HQ5 HQ6 HTA HTB HSB hYw hAw hz3 hne3 hj3 hnm G3
            obtain ⟨T, n4, tk, rfl, hn4, hnum, hsnd, htout, hcov, htin, hTd, HQ⟩ := hcut
            have HT := Lib.hid HQ.out.1
            have G4 := Lib.hid HQ.out.2
            clear HQ
            have htb := HT.out
            have hts1 : tk.scene.size ≤ 1000 := htb.1
            have hts2 : tk.setup.size ≤ 1000 := htb.2.1
            clear htb
            have hs1 : (tk.scene ++ ⟨#[47]⟩ : ByteArray).size = tk.scene.size + 1 := by rw [ByteArray.size_append]; rfl
            have hs2 : (tk.scene ++ ⟨#[47]⟩ ++ tk.setup : ByteArray).size = tk.scene.size + 1 + tk.setup.size := by rw [ByteArray.size_append, hs1]
            have t0 : wc.cell? ⟨T, 0, none⟩ = some (.string tk.scene) := (G4.out.cell (b := T) (cs := takeCs tk (.slice none 0 0)) (T := 122) (by simp)).1 0
            have t1 : wc.cell? ⟨T, 1, none⟩ = some (.string tk.setup) := (G4.out.cell (b := T) (cs := takeCs tk (.slice none 0 0)) (T := 122) (by simp)).1 1
            have hm4 : MapL wc (At + 1) Value.string mp := G4.out.map (by simp)
            obtain ⟨z, hz, hz0, hz1⟩ := lkInt HM.out (tk.scene ++ ⟨#[47]⟩ ++ tk.setup)
            have HZ := Lib.hid hz
            clear hz
            have ez : IntKind.i64.wrap (z + 1) = z + 1 := IntWalk.i64_in _ (by omega)
            go_wp2_with (first
              | (at_lookup; refine wpList_lookup_plain _ rfl _ _ 116 false rfl 9 3 keyS2 Tryz.underlying116 (.int .i64 0) (zeroI _) (At + 1) mp rfl hm4 (tk.scene ++ ⟨#[47]⟩ ++ tk.setup) rfl ?_; simp only [Bool.false_eq_true, if_false]; rw [HZ.out])
              | (at_lookup; refine wpList_lookup_plain _ rfl _ _ 116 false rfl 9 3 keyS2 Tryz.underlying116 (.int .i64 0) (zeroI _) (At + 1) (up mp (tk.scene ++ ⟨#[47]⟩ ++ tk.setup) (.int .i64 (z + 1))) rfl hm5 (tk.scene ++ ⟨#[47]⟩ ++ tk.setup) rfl ?_; simp only [Bool.false_eq_true, if_false]; rw [lk_up, if_pos rfl, Option.getD_some])
              | (at_mapUpdate; refine wpList_update_plain _ rfl _ _ _ 116 rfl 9 3 keyS2 Tryz.underlying116 (At + 1) mp rfl hm4 (tk.scene ++ ⟨#[47]⟩ ++ tk.setup) rfl (.int .i64 (z + 1)) rfl ?_; intro w5 hm5 hg5; have G5 := G4.out.poke (b := At + 1) (f := mapP Value.string mp) (g := mapP Value.string (up mp (tk.scene ++ ⟨#[47]⟩ ++ tk.setup) (.int .i64 (z + 1)))) (Q := (T, cellsP (takeCs tk (.slice none 0 0)) 122) :: (Y, cellsP (sceneCs s (.slice A s.paras.length c)) 119) :: tkP At w.heap.size #[.string t, .slice (some ⟨b0, off0, none⟩) ls.length c0] a0 a1 (up mp (tk.scene ++ ⟨#[47]⟩ ++ tk.setup) (.int .i64 (z + 1)))) (by simp) hg5 hm5 (by simp; omega) (by simp); obtain ⟨y5, f5⟩ := G5.cell (b := T) (cs := takeCs tk (.slice none 0 0)) (T := 122) (by simp); have y50 : w5.cell? ⟨T, 0, none⟩ = some (.string tk.scene) := y5 0; have y51 : w5.cell? ⟨T, 1, none⟩ = some (.string tk.setup) := y5 1; have y52 : w5.cell? ⟨T, 2, none⟩ = some (.int .i64 tk.number) := y5 2; have f52 := f5 2; clear y5 f5)
              | fail)
            generalize hmq : up mp (tk.scene ++ ⟨#[47]⟩ ++ tk.setup) (.int .i64 (z + 1)) = mq at *
            have HM5 := Lib.hid (show ∀ s u, lk mq s = some u → ∃ z : Int, u = .int .i64 z ∧ 0 ≤ z ∧ z ≤ (k + 1 : Nat) by rw [← hmq]; exact lkUp HM.out _ (z + 1) (by omega) (by omega))
            obtain ⟨hTY, hTm, hTA, hTX, hYm, hYA, hYX⟩ := hTd
            have hd : ∀ p ∈ ((Y, cellsP (sceneCs s (.slice A s.paras.length c)) 119) :: tkP At w.heap.size #[.string t, .slice (some ⟨b0, off0, none⟩) ls.length c0] a0 a1 mq), p.1 ≠ T := by simp; omega
            have htb := HT.out
            have hq1 : tkBd { tk with number := z + 1 } := ⟨htb.1, htb.2.1, by dsimp only; omega, by dsimp only; omega, htb.2.2.2.2⟩
            have G6 := Lib.hid (show TkG w sb l u9 [] (.slice none 0 0) ((T, cellsP (takeCs { tk with number := z + 1 } (.slice none 0 0)) 122) :: ((Y, cellsP (sceneCs s (.slice A s.paras.length c)) 119) :: tkP At w.heap.size #[.string t, .slice (some ⟨b0, off0, none⟩) ls.length c0] a0 a1 mq)) n4 _ from G5.set0 2 (.int .i64 (z + 1)) hd)
            have HT1 := Lib.hid hq1
            clear hq1 htb G5 hm5 hg5 y50 y51 y52 f52 HZ HM HT hmq hm4 t0 t1 G4 ez hs1 hs2
            generalize hW : w5.setCell ⟨T, 2, none⟩ (.int .i64 (z + 1)) = w6 at *
            obtain ⟨tq, htq⟩ : ∃ tq : Tk, tq = { tk with number := z + 1 } := ⟨_, rfl⟩
            have q1 : tq.sound = ⟨#[]⟩ ∧ tq.tout = 0 ∧ tq.covers = [] ∧ (aj ≤ tq.tin ∧ tq.tin ≤ aj + 3) := by rw [htq]; exact ⟨hsnd, htout, hcov, htin⟩
            rw [← htq] at G6 HT1
            clear htq hsnd htout hcov htin hnum hW hts1 hts2
            go_wp2_with fail
            refine (flip_c sb n4 2 _ G6.out.str (by omega) (by decide) (by decide)).mono ?_
            rintro e w7 ⟨v7, n7, rfl, ⟨b7, rfl⟩, hn7, hs7, hg7⟩
            have G7 := Lib.hid (G6.out.turn hg7 hs7)
            clear hs7 hg7 G6
            go_upto_if 85 with (fail)
            go_cut [] (fun wx => ∃ tr : Tk, tr.tin = tq.tin ∧ Hid (tr.tout = 0 ∧ tr.covers = [] ∧ tkBd tr ∧ TkG w sb l u9 [] (.slice none 0 0) ((T, cellsP (takeCs tr (.slice none 0 0)) 122) :: ((Y, cellsP (sceneCs s (.slice A s.paras.length c)) 119) :: tkP At w.heap.size #[.string t, .slice (some ⟨b0, off0, none⟩) ls.length c0] a0 a1 mq)) n7 wx))
            case first =>
              cases b7 with
              | true =>
                obtain ⟨y5, f5⟩ := G7.out.cell (b := T) (cs := takeCs tq (.slice none 0 0)) (T := 122) (by simp)
                have y54 : w7.cell? ⟨T, 4, none⟩ = some (.string tq.sound) := y5 4
                have f54 := f5 4
                clear y5 f5
                have htb := HT1.out
                go_wp2
                go_meet
                exact ⟨{ tq with sound := ⟨#[83, 49]⟩ }, rfl, Lib.hid ⟨q1.2.1, q1.2.2.1, ⟨htb.1, htb.2.1, htb.2.2.1, htb.2.2.2.1, htb.2.2.2.2.1, by show (2 : Nat) ≤ 1000; omega, htb.2.2.2.2.2.2⟩, G7.out.set0 4 (.string ⟨#[83, 49]⟩) hd⟩⟩
              | false =>
                go_wp2
                go_meet
                exact ⟨tq, rfl, Lib.hid ⟨q1.2.1, q1.2.2.1, HT1.out, G7.out⟩⟩
            case rest =>
              clear G7
              obtain ⟨tr, hrin, HQ⟩ := hcut
              have htin : aj ≤ tr.tin ∧ tr.tin ≤ aj + 3 := by rw [hrin]; exact q1.2.2.2
              have htq := HQ.out.1
              have hcq := HQ.out.2.1
              have HT2 := Lib.hid HQ.out.2.2.1
              have G8 := Lib.hid HQ.out.2.2.2
              clear HQ HT1 q1 hrin
              obtain ⟨hpl, hpp⟩ : s.paras.length ≤ 60 ∧ True := ⟨(HSB2.out).2, trivial⟩
              have y5 : wc.cell? ⟨T, 5, none⟩ = some (.int .i64 tr.tin) := (G8.out.cell (b := T) (cs := takeCs tr (.slice none 0 0)) (T := 122) (by simp)).1 5
              have y4 : wc.cell? ⟨Y, 4, none⟩ = some (.slice A s.paras.length c) := (G8.out.cell (b := Y) (cs := sceneCs s (.slice A s.paras.length c)) (T := 119) (by simp)).1 4
              generalize s.paras.length = np at *
              go_wp2
              go_loopw [92, 13] (fun i iv wr => ∃ (p : Nat) (inn : Int) (lc : List Cov) (vc : Value) (n : Int), p ≤ np ∧ i = .int .i64 p ∧ iv = .int .i64 inn ∧ (aj ≤ inn ∧ inn ≤ aj + 3 + 33 * (p : Int)) ∧ n ≤ n7 + 3 * (p : Int) ∧ lc.length ≤ p ∧ Hid (∀ x ∈ lc, covBd x)
                ∧ Hid (TkG w sb l u9 lc vc ((T, cellsP (takeCs tr vc) 122) :: ((Y, cellsP (sceneCs s (.slice A np c)) 119) :: tkP At w.heap.size #[.string t, .slice (some ⟨b0, off0, none⟩) ls.length c0] a0 a1 mq)) n wr)) (fun i _ _ => np - (intOf i).toNat)
              case atStart => exact ⟨0, tr.tin, [], _, n7, by omega, rfl, rfl, by omega, by omega, by simp, Lib.hid (fun x hx => by cases hx), G8⟩
              case round =>
                clear G8 y5 y4
                obtain ⟨p, inn, lc, vc, n, hp, rfl, rfl, hin, hn8, hlc, HC, HG⟩ := hrel
                by_cases hpn : p < np
                · go_wp2_with fail
                  refine (flip_c sb n 3 _ HG.out.str (by omega) (by decide) (by decide)).mono ?_
                  rintro e w8 ⟨v8, n8, rfl, ⟨b8, rfl⟩, hn8', hs8, hg8⟩
                  have G9 := Lib.hid (HG.out.turn hg8 hs8)
                  clear hs8 hg8 HG
                  cases b8 with
                  | true =>
                    go_wp2_with fail
                    refine (next_c sb n8 3 _ G9.out.str (by omega) (by omega) (by omega)).mono ?_
                    rintro e w9 ⟨v9, n9, rfl, ⟨y9, hy0, hy1, rfl⟩, hn9, hs9, hg9⟩
                    have G10 := Lib.hid (G9.out.turn hg9 hs9)
                    have ei : IntKind.i64.wrap (inn + y9) = inn + y9 := IntWalk.i64_in _ (by omega)
                    clear hs9 hg9 G9
                    go_wp2
                    go_roundw
                    case rel => exact ⟨p + 1, inn + y9, lc, vc, n9, by omega, intNum, rfl, by omega, by omega, by omega, HC, G10⟩
                    all_goals (try (simp [intOf] <;> omega))
                  | false =>
                    go_wp2_with fail
                    refine (range_c sb n8 1 30 _ G9.out.str (by omega) (by omega) (by omega) (by omega)).mono ?_
                    rintro e w9 ⟨v9, n9, rfl, ⟨y9, ⟨hy0, hy1⟩, rfl⟩, hn9, hs9, hg9⟩
                    have G10 := Lib.hid (G9.out.turn hg9 hs9)
                    have ei : IntKind.i64.wrap (inn + y9) = inn + y9 := IntWalk.i64_in _ (by omega)
                    clear hs9 hg9 G9
                    go_wp2_with fail
                    refine (flip_c sb n9 2 _ G10.out.str (by omega) (by omega) (by omega)).mono ?_
                    rintro e wD ⟨vD, nD, rfl, ⟨bD, rfl⟩, hnD, hsD, hgD⟩
                    have hG11 := G10.out.turn hgD hsD
                    have hcb : covBd ⟨p, inn, inn + y9, bD⟩ := ⟨by dsimp only; omega, by dsimp only; omega, by dsimp only; omega, by dsimp only; omega, by dsimp only; omega, by dsimp only; omega⟩
                    have HCB := Lib.hid hcb
                    have hG12 := hG11.new (Cov.cells ⟨p, inn, inn + y9, bD⟩).toArray 124
                    have hTD := (hG11.plt (b := T) (f := cellsP (takeCs tr vc) 122) (by simp)).2
                    clear hsD hgD G10 hcb
                    obtain ⟨AC, cC, hvC, _, _⟩ := (hG11.inr.sli (F := fun _ => True) (fun _ _ _ => trivial) (fun _ _ => trivial)).form
                    clear hG11
                    subst hvC
                    go_upto_region 22 with (fail)
                    have G12 := Lib.hid hG12
                    have hCz : wD.heap.size ≠ T := by omega
                    clear hG12
                    generalize hW : wD.alloc (.cells #[.int .i64 (p : Int), .int .i64 inn, .int .i64 (inn + y9), .bool bD] 124) = wC
                    have G13 := Lib.hid (show TkG w sb l u9 lc (.slice AC lc.length cC) ((wD.heap.size, cellsP #[.int .i64 (p : Int), .int .i64 inn, .int .i64 (inn + y9), .bool bD] 124) :: (T, cellsP (takeCs tr (.slice AC lc.length cC)) 122) :: ((Y, cellsP (sceneCs s (.slice A np c)) 119) :: tkP At w.heap.size #[.string t, .slice (some ⟨b0, off0, none⟩) ls.length c0] a0 a1 mq)) nD wC by rw [← hW]; exact G12.out)
                    clear G12 hW
                    generalize wD.heap.size = C at *
                    have x8 : wC.cell? ⟨T, 8, none⟩ = some (.slice AC lc.length cC) := (G13.out.cell (b := T) (cs := takeCs tr (.slice AC lc.length cC)) (T := 122) (by simp)).1 8
                    obtain ⟨y5, _⟩ := G13.out.cell (b := C) (cs := #[.int .i64 (p : Int), .int .i64 inn, .int .i64 (inn + y9), .bool bD]) (T := 124) (by simp)
                    have x0 : wC.cell? ⟨C, 0, none⟩ = some (.int .i64 (p : Int)) := y5 0
                    have x1 : wC.cell? ⟨C, 1, none⟩ = some (.int .i64 inn) := y5 1
                    have x2 : wC.cell? ⟨C, 2, none⟩ = some (.int .i64 (inn + y9)) := y5 2
                    have x3 : wC.cell? ⟨C, 3, none⟩ = some (.bool bD) := y5 3
                    clear y5
                    have hz13 := G13.out.size
                    have hlcz : lc.length ≤ 1000 := by omega
                    have hd2 : ∀ p ∈ ((Y, cellsP (sceneCs s (.slice A np c)) 119) :: tkP At w.heap.size #[.string t, .slice (some ⟨b0, off0, none⟩) ls.length c0] a0 a1 mq), p.1 ≠ T := by simp; omega
                    go_wp2_with (at_builtin; (refine wpList_pushB (R := covR) rfl _ _ _ rfl w.heap.size w.heap.size 124 i0 _ 32 Tryz.underlying120 hi0 hi1 hi2 hi3 rfl (by decide) _ (.slice AC lc.length cC) lc rfl (G13.out.alloc _).inr (⟨(p : Int), inn, inn + y9, bD⟩ : Cov) _ rfl (oneC rfl) wC.heap.size _ _ (heap_alloc_new wC _) rfl (by simp [maxLen]; omega) (by omega) (by simp; omega) ?_); intro g cap wE hown8 hg8 hat8 hlt8; have G14 := (G13.out.alloc _).moreC hown8 hg8 rfl hat8; obtain ⟨yE, fE⟩ := G14.cell (b := T) (cs := takeCs tr (.slice AC lc.length cC)) (T := 122) (by simp); have x8' : wE.cell? ⟨T, 8, none⟩ = some (.slice AC lc.length cC) := yE 8; have f8' := fE 8; have x2' : wE.cell? ⟨C, 2, none⟩ = some (.int .i64 (inn + y9)) := (G14.cell (b := C) (cs := #[.int .i64 (p : Int), .int .i64 inn, .int .i64 (inn + y9), .bool bD]) (T := 124) (by simp)).1 2; clear yE fE)
                    have G15 := Lib.hid ((G14.less (Q := (T, cellsP (takeCs tr (.slice AC lc.length cC)) 122) :: ((Y, cellsP (sceneCs s (.slice A np c)) 119) :: tkP At w.heap.size #[.string t, .slice (some ⟨b0, off0, none⟩) ls.length c0] a0 a1 mq)) (fun q hq => List.mem_cons_of_mem _ hq)).set0 8 (.slice (some ⟨g, 0, none⟩) (lc.length + 1) cap) hd2)
                    go_roundw
                    case rel => exact ⟨p + 1, inn + y9, lc ++ [⟨(p : Int), inn, inn + y9, bD⟩], _, nD, by omega, intNum, rfl, by omega, by omega, by simp; omega, Lib.hid (fun x hx => by
                      rcases List.mem_append.1 hx with h | h
                      · exact HC.out x h
                      · rw [List.mem_singleton] at h; subst h; exact HCB.out), G15⟩
                    all_goals (try (simp [intOf] <;> omega))
                · have y13 : True := trivial
                  go_wp2_with fail
                  refine (range_c sb n 1 5 _ HG.out.str (by omega) (by omega) (by omega) (by omega)).mono ?_
                  rintro e w9 ⟨v9, n9, rfl, ⟨y9, ⟨hy0, hy1⟩, rfl⟩, hn9, hs9, hg9⟩
                  have G10 := Lib.hid (HG.out.turn hg9 hs9)
                  have ei : IntKind.i64.wrap (inn + y9) = inn + y9 := IntWalk.i64_in _ (by omega)
                  clear hs9 hg9 HG
                  obtain ⟨yE, fE⟩ := G10.out.cell (b := T) (cs := takeCs tr vc) (T := 122) (by simp)
                  have x6 : w9.cell? ⟨T, 6, none⟩ = some (.int .i64 tr.tout) := yE 6
                  have f6 := fE 6
                  clear yE fE
                  go_upto_region 26 with (fail)
                  have hd2 : ∀ p ∈ ((Y, cellsP (sceneCs s (.slice A np c)) 119) :: tkP At w.heap.size #[.string t, .slice (some ⟨b0, off0, none⟩) ls.length c0] a0 a1 mq), p.1 ≠ T := by simp; omega
                  obtain ⟨AC, cC, hvC, _, _⟩ := (G10.out.inr.sli (F := fun _ => True) (fun _ _ _ => trivial) (fun _ _ => trivial)).form
                  subst hvC
                  obtain ⟨A9, c9, hv9, _, _⟩ := (G10.out.own.sli (F := fun _ => True) (fun _ _ _ => trivial) (fun _ _ => trivial)).form
                  subst hv9
                  have htb := HT2.out
                  have hlcz : lc.length ≤ 1000 := by omega
                  have hqb : tkBd { tr with tout := inn + y9, covers := lc } := ⟨htb.1, htb.2.1, htb.2.2.1, htb.2.2.2.1, htb.2.2.2.2.1, htb.2.2.2.2.2.1, htb.2.2.2.2.2.2.1, htb.2.2.2.2.2.2.2.1, by dsimp only; omega, by dsimp only; omega, by dsimp only; omega, HC.out⟩
                  have HQB := Lib.hid hqb
                  have G11 := Lib.hid (show TkG w sb l (.slice A9 l.length c9) lc (.slice AC lc.length cC) ((T, cellsP (takeCs { tr with tout := inn + y9, covers := lc } (.slice AC lc.length cC)) 122) :: ((Y, cellsP (sceneCs s (.slice A np c)) 119) :: tkP At w.heap.size #[.string t, .slice (some ⟨b0, off0, none⟩) ls.length c0] a0 a1 mq)) n9 _ from G10.out.set0 6 (.int .i64 (inn + y9)) hd2)
                  obtain ⟨ty, hty⟩ : ∃ ty : Tk, ty = { tr with tout := inn + y9, covers := lc } := ⟨_, rfl⟩
                  have hyo : ty.tout = inn + y9 ∧ ty.covers = lc := by rw [hty]; exact ⟨rfl, rfl⟩
                  rw [← hty] at G11 HQB
                  generalize hW : w9.setCell ⟨T, 6, none⟩ (.int .i64 (inn + y9)) = wF at *
                  clear hW G10 hqb htb HT2 x6 f6 HC hty
                  obtain ⟨yF, fF⟩ := G11.out.cell (b := T) (cs := takeCs ty (.slice AC lc.length cC)) (T := 122) (by simp)
                  have x6 : wF.cell? ⟨T, 6, none⟩ = some (.int .i64 ty.tout) := yF 6
                  clear yF fF
                  obtain ⟨yA, fA⟩ := G11.out.cell (b := At) (cs := #[.int .i64 a0, .int .i64 a1]) (T := 3) (by simp)
                  obtain ⟨old, xj⟩ : ∃ old : Int, wF.cell? ⟨At, j, none⟩ = some (.int .i64 old) := by
                    rcases (by omega : j = 0 ∨ j = 1) with rfl | rfl
                    · exact ⟨a0, yA 0⟩
                    · exact ⟨a1, yA 1⟩
                  have fj := fA j
                  clear yA fA
                  have htyb : -20000000 - 40000 * ((k : Int) + 1) ≤ ty.tout ∧ ty.tout ≤ 20000000 + 40000 * ((k : Int) + 1) := by rw [hyo.1]; omega
                  have HYO := Lib.hid hyo
                  clear hyo
                  obtain ⟨a2, a3, hb2', hb3', he⟩ : ∃ a2 a3 : Int, (-20000000 - 40000 * ((k + 1 : Nat) : Int) ≤ a2 ∧ a2 ≤ 20000000 + 40000 * ((k + 1 : Nat) : Int)) ∧ (-20000000 - 40000 * ((k + 1 : Nat) : Int) ≤ a3 ∧ a3 ≤ 20000000 + 40000 * ((k + 1 : Nat) : Int)) ∧ (#[.int .i64 a0, .int .i64 a1] : Array Value).setIfInBounds j (.int .i64 ty.tout) = #[.int .i64 a2, .int .i64 a3] := by
                    rcases (by omega : j = 0 ∨ j = 1) with rfl | rfl
                    · exact ⟨ty.tout, a1, by omega, by omega, rfl⟩
                    · exact ⟨a0, ty.tout, by omega, by omega, rfl⟩
                  have hz11 := G11.out.size
                  have hG12 := ((G11.out.less (Q := (At, cellsP #[.int .i64 a0, .int .i64 a1] 3) :: (T, cellsP (takeCs ty (.slice AC lc.length cC)) 122) :: [(At + 1, mapP Value.string mq), (w.heap.size, cellsP #[.string t, .slice (some ⟨b0, off0, none⟩) ls.length c0] 44)]) (by intro p hp; simp at hp ⊢; rcases hp with rfl | rfl | rfl | rfl <;> simp)).set0 j (.int .i64 ty.tout) (by simp; omega))
                  rw [he] at hG12
                  have G12 := Lib.hid hG12
                  clear hG12 he G11
                  go_upto_region 27 with (fail)
                  generalize hW : wF.setCell ⟨At, j, none⟩ (.int .i64 ty.tout) = wG at *
                  clear hW xj fj x6
                  obtain ⟨yG, fG⟩ := G12.out.cell (b := T) (cs := takeCs ty (.slice AC lc.length cC)) (T := 122) (by simp)
                  have x0 : wG.cell? ⟨T, 0, none⟩ = some (.string ty.scene) := yG 0
                  have x1 : wG.cell? ⟨T, 1, none⟩ = some (.string ty.setup) := yG 1
                  have x2 : wG.cell? ⟨T, 2, none⟩ = some (.int .i64 ty.number) := yG 2
                  have x3 : wG.cell? ⟨T, 3, none⟩ = some (.string ty.roll) := yG 3
                  have x4 : wG.cell? ⟨T, 4, none⟩ = some (.string ty.sound) := yG 4
                  have x5 : wG.cell? ⟨T, 5, none⟩ = some (.int .i64 ty.tin) := yG 5
                  have x6 : wG.cell? ⟨T, 6, none⟩ = some (.int .i64 ty.tout) := yG 6
                  have x7 : wG.cell? ⟨T, 7, none⟩ = some (.bool ty.good) := yG 7
                  have x8 : wG.cell? ⟨T, 8, none⟩ = some (.slice AC lc.length cC) := yG 8
                  clear yG fG
                  have hz12 := G12.out.size
                  go_wp2_with (at_builtin; (refine wpList_pushB (R := tvR) rfl _ _ _ rfl w.heap.size w.heap.size 122 i1 _ 120 Tryz.underlying48 hk0' hk1 hk2 hk3 rfl (by decide) _ (.slice A9 l.length c9) l rfl (G12.out.alloc _).own ((ty, .slice AC lc.length cC) : Tk × Value) _ rfl (oneC rfl) wG.heap.size _ _ (heap_alloc_new wG _) rfl (by simp [maxLen]; omega) (by omega) (by simp; omega) ?_); intro g cap wE hown8 hg8 hat8 hlt8; have G14 := (G12.out.alloc _).push hown8 hg8 rfl hat8 HYO.out.2 rfl)
                  have G15 := Lib.hid (G14.less (Q := tkP At w.heap.size #[.string t, .slice (some ⟨b0, off0, none⟩) ls.length c0] a2 a3 mq) (by intro p hp; simp at hp ⊢; rcases hp with rfl | rfl | rfl <;> simp))
                  go_roundw
                  case rel => exact ⟨k + 1, l ++ [(ty, .slice AC lc.length cC)], n9, a2, a3, mq, by omega, intNum, by simp; omega, by omega, hb2', hb3', HM5, Lib.hid (fun x hx => by
                    rcases List.mem_append.1 hx with h | h
                    · exact HX.out x h
                    · rw [List.mem_singleton] at h; subst h; exact HQB.out), G15⟩
                  all_goals (try (simp [intOf] <;> omega))
      · go_wp2_with fail
        refine (flip_c sb n 8 _ HG.out.str (by omega) (by decide) (by decide)).mono ?_
        rintro e w2 ⟨v2, n2, rfl, ⟨b2, rfl⟩, hn2, hs2, hg2⟩
        have G2 := Lib.hid ((HG.out.turn hg2 hs2).less (Q := []) (fun q hq => by cases hq))
        clear hs2 hg2 HG
        obtain ⟨A9, c9, hv9, _, _⟩ := (G2.out.own.sli (F := fun _ => True) (fun _ _ _ => trivial) (fun _ _ => trivial)).form
        subst hv9
        have hno : ∀ (n3 : Int), n3 = n2 → Took sb k0 40000 (isTakes 300000000 w) w (.returned (.slice A9 l.length c9)) w2 := fun n3 h3 => ⟨_, n2, rfl, ⟨l, G2.out.own, fun y hy => (G2.out.inn y hy).more fun q hq => .inr ⟨hq.1, hq.2.1, hq.2.2.2.1⟩, fun y hy => (HX.out y hy).more (by omega), by omega⟩, by omega, G2.out.str, G2.out.gr⟩
        have HNO := Lib.hid (hno n2 rfl)
        clear hno
        cases b2 with
        | false =>
          go_wp2
          go_ret
          exact HNO.out
        | true =>
          by_cases hl9 : 0 < l.length
          · have hl9' : (0 : Int) < (l.length : Int) := by omega
            go_wp2_with fail
            have hsl := G2.out.own.sli (F := fun q => w.heap.size ≤ q ∧ q < w2.heap.size) (fun q h1 h2 => ⟨h1, h2⟩) (fun g hg => G2.out.own.block g hg)
            refine (SpoiledTakes_c 200000000 sb n2 l (.slice A9 l.length c9) w2 G2.out.str (by omega) hsl (fun y hy => (G2.out.inn y hy).more fun q hq => ⟨hq.1, hq.2.1⟩) (fun q hq => ⟨hq.2, by have := hq.1; omega⟩) hl9 (by omega) HX.out (by omega) (by omega)).mono ?_
            rintro e w3 ⟨v3, n3, rfl, ⟨l3, hown3, hin3, hb3, hl3⟩, hn3, hs3, hg3⟩
            have hz2 := G2.out.size
            go_wp2
            go_ret
            refine ⟨_, n3, rfl, ⟨l3, hown3.less hz2, fun y hy => (hin3 y hy).more fun q hq => .inr ?_, fun y hy => (hb3 y hy).more (by omega), by omega⟩, by omega, hs3, gTrans G2.out.gr hg3⟩
            rcases hq with hq | hq
            · exact ⟨hq.1, Nat.lt_of_lt_of_le hq.2 hg3.size, fun e => by have := (hown3.block q e).1; have := hq.2; omega⟩
            · exact ⟨by have := hq.1; omega, hq.2.1, hq.2.2⟩
          · have hl9' : ¬ (0 : Int) < (l.length : Int) := by omega
            go_wp2
            go_ret
            exact HNO.out
end Go.Proofs.YtmefjkfjpgblcaaGreatDoor

