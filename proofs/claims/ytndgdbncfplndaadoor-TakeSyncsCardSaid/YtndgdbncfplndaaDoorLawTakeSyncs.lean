/- The law TakeSyncs walked: for every list of numbers it returns true and leaves what was there. -/
import Derived.Test.YtndgdbncfplndaaDoorRows
import Derived.Test.YtndgdbncfplndaaDoorTakesW
import Derived.Test.YtndgdbncfplndaaDoorSyncW
import Derived.Test.YtndgdbncfplndaaDoorSyncR
import Derived.Test.YtndgdbncfplndaaDoorGenB
import Derived.Deep.RegionHeld3
namespace Go.Proofs.YtndgdbncfplndaaDoor
set_option linter.unusedVariables false
open Go.RowKit

/-- The take of the law, in its block. -/
def TBlk (w : World) (B : Nat) (roll sound : ByteArray) (tin tout : Int) : Prop :=
  w.heap[B]? = some (.cells #[.string ⟨#[]⟩, .string ⟨#[]⟩, .int .i64 0, .string roll, .string sound, .int .i64 tin, .int .i64 tout, .bool false, .slice none 0 0] 31 (0, 0))
def bdT (x : Int) : Prop := -100000000 ≤ x ∧ x ≤ 100000000

theorem strNew (w : World) (A : Option Addr) (l : List Int) (c : Nat) (hr : Rs w 0 w.heap.size 1 intc A l) (hl : l.length ≤ 17592186044416) (ho : ∀ x ∈ l, okI x) :
    Str (w.alloc (.cells #[.slice A l.length c, .int .i64 0] 25)) w.heap.size 0 :=
  ⟨A, c, l, heap_alloc_new w _, Int.le_refl _, hr.alloc (Nat.le_refl _) _, hl, ho⟩

set_option maxRecDepth 100000 in
set_option maxHeartbeats 4000000 in
theorem TakeSyncs_c (A : Option Addr) (l : List Int) (c : Nat) (w : World) (hr : Rs w 0 w.heap.size 1 intc A l) (hl : l.length ≤ 17592186044416) (ho : ∀ x ∈ l, okI x) :
    Calls Tryd.prog 3 #[.slice A l.length c] w fun e w' => e = .returned (.bool true) ∧ Below w.heap.size w w' := by
  have S0 := Lib.hid (strNew w A l c hr hl ho)
  clear hr ho
  go_enter Tryd.func3, Tryd.ntmps3
  go_wp2_with fail
  refine (Rolls_c w.heap.size 0 _ S0.out (by omega)).mono ?_
  rintro e w1 ⟨v1, k1, rfl, ⟨RB, a, b, d, rfl, hRB, hRB2, hR, ha, hb, hd⟩, hk1, hs1, hg1⟩
  have R1 := Lib.hid hR
  have BD := Lib.hid (show ∀ r ∈ [a, b, d], rollBd r by
    intro r hr
    simp at hr
    rcases hr with rfl | rfl | rfl <;> assumption)
  have S1 := Lib.hid hs1; have G1 := Lib.hid hg1; clear hs1 hg1 hR ha hb hd
  go_wp2_with fail
  refine (OneL w1 [⟨#[65, 49]⟩, ⟨#[65, 49]⟩, ⟨#[65, 50]⟩, ⟨#[90, 90]⟩] _ _ 4 _ rfl rfl (by decide) (by decide) S1.out (by omega)).mono ?_
  rintro e w2 ⟨v2, k2, rfl, ⟨roll, hroll, rfl⟩, hk2, hs2, hg2⟩
  have R2 := Lib.hid ((R1.out.alloc _).grown hg2 (by omega))
  have S2 := Lib.hid hs2; have G2 := Lib.hid (gTrans (gAlloc G1.out _) hg2); have z12 := hg2.size; clear hs2 hg2 hroll
  go_wp2_with fail
  refine (OneL w2 [⟨#[83, 49]⟩, ⟨#[83, 49]⟩, ⟨#[65, 50]⟩, ⟨#[]⟩] _ _ 4 _ rfl rfl (by decide) (by decide) S2.out (by omega)).mono ?_
  rintro e w3 ⟨v3, k3, rfl, ⟨sound, hsound, rfl⟩, hk3, hs3, hg3⟩
  have R3' := Lib.hid ((R2.out.alloc _).grown hg3 (by omega))
  have S3 := Lib.hid hs3; have G3 := Lib.hid (gTrans (gAlloc G2.out _) hg3); have z23 := hg3.size; clear hs3 hg3 hsound
  have z3 := S3.out.lt
  have zg := G3.out.size
  simp at zg z12 z23
  have zRB : RB < w3.heap.size := by omega
  have TN := Lib.hid (show TBlk (w3.alloc (.cells #[.string ⟨#[]⟩, .string ⟨#[]⟩, .int .i64 0, .string roll, .string sound, .int .i64 0, .int .i64 0, .bool false, .slice none 0 0] 31)) w3.heap.size roll sound 0 0 from heap_alloc_new w3 _)
  go_wp2
  go_loopw [7, 27] (fun _ i wr => ∃ (k : Nat) (kk tin tout : Int), k ≤ 3 ∧ i = .int .i64 k ∧ kk ≤ 100 + 10 * k ∧ bdT tin ∧ bdT tout ∧ Hid (Str wr w.heap.size kk) ∧ Hid (RollsBlk wr RB a b d) ∧ Hid (TBlk wr w3.heap.size roll sound tin tout)
    ∧ Hid ((w.alloc (.cells #[.slice A l.length c, .int .i64 0] 25)).grownBy wr (some w.heap.size))) (fun _ i _ => 3 - (intOf i).toNat)
  case atStart => exact ⟨0, k3, 0, 0, by omega, rfl, by omega, ⟨by omega, by omega⟩, ⟨by omega, by omega⟩, S3.out.alloc _, R3'.out.alloc _, TN.out, gAlloc G3.out _⟩
  case round =>
    obtain ⟨k, kk, tin, tout, hk, rfl, hkk, htin, htout, SK, RK, TK, GK⟩ := hrel
    have zk := GK.out.size
    simp at zk
    have zt := heap_lt TK.out
    have zr := heap_lt RK.out
    obtain ⟨tc, tf⟩ := str_cells TK.out
    by_cases hlt : k < 3
    · have hkl : k < [a, b, d].length := hlt
      have hbd := BD.out _ (List.getElem_mem hkl)
      obtain ⟨_, _, heq, _, _, hc⟩ := (RK.out.rs 0 wr.heap.size (by omega) zr).at_ hkl
      injection heq with heq
      injection heq with e1 e2
      subst e1; subst e2
      simp only [Nat.zero_add] at hc
      have c0 : wr.cell? ⟨RB, k * 5, none⟩ = _ := hc 0 _ rfl
      have c1 := hc 1 _ rfl
      have c2 := hc 2 _ rfl
      have c3 := hc 3 _ rfl
      have c4 := hc 4 _ rfl
      clear hc
      obtain ⟨r, hr⟩ : ∃ r, r = [a, b, d][k] := ⟨_, rfl⟩
      rw [← hr] at c0 c1 c2 c3 c4 hbd
      clear hr
      cases he : (r.name.toList == roll.toList) with
      | false =>
        go_wp2
        go_roundw
        case rel => exact ⟨k + 1, kk, tin, tout, by omega, intNum, by omega, htin, htout, SK.out.alloc _, RK.out.alloc _, (Below.heap_alloc wr _ _ zt).trans TK.out, gAlloc GK.out _⟩
        case measure => simp [intOf]; omega
      | true =>
        have zt' : w3.heap.size < wr.heap.size + 1 := by omega
        have ne1 : w3.heap.size ≠ w.heap.size := by omega
        have ne2 : wr.heap.size ≠ w.heap.size := by omega
        have ne3 : wr.heap.size ≠ w3.heap.size := by omega
        go_wp2
        go_region_held3 (fun w' => w'.cell? ⟨wr.heap.size, 2, none⟩ = some (.int .i64 r.start)) (first | go_keep | (rw [World.cell?_setCell_other _ _ _ _ (fun e => absurd (congrArg Addr.block e) (by simp; omega))]; go_keep))
          (first | (go_at_call 9; refine (range_c w.heap.size kk (-1) 5 _ (by exact Str.drew (SK.out.alloc _)) (by omega) (by omega) (by omega) (by omega)).mono ?_; rintro e w4 ⟨v4, k4, rfl, ⟨x4, hx4, rfl⟩, hk4, hs4, hg4⟩; (obtain ⟨gc, gf⟩ := gcell hg4); (have S4 := Lib.hid hs4); (have G4 := Lib.hid hg4); clear hs4 hg4))
        have htin4 : bdT (r.start + x4) := ⟨by have := hbd.2.2.2.1; omega, by have := hbd.2.2.2.2.1; omega⟩
        rw [show IntKind.i64.wrap (r.start + x4) = r.start + x4 from IntWalk.i64_in _ (by have := htin4.1; have := htin4.2; omega)]
        have z4 := G4.out.size
        simp at z4
        have T4 : TBlk w4 w3.heap.size roll sound tin tout := (G4.out.block w3.heap.size (by simp; omega) (by simp; omega)).trans ((Below.heap_alloc wr _ _ zt).trans TK.out)
        have R4 : RollsBlk w4 RB a b d := RollsBlk.grown (w := (wr.alloc _).drew) (sb := w.heap.size) (RollsBlk.alloc RK.out _) G4.out (by omega)
        have g3 : w4.cell? ⟨wr.heap.size, 3, none⟩ = some (.int .i64 r.long) := by go_simp
        obtain ⟨w5, hw5⟩ : ∃ w5, w5 = w4.setCell ⟨w3.heap.size, 5, none⟩ (.int .i64 (r.start + x4)) := ⟨_, rfl⟩
        rw [← hw5]
        have T5 : TBlk w5 w3.heap.size roll sound (r.start + x4) tout := by rw [hw5]; exact setBlk _ T4
        have R5 := Lib.hid (show RollsBlk w5 RB a b d by rw [hw5]; exact R4.keep (Below.heap_setCell _ _ _ _ (by show RB ≠ w3.heap.size; omega)))
        have S5 := Lib.hid (show Str w5 w.heap.size k4 by rw [hw5]; exact S4.out.setCell (by show w.heap.size < w3.heap.size; omega) _)
        have G5 := Lib.hid (show (w.alloc (.cells #[.slice A l.length c, .int .i64 0] 25)).grownBy w5 (some w.heap.size) by
          rw [hw5]; exact gSet (gTrans (gDrew (gAlloc GK.out _)) G4.out) (by show (w.alloc _).heap.size ≤ w3.heap.size; simp; omega) _)
        have h3 : w5.cell? ⟨wr.heap.size, 3, none⟩ = some (.int .i64 r.long) := by rw [hw5, World.cell?_setCell_other _ _ _ _ (fun e => absurd (congrArg Addr.block e) (by simp; omega))]; exact g3
        have z5 : w5.heap.size = w4.heap.size := by rw [hw5]; simp [World.setCell]
        clear hw5 T4 R4 gc gf tc tf c0 c1 c2 c3 c4 g3
        obtain ⟨tc, tf⟩ := str_cells T5
        have T5' := Lib.hid T5
        clear T5
        have t5 := tc 5
        have z55 : w3.heap.size < w5.heap.size := by omega
        have z56 : wr.heap.size < w5.heap.size := by omega
        have z57 : w.heap.size < w5.heap.size := by omega
        clear z5
        have q1 : IntKind.i64.wrap (r.long + 5) = r.long + 5 := IntWalk.i64_in _ (by have := hbd.2.2.2.2.2.1; have := hbd.2.2.2.2.2.2.1; omega)
        go_wp2
        go_region_held3 (fun w' => w'.cell? ⟨w3.heap.size, 5, none⟩ = some (.int .i64 (r.start + x4)) ∧ w'.cell? ⟨wr.heap.size, 3, none⟩ = some (.int .i64 r.long))
          (first | go_keep | (refine ⟨?_, ?_⟩ <;> go_keep) | (refine ⟨?_, ?_⟩ <;> go_simp) | (refine ⟨?_, ?_⟩ <;> (rw [World.cell?_setCell_other _ _ _ _ (fun e => absurd e (by simp; omega))]; go_keep)))
          (first | (go_at_call 10; refine (pickL (sb := w.heap.size) (k := k4) w5.drew [1, 100, 2000, r.long, r.long + 5] _ _ 5 _ rfl rfl (by omega) (by omega) (by exact S5.out.drew) (by omega)).mono ?_; rintro e w6 ⟨v6, k6, rfl, ⟨x6, hx6, rfl⟩, hk6, hs6, hg6⟩; (obtain ⟨gc, gf⟩ := gcell hg6); (have S6 := Lib.hid hs6); (have G6 := Lib.hid hg6); clear hs6 hg6))
        have hx6' : -20000000 ≤ x6 ∧ x6 ≤ 20000000 := by
          have h1 := hbd.2.2.2.2.2.1
          have h2 := hbd.2.2.2.2.2.2.1
          simp at hx6
          omega
        have htout6 : bdT (r.start + x4 + x6) := by
          have h1 := hbd.2.2.2.1
          have h2 := hbd.2.2.2.2.1
          exact ⟨by omega, by omega⟩
        rw [show IntKind.i64.wrap (r.start + x4 + x6) = r.start + x4 + x6 from IntWalk.i64_in _ (by have := htout6.1; have := htout6.2; omega)]
        have z6 := G6.out.size
        simp at z6
        have T6 : TBlk w6 w3.heap.size roll sound (r.start + x4) tout := (G6.out.block w3.heap.size (by simp; omega) (by simp; omega)).trans ((Below.heap_alloc w5.drew _ _ (by simp; omega)).trans T5'.out)
        have R6 : RollsBlk w6 RB a b d := RollsBlk.grown (w := w5.drew.alloc _) (sb := w.heap.size) (RollsBlk.alloc (w := w5.drew) R5.out _) G6.out (by omega)
        go_wp2
        go_roundw
        case rel => exact ⟨k + 1, k6, r.start + x4, r.start + x4 + x6, by omega, intNum, by omega, htin4, htout6, S6.out.setCell (by show w.heap.size < w3.heap.size; omega) _,
          R6.keep (Below.heap_setCell _ _ _ _ (by show RB ≠ w3.heap.size; omega)), setBlk _ T6, gSet (gTrans (gAlloc (gDrew G5.out) _) G6.out) (by show (w.alloc _).heap.size ≤ w3.heap.size; simp; omega) _⟩
        case measure => simp [intOf]; omega
    · have hke : k = 3 := by omega
      subst hke
      obtain ⟨hi1, hi2⟩ := htin
      obtain ⟨ho1, ho2⟩ := htout
      have q1 : IntKind.i64.wrap (tout - tin) = tout - tin := IntWalk.i64_in _ (by omega)
      have q2 : IntKind.i64.wrap (tout - tin - 1) = tout - tin - 1 := IntWalk.i64_in _ (by omega)
      have t5 := tc 5
      have t6 := tc 6
      have ne1 : w3.heap.size ≠ w.heap.size := by omega
      have zt' : w3.heap.size < wr.heap.size + 1 := by omega
      go_wp2
      go_region_held3 (fun w' => w'.cell? ⟨w3.heap.size, 5, none⟩ = some (.int .i64 tin) ∧ w'.cell? ⟨w3.heap.size, 6, none⟩ = some (.int .i64 tout))
          (first | go_keep | (refine ⟨?_, ?_⟩ <;> go_keep) | (refine ⟨?_, ?_⟩ <;> go_simp))
          (first | (go_at_call 10; refine (pickL (sb := w.heap.size) (k := kk) wr.drew [-1, 0, 1, 99, 1000, tout - tin - 1, tout - tin] _ _ 7 _ rfl rfl (by omega) (by omega) (by exact SK.out.drew) (by omega)).mono ?_; rintro e w6 ⟨v6, k6, rfl, ⟨x6, hx6, rfl⟩, hk6, hs6, hg6⟩; (obtain ⟨gc, gf⟩ := gcell hg6); (have G6 := Lib.hid hg6); clear hs6 hg6))
      have hx6' : -200000001 ≤ x6 ∧ x6 ≤ 200000001 := by simp at hx6; omega
      rw [show IntKind.i64.wrap (tin + x6) = tin + x6 from IntWalk.i64_in _ (by omega)]
      have z6 := G6.out.size
      simp at z6
      have T6 : TBlk w6 w3.heap.size roll sound tin tout := (G6.out.block w3.heap.size (by simp; omega) (by simp; omega)).trans ((Below.heap_alloc wr.drew _ _ (by simp; omega)).trans TK.out)
      have R6 : RollsBlk w6 RB a b d := RollsBlk.grown (w := wr.drew.alloc _) (sb := w.heap.size) (RollsBlk.alloc (w := wr.drew) RK.out _) G6.out (by omega)
      have R6h := Lib.hid R6
      have T6h := Lib.hid T6
      have GG6 := Lib.hid (gTrans (gAlloc (gDrew GK.out) _) G6.out)
      have hz6 : w.heap.size < w6.heap.size := by omega
      have hr6 : RB < w6.heap.size := by omega
      have ht6 : w3.heap.size < w6.heap.size := by omega
      clear gc gf tc tf t5 t6 q1 q2 hx6
      obtain ⟨tc, tf⟩ := str_cells T6
      have t0 := tc 0
      have t1 := tc 1
      have t2 := tc 2
      have t3 := tc 3
      have t4 := tc 4
      have t5 := tc 5
      have t6 := tc 6
      have t7 := tc 7
      have t8 := tc 8
      simp at t0 t1 t2 t3 t4 t5 t6 t7 t8
      clear tc tf T6 R6
      have hsz : ∀ r ∈ [a, b, d], r.name.size ≤ 140737488355328 := fun r hr => by have := (BD.out r hr).1; omega
      have HSZ := Lib.hid hsz
      clear hsz
      go_wp2_with fail
      refine (Sync_c (some ⟨RB, 0, none⟩) [a, b, d] 3 0 ⟨#[]⟩ ⟨#[]⟩ roll sound 0 tin tout (tin + x6) false (.slice none 0 0) _ (R6h.out.rs 0 _ (by omega) hr6) (by simp) HSZ.out (by omega) (by omega) (by omega) (by omega) (by omega) (by omega)).mono ?_
      rintro e w7 ⟨rfl, hb7⟩
      have hzb7 := hb7.size
      obtain ⟨hc7, hf7⟩ := bcell hb7
      have R7h := Lib.hid (show RollsBlk w7 RB a b d from (hb7.block RB hr6).trans R6h.out)
      have GG7 := Lib.hid (gBelow GG6.out hb7)
      clear hb7
      have hr7 : RB < w7.heap.size := by omega
      go_wp2_with fail
      refine (SyncOf_c (some ⟨RB, 0, none⟩) [a, b, d] 3 0 ⟨#[]⟩ ⟨#[]⟩ roll sound 0 tin tout (tin + x6) false (.slice none 0 0) _ (R7h.out.rs 0 _ (by omega) hr7) (by simp) (by omega) HSZ.out (by omega) (by omega) (by omega) (by omega) (by omega) (by omega)).mono ?_
      rintro e w8 ⟨rfl, hb8⟩
      have GG8 := Lib.hid (gBelow GG7.out hb8)
      clear hb8
      generalize syncA [a, b, d] roll sound tin tout (tin + x6) = sA
      generalize syncE [a, b, d] roll sound tin tout (tin + x6) = sE
      go_wp2_with fail
      refine (takes_c _).mono ?_
      rintro e w9 ⟨rfl, hb9⟩
      have GG9 := Lib.hid (gBelow GG8.out hb9)
      clear hb9
      go_wp2
      go_ret
      refine ⟨ret_bool (by simp), ?_⟩
      have := GG9.out
      exact ⟨this.os, this.tape, this.output, by have := this.size; simp at this; omega, fun i hi => (this.block i (by simp; omega) (by simp; omega)).trans (Below.heap_alloc w _ i hi)⟩
end Go.Proofs.YtndgdbncfplndaaDoor
