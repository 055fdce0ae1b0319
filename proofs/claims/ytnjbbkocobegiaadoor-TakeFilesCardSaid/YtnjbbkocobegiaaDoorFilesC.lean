/- The reference's first copy of a name, and its errors of copies. -/
import Derived.Test.YtnjbbkocobegiaaDoorFilesZ
import Derived.Test.YtnjbbkocobegiaaDoorHexX
namespace Go.Proofs.YtnjbbkocobegiaaDoor
set_option linter.unusedVariables false
open Go.RowKit

/-- The cells of a named result. -/
def Res3 (w : World) (B : Nat) : Prop := w.heap[B]? = some (.cells #[.string ⟨#[]⟩, .int .i64 0, .string ⟨#[]⟩] 35 (0, 0))
def zeroCop : Copied := ⟨⟨#[]⟩, 0, ⟨#[]⟩⟩
def getCop (l : List Copied) (s : ByteArray) : Copied := ((placeL l s).bind fun k => l[k]?).getD zeroCop
def hasCop (l : List Copied) (s : ByteArray) : Bool := (placeL l s).isSome
set_option maxRecDepth 100000 in
set_option maxHeartbeats 800000 in
theorem getCop_c (l : List Copied) (s : ByteArray) (v : Value) (F : Nat → Prop) (w : World) (hv : Sli copR w F l v) (hF : ∀ b, F b → b < w.heap.size) :
    Calls Tryd.prog 29 #[v, .string s] w fun e w' => e = .returned (.tuple #[.agg #[.string (getCop l s).name, .int .i64 (getCop l s).size, .string (getCop l s).sum], .bool (hasCop l s)]) ∧ Below w.heap.size w w' := by
  obtain ⟨A, c, rfl, hlc, hc64⟩ := hv.form
  have HV := Lib.hid hv; clear hv
  have HF := Lib.hid hF; clear hF
  go_enter Tryd.func29, Tryd.ntmps29
  go_wp2
  go_loopw [10] (fun i wr => ∃ k : Nat, k ≤ l.length ∧ i = .int .i64 k ∧ Below w.heap.size w wr ∧ w.heap.size < wr.heap.size ∧ Hid (Res3 wr w.heap.size) ∧ Hid (∀ x ∈ l.take k, decide (x.name = s) = false)) (fun i _ => l.length - (intOf i).toNat)
  case atStart => exact ⟨0, Nat.zero_le _, rfl, (Below.refl _ _).alloc (Nat.le_refl _) _, by simp, heap_alloc_new w _, by intro x hx; simp at hx⟩
  case round =>
    obtain ⟨k, hk, rfl, hb, hz, HR, HN⟩ := hrel
    have hr := HR.out
    have hrc := (str_cells hr).1
    have f0 := (str_cells hr).2
    have r0 : wr.cell? ⟨w.heap.size, 0, none⟩ = some (.string ⟨#[]⟩) := hrc 0
    have r1 : wr.cell? ⟨w.heap.size, 1, none⟩ = some (.int .i64 0) := hrc 1
    have r2 : wr.cell? ⟨w.heap.size, 2, none⟩ = some (.string ⟨#[]⟩) := hrc 2
    have g0 := f0 0
    have g1 := f0 1
    have g2 := f0 2
    clear f0 hr hrc
    by_cases hlt : k < l.length
    · obtain ⟨b, off, rfl, hfb, c0, c1, c2⟩ := copAt (HV.out.below hb HF.out) k hlt
      by_cases he : l[k].name = s
      · have HX := Lib.hid (show placeL l s = some k from findIdx_at HN.out hlt (by simpa using he))
        have HG := Lib.hid (show getCop l s = l[k] by unfold getCop; rw [HX.out]; simp [hlt])
        have HH := Lib.hid (show hasCop l s = true by unfold hasCop; rw [HX.out]; rfl)
        generalize l[k] = x at *
        have hq : (x.name.toList == s.toList) = true := by rw [beqS]; simpa using he
        go_wp2
        refine ⟨rfl, .tuple #[.agg #[.string x.name, .int .i64 x.size, .string x.sum], .bool true], (by rw [results_cell_tmp rfl]; go_simp), ?_⟩
        show _ ∧ _
        exact ⟨by rw [HG.out, HH.out], by first | exact ((((hb.setCell (Nat.le_refl _) _).setCell (Nat.le_refl _) _).setCell (Nat.le_refl _) _).alloc (by simp [World.setCell]; omega) _) | exact (((hb.setCell (Nat.le_refl _) _).setCell (Nat.le_refl _) _).setCell (Nat.le_refl _) _)⟩
      · have HNN := Lib.hid (take_next (q := fun y : Copied => decide (y.name = s) = false) hlt HN.out (by simpa using he))
        generalize l[k] = x at *
        have hq : (x.name.toList == s.toList) = false := by rw [beqS]; simpa using he
        go_wp2
        go_roundw
        case rel => exact ⟨k + 1, by omega, intNum, hb.alloc hb.size _, by simp; omega, (Below.heap_alloc wr _ _ hz).trans HR.out, HNN.out⟩
        case measure => simp [intOf]; omega
    · have HX := Lib.hid (show placeL l s = none from findIdx_no (take_all hlt HN.out))
      have HG := Lib.hid (show getCop l s = zeroCop by unfold getCop; rw [HX.out]; rfl)
      have HH := Lib.hid (show hasCop l s = false by unfold hasCop; rw [HX.out]; rfl)
      go_wp2
      refine ⟨rfl, .tuple #[.agg #[.string ⟨#[]⟩, .int .i64 0, .string ⟨#[]⟩], .bool false], (by rw [results_cell_tmp rfl]; go_simp), ?_⟩
      show _ ∧ _
      exact ⟨by rw [HG.out, HH.out]; rfl, by first | exact ((((hb.setCell (Nat.le_refl _) _).setCell (Nat.le_refl _) _).setCell (Nat.le_refl _) _).alloc (by simp [World.setCell]; omega) _) | exact (((hb.setCell (Nat.le_refl _) _).setCell (Nat.le_refl _) _).setCell (Nat.le_refl _) _)⟩

theorem alloc2_at (w : World) (o : Obj) (cs : Array Value) (T : TypeId) : ((w.alloc o).alloc (.cells cs T)).heap[w.heap.size + 1]? = some (.cells cs T (0, 0)) := by
  have := heap_alloc_new (w.alloc o) (.cells cs T)
  rw [show (w.alloc o).heap.size = w.heap.size + 1 by simp] at this
  exact this
theorem namesF_snoc (l : List ByteArray) (x : ByteArray) (h : namesF l = 0) : namesF (l ++ [x]) = nameF l x := by
  unfold namesF; rw [namesFrom_snoc _ _ _ h, List.nil_append]
set_option maxRecDepth 100000 in
set_option maxHeartbeats 1600000 in
theorem copiesFaultR_c (l : List Copied) (v : Value) (F : Nat → Prop) (w : World) (hv : Sli copR w F l v) (hF : ∀ b, F b → b < w.heap.size) (hsz : CopySz l) (hlen : l.length ≤ 1000000) :
    Calls Tryd.prog 28 #[v] w fun e w' => e = .returned (.int .i64 (copiesF l)) ∧ Below w.heap.size w w' := by
  obtain ⟨A, c, rfl, hlc, hc64⟩ := hv.form
  have HV := Lib.hid hv; clear hv
  have HF := Lib.hid hF; clear hF
  have HSZ := Lib.hid hsz; clear hsz
  obtain ⟨i0, hi0, hz0, hz1, hz2⟩ := info_parts (show (Tryd.prog.info? 9).map (fun i => (i.zero, i.size, i.bytes)) = some (some (.string ⟨#[]⟩), 1, 16) by kernel_rfl)
  go_enter Tryd.func28, Tryd.ntmps28
  go_wp2
  go_loopw [3, 9] (fun v i wr => ∃ k : Nat, k ≤ l.length ∧ i = .int .i64 k ∧ Below w.heap.size w wr ∧ Hid (Own strR wr w.heap.size w.heap.size 9 ((l.take k).map (·.name)) v) ∧ Hid (namesF ((l.take k).map (·.name)) = 0) ∧ Hid (copiesFrom ((l.take k).map (·.name)) (l.drop k) = copiesF l)) (fun _ i _ => l.length - (intOf i).toNat)
  case atStart => exact ⟨0, Nat.zero_le _, rfl, Below.refl _ _, Own.nil_, rfl, rfl⟩
  case round =>
    obtain ⟨k, hk, rfl, hb, HO, HN, HE⟩ := hrel
    by_cases hlt : k < l.length
    · obtain ⟨b, off, rfl, hfb, c0, c1, c2⟩ := copAt (HV.out.below hb HF.out) k hlt
      obtain ⟨s1, s2⟩ := HSZ.out l[k] (List.getElem_mem _)
      have hst := copiesFrom_step l k hlt
      have HNX := Lib.hid (show ((l.take (k + 1)).map (·.name)) = ((l.take k).map (·.name)) ++ [l[k].name] by rw [List.take_succ_eq_append_getElem hlt, List.map_append]; rfl)
      have HSX := Lib.hid (show ∀ y ∈ ((l.take k).map (·.name)) ++ [l[k].name], y.size ≤ 140737488355328 by
        intro y hy
        rw [List.mem_append] at hy
        rcases hy with hy | hy
        · obtain ⟨z, hz, rfl⟩ := List.mem_map.1 hy
          exact (HSZ.out z (List.mem_of_mem_take hz)).1
        · rw [List.mem_singleton] at hy; subst hy; exact (HSZ.out l[k] (List.getElem_mem _)).1)
      have hpl : ((l.take k).map (·.name)).length = k := by rw [List.length_map, List.length_take]; omega
      generalize l[k] = x at *
      have HST := Lib.hid hst; clear hst
      generalize hpre : ((l.take k).map (·.name)) = pre at *
      clear hpre
      have HS2 := Lib.hid (namesF_snoc pre x.name HN.out)
      have hws := hb.size
      have hvb : ∀ g, u3.ownBlock = some g → g < wr.heap.size := fun g e => (HO.out.block g e).2
      have HVB := Lib.hid hvb; clear hvb
      go_wp2_with (at_builtin; (refine wpList_pushB (R := strR) rfl _ _ _ rfl w.heap.size w.heap.size 9 i0 _ 16 Tryd.underlying23 hi0 hz0 hz1 hz2 rfl (by decide) _ u3 pre rfl ((HO.out.alloc _).alloc _) x.name [.string x.name] rfl (oneC rfl) (wr.heap.size + 1) _ _ (alloc2_at wr _ _ _) rfl (by simp [maxLen]; omega) (by omega) (by simp; omega) ?_); intro g cap w1 hown1 hg1 hat1 hlt1)
      have hg1s := hg1.size
      simp at hg1s
      have d0 : w1.cell? ⟨wr.heap.size, 0, none⟩ = some (.string x.name) := by rw [hg1.cell_far _ (by simp; omega) (fun e => by have := HVB.out _ e.symm; simp at this)]; go_simp
      have d1 : w1.cell? ⟨wr.heap.size, 1, none⟩ = some (.int .i64 x.size) := by rw [hg1.cell_far _ (by simp; omega) (fun e => by have := HVB.out _ e.symm; simp at this)]; go_simp
      have d2 : w1.cell? ⟨wr.heap.size, 2, none⟩ = some (.string x.sum) := by rw [hg1.cell_far _ (by simp; omega) (fun e => by have := HVB.out _ e.symm; simp at this)]; go_simp
      have HB1 := Lib.hid (((hb.alloc hb.size _).alloc (by simp; omega) _).grown hg1 (by simp; omega) (fun g e => (HO.out.block g e).1))
      have HOW := Lib.hid hown1
      have HSL := Lib.hid (hown1.sli (F := fun b => b < w1.heap.size) (fun b _ h => h) (fun g2 e => by have e' : some g = some g2 := e; injection e' with e'; show g2 < w1.heap.size; omega))
      clear hown1 hg1 c0 c1 c2 hat1
      rw [hpl] at HSL HOW
      refine (namesFault_c (pre ++ [x.name]) _ (fun b => b < w1.heap.size) w1 HSL.out (fun b h => h) HSX.out).mono ?_
      rintro e w2 ⟨rfl, hb2⟩
      rw [HS2.out]
      have hz2 := hb2.size
      have e0 := (hb2.cell (p := ⟨wr.heap.size, 0, none⟩) (by simp; omega)).trans d0
      have e1 := (hb2.cell (p := ⟨wr.heap.size, 1, none⟩) (by simp; omega)).trans d1
      have e2 := (hb2.cell (p := ⟨wr.heap.size, 2, none⟩) (by simp; omega)).trans d2
      have HB2 := Lib.hid (HB1.out.trans (hb2.mono HB1.out.size))
      have HB12 := Lib.hid hb2
      clear d0 d1 d2 hb2
      by_cases n0 : nameF pre x.name = 0
      · by_cases z0 : x.size < 0
        · have HR := Lib.hid (show copiesF l = 1 by rw [← HE.out, HST.out, if_neg (by unfold copyF; simp [n0, z0])]; unfold copyF; simp [n0, z0])
          rw [n0]
          go_wp2
          go_ret
          exact ⟨ret_int HR.out.symm, HB2.out⟩
        · by_cases z1 : x.sum.size = 16
          · rw [n0]
            have NZ := Lib.hid z0
            have HN0 := Lib.hid n0; clear n0
            have hz1 : (x.sum.size : Int) = 16 := by omega
            have HMD := Lib.hid (fun W => made_c x.sum ⟨#[48, 49, 50, 51, 52, 53, 54, 55, 56, 57, 97, 98, 99, 100, 101, 102]⟩ W s2 (by decide) (by decide))
            go_wp2_with fail
            refine (HMD.out _).mono ?_
            rintro e w3 ⟨rfl, hb3⟩
            have HX := Lib.hid (hexC_eq x.sum)
            rw [HX.out]
            have HB3 := Lib.hid (HB2.out.trans (hb3.mono HB2.out.size))
            have HB13 := Lib.hid (HB12.out.trans (hb3.mono HB12.out.size)); clear hb3
            cases hh : allB hexC x.sum with
            | true =>
              have HR := Lib.hid (show copyF pre x = 0 by unfold copyF; simp [HN0.out, eq_false (Int.not_lt.2 NZ.out), z1, hh])
              go_wp2
              go_roundw
              case rel =>
                exact ⟨k + 1, by omega, intNum, HB3.out, by rw [HNX.out]; exact HOW.out.below HB13.out, by rw [HNX.out]; exact HS2.out.trans HN0.out, (HST.out.trans (if_pos HR.out)).symm.trans HE.out⟩
              case measure => simp [intOf]; omega
            | false =>
              have HR := Lib.hid (show copiesF l = 3 by rw [← HE.out, HST.out, if_neg (by unfold copyF; simp [HN0.out, eq_false (Int.not_lt.2 NZ.out), z1, hh])]; unfold copyF; simp [HN0.out, eq_false (Int.not_lt.2 NZ.out), z1, hh])
              go_wp2
              go_ret
              exact ⟨ret_int HR.out.symm, HB3.out⟩
          · have HR := Lib.hid (show copiesF l = 3 by rw [← HE.out, HST.out, if_neg (by unfold copyF; simp [n0, z0, z1])]; unfold copyF; simp [n0, z0, z1])
            have hz1 : ¬ (x.sum.size : Int) = 16 := by omega
            rw [n0]
            go_wp2
            go_ret
            exact ⟨ret_int HR.out.symm, HB2.out⟩
      · have HR := Lib.hid (show copiesF l = nameF pre x.name by rw [← HE.out, HST.out, if_neg (by unfold copyF; simp [n0])]; unfold copyF; simp [n0])
        generalize nameF pre x.name = v at *
        go_wp2
        go_ret
        exact ⟨ret_int HR.out.symm, HB2.out⟩
    · have H := copiesFrom_end l k ((l.take k).map (·.name)) (by omega)
      have HR := Lib.hid (show copiesF l = 0 by rw [← HE.out, H])
      clear H
      go_wp2
      go_ret
      exact ⟨ret_int HR.out.symm, hb⟩
end Go.Proofs.YtnjbbkocobegiaaDoor
