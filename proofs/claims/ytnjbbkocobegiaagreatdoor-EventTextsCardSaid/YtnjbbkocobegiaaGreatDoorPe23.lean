/- Texts packed: EvP. -/
import Derived.Test.YtnjbbkocobegiaaGreatDoorPe20
import Derived.Test.YtnjbbkocobegiaaGreatDoorPe01
import Derived.Test.YtnjbbkocobegiaaGreatDoorPe04
import Derived.BigQuiet
import Derived.Deep.QuietTactic
/- The program's printing of events, walked. -/
namespace Go.Proofs.YtnjbbkocobegiaaGreatDoor
set_option linter.unusedVariables false
open Go.RowKit Go.Sort

set_option maxRecDepth 100000 in
set_option maxHeartbeats 1000000 in
theorem PrintEvents_c (A : Option Addr) (l : List Roll) (c lo : Nat) (es : List Ev) (v : Value) (F : Nat → Prop) (w : World) (hr : Rs w lo w.heap.size 5 Roll.cells A l) (hlen : l.length ≤ 140737488355328) (hsz : ∀ r ∈ l, r.name.size ≤ 140737488355328) (hv : Sli evR w F es v) (hF : ∀ b, F b → b < w.heap.size) (hes : ∀ x ∈ es, x.roll.size ≤ 1000) (hp : PowLaid w) :
    Calls Tryz.prog 20 #[.slice A l.length c, v] w fun e w' => e = .returned (.tuple #[.string (evOut l es), .int .i64 (evErrA l es)]) ∧ Below w.heap.size w w' := by
  obtain ⟨A2, c2, rfl, hlc, hcm⟩ := hv.form
  have HR := Lib.hid hr; clear hr
  have HV := Lib.hid hv; clear hv
  have HF := Lib.hid hF; clear hF
  have HZ := Lib.hid hsz; clear hsz
  have HS := Lib.hid hes; clear hes
  have HP := Lib.hid hp; clear hp
  by_cases h0 : rollsFault l = 0
  case neg =>
    have HE := Lib.hid (show evErrA l es = rollsFault l from if_pos h0)
    have HO := Lib.hid (show evOut l es = ⟨#[]⟩ from if_neg (by rw [HE.out]; exact h0))
    have hne : (rollsFault l != 0) = true := by rw [bne_iff_ne]; exact h0
    go_enter Tryz.func20, Tryz.ntmps20
    go_wp2_with fail
    refine (CheckRolls_c A l c lo _ HR.out hlen HZ.out).mono ?_
    rintro e w1 ⟨rfl, hb1⟩
    have HB1 := Lib.hid hb1
    clear hb1 h0
    go_wp2
    go_ret2
    exact ⟨by rw [HE.out, HO.out]; rfl, HB1.out⟩
  have H0 := Lib.hid h0
  have HAA := Lib.hid (show evErrA l es = evErr l es from if_neg (by rw [h0]; simp))
  by_cases g1 : evErr l es = 0
  case neg =>
    have HO := Lib.hid (show evOut l es = ⟨#[]⟩ from if_neg (by rw [HAA.out]; exact g1))
    have hne : (evErr l es != 0) = true := by rw [bne_iff_ne]; exact g1
    go_enter Tryz.func20, Tryz.ntmps20
    go_wp2_with fail
    refine (CheckRolls_c A l c lo _ HR.out hlen HZ.out).mono ?_
    rintro e w1 ⟨rfl, hb1⟩
    rw [h0]
    have hz1 := hb1.size
    have HB1 := Lib.hid hb1
    clear hb1 h0 g1
    go_wp2_with fail
    refine (eventsFault_c A l c lo es _ F _ ((HR.out.below HB1.out (Nat.le_refl _)).more (Nat.le_refl _) hz1) hlen H0.out (HV.out.below HB1.out HF.out) (fun b h => Nat.lt_of_lt_of_le (HF.out b h) hz1)).mono ?_
    rintro e w2 ⟨rfl, hb2⟩
    have HB2 := Lib.hid (HB1.out.trans (hb2.mono hz1))
    clear hb2
    go_wp2
    go_ret2
    exact ⟨by rw [HAA.out, HO.out]; rfl, HB2.out⟩
  have HG := Lib.hid (HAA.out.trans g1)
  have HO := Lib.hid (show evOut l es = ⟨(evText l 1 0 es).toArray⟩ from if_pos (HAA.out.trans g1))
  have hle : es.length ≤ 999 := (evErrA_ok HG.out).2.1
  go_enter Tryz.func20, Tryz.ntmps20
  go_wp2_with fail
  refine (CheckRolls_c A l c lo _ HR.out hlen HZ.out).mono ?_
  rintro e w1 ⟨rfl, hb1⟩
  rw [h0]
  have hz1 := hb1.size
  have HB1 := Lib.hid hb1
  clear hb1 h0
  go_wp2_with fail
  refine (eventsFault_c A l c lo es _ F _ ((HR.out.below HB1.out (Nat.le_refl _)).more (Nat.le_refl _) hz1) hlen H0.out (HV.out.below HB1.out HF.out) (fun b h => Nat.lt_of_lt_of_le (HF.out b h) hz1)).mono ?_
  rintro e w2 ⟨rfl, hb2⟩
  rw [g1]
  have hz2 : w.heap.size ≤ w2.heap.size := by have := hb2.size; omega
  have HB2 := Lib.hid (HB1.out.trans (hb2.mono hz1))
  clear hb2 g1 hz1 HB1
  go_wp2
  go_loopw [9, 28] (fun at_ i wr => ∃ k : Nat, k ≤ es.length ∧ i = .int .i64 k ∧ at_ = .int .i64 (evSum (es.take k)) ∧ Below w.heap.size w wr ∧ w2.heap.size < wr.heap.size ∧ Hid (Bld wr w2.heap.size (evText l 1 0 (es.take k)))) (fun _ i _ => es.length - (intOf i).toNat)
  case atStart => exact ⟨0, Nat.zero_le _, rfl, rfl, HB2.out.alloc hz2 _, by simp, Bld.new w2⟩
  case round =>
    obtain ⟨k, hk, rfl, rfl, hb, hz, HB⟩ := hrel
    have HBw := Lib.hid hb
    by_cases hlt : k < es.length
    · obtain ⟨be, off, rfl, hfb, c0, c1, c2'⟩ := evAt (HV.out.below hb HF.out) k hlt
      obtain ⟨q, hh, hq, hrr, hfr, p1, p2, p3, p4, p5, p6, p7, p8, p9⟩ := ev_print HG.out k hlt
      have HST := Lib.hid (evText_step l es k hlt)
      have HSM := Lib.hid (evSum_take es k hlt)
      have hln := evLine_le l ((k : Int) + 1) (evSum (es.take k)) es[k] ⟨by omega, by omega⟩ (HS.out _ (List.getElem_mem hlt))
      have htl := evText_le l (es.take k) (fun x hx => HS.out x (List.mem_of_mem_take hx)) 1 0 (by omega) (by rw [List.length_take]; omega)
      have htk : (es.take k).length ≤ 999 := by rw [List.length_take]; omega
      have hrz := HS.out _ (List.getElem_mem hlt)
      generalize es[k] = x at *
      generalize evSum (es.take k) = sm at *
      generalize evText l 1 0 (es.take k) = tx at *
      have HB0 := Lib.hid (hb.alloc hb.size (.cells #[.string x.roll, .int .i64 x.tin, .int .i64 x.tout] 44))
      have hwz := hb.size
      go_wp2_with fail
      refine (rollOf_c A l c lo x.roll _ (((HR.out.below hb (Nat.le_refl _)).alloc hb.size _).more (Nat.le_refl _) (by simp; omega)) hlen).mono ?_
      rintro e w3 ⟨rfl, hb3⟩
      have hz3 := hb3.size
      simp at hz3
      have d0 := (hb3.cell (p := ⟨wr.heap.size, 0, none⟩) (by simp)).trans (show _ = some (.string x.roll) by go_simp)
      have d1 := (hb3.cell (p := ⟨wr.heap.size, 1, none⟩) (by simp)).trans (show _ = some (.int .i64 x.tin) by go_simp)
      have d2 := (hb3.cell (p := ⟨wr.heap.size, 2, none⟩) (by simp)).trans (show _ = some (.int .i64 x.tout) by go_simp)
      have HB3 := Lib.hid (HB0.out.trans (hb3.mono HB0.out.size))
      have HX3 := Lib.hid ((HB.out.alloc (.cells #[.string x.roll, .int .i64 x.tin, .int .i64 x.tout] 44)).below hb3)
      clear hb3 HB0 c0 c1 c2' HB
      have hlx : lineL (evLine l ((k : Int) + 1) sm x) = lineL [num3 ((k : Int) + 1), x.roll, codeS q x.tin, codeS q (x.tout - 1), codeS q sm, codeS q (sm + (x.tout - x.tin) - 1)] := by unfold evLine; rw [hq]
      rw [hlx] at hln
      have HLX := Lib.hid hlx
      have HQ := Lib.hid hq
      rw [hh, hq]
      have HH := Lib.hid hh
      clear hlx hq hh
      generalize rollGet l x.roll = R at *
      have hz3' : wr.heap.size < w3.heap.size := by omega
      have HRR := Lib.hid hrr
      clear hrr
      go_upto_region 14 with (fail)
      generalize hW : w3.alloc (.cells #[.string R.name, .int .i64 q, .int .i64 R.start, .int .i64 R.long, .int .i64 R.drift] 70) = W
      have HPW := Lib.hid (show PowLaid W by rw [← hW]; exact pow_below HP.out (HB3.out.alloc (by omega) _) (Nat.le_refl _))
      have t0 : W.cell? ⟨wr.heap.size, 0, none⟩ = some (.string x.roll) := by rw [← hW, World.cell?_alloc_lt w3 _ _ (by exact hz3')]; exact d0
      have t1 : W.cell? ⟨wr.heap.size, 1, none⟩ = some (.int .i64 x.tin) := by rw [← hW, World.cell?_alloc_lt w3 _ _ (by exact hz3')]; exact d1
      have t2 : W.cell? ⟨wr.heap.size, 2, none⟩ = some (.int .i64 x.tout) := by rw [← hW, World.cell?_alloc_lt w3 _ _ (by exact hz3')]; exact d2
      have t3 : W.cell? ⟨w3.heap.size, 1, none⟩ = some (.int .i64 q) := by rw [← hW, (str_cells (heap_alloc_new w3 _)).1]; rfl
      have HXW := Lib.hid (show Bld W w2.heap.size tx by rw [← hW]; exact HX3.out.alloc _)
      have HBW := Lib.hid (show Below w.heap.size w W by rw [← hW]; exact HB3.out.alloc (by omega) _)
      have hzW : w3.heap.size < W.heap.size := by rw [← hW]; simp
      clear hW d0 d1 d2 HX3 HB3
      have s0 := fun d os => cell_regrown t0 d os
      have s1 := fun d os => cell_regrown t1 d os
      have s2 := fun d os => cell_regrown t2 d os
      have s3 := fun d os => cell_regrown t3 d os
      clear t0 t1 t2 t3
      have e1 : IntKind.i64.wrap ((k : Int) + 1) = (k : Int) + 1 := IntWalk.i64_in _ (by omega)
      have e2 : IntKind.i64.wrap (x.tout - 1) = x.tout - 1 := IntWalk.i64_in _ (by omega)
      have e3 : IntKind.i64.wrap (sm + (x.tout - x.tin)) = sm + (x.tout - x.tin) := IntWalk.i64_in _ (by omega)
      have e4 : IntKind.i64.wrap (sm + (x.tout - x.tin) - 1) = sm + (x.tout - x.tin) - 1 := IntWalk.i64_in _ (by omega)
      have HOK := Lib.hid (show okI ((k : Int) + 1) from ⟨by omega, by omega⟩)
      refine wp_region_below_tail 27 (by kernel_rfl) (by kernel_rfl) ?_
      simp only [List.take_succ_cons, List.take_zero, List.drop_succ_cons, List.drop_zero]
      repeat (first | go_big_quiet_step ((first | (go_at_call 55; exact Calls.regrown_of (numbered_c _ _ HOK.out (pow_below HPW.out (below_regrown _ _ _) (Nat.le_refl _)))) | (go_at_call 56; exact Calls.regrown_of (code_c _ _ _ HRR.out (by assumption) (by assumption))))) | quiet_step ((first | (go_at_call 55; exact Calls.regrown_of (numbered_c _ _ HOK.out (pow_below HPW.out (below_regrown _ _ _) (Nat.le_refl _)))) | (go_at_call 56; exact Calls.regrown_of (code_c _ _ _ HRR.out (by assumption) (by assumption))))))
      refine wpQuiet_nil ?_
      intro wx hwx
      have hbx := below_of_regrown hwx
      clear hwx
      clear s0 s1 s2 s3 e1 e2 e3 e4
      have hzx := hbx.size
      have HX6 := Lib.hid (HXW.out.below hbx)
      have HB6 := Lib.hid (HBW.out.trans (hbx.mono (HBW.out.size)))
      clear hbx HXW HBW HPW
      obtain ⟨X, hX⟩ : ∃ X : ByteArray, (⟨(Lib.join (([num3 ((k : Int) + 1), x.roll, codeS q x.tin, codeS q (x.tout - 1), codeS q sm, codeS q (sm + (x.tout - x.tin) - 1)] : List ByteArray).map (·.data.toList)) (⟨#[32]⟩ : ByteArray).data.toList).toArray⟩ : ByteArray) = X := ⟨_, rfl⟩
      have hxs : X.size ≤ 1080 := by rw [← hX]; show (lineL _).toArray.size ≤ 1080; simpa using hln
      have HLX2 := Lib.hid (show lineL (evLine l ((k : Int) + 1) sm x) = X.data.toList by rw [HLX.out, ← hX]; rfl)
      have HX0 := Lib.hid hX
      clear hX hln
      go_wp2_with fail
      refine (joinX [num3 ((k : Int) + 1), x.roll, codeS q x.tin, codeS q (x.tout - 1), codeS q sm, codeS q (sm + (x.tout - x.tin) - 1)] ⟨#[32]⟩ X _ _ _ HX0.out (by omega) (strLit wx _ _ _ 6 rfl rfl (by decide)) (fun b h => by simp; omega) (by simp)).mono ?_
      rintro e w7 ⟨rfl, hb7⟩
      have hz7 := hb7.size
      simp at hz7
      have HX7 := Lib.hid ((HX6.out.alloc _).below hb7)
      have HB7 := Lib.hid ((HB6.out.alloc (by omega) _).trans (hb7.mono (by simp; omega)))
      clear hb7 HX6 HB6
      have HLD := Lib.hid (show (X ++ ⟨#[10]⟩ : ByteArray).data.toList = X.data.toList ++ [10] by simp)
      have HLZ := Lib.hid (show (X ++ ⟨#[10]⟩ : ByteArray).size = X.size + 1 by rw [ByteArray.size_append]; rfl)
      have hsz8 : tx.length + (X ++ ⟨#[10]⟩ : ByteArray).size ≤ 140737488355328 := by rw [HLZ.out]; omega
      go_wp2_with fail
      have hcc := write_c w2.heap.size tx (X ++ ⟨#[10]⟩) w7 HX7.out hsz8
      with_reducible refine hcc.mono ?_
      rintro e w8 ⟨rfl, hb8, hb8'⟩
      clear hcc

      clear hsz8
      have HB8 := Lib.hid (HB7.out.trans (hb8'.mono hz2))
      rw [HLD.out] at hb8
      have HX8 := Lib.hid hb8
      have hz8 := hb8'.size
      clear hb8 hb8'
      go_wp2
      go_roundw
      case rel => exact ⟨k + 1, by omega, intNum, by rw [HSM.out], HB8.out, by omega, by rw [HST.out, HLX2.out]; exact HX8.out⟩
      case measure => simp [intOf]; omega
    · rw [List.take_of_length_le (by omega)] at HB
      generalize evText l 1 0 es = q at *
      go_wp2_with fail
      refine (text_c w2.heap.size _ _ HB.out).mono ?_
      rintro e w3 ⟨rfl, hb3⟩
      have HB3 := Lib.hid (HBw.out.trans (hb3.mono hz2))
      clear hb3
      go_wp2
      go_ret2
      exact ⟨by rw [HO.out, HG.out]; rfl, HB3.out⟩
end Go.Proofs.YtnjbbkocobegiaaGreatDoor

