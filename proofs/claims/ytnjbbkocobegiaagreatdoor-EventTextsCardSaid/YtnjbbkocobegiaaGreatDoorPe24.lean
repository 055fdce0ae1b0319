/- Texts packed: EvQ. -/
import Derived.Test.YtnjbbkocobegiaaGreatDoorPe20
import Derived.Test.YtnjbbkocobegiaaGreatDoorPe01
import Derived.Test.YtnjbbkocobegiaaGreatDoorPe13
import Derived.BigQuiet
import Derived.Deep.QuietTactic
/- The reference's printing of events, walked. -/
namespace Go.Proofs.YtnjbbkocobegiaaGreatDoor
set_option linter.unusedVariables false
open Go.RowKit Go.Sort

def padS (j : Nat) (n : Int) : ByteArray := ⟨(Lib.repeatL [48] j ++ Lib.itoa n).toArray⟩
theorem padS_size (j : Nat) (n : Int) : (padS j n).size = j + (Lib.itoa n).length := by
  show (Lib.repeatL [48] j ++ Lib.itoa n).toArray.size = _
  rw [List.size_toArray, List.length_append, Lib.repeatL_length]; simp
theorem padS_zero (n : Int) : padS 0 n = ⟨(Lib.itoa n).toArray⟩ := rfl
theorem padS_succ (j : Nat) (n : Int) : (⟨#[48]⟩ ++ padS j n : ByteArray) = padS (j + 1) n := by
  apply ByteArray.ext
  simp [padS, Lib.repeatL]
theorem padS_end (j : Nat) (n : Int) (h : j = 3 - (Lib.itoa n).length) : padS j n = num3 n := by subst h; rfl

set_option maxRecDepth 100000 in
set_option maxHeartbeats 4000000 in
theorem EventsText_c (A : Option Addr) (l : List Roll) (c lo : Nat) (es : List Ev) (v : Value) (F : Nat → Prop) (w : World) (hr : Rs w lo w.heap.size 5 Roll.cells A l) (hlen : l.length ≤ 140737488355328) (hg : 0 < es.length → evErrA l es = 0) (hv : Sli evR w F es v) (hF : ∀ b, F b → b < w.heap.size) (hes : ∀ x ∈ es, x.roll.size ≤ 1000) (hp : PowLaid w) :
    Calls Tryz.prog 22 #[.slice A l.length c, v] w fun e w' => e = .returned (.string ⟨(evText l 1 0 es).toArray⟩) ∧ Below w.heap.size w w' := by
  obtain ⟨A2, c2, rfl, hlc, hcm⟩ := hv.form
  have HR := Lib.hid hr; clear hr
  have HV := Lib.hid hv; clear hv
  have HF := Lib.hid hF; clear hF
  have HS := Lib.hid hes; clear hes
  have HP := Lib.hid hp; clear hp
  have HG := Lib.hid hg
  have hle : es.length ≤ 999 := by
    by_cases h : 0 < es.length
    · exact (evErrA_ok (hg h)).2.1
    · omega
  clear hg
  obtain ⟨i0, hi0, hz0, hz1, hz2⟩ := info_parts (show (Tryz.prog.info? 9).map (fun i => (i.zero, i.size, i.bytes)) = some (some (.string ⟨#[]⟩), 1, 16) by kernel_rfl)
  go_enter Tryz.func22, Tryz.ntmps22
  go_wp2
  go_loopw [5, 6, 15] (fun v at_ i wr => ∃ (k : Nat) (ls : List ByteArray), k ≤ es.length ∧ i = .int .i64 k ∧ at_ = .int .i64 (evSum (es.take k)) ∧ ls.length = k ∧ w.heap.size ≤ wr.heap.size ∧ Hid (Below w.heap.size w wr) ∧ Hid (Own strR wr w.heap.size w.heap.size 9 ls v) ∧ Hid (linesL ls = evText l 1 0 (es.take k))) (fun _ _ i _ => es.length - (intOf i).toNat)
  case atStart => exact ⟨0, [], Nat.zero_le _, rfl, rfl, rfl, Nat.le_refl _, Below.refl _ _, Own.nil_, rfl⟩
  case round =>
    obtain ⟨k, ls, hk, rfl, rfl, hlk, hz, HB, HO, HT⟩ := hrel
    by_cases hlt : k < es.length
    · have HG' := Lib.hid (HG.out (by omega))
      have H0 := Lib.hid (erA0 HG'.out)
      obtain ⟨be, off, rfl, hfb, c0, c1, c2'⟩ := evAt (HV.out.below HB.out HF.out) k hlt
      obtain ⟨q, hh, hq, hrr, hfr, p1, p2, p3, p4, p5, p6, p7, p8, p9⟩ := ev_print HG'.out k hlt
      have HST := Lib.hid (evText_step l es k hlt)
      have HSM := Lib.hid (evSum_take es k hlt)
      have hln := evLine_le l ((k : Int) + 1) (evSum (es.take k)) es[k] ⟨by omega, by omega⟩ (HS.out _ (List.getElem_mem hlt))
      have hrz := HS.out _ (List.getElem_mem hlt)
      generalize es[k] = x at *
      generalize evSum (es.take k) = sm at *
      have HB0 := Lib.hid (HB.out.alloc hz (.cells #[.string x.roll, .int .i64 x.tin, .int .i64 x.tout] 44))
      have HO0 := Lib.hid (HO.out.alloc (.cells #[.string x.roll, .int .i64 x.tin, .int .i64 x.tout] 44))
      go_wp2_with fail
      refine (rollOfR_c A l c lo x.roll _ (((HR.out.below HB.out (Nat.le_refl _)).alloc hz _).more (Nat.le_refl _) (by simp; omega)) hlen (rollNames H0.out)).mono ?_
      rintro e w3 ⟨rfl, hb3⟩
      have hz3 := hb3.size
      simp at hz3
      have d0 := (hb3.cell (p := ⟨wr.heap.size, 0, none⟩) (by simp)).trans (show _ = some (.string x.roll) by go_simp)
      have d1 := (hb3.cell (p := ⟨wr.heap.size, 1, none⟩) (by simp)).trans (show _ = some (.int .i64 x.tin) by go_simp)
      have d2 := (hb3.cell (p := ⟨wr.heap.size, 2, none⟩) (by simp)).trans (show _ = some (.int .i64 x.tout) by go_simp)
      have HB3 := Lib.hid (HB0.out.trans (hb3.mono HB0.out.size))
      have HO3 := Lib.hid (HO0.out.below hb3)
      clear hb3 HB0 c0 c1 c2' HB HO HO0
      have hlx : lineL (evLine l ((k : Int) + 1) sm x) = lineL [num3 ((k : Int) + 1), x.roll, codeS q x.tin, codeS q (x.tout - 1), codeS q sm, codeS q (sm + (x.tout - x.tin) - 1)] := by unfold evLine; rw [hq]
      rw [hlx] at hln
      have HLX := Lib.hid hlx
      have HQ := Lib.hid hq
      rw [hh, hq]
      have HH := Lib.hid hh
      clear hlx hq hh
      generalize rollGet l x.roll = R at *
      have hz3' : wr.heap.size < w3.heap.size := by omega
      have HRR := Lib.hid hrr
      clear hrr
      have HOK := Lib.hid (show okI ((k : Int) + 1) from ⟨by omega, by omega⟩)
      have hitl := Lib.itoa_length_le ((k : Int) + 1) (by omega) (by omega)
      go_wp2_with fail
      generalize hW : w3.alloc (.cells #[.string R.name, .int .i64 q, .int .i64 R.start, .int .i64 R.long, .int .i64 R.drift] 70) = W
      have HPW := Lib.hid (show PowLaid W by rw [← hW]; exact pow_below HP.out (HB3.out.alloc (by omega) _) (Nat.le_refl _))
      have t0 : W.cell? ⟨wr.heap.size, 0, none⟩ = some (.string x.roll) := by rw [← hW, World.cell?_alloc_lt w3 _ _ (by exact hz3')]; exact d0
      have t1 : W.cell? ⟨wr.heap.size, 1, none⟩ = some (.int .i64 x.tin) := by rw [← hW, World.cell?_alloc_lt w3 _ _ (by exact hz3')]; exact d1
      have t2 : W.cell? ⟨wr.heap.size, 2, none⟩ = some (.int .i64 x.tout) := by rw [← hW, World.cell?_alloc_lt w3 _ _ (by exact hz3')]; exact d2
      have t3 : W.cell? ⟨w3.heap.size, 1, none⟩ = some (.int .i64 q) := by rw [← hW, (str_cells (heap_alloc_new w3 _)).1]; rfl
      have HOW := Lib.hid (show Own strR W w.heap.size w.heap.size 9 ls u5 by rw [← hW]; exact HO3.out.alloc _)
      have HBW := Lib.hid (show Below w.heap.size w W by rw [← hW]; exact HB3.out.alloc (by omega) _)
      have hzW : w3.heap.size < W.heap.size := by rw [← hW]; simp
      clear hW d0 d1 d2 HO3 HB3
      refine (itoa_c ((k : Int) + 1) _ HOK.out HPW.out).mono ?_
      rintro e w4 ⟨rfl, hb4⟩
      have hz4 := hb4.size
      have HBV := Lib.hid (HBW.out.trans (hb4.mono (by omega)))
      have HOV := Lib.hid (HOW.out.below hb4)
      have y0 := (hb4.cell (p := ⟨wr.heap.size, 0, none⟩) (by show wr.heap.size < _; omega)).trans t0
      have y1 := (hb4.cell (p := ⟨wr.heap.size, 1, none⟩) (by show wr.heap.size < _; omega)).trans t1
      have y2 := (hb4.cell (p := ⟨wr.heap.size, 2, none⟩) (by show wr.heap.size < _; omega)).trans t2
      have y3 := (hb4.cell (p := ⟨w3.heap.size, 1, none⟩) (by show w3.heap.size < _; omega)).trans t3
      clear hb4 t0 t1 t2 t3 HBW HOW HPW
      rw [← padS_zero]
      go_wp2
      go_loop [11] (fun s => ∃ j : Nat, j ≤ 3 - (Lib.itoa ((k : Int) + 1)).length ∧ s = .string (padS j ((k : Int) + 1))) (fun s => match s with | .string t => 100 - t.size | _ => 0)
      case atStart => exact ⟨0, Nat.zero_le _, rfl⟩
      case round =>
        obtain ⟨j, hj, rfl⟩ := hrel
        have hps := padS_size j ((k : Int) + 1)
        by_cases h3 : (padS j ((k : Int) + 1)).size < 3
        · have HPS := Lib.hid (padS_succ j ((k : Int) + 1))
          have hps2 := padS_size (j + 1) ((k : Int) + 1)
          generalize hPJ : padS j ((k : Int) + 1) = pj at *
          go_wp2
          go_round
          case rel => exact ⟨j + 1, by omega, by rw [HPS.out]⟩
          case measure => simp; have : (⟨#[48]⟩ : ByteArray).size = 1 := rfl; omega
        · have hje : j = 3 - (Lib.itoa ((k : Int) + 1)).length := by omega
          rw [padS_end j _ hje] at h3 hps ⊢
          have hn3 := num3_size ((k : Int) + 1) HOK.out
          clear hps hje hj hitl
          go_upto_region 11 with (fail)
          have s0 := fun d os => cell_regrown y0 d os
          have s1 := fun d os => cell_regrown y1 d os
          have s2 := fun d os => cell_regrown y2 d os
          have s3 := fun d os => cell_regrown y3 d os
          clear y0 y1 y2 y3
          have e2 : IntKind.i64.wrap (x.tout - 1) = x.tout - 1 := IntWalk.i64_in _ (by omega)
          have e3 : IntKind.i64.wrap (sm + (x.tout - x.tin)) = sm + (x.tout - x.tin) := IntWalk.i64_in _ (by omega)
          have e4 : IntKind.i64.wrap (sm + (x.tout - x.tin) - 1) = sm + (x.tout - x.tin) - 1 := IntWalk.i64_in _ (by omega)
          refine wp_region_below_tail1 (v0 := u5) 26 (by kernel_rfl) (by kernel_rfl) (by kernel_rfl) (by kernel_rfl) (fun _ _ _ h => h) (Or.inl ⟨by rfl, fun w => by rfl⟩) ?_
          simp only [List.take_succ_cons, List.take_zero, List.drop_succ_cons, List.drop_zero, Act.put, List.setIfInBounds_toArray, List.set_cons_zero, List.set_cons_succ]
          repeat (first | go_big_quiet_step ((go_at_call 61; exact Calls.regrown_of (CodeOf_c _ _ _ HRR.out (by assumption) (by assumption)))) | quiet_step ((go_at_call 61; exact Calls.regrown_of (CodeOf_c _ _ _ HRR.out (by assumption) (by assumption)))))
          refine wpQuiet_nil ?_
          intro wx hwx
          have hbx := below_of_regrown hwx
          clear hwx
          clear s0 s1 s2 s3 e2 e3 e4
          have hzx := hbx.size
          have HO6 := Lib.hid (HOV.out.below hbx)
          have HB6 := Lib.hid (HBV.out.trans (hbx.mono (HBV.out.size)))
          clear hbx HOV HBV
          obtain ⟨X, hX⟩ : ∃ X : ByteArray, (⟨(Lib.join (([num3 ((k : Int) + 1), x.roll, codeS q x.tin, codeS q (x.tout - 1), codeS q sm, codeS q (sm + (x.tout - x.tin) - 1)] : List ByteArray).map (·.data.toList)) (⟨#[32]⟩ : ByteArray).data.toList).toArray⟩ : ByteArray) = X := ⟨_, rfl⟩
          have hxs : X.size ≤ 1080 := by rw [← hX]; show (lineL _).toArray.size ≤ 1080; simpa using hln
          have HLX2 := Lib.hid (show lineL (evLine l ((k : Int) + 1) sm x) = X.data.toList by rw [HLX.out, ← hX]; rfl)
          have HX0 := Lib.hid hX
          clear hX hln
          go_wp2_with fail
          refine (joinX [num3 ((k : Int) + 1), x.roll, codeS q x.tin, codeS q (x.tout - 1), codeS q sm, codeS q (sm + (x.tout - x.tin) - 1)] ⟨#[32]⟩ X _ _ _ HX0.out (by omega) (strLit wx _ _ _ 6 rfl rfl (by decide)) (fun b h => by simp; omega) (by simp)).mono ?_
          rintro e w7 ⟨rfl, hb7⟩
          have hz7 := hb7.size
          simp at hz7
          have HO7 := Lib.hid ((HO6.out.alloc _).below hb7)
          have HB7 := Lib.hid ((HB6.out.alloc (by omega) _).trans (hb7.mono (by simp; omega)))
          have HV7 := Lib.hid (fun g e => (HO7.out.block g e).1)
          clear hb7 HO6 HB6
          go_wp2_with (at_builtin; (refine wpList_pushB (R := strR) rfl _ _ _ rfl w.heap.size w.heap.size 9 i0 _ 16 Tryz.underlying106 hi0 hz0 (by assumption) (by assumption) rfl (by decide) _ u5 ls rfl (HO7.out.alloc _) X _ rfl (oneC rfl) w7.heap.size _ _ (heap_alloc_new w7 _) rfl (by simp [maxLen]; omega) (by omega) (by simp; omega) ?_); intro g cap w8 hown8 hg8 hat8 hlt8)
          have hz8 := hg8.size
          simp at hz8
          go_roundw
          case rel => exact ⟨k + 1, ls ++ [X], by omega, intNum, by rw [HSM.out], by simp; omega, by omega, (HB7.out.alloc (by omega) _).grown hg8 (by simp; omega) HV7.out, by rw [hlk] at hown8; exact hown8, by show linesL _ = _; rw [linesL_snoc, HT.out, HST.out, HLX2.out]⟩
          case measure => simp [intOf]; omega
    · rw [List.take_of_length_le (by omega)] at HT
      have htl := evText_le l es HS.out 1 0 (by omega) (by omega)
      have hll : (linesL ls).length ≤ 140737488355328 := by rw [HT.out]; omega
      have hcc := Joined_c ls u5 (fun b => w.heap.size ≤ b ∧ b < wr.heap.size) wr (HO.out.sli (fun q h1 h2 => ⟨h1, h2⟩) (fun g hg => HO.out.block g hg)) (fun b h => h.2) hll
      have HC := Lib.hid hcc
      clear hcc hll htl
      go_wp2_with fail
      refine HC.out.mono ?_
      rintro e w3 ⟨rfl, hb3⟩
      have HB3 := Lib.hid (HB.out.trans (hb3.mono hz))
      clear hb3
      rw [HT.out]
      go_wp2
      go_ret
      exact ⟨rfl, HB3.out⟩
end Go.Proofs.YtnjbbkocobegiaaGreatDoor

