/- Texts packed: EvX. -/
import Derived.Test.YtnjbbkocobegiaaGreatDoorRows
import Derived.Test.YtnjbbkocobegiaaGreatDoorPe16
import Derived.Test.YtnjbbkocobegiaaGreatDoorPe18
/- The reference's error of events, walked. -/
namespace Go.Proofs.YtnjbbkocobegiaaGreatDoor
set_option linter.unusedVariables false
open Go.RowKit

theorem rollNames {l : List Roll} (h0 : rollsFault l = 0) : ∀ r ∈ l, rollNameB r.name = true := fun r hr => (rollsFault_ok l h0 r hr).2.2
theorem rateK_end (l : List Roll) (es : List Ev) : rateK l es es.length = evRate l es := by
  unfold rateK
  cases es with
  | nil => rfl
  | cons x r => rw [if_neg (by simp)]
set_option maxRecDepth 100000 in
set_option maxHeartbeats 3200000 in
theorem EventsFault_c (A : Option Addr) (l : List Roll) (c lo : Nat) (es : List Ev) (v : Value) (F : Nat → Prop) (w : World) (hr : Rs w lo w.heap.size 5 Roll.cells A l) (hlen : l.length ≤ c) (hc : c ≤ 140737488355328) (hsz : ∀ r ∈ l, r.name.size ≤ 140737488355328) (hv : Sli evR w F es v) (hF : ∀ b, F b → b < w.heap.size) :
    Calls Tryz.prog 21 #[.slice A l.length c, v] w fun e w' => e = .returned (.int .i64 (evErrA l es)) ∧ Below w.heap.size w w' := by
  obtain ⟨A2, c2, rfl, hlc, hcm⟩ := hv.form
  have HR := Lib.hid hr; clear hr
  have HV := Lib.hid hv; clear hv
  have HF := Lib.hid hF; clear hF
  have HZ := Lib.hid hsz; clear hsz
  have hlen' : l.length ≤ 140737488355328 := by omega
  by_cases h0 : rollsFault l = 0
  case neg =>
    have HE := Lib.hid (show evErrA l es = rollsFault l from if_pos h0)
    have hne : (rollsFault l != 0) = true := by rw [bne_iff_ne]; exact h0
    go_enter Tryz.func21, Tryz.ntmps21
    go_wp2_with fail
    refine (RollsFault_c A l c lo _ HR.out hlen hc HZ.out).mono ?_
    rintro e w1 ⟨rfl, hb1⟩
    have HB1 := Lib.hid hb1
    clear hb1 h0
    go_wp2
    go_ret
    exact ⟨by rw [HE.out]; rfl, HB1.out⟩
  have HAA := Lib.hid (show evErrA l es = evErr l es from if_neg (by rw [h0]; simp))
  have H0 := Lib.hid h0
  have HNM := Lib.hid (rollNames h0)
  by_cases g1 : 999 < es.length
  · have HE := Lib.hid (HAA.out.trans (show evErr l es = 2 from if_pos g1))
    go_enter Tryz.func21, Tryz.ntmps21
    go_wp2_with fail
    refine (RollsFault_c A l c lo _ HR.out hlen hc HZ.out).mono ?_
    rintro e w1 ⟨rfl, hb1⟩
    have HB1 := Lib.hid hb1
    rw [h0]
    clear hb1 h0
    go_wp2
    go_ret
    exact ⟨by rw [HE.out]; rfl, HB1.out⟩
  · have G1 := Lib.hid g1
    go_enter Tryz.func21, Tryz.ntmps21
    go_wp2_with fail
    refine (RollsFault_c A l c lo _ HR.out hlen hc HZ.out).mono ?_
    rintro e w0 ⟨rfl, hb0⟩
    have HB0' := Lib.hid hb0
    rw [h0]
    clear hb0 h0
    go_wp2
    go_loopw [6, 7, 27] (fun rt wh i wr => ∃ k : Nat, k ≤ es.length ∧ i = .int .i64 k ∧ rt = .int .i64 (rateK l es k) ∧ wh = .int .i64 (evSum (es.take k)) ∧ Below w.heap.size w wr ∧ Hid (∀ x ∈ es.take k, evF l (evRate l es) x = 0)) (fun _ _ i _ => es.length - (intOf i).toNat)
    case atStart => exact ⟨0, Nat.zero_le _, rfl, rfl, rfl, HB0'.out, fun x hx => by simp at hx⟩
    case round =>
      obtain ⟨k, hk, rfl, rfl, rfl, hb, HC⟩ := hrel
      have hwz := hb.size
      by_cases hlt : k < es.length
      · obtain ⟨be, off, rfl, hfb, c0, c1, c2'⟩ := evAt (HV.out.below hb HF.out) k hlt
        have hsb := evSum_bd (l := es.take k) H0.out HC.out
        have htk : (es.take k).length ≤ 999 := by rw [List.length_take]; omega
        have HS := Lib.hid (evSum_take es k hlt)
        have HQ := Lib.hid (fun (q : Int) (hf : evF l (evRate l es) es[k] = q) (h0 : ¬ q = 0) => HAA.out.trans (evErr_at G1.out HC.out hlt hf h0))
        have HN := Lib.hid (fun (hf : evF l (evRate l es) es[k] = 0) => take_next (q := fun x => evF l (evRate l es) x = 0) hlt HC.out hf)
        have HK0 := Lib.hid (show k = 0 → evRate l es = (rollGet l es[k].roll).rate by intro e; subst e; exact evRate_cons l es hlt)
        generalize es[k] = x at *
        generalize evSum (es.take k) = sm at *
        have HB0 := Lib.hid (hb.alloc hb.size (.cells #[.string x.roll, .int .i64 x.tin, .int .i64 x.tout] 44))
        go_wp2_with fail
        refine (rollOfR_c A l c lo x.roll _ (((HR.out.below hb (Nat.le_refl _)).alloc hb.size _).more (Nat.le_refl _) (by simp; omega)) hlen' HNM.out).mono ?_
        rintro e w1 ⟨rfl, hb1⟩
        have hz1 := hb1.size
        simp at hz1
        have hz1' : wr.heap.size < w1.heap.size := by omega
        have d1 := (hb1.cell (p := ⟨wr.heap.size, 1, none⟩) (by simp)).trans (show _ = some (.int .i64 x.tin) by go_simp)
        have d2 := (hb1.cell (p := ⟨wr.heap.size, 2, none⟩) (by simp)).trans (show _ = some (.int .i64 x.tout) by go_simp)
        have HB1 := Lib.hid (HB0.out.trans (hb1.mono HB0.out.size))
        clear hb1 hb HB0 c0 c1 c2'
        cases hh : rollHas l x.roll with
        | false =>
          have HE := Lib.hid (HQ.out 8 (evF_no hh) (by decide))
          by_cases hk0 : k = 0
          · have e1 : ((k : Int) == 0) = true := by rw [hk0]; rfl
            have HK := Lib.hid hk0
            clear hk0
            go_wp2
            go_ret
            exact ⟨by rw [HE.out]; rfl, HB1.out.alloc (by omega) _⟩
          · have e1 : ((k : Int) == 0) = false := beq_eq_false_iff_ne.2 (by omega)
            clear hk0
            go_wp2
            go_ret
            exact ⟨by rw [HE.out]; rfl, HB1.out.alloc (by omega) _⟩
        | true =>
          obtain ⟨kr, s1, s2, s3, s4⟩ := rate_bd H0.out hh
          have HI := Lib.hid (fun h2 => evF_in (l := l) (q := evRate l es) (x := x) hh h2)
          have HX := Lib.hid (fun h2 => evF_rate (l := l) (q := evRate l es) (x := x) hh h2)
          have KR := Lib.hid kr
          have HOK := Lib.hid (fun h => (evF_ok (rolls := l) (rate := evRate l es) (x := x) H0.out h).2)
          clear hh kr
          generalize rollGet l x.roll = R at *
          by_cases hk0 : k = 0
          · have e1 : ((k : Int) == 0) = true := by rw [hk0]; rfl
            have HRT := Lib.hid (HK0.out hk0)
            have HK := Lib.hid hk0
            clear hk0
            go_wp2_with fail
            refine (holds_c R.name R.rate R.start R.long R.drift x.tin x.tout _ (by omega) (by omega) (by omega) (by omega)).mono ?_
            rintro e w2 ⟨rfl, hb2⟩
            have hz2 := hb2.size
            simp at hz2
            have f1 := (hb2.cell (p := ⟨wr.heap.size, 1, none⟩) (by simp; omega)).trans ((World.cell?_alloc_lt w1 _ ⟨wr.heap.size, 1, none⟩ (by show wr.heap.size < _; omega)).trans d1)
            have f2 := (hb2.cell (p := ⟨wr.heap.size, 2, none⟩) (by simp; omega)).trans ((World.cell?_alloc_lt w1 _ ⟨wr.heap.size, 2, none⟩ (by show wr.heap.size < _; omega)).trans d2)
            have HB2 := Lib.hid ((HB1.out.alloc (by omega) _).trans (hb2.mono (by simp; omega)))
            clear hb2 d1 d2
            cases hw : withinB ⟨R.name, R.rate, R.start, R.long, R.drift⟩ x.tin x.tout with
            | false =>
              have HE := Lib.hid (HQ.out 1 ((HI.out HRT.out.symm).trans (if_pos hw)) (by decide))
              go_wp2
              go_ret
              exact ⟨by rw [HE.out]; rfl, HB2.out⟩
            | true =>
              have HZ := Lib.hid ((HI.out HRT.out.symm).trans (if_neg (by rw [show R = ⟨R.name, R.rate, R.start, R.long, R.drift⟩ from rfl, hw]; decide)))
              obtain ⟨_, hrr, t0, t1, t2⟩ := HOK.out HZ.out
              have hfr := (frames_bd hrr).2
              clear hrr hw
              go_wp2
              go_roundw
              case rel => exact ⟨k + 1, by omega, intNum, congrArg (Value.int .i64) (by rw [rateK, if_neg (by omega)]; first | done | exact HRT.out.symm), by rw [HS.out], HB2.out, HN.out HZ.out⟩
              case measure => simp [intOf]; omega
          · have e1 : ((k : Int) == 0) = false := beq_eq_false_iff_ne.2 (by omega)
            rw [show rateK l es k = evRate l es from if_neg hk0]
            have HK := Lib.hid hk0
            clear hk0
            by_cases hrt : R.rate = evRate l es
            · have HRT := Lib.hid hrt
              rw [← hrt]
              clear hrt
              go_wp2_with fail
              refine (holds_c R.name R.rate R.start R.long R.drift x.tin x.tout _ (by omega) (by omega) (by omega) (by omega)).mono ?_
              rintro e w2 ⟨rfl, hb2⟩
              have hz2 := hb2.size
              simp at hz2
              have f1 := (hb2.cell (p := ⟨wr.heap.size, 1, none⟩) (by simp; omega)).trans ((World.cell?_alloc_lt w1 _ ⟨wr.heap.size, 1, none⟩ (by show wr.heap.size < _; omega)).trans d1)
              have f2 := (hb2.cell (p := ⟨wr.heap.size, 2, none⟩) (by simp; omega)).trans ((World.cell?_alloc_lt w1 _ ⟨wr.heap.size, 2, none⟩ (by show wr.heap.size < _; omega)).trans d2)
              have HB2 := Lib.hid ((HB1.out.alloc (by omega) _).trans (hb2.mono (by simp; omega)))
              clear hb2 d1 d2
              cases hw : withinB ⟨R.name, R.rate, R.start, R.long, R.drift⟩ x.tin x.tout with
              | false =>
                have HE := Lib.hid (HQ.out 1 ((HI.out HRT.out).trans (if_pos hw)) (by decide))
                go_wp2
                go_ret
                exact ⟨by rw [HE.out]; rfl, HB2.out⟩
              | true =>
                have HZ := Lib.hid ((HI.out HRT.out).trans (if_neg (by rw [show R = ⟨R.name, R.rate, R.start, R.long, R.drift⟩ from rfl, hw]; decide)))
                obtain ⟨_, hrr, t0, t1, t2⟩ := HOK.out HZ.out
                have hfr := (frames_bd hrr).2
                clear hrr hw
                go_wp2
                go_roundw
                case rel => exact ⟨k + 1, by omega, intNum, congrArg (Value.int .i64) (by rw [rateK, if_neg (by omega)]; first | done | exact HRT.out), by rw [HS.out], HB2.out, HN.out HZ.out⟩
                case measure => simp [intOf]; omega
            · have HE := Lib.hid (HQ.out 4 (HX.out hrt) (by decide))
              have e2 : (R.rate != evRate l es) = true := by rw [bne_iff_ne]; exact hrt
              clear hrt
              go_wp2
              go_ret
              exact ⟨by rw [HE.out]; rfl, HB1.out.alloc (by omega) _⟩
      · have hke : k = es.length := by omega
        have HA := Lib.hid (show ∀ x ∈ es, evF l (evRate l es) x = 0 from take_all hlt HC.out)
        have HE := Lib.hid (evErr_end G1.out HA.out)
        have HB := Lib.hid hb
        rw [List.take_of_length_le (by omega)]
        have hsm := evSum_bd (l := es) H0.out HA.out
        clear hb
        subst hke
        rw [rateK_end]
        generalize evSum es = sm at *
        generalize evRate l es = q at *
        go_wp2_with fail
        refine (rateOf_c q _).mono ?_
        rintro e w' ⟨rfl, rfl⟩
        by_cases hq : framesN q < sm
        · have HE2 := Lib.hid (HAA.out.trans (HE.out.trans (if_pos hq)))
          go_wp2
          go_ret
          exact ⟨by rw [HE2.out]; rfl, HB.out⟩
        · have HE2 := Lib.hid (HAA.out.trans (HE.out.trans (if_neg hq)))
          go_wp2
          go_ret
          exact ⟨by rw [HE2.out]; rfl, HB.out⟩
end Go.Proofs.YtnjbbkocobegiaaGreatDoor

