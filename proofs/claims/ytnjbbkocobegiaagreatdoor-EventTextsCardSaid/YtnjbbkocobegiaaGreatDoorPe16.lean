/- Texts packed: EvW. -/
import Derived.Test.YtnjbbkocobegiaaGreatDoorRows
import Derived.Test.YtnjbbkocobegiaaGreatDoorPe01
import Derived.Test.YtnjbbkocobegiaaGreatDoorPe11
/- The program's error of events, walked. -/
namespace Go.Proofs.YtnjbbkocobegiaaGreatDoor
set_option linter.unusedVariables false
open Go.RowKit

theorem evAt {w : World} {F : Nat → Prop} {l : List Ev} {A : Option Addr} {n c : Nat} (h : Sli evR w F l (.slice A n c)) (k : Nat) (hk : k < l.length) : ∃ b off, A = some ⟨b, off, none⟩ ∧ F b ∧ w.cell? ⟨b, off + k * 3, none⟩ = some (.string l[k].roll) ∧ w.cell? ⟨b, off + k * 3 + 1, none⟩ = some (.int .i64 l[k].tin) ∧ w.cell? ⟨b, off + k * 3 + 2, none⟩ = some (.int .i64 l[k].tout) := by
  obtain ⟨b, off, a, e, hb, hr, hc⟩ := h.at_ k hk
  have ha : a = (l[k]).cells := hr
  subst ha
  exact ⟨b, off, e, hb, hc 0 _ rfl, hc 1 _ rfl, hc 2 _ rfl⟩

set_option maxHeartbeats 800000 in
theorem within_c (nm : ByteArray) (rate start long drift a b : Int) (w : World) (h1 : -10000000 ≤ start) (h2 : start ≤ 10000000) (h3 : -10000000 ≤ long) (h4 : long ≤ 10000000) :
    Calls Tryz.prog 105 #[.agg #[.string nm, .int .i64 rate, .int .i64 start, .int .i64 long, .int .i64 drift], .int .i64 a, .int .i64 b] w fun e w' => e = .returned (.bool (withinB ⟨nm, rate, start, long, drift⟩ a b)) ∧ Below w.heap.size w w' := by
  by_cases ha : start ≤ a
  · by_cases hb : a < b
    all_goals
      go_enter Tryz.func105, Tryz.ntmps105
      go_wp2
      go_ret
      exact ⟨ret_bool (by first | (simp [withinB, ha, hb]; done) | (simp [withinB]; intros; omega)), (Below.refl _ _).alloc (Nat.le_refl _) _⟩
  · go_enter Tryz.func105, Tryz.ntmps105
    go_wp2
    go_ret
    exact ⟨ret_bool (by simp [withinB]; intros; omega), (Below.refl _ _).alloc (Nat.le_refl _) _⟩
set_option maxHeartbeats 800000 in
theorem holds_c (nm : ByteArray) (rate start long drift a b : Int) (w : World) (h1 : -10000000 ≤ start) (h2 : start ≤ 10000000) (h3 : -10000000 ≤ long) (h4 : long ≤ 10000000) :
    Calls Tryz.prog 58 #[.agg #[.string nm, .int .i64 rate, .int .i64 start, .int .i64 long, .int .i64 drift], .int .i64 a, .int .i64 b] w fun e w' => e = .returned (.bool (withinB ⟨nm, rate, start, long, drift⟩ a b)) ∧ Below w.heap.size w w' := by
  by_cases ha : start ≤ a
  · by_cases hb : a < b
    all_goals
      go_enter Tryz.func58, Tryz.ntmps58
      go_wp2
      go_ret
      exact ⟨ret_bool (by first | (simp [withinB, ha, hb]; done) | (simp [withinB]; intros; omega)), (Below.refl _ _).alloc (Nat.le_refl _) _⟩
  · go_enter Tryz.func58, Tryz.ntmps58
    go_wp2
    go_ret
    exact ⟨ret_bool (by simp [withinB]; intros; omega), (Below.refl _ _).alloc (Nat.le_refl _) _⟩

/-- The rate that a walk over events knows after k of them. -/
def rateK (rolls : List Roll) (l : List Ev) (k : Nat) : Int := if k = 0 then 0 else evRate rolls l
theorem rate_bd {l : List Roll} {s : ByteArray} (h0 : rollsFault l = 0) (hh : rollHas l s = true) : isRateB (rollGet l s).rate = true ∧ 0 ≤ (rollGet l s).start ∧ (rollGet l s).start ≤ 2592000 ∧ 0 ≤ (rollGet l s).long ∧ (rollGet l s).long ≤ 2592000 := by
  have hm := rollsFault_ok l h0 _ (rollGet_mem hh)
  have hbad := hm.2.1
  have hf := frames_bd hm.1
  simp only [rollBadB, decide_eq_false_iff_not] at hbad
  exact ⟨hm.1, by omega, by omega, by omega, by omega⟩
theorem evF_no {l : List Roll} {q : Int} {x : Ev} (h : rollHas l x.roll = false) : evF l q x = 8 := if_pos h
theorem evF_rate {l : List Roll} {q : Int} {x : Ev} (h : rollHas l x.roll = true) (h2 : ¬ (rollGet l x.roll).rate = q) : evF l q x = 4 := by unfold evF; rw [if_neg (by rw [h]; decide), if_pos h2]
theorem evF_in {l : List Roll} {q : Int} {x : Ev} (h : rollHas l x.roll = true) (h2 : (rollGet l x.roll).rate = q) : evF l q x = if withinB (rollGet l x.roll) x.tin x.tout = false then 1 else 0 := by unfold evF; rw [if_neg (by rw [h]; decide), if_neg (by omega)]
theorem evErr_at {l : List Roll} {es : List Ev} {k : Nat} {q : Int} (g1 : ¬ 999 < es.length) (h : ∀ x ∈ es.take k, evF l (evRate l es) x = 0) (hk : k < es.length) (hf : evF l (evRate l es) es[k] = q) (h0 : ¬ q = 0) : evErr l es = q := by
  unfold evErr
  have h1 := firstE_at h hk (by rw [hf]; exact h0)
  rw [if_neg g1, if_pos (by rw [h1, hf]; exact h0), h1, hf]
theorem evErr_end {l : List Roll} {es : List Ev} (g1 : ¬ 999 < es.length) (h : ∀ x ∈ es, evF l (evRate l es) x = 0) : evErr l es = if framesN (evRate l es) < evSum es then 2 else 0 := by
  unfold evErr
  have h1 := firstE_all h
  rw [if_neg g1, if_neg (by rw [h1]; simp)]

set_option maxRecDepth 100000 in
set_option maxHeartbeats 3200000 in
theorem eventsFault_c (A : Option Addr) (l : List Roll) (c lo : Nat) (es : List Ev) (v : Value) (F : Nat → Prop) (w : World) (hr : Rs w lo w.heap.size 5 Roll.cells A l) (hlen : l.length ≤ 140737488355328) (h0 : rollsFault l = 0) (hv : Sli evR w F es v) (hF : ∀ b, F b → b < w.heap.size) :
    Calls Tryz.prog 52 #[.slice A l.length c, v] w fun e w' => e = .returned (.int .i64 (evErr l es)) ∧ Below w.heap.size w w' := by
  obtain ⟨A2, c2, rfl, hlc, hcm⟩ := hv.form
  have HR := Lib.hid hr; clear hr
  have HV := Lib.hid hv; clear hv
  have HF := Lib.hid hF; clear hF
  have H0 := Lib.hid h0; clear h0
  by_cases g1 : 999 < es.length
  · have HE := Lib.hid (show evErr l es = 2 from if_pos g1)
    go_enter Tryz.func52, Tryz.ntmps52
    go_wp2
    go_ret
    exact ⟨by rw [HE.out]; rfl, Below.refl _ _⟩
  · have G1 := Lib.hid g1
    go_enter Tryz.func52, Tryz.ntmps52
    go_wp2
    go_loopw [5, 6, 16] (fun rt wh i wr => ∃ k : Nat, k ≤ es.length ∧ i = .int .i64 k ∧ rt = .int .i64 (rateK l es k) ∧ wh = .int .i64 (evSum (es.take k)) ∧ Below w.heap.size w wr ∧ Hid (∀ x ∈ es.take k, evF l (evRate l es) x = 0)) (fun _ _ i _ => es.length - (intOf i).toNat)
    case atStart => exact ⟨0, Nat.zero_le _, rfl, rfl, rfl, Below.refl _ _, fun x hx => by simp at hx⟩
    case round =>
      obtain ⟨k, hk, rfl, rfl, rfl, hb, HC⟩ := hrel
      have hwz := hb.size
      by_cases hlt : k < es.length
      · obtain ⟨be, off, rfl, hfb, c0, c1, c2'⟩ := evAt (HV.out.below hb HF.out) k hlt
        have hsb := evSum_bd (l := es.take k) H0.out HC.out
        have htk : (es.take k).length ≤ 999 := by rw [List.length_take]; omega
        have HS := Lib.hid (evSum_take es k hlt)
        have HQ := Lib.hid (fun (q : Int) (hf : evF l (evRate l es) es[k] = q) (h0 : ¬ q = 0) => evErr_at G1.out HC.out hlt hf h0)
        have HN := Lib.hid (fun (hf : evF l (evRate l es) es[k] = 0) => take_next (q := fun x => evF l (evRate l es) x = 0) hlt HC.out hf)
        have HK0 := Lib.hid (show k = 0 → evRate l es = (rollGet l es[k].roll).rate by intro e; subst e; exact evRate_cons l es hlt)
        generalize es[k] = x at *
        generalize evSum (es.take k) = sm at *
        have HB0 := Lib.hid (hb.alloc hb.size (.cells #[.string x.roll, .int .i64 x.tin, .int .i64 x.tout] 44))
        go_wp2_with fail
        refine (rollOf_c A l c lo x.roll _ (((HR.out.below hb (Nat.le_refl _)).alloc hb.size _).more (Nat.le_refl _) (by simp; omega)) hlen).mono ?_
        rintro e w1 ⟨rfl, hb1⟩
        have hz1 := hb1.size
        simp at hz1
        have hz1' : wr.heap.size < w1.heap.size := by omega
        have d1 := (hb1.cell (p := ⟨wr.heap.size, 1, none⟩) (by simp)).trans (show _ = some (.int .i64 x.tin) by go_simp)
        have d2 := (hb1.cell (p := ⟨wr.heap.size, 2, none⟩) (by simp)).trans (show _ = some (.int .i64 x.tout) by go_simp)
        have HB1 := Lib.hid (HB0.out.trans (hb1.mono HB0.out.size))
        clear hb1 hb HB0 c0 c1 c2'
        cases hh : rollHas l x.roll with
        | false =>
          have HE := Lib.hid (HQ.out 8 (evF_no hh) (by decide))
          go_wp2
          go_ret
          exact ⟨by rw [HE.out]; rfl, HB1.out.alloc (by omega) _⟩
        | true =>
          obtain ⟨kr, s1, s2, s3, s4⟩ := rate_bd H0.out hh
          have HI := Lib.hid (fun h2 => evF_in (l := l) (q := evRate l es) (x := x) hh h2)
          have HX := Lib.hid (fun h2 => evF_rate (l := l) (q := evRate l es) (x := x) hh h2)
          have KR := Lib.hid kr
          have HOK := Lib.hid (fun h => (evF_ok (rolls := l) (rate := evRate l es) (x := x) H0.out h).2)
          clear hh kr
          generalize rollGet l x.roll = R at *
          by_cases hk0 : k = 0
          · have e1 : ((k : Int) == 0) = true := by rw [hk0]; rfl
            have HRT := Lib.hid (HK0.out hk0)
            have HK := Lib.hid hk0
            clear hk0
            go_wp2_with fail
            refine (within_c R.name R.rate R.start R.long R.drift x.tin x.tout _ (by omega) (by omega) (by omega) (by omega)).mono ?_
            rintro e w2 ⟨rfl, hb2⟩
            have hz2 := hb2.size
            simp at hz2
            have f1 := (hb2.cell (p := ⟨wr.heap.size, 1, none⟩) (by simp; omega)).trans ((World.cell?_alloc_lt w1 _ ⟨wr.heap.size, 1, none⟩ (by show wr.heap.size < _; omega)).trans d1)
            have f2 := (hb2.cell (p := ⟨wr.heap.size, 2, none⟩) (by simp; omega)).trans ((World.cell?_alloc_lt w1 _ ⟨wr.heap.size, 2, none⟩ (by show wr.heap.size < _; omega)).trans d2)
            have HB2 := Lib.hid ((HB1.out.alloc (by omega) _).trans (hb2.mono (by simp; omega)))
            clear hb2 d1 d2
            cases hw : withinB ⟨R.name, R.rate, R.start, R.long, R.drift⟩ x.tin x.tout with
            | false =>
              have HE := Lib.hid (HQ.out 1 ((HI.out HRT.out.symm).trans (if_pos hw)) (by decide))
              go_wp2
              go_ret
              exact ⟨by rw [HE.out]; rfl, HB2.out⟩
            | true =>
              have HZ := Lib.hid ((HI.out HRT.out.symm).trans (if_neg (by rw [show R = ⟨R.name, R.rate, R.start, R.long, R.drift⟩ from rfl, hw]; decide)))
              obtain ⟨_, hrr, t0, t1, t2⟩ := HOK.out HZ.out
              have hfr := (frames_bd hrr).2
              clear hrr hw
              go_wp2
              go_roundw
              case rel => exact ⟨k + 1, by omega, intNum, congrArg (Value.int .i64) (by rw [rateK, if_neg (by omega)]; first | done | exact HRT.out.symm), by rw [HS.out], HB2.out, HN.out HZ.out⟩
              case measure => simp [intOf]; omega
          · have e1 : ((k : Int) == 0) = false := beq_eq_false_iff_ne.2 (by omega)
            rw [show rateK l es k = evRate l es from if_neg hk0]
            have HK := Lib.hid hk0
            clear hk0
            by_cases hrt : R.rate = evRate l es
            · have HRT := Lib.hid hrt
              rw [← hrt]
              clear hrt
              go_wp2_with fail
              refine (within_c R.name R.rate R.start R.long R.drift x.tin x.tout _ (by omega) (by omega) (by omega) (by omega)).mono ?_
              rintro e w2 ⟨rfl, hb2⟩
              have hz2 := hb2.size
              simp at hz2
              have f1 := (hb2.cell (p := ⟨wr.heap.size, 1, none⟩) (by simp; omega)).trans ((World.cell?_alloc_lt w1 _ ⟨wr.heap.size, 1, none⟩ (by show wr.heap.size < _; omega)).trans d1)
              have f2 := (hb2.cell (p := ⟨wr.heap.size, 2, none⟩) (by simp; omega)).trans ((World.cell?_alloc_lt w1 _ ⟨wr.heap.size, 2, none⟩ (by show wr.heap.size < _; omega)).trans d2)
              have HB2 := Lib.hid ((HB1.out.alloc (by omega) _).trans (hb2.mono (by simp; omega)))
              clear hb2 d1 d2
              cases hw : withinB ⟨R.name, R.rate, R.start, R.long, R.drift⟩ x.tin x.tout with
              | false =>
                have HE := Lib.hid (HQ.out 1 ((HI.out HRT.out).trans (if_pos hw)) (by decide))
                go_wp2
                go_ret
                exact ⟨by rw [HE.out]; rfl, HB2.out⟩
              | true =>
                have HZ := Lib.hid ((HI.out HRT.out).trans (if_neg (by rw [show R = ⟨R.name, R.rate, R.start, R.long, R.drift⟩ from rfl, hw]; decide)))
                obtain ⟨_, hrr, t0, t1, t2⟩ := HOK.out HZ.out
                have hfr := (frames_bd hrr).2
                clear hrr hw
                go_wp2
                go_roundw
                case rel => exact ⟨k + 1, by omega, intNum, congrArg (Value.int .i64) (by rw [rateK, if_neg (by omega)]; first | done | exact HRT.out), by rw [HS.out], HB2.out, HN.out HZ.out⟩
                case measure => simp [intOf]; omega
            · have HE := Lib.hid (HQ.out 4 (HX.out hrt) (by decide))
              have e2 : (R.rate != evRate l es) = true := by rw [bne_iff_ne]; exact hrt
              clear hrt
              go_wp2
              go_ret
              exact ⟨by rw [HE.out]; rfl, HB1.out.alloc (by omega) _⟩
      · have hke : k = es.length := by omega
        have HA := Lib.hid (show ∀ x ∈ es, evF l (evRate l es) x = 0 from take_all hlt HC.out)
        have HE := Lib.hid (evErr_end G1.out HA.out)
        have HB := Lib.hid hb
        rw [List.take_of_length_le (by omega)]
        have hsm := evSum_bd (l := es) H0.out HA.out
        clear hb
        by_cases hp : 0 < es.length
        · have hrr := (evF_ok H0.out (HA.out es[0] (List.getElem_mem hp))).2.2.1
          rw [show rateK l es k = evRate l es from if_neg (by omega)]
          have hp' : (0 : Int) < (es.length : Int) := by omega
          clear hke
          generalize evSum es = sm at *
          generalize evRate l es = q at *
          have HRR := Lib.hid hrr
          clear hrr
          go_wp2_with fail
          refine (frames_c q _ HRR.out).mono ?_
          rintro e w' ⟨rfl, rfl⟩
          by_cases hq : framesN q < sm
          · have HE2 := Lib.hid (HE.out.trans (if_pos hq))
            go_wp2
            go_ret
            exact ⟨by rw [HE2.out]; rfl, HB.out⟩
          · have HE2 := Lib.hid (HE.out.trans (if_neg hq))
            go_wp2
            go_ret
            exact ⟨by rw [HE2.out]; rfl, HB.out⟩
        · have he : es = [] := List.length_eq_zero_iff.1 (by omega)
          subst he
          have HE2 := Lib.hid (show evErr l [] = 0 from HE.out.trans (by show (if framesN 0 < 0 then (2 : Int) else 0) = 0; decide))
          clear hke
          go_wp2
          go_ret
          exact ⟨by rw [HE2.out]; rfl, HB.out⟩
end Go.Proofs.YtnjbbkocobegiaaGreatDoor

