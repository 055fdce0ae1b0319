/- Texts packed: EqX, TmW, CopW, SdS. -/
import Derived.Test.YtkhegeobdcemkaaGreatDoorSd22
import Derived.Test.YtkhegeobdcemkaaGreatDoorSd19
import Derived.Test.YtkhegeobdcemkaaGreatDoorSd01
import Derived.Test.YtkhegeobdcemkaaGreatDoorSd16
import Derived.Test.YtkhegeobdcemkaaGreatDoorSd17
import Derived.Test.YtkhegeobdcemkaaGreatDoorSd20
import Derived.Test.YtkhegeobdcemkaaGreatDoorSd11
import Derived.Test.YtkhegeobdcemkaaGreatDoorSd02
/- Lists of scenes compared by a function. -/
namespace Go.Proofs.YtkhegeobdcemkaaGreatDoor
set_option linter.unusedVariables false
open Go.RowKit Go.Sort

/-- A function that compares two scenes. -/
def EqS (P : Program) (g : Nat) : Prop :=
  (∀ args W, (callFunc g args).run P W = .ok (.enter g args) W) ∧ ∀ (x y : Scene) (u v : Value) (F : Nat → Prop) (W : World), Sli paraR W F x.paras u → Sli paraR W F y.paras v → (∀ b, F b → b < W.heap.size) →
    Calls P g #[.agg #[.string x.no, .int .i64 x.place, .string x.set, .int .i64 x.time, u], .agg #[.string y.no, .int .i64 y.place, .string y.set, .int .i64 y.time, v]] W fun e w' => e = .returned (.bool (decide (x = y))) ∧ Below W.heap.size W w'
theorem eqS2 : EqS Tryz.prog 67 := ⟨fun _ _ => by kernel_rfl, fun x y u v F W h1 h2 h3 => sameScene1_c x y u v F W h1 h2 h3⟩
/-- Two lists of scenes in memory. -/
structure Sc2 (w : World) (F : Nat → Prop) (l : List (Scene × Value)) (v : Value) : Prop where
  sli : Sli svR w F l v
  par : ∀ y ∈ l, Sli paraR w F y.1.paras y.2
  lt : ∀ b, F b → b < w.heap.size
theorem Sc2.below {w w' : World} {F : Nat → Prop} {l : List (Scene × Value)} {v : Value} (h : Sc2 w F l v) (hb : Below w.heap.size w w') : Sc2 w' F l v :=
  ⟨h.sli.below hb h.lt, fun y hy => (h.par y hy).below hb h.lt, fun b hF => Nat.lt_of_lt_of_le (h.lt b hF) hb.size⟩
set_option maxRecDepth 100000 in
set_option maxHeartbeats 1600000 in
theorem eqScenes_c {F : Nat → Prop} (g : Nat) (l1 l2 : List (Scene × Value)) (v1 v2 : Value) (w : World) (h1 : Sc2 w F l1 v1) (h2 : Sc2 w F l2 v2) (hg : EqS Tryz.prog g) :
    Calls Tryz.prog 66 #[v1, v2, .func (.func g) #[] #[]] w fun e w' => e = .returned (.bool (decide (l1.map (·.1) = l2.map (·.1)))) ∧ Below w.heap.size w w' := by
  obtain ⟨A1, c1, rfl, hlc1, hc1⟩ := h1.sli.form
  obtain ⟨A2, c2, rfl, hlc2, hc2⟩ := h2.sli.form
  have eg := hg.1
  have HP := Lib.hid hg.2
  have H1 := Lib.hid h1; clear h1
  have H2 := Lib.hid h2; clear h2
  clear hg
  by_cases hne : l1.length = l2.length
  · obtain ⟨n, hn1⟩ : ∃ n, l1.length = n := ⟨_, rfl⟩
    have hn2 : l2.length = n := by omega
    have HN1 := Lib.hid hn1
    have HN2 := Lib.hid hn2
    rw [hn1] at H1 hlc1 ⊢
    rw [hn2] at H2 ⊢
    clear hn1 hn2 hne
    go_enter Tryz.func66, Tryz.ntmps66
    go_wp2
    go_loopw [17] (fun i wr => ∃ k : Nat, k ≤ n ∧ i = .int .i64 k ∧ Below w.heap.size w wr ∧ Hid ((l1.map (·.1)).take k = (l2.map (·.1)).take k)) (fun i _ => n - (intOf i).toNat)
    case atStart => exact ⟨0, Nat.zero_le _, rfl, Below.refl _ _, rfl⟩
    case round =>
      obtain ⟨k, hk, rfl, hb, HT⟩ := hrel
      by_cases hlt : k < n
      · have hk1 : k < l1.length := by rw [HN1.out]; exact hlt
        have hk2 : k < l2.length := by rw [HN2.out]; exact hlt
        have S1 := H1.out.below hb
        have S2 := H2.out.below hb
        obtain ⟨b, off, rfl, hfb, a0, a1, a2, a3, a4⟩ := scAt S1.sli k hk1
        obtain ⟨b2, off2, rfl, hfb2, d0, d1, d2, d3, d4⟩ := scAt S2.sli k hk2
        have hltb : b < wr.heap.size := S1.lt b hfb
        have hltb2 : b2 < wr.heap.size := S2.lt b2 hfb2
        have p1 := S1.par _ (List.getElem_mem hk1)
        have p2 := S2.par _ (List.getElem_mem hk2)
        obtain ⟨A3, c3, e3, _, _⟩ := p1.form
        obtain ⟨A4, c4, e4, _, _⟩ := p2.form
        have HEQ := Lib.hid (fun (W : World) (hW : Below w.heap.size w W) (hW2 : Below wr.heap.size wr W) => HP.out (l1[k]'hk1).1 (l2[k]'hk2).1 (l1[k]'hk1).2 (l2[k]'hk2).2 F W (p1.below hW2 S1.lt) (p2.below hW2 S2.lt) (fun b hb => Nat.lt_of_lt_of_le (S1.lt b hb) hW2.size))
        have HYES := Lib.hid (fun (h : (l1[k]'hk1).1 = (l2[k]'hk2).1) => eq_take_next (a := l1.map (·.1)) (b := l2.map (·.1)) (k := k) (by rw [List.length_map]; exact hk1) (by rw [List.length_map]; exact hk2) HT.out (by rw [List.getElem_map, List.getElem_map]; exact h))
        have HNO := Lib.hid (fun (h : ¬ (l1[k]'hk1).1 = (l2[k]'hk2).1) => ne_at (a := l1.map (·.1)) (b := l2.map (·.1)) (k := k) (by rw [List.length_map]; exact hk1) (by rw [List.length_map]; exact hk2) (by rw [List.getElem_map, List.getElem_map]; exact h))
        rw [e3] at a4 HEQ
        rw [e4] at d4 HEQ
        clear p1 p2 S1 S2 e3 e4
        generalize (l1[k]'hk1).1 = x at *
        generalize (l2[k]'hk2).1 = y at *
        generalize hx3 : x.paras.length = n3 at *
        generalize hy4 : y.paras.length = n4 at *
        have HBB := Lib.hid hb
        clear hk1 hk2 hx3 hy4 hfb hfb2 hb
        have HB2 := Lib.hid (fun (o1 o2 : Obj) => show Below wr.heap.size wr ((wr.alloc o1).alloc o2) from (((Below.refl _ wr).alloc (Nat.le_refl _) o1).alloc (by simp) o2))
        by_cases hxy : x = y
        · have HD := Lib.hid (show decide (x = y) = true from decide_eq_true hxy)
          have HX := Lib.hid (HYES.out hxy)
          clear hxy HYES HNO
          go_wp2_with fail
          refine (HEQ.out _ (by exact HBB.out.trans ((HB2.out _ _).mono HBB.out.size)) (by exact HB2.out _ _)).mono ?_
          rintro e w' ⟨rfl, hb'⟩
          have HB3 := Lib.hid (HBB.out.trans (((HB2.out _ _).trans (hb'.mono (HB2.out _ _).size)).mono HBB.out.size))
          clear hb'
          rw [HD.out]
          go_wp2
          go_roundw
          case rel => exact ⟨k + 1, by omega, intNum, HB3.out, HX.out⟩
          case measure => simp [intOf]; omega
        · have HD := Lib.hid (show decide (x = y) = false from decide_eq_false hxy)
          have HX := Lib.hid (HNO.out hxy)
          clear hxy HYES HNO
          go_wp2_with fail
          refine (HEQ.out _ (by exact HBB.out.trans ((HB2.out _ _).mono HBB.out.size)) (by exact HB2.out _ _)).mono ?_
          rintro e w' ⟨rfl, hb'⟩
          have HB3 := Lib.hid (HBB.out.trans (((HB2.out _ _).trans (hb'.mono (HB2.out _ _).size)).mono HBB.out.size))
          clear hb'
          rw [HD.out]
          go_wp2
          go_ret
          exact ⟨ret_bool (by symm; simpa using HX.out), HB3.out⟩
      · have e : k = n := by omega
        have HN := Lib.hid (show l1.map (·.1) = l2.map (·.1) by have := HT.out; rwa [List.take_of_length_le (by rw [List.length_map, HN1.out]; omega), List.take_of_length_le (by rw [List.length_map, HN2.out]; omega)] at this)
        go_wp2
        go_ret
        exact ⟨ret_bool (by symm; simpa using HN.out), hb⟩
  · have HN := Lib.hid (show ¬ l1.map (·.1) = l2.map (·.1) by intro h; exact hne (by have := congrArg List.length h; simpa using this))
    have hz : ¬ (l1.length : Int) = l2.length := by omega
    go_enter Tryz.func66, Tryz.ntmps66
    go_wp2
    go_ret
    exact ⟨ret_bool (by symm; simpa using HN.out), Below.refl _ _⟩

set_option maxRecDepth 100000 in
set_option maxHeartbeats 1600000 in
theorem SameScripts_c {F : Nat → Prop} (t1 t2 : ByteArray) (l1 l2 : List (Scene × Value)) (v1 v2 : Value) (w : World) (h1 : Sc2 w F l1 v1) (h2 : Sc2 w F l2 v2) :
    Calls Tryz.prog 22 #[.agg #[.string t1, v1], .agg #[.string t2, v2]] w fun e w' => e = .returned (.bool (decide ((⟨t1, l1.map (·.1)⟩ : Script) = ⟨t2, l2.map (·.1)⟩))) ∧ Below w.heap.size w w' := by
  obtain ⟨A1, c1, rfl, _, _⟩ := h1.sli.form
  obtain ⟨A2, c2, rfl, _, _⟩ := h2.sli.form
  have H1 := Lib.hid h1
  have H2 := Lib.hid h2
  clear h1 h2
  obtain ⟨n1, hn1⟩ : ∃ n, l1.length = n := ⟨_, rfl⟩
  obtain ⟨n2, hn2⟩ : ∃ n, l2.length = n := ⟨_, rfl⟩
  rw [hn1] at H1 ⊢
  rw [hn2] at H2 ⊢
  clear hn1 hn2
  go_enter Tryz.func22, Tryz.ntmps22
  go_upto_region 1 with (fail)
  have hG : PvG w [(w.heap.size + 1, xCs t2 (.slice A2 n2 c2), 28), (w.heap.size, xCs t1 (.slice A1 n1 c1), 28)] ((w.alloc (.cells (xCs t1 (.slice A1 n1 c1)) 28)).alloc (.cells (xCs t2 (.slice A2 n2 c2)) 28)) := by
    have h := ((pvStart w).new (xCs t1 (.slice A1 n1 c1)) 28).new (xCs t2 (.slice A2 n2 c2)) 28
    rw [show (w.alloc (.cells (xCs t1 (.slice A1 n1 c1)) 28)).heap.size = w.heap.size + 1 by simp] at h
    exact h
  generalize hW : (w.alloc (.cells #[.string t1, .slice A1 n1 c1] 28)).alloc (.cells #[.string t2, .slice A2 n2 c2] 28) = w1
  have hG1 : PvG w [(w.heap.size + 1, xCs t2 (.slice A2 n2 c2), 28), (w.heap.size, xCs t1 (.slice A1 n1 c1), 28)] w1 := by rw [← hW]; exact hG
  clear hG hW
  have ga := (hG1.cell (p := (w.heap.size, xCs t1 (.slice A1 n1 c1), 28)) (by simp)).1
  have gb := (hG1.cell (p := (w.heap.size + 1, xCs t2 (.slice A2 n2 c2), 28)) (by simp)).1
  have e0 : w1.cell? ⟨w.heap.size, 0, none⟩ = some (.string t1) := ga 0
  have e1 : w1.cell? ⟨w.heap.size, 1, none⟩ = some (.slice A1 n1 c1) := ga 1
  have d0 : w1.cell? ⟨w.heap.size + 1, 0, none⟩ = some (.string t2) := gb 0
  have d1 : w1.cell? ⟨w.heap.size + 1, 1, none⟩ = some (.slice A2 n2 c2) := gb 1
  have HB := Lib.hid hG1.bel
  have HEQ := Lib.hid (eqScenes_c 67 l1 l2 _ _ w1 (H1.out.below hG1.bel) (H2.out.below hG1.bel) eqS2)
  clear ga gb hG1 H1 H2
  by_cases ht : t1 = t2
  · subst ht
    go_wp2_with fail
    refine HEQ.out.mono ?_
    rintro e w2 ⟨rfl, hb2⟩
    have HB2 := Lib.hid (HB.out.trans (hb2.mono HB.out.size))
    have HDE := Lib.hid (show decide (l1.map (·.1) = l2.map (·.1)) = decide ((⟨t1, l1.map (·.1)⟩ : Script) = ⟨t1, l2.map (·.1)⟩) by simp)
    generalize decide (l1.map (·.1) = l2.map (·.1)) = d at *
    go_wp2
    go_ret
    exact ⟨ret_bool HDE.out, HB2.out⟩
  · have tt := beq_ne ht
    have HN := Lib.hid (show ¬ (⟨t1, l1.map (·.1)⟩ : Script) = ⟨t2, l2.map (·.1)⟩ from fun e => ht (by injection e))
    clear ht
    go_wp2
    go_ret
    exact ⟨ret_bool (by symm; simpa using HN.out), HB.out⟩

end Go.Proofs.YtkhegeobdcemkaaGreatDoor

/- The times of day of a script's scenes. -/
namespace Go.Proofs.YtkhegeobdcemkaaGreatDoor
set_option linter.unusedVariables false
open Go.RowKit Go.Sort

/-- The time of day of scene k: as the one before, where it says 'later'. -/
def tmAt (l : List Scene) : Nat → Int
  | 0 => ((l[0]?).map (·.time)).getD 0
  | k + 1 => if ((l[k + 1]?).map (·.time)).getD 0 = 5 then tmAt l k else ((l[k + 1]?).map (·.time)).getD 0
def tmS (l : List Scene) (k : Nat) : List Int := (List.range k).map (tmAt l)
theorem tmS_snoc (l : List Scene) (k : Nat) : tmS l (k + 1) = tmS l k ++ [tmAt l k] := by simp [tmS, List.range_succ]
theorem tmS_len (l : List Scene) (k : Nat) : (tmS l k).length = k := by simp [tmS]
theorem tmAt_now {l : List Scene} {k : Nat} (hk : k < l.length) (h : ¬ l[k].time = 5 ∨ k = 0) : tmAt l k = l[k].time := by
  cases k with
  | zero => simp [tmAt, List.getElem?_eq_getElem hk]
  | succ k => simp only [tmAt, List.getElem?_eq_getElem hk, Option.map_some, Option.getD_some]; rw [if_neg (h.resolve_right (by omega))]
theorem tmAt_last {l : List Scene} {k : Nat} (hk : k < l.length) (h : l[k].time = 5) (h0 : 0 < k) : tmAt l k = tmAt l (k - 1) := by
  cases k with
  | zero => omega
  | succ k => simp only [tmAt, List.getElem?_eq_getElem hk, Option.map_some, Option.getD_some]; rw [if_pos h]; rfl
def TmP (l : List Scene) (w : World) (e : Ending) (w' : World) : Prop := ∃ v, e = .returned v ∧ Own intR w' w.heap.size w.heap.size 3 (tmS l l.length) v ∧ Below w.heap.size w w'
set_option maxRecDepth 100000 in
set_option maxHeartbeats 4000000 in
theorem timesP_c {F : Nat → Prop} (t : ByteArray) (l : List (Scene × Value)) (v : Value) (w : World) (h : Sc2 w F l v) (hl : l.length ≤ 1000) :
    Calls Tryz.prog 69 #[.agg #[.string t, v]] w (TmP (l.map (·.1)) w) := by
  obtain ⟨A, c, rfl, hc1, hc2⟩ := h.sli.form
  have HT := Lib.hid h
  have HO := Lib.hid (sli_forms h.par)
  obtain ⟨L, hL⟩ : ∃ L, l.length = L := ⟨_, rfl⟩
  have HL := Lib.hid hL
  rw [hL] at hc1 hl ⊢
  obtain ⟨i0, hi0, hz0, hz1, hz2⟩ := info_parts (show (Tryz.prog.info? 3).map (fun i => (i.zero, i.size, i.bytes)) = some (some (.int .i64 0), 1, 8) by kernel_rfl)
  clear hL h
  go_enter Tryz.func69, Tryz.ntmps69
  go_wp2
  go_loopw [3, 10] (fun v i wr => ∃ k : Nat, k ≤ L ∧ i = .int .i64 k ∧ Hid (BO intR 3 w (tmS (l.map (·.1)) k) v [] wr) ∧ w.heap.size ≤ wr.heap.size) (fun _ i _ => L - (intOf i).toNat)
  case atStart => exact ⟨0, Nat.zero_le _, rfl, (BO.start w).alloc _, by simp⟩
  case round =>
    obtain ⟨k, hk, rfl, HG, hzw⟩ := hrel
    by_cases hlt : k < L
    · have hk2 : k < l.length := by rw [HL.out]; exact hlt
      have hS := HT.out.below HG.out.bel
      obtain ⟨b, off, rfl, hfb, a0, a1, a2, a3, a4⟩ := scAt hS.sli k hk2
      have hltb : b < wr.heap.size := hS.lt b hfb
      obtain ⟨A4, n4, c4, h4⟩ := HO.out _ (List.getElem_mem hk2)
      have hkm : k < (l.map (·.1)).length := by rw [List.length_map]; exact hk2
      have HNOW := Lib.hid (fun h => tmAt_now (l := l.map (·.1)) (k := k) hkm h)
      have HLAST := Lib.hid (fun h h0 => tmAt_last (l := l.map (·.1)) (k := k) hkm h h0)
      have hgm : (l.map (·.1))[k] = (l[k]).1 := List.getElem_map ..
      rw [hgm] at HNOW HLAST
      rw [h4] at a4
      clear h4 hS
      generalize (l[k]'hk2).1 = x at *
      clear hkm hgm hk2
      have HSN := Lib.hid (tmS_snoc (l.map (·.1)) k)
      have HLE := Lib.hid (tmS_len (l.map (·.1)) k)
      have HB1 := Lib.hid (HG.out.new #[.string x.no, .int .i64 x.place, .string x.set, .int .i64 x.time, .slice A4 n4 c4] 71)
      have HPRE := Lib.hid (fun (h0 : 0 < k) => show ∃ g cap, ∃ z, z = tmAt (l.map (·.1)) (k - 1) ∧ u3 = .slice (some ⟨g, 0, none⟩) k cap ∧ g < wr.heap.size ∧ wr.cell? ⟨g, k - 1, none⟩ = some (.int .i64 z) from by
        obtain ⟨g, cap, hv, hg1, hg2⟩ := Own.some_ (enc := fun x : Int => [.int .i64 x]) (hn := fun _ => rfl) HG.out.own (by rw [tmS_len]; exact h0)
        rw [tmS_len] at hv
        have hO := HG.out.own
        rw [hv] at hO
        have hc := (Own.cellAt (enc := fun x : Int => [.int .i64 x]) (hn := fun _ => rfl) hO (k - 1) (by rw [tmS_len]; omega) 0 (by decide)).1
        rw [show (k - 1) * 1 + 0 = k - 1 by omega] at hc
        refine ⟨g, cap, _, ?_, hv, hg2, hc⟩
        simp [tmS])
      clear HG
      go_upto_region 5 with (fail)
      generalize hW : wr.alloc (.cells #[.string x.no, .int .i64 x.place, .string x.set, .int .i64 x.time, .slice A4 n4 c4] 71) = w5 at *
      have d3 : w5.cell? ⟨wr.heap.size, 3, none⟩ = some (.int .i64 x.time) := by rw [← hW]; exact ((str_cells (heap_alloc_new wr _)).1 3).trans rfl
      have fd3 : w5.frozen? ⟨wr.heap.size, 3, none⟩ = false := by rw [← hW]; exact (str_cells (heap_alloc_new wr _)).2 3
      have hz5 : w5.heap.size = wr.heap.size + 1 := by rw [← hW]; simp
      have hw5 : wr.heap.size < w5.heap.size := by omega
      have HCL := Lib.hid (show ∀ (p : Addr), p.block < wr.heap.size → w5.cell? p = wr.cell? p from fun p hp => by rw [← hW]; exact World.cell?_alloc_lt wr _ p hp)
      clear hW hz5 a0 a1 a2 a3 a4
      by_cases h5 : x.time = 5
      · by_cases hk0 : 0 < k
        · have HV := Lib.hid (HLAST.out h5 hk0)
          obtain ⟨g, cap, z, hz, rfl, hgl, hcz⟩ := HPRE.out hk0
          have hcz5 := (HCL.out ⟨g, k - 1, none⟩ hgl).trans hcz
          have i1 : (0 : Int) ≤ (k : Int) - 1 := by omega
          have i2 : (k : Int) - 1 < (k : Int) := by omega
          have i3 : ((k : Int) - 1).toNat = k - 1 := by omega
          clear hcz HPRE
          have q5 : (x.time == 5) = true := beq_iff_eq.2 h5
          have HZ := Lib.hid (HV.out.trans hz.symm)
          clear h5 HV HNOW HLAST hz
          go_wp2_with (at_builtin; (refine wpList_pushB (R := intR) rfl _ _ _ rfl w.heap.size w.heap.size 3 i0 _ 8 Tryz.underlying22 hi0 hz0 (by assumption) (by assumption) rfl (by decide) _ _ (tmS (l.map (·.1)) k) rfl (HB1.out.own.alloc _) z _ rfl (oneC rfl) w5.heap.size _ _ (heap_alloc_new w5 _) rfl (by rw [HLE.out]; simp [maxLen]; omega) (by rw [HLE.out]; omega) (by simp; omega) ?_); rw [HLE.out]; intro g cap w6 hown6 hg6 hat6 hlt6)
          have hz6 := hg6.size
          simp at hz6
          go_roundw
          case rel => exact ⟨k + 1, by omega, intNum, by rw [HSN.out, HZ.out]; exact Lib.hid ((HB1.out.less (Q := []) (by simp)).alloc _ |>.more hown6 hg6 rfl hat6), by omega⟩
          case measure => simp [intOf]; omega
        · have hk0' : ¬ 0 < (k : Int) := by omega
          have HV := Lib.hid (HNOW.out (.inr (by omega)))
          have q5 : (x.time == 5) = true := beq_iff_eq.2 h5
          clear h5 HNOW HLAST HPRE hk0
          go_wp2_with (at_builtin; (refine wpList_pushB (R := intR) rfl _ _ _ rfl w.heap.size w.heap.size 3 i0 _ 8 Tryz.underlying22 hi0 hz0 (by assumption) (by assumption) rfl (by decide) _ _ (tmS (l.map (·.1)) k) rfl (HB1.out.own.alloc _) x.time _ rfl (oneC rfl) w5.heap.size _ _ (heap_alloc_new w5 _) rfl (by rw [HLE.out]; simp [maxLen]; omega) (by rw [HLE.out]; omega) (by simp; omega) ?_); rw [HLE.out]; intro g cap w6 hown6 hg6 hat6 hlt6)
          have hz6 := hg6.size
          simp at hz6
          go_roundw
          case rel => exact ⟨k + 1, by omega, intNum, by rw [HSN.out, HV.out]; exact Lib.hid ((HB1.out.less (Q := []) (by simp)).alloc _ |>.more hown6 hg6 rfl hat6), by omega⟩
          case measure => simp [intOf]; omega
      · have HV := Lib.hid (HNOW.out (.inl h5))
        have q5 : (x.time == 5) = false := beq_eq_false_iff_ne.2 h5
        clear h5 HNOW HLAST HPRE
        go_wp2_with (at_builtin; (refine wpList_pushB (R := intR) rfl _ _ _ rfl w.heap.size w.heap.size 3 i0 _ 8 Tryz.underlying22 hi0 hz0 (by assumption) (by assumption) rfl (by decide) _ _ (tmS (l.map (·.1)) k) rfl (HB1.out.own.alloc _) x.time _ rfl (oneC rfl) w5.heap.size _ _ (heap_alloc_new w5 _) rfl (by rw [HLE.out]; simp [maxLen]; omega) (by rw [HLE.out]; omega) (by simp; omega) ?_); rw [HLE.out]; intro g cap w6 hown6 hg6 hat6 hlt6)
        have hz6 := hg6.size
        simp at hz6
        go_roundw
        case rel => exact ⟨k + 1, by omega, intNum, by rw [HSN.out, HV.out]; exact Lib.hid ((HB1.out.less (Q := []) (by simp)).alloc _ |>.more hown6 hg6 rfl hat6), by omega⟩
        case measure => simp [intOf]; omega
    · have HE := Lib.hid (show tmS (l.map (·.1)) (l.map (·.1)).length = tmS (l.map (·.1)) k by rw [List.length_map, HL.out, show k = L by omega])
      go_wp2
      go_ret
      exact ⟨_, rfl, by rw [HE.out]; exact HG.out.own, HG.out.bel⟩
set_option maxRecDepth 100000 in
set_option maxHeartbeats 4000000 in
theorem TimesOf_c {F : Nat → Prop} (t : ByteArray) (l : List (Scene × Value)) (v : Value) (w : World) (h : Sc2 w F l v) (hl : l.length ≤ 1000) (hno : ∀ y ∈ (l.map (·.1))[0]?, ¬ y.time = 5) :
    Calls Tryz.prog 71 #[.agg #[.string t, v]] w (TmP (l.map (·.1)) w) := by
  obtain ⟨A, c, rfl, hc1, hc2⟩ := h.sli.form
  have HT := Lib.hid h
  have HO := Lib.hid (sli_forms h.par)
  obtain ⟨L, hL⟩ : ∃ L, l.length = L := ⟨_, rfl⟩
  have HL := Lib.hid hL
  rw [hL] at hc1 hl ⊢
  obtain ⟨i0, hi0, hz0, hz1, hz2⟩ := info_parts (show (Tryz.prog.info? 3).map (fun i => (i.zero, i.size, i.bytes)) = some (some (.int .i64 0), 1, 8) by kernel_rfl)
  clear hL h
  go_enter Tryz.func71, Tryz.ntmps71
  go_wp2
  go_loopw [3, 9] (fun v i wr => ∃ k : Nat, k ≤ L ∧ i = .int .i64 k ∧ Hid (BO intR 3 w (tmS (l.map (·.1)) k) v [] wr) ∧ w.heap.size ≤ wr.heap.size) (fun _ i _ => L - (intOf i).toNat)
  case atStart => exact ⟨0, Nat.zero_le _, rfl, (BO.start w).alloc _, by simp⟩
  case round =>
    obtain ⟨k, hk, rfl, HG, hzw⟩ := hrel
    by_cases hlt : k < L
    · have hk2 : k < l.length := by rw [HL.out]; exact hlt
      have hS := HT.out.below HG.out.bel
      obtain ⟨b, off, rfl, hfb, a0, a1, a2, a3, a4⟩ := scAt hS.sli k hk2
      have hltb : b < wr.heap.size := hS.lt b hfb
      obtain ⟨A4, n4, c4, h4⟩ := HO.out _ (List.getElem_mem hk2)
      have hkm : k < (l.map (·.1)).length := by rw [List.length_map]; exact hk2
      have HNOW := Lib.hid (fun h => tmAt_now (l := l.map (·.1)) (k := k) hkm h)
      have HLAST := Lib.hid (fun h h0 => tmAt_last (l := l.map (·.1)) (k := k) hkm h h0)
      have hgm : (l.map (·.1))[k] = (l[k]).1 := List.getElem_map ..
      rw [hgm] at HNOW HLAST
      rw [h4] at a4
      clear h4 hS
      have H0 := Lib.hid (show (l[k]'hk2).1.time = 5 → 0 < k from fun h => Nat.pos_of_ne_zero fun e => by subst e; exact hno _ (by rw [List.getElem?_eq_getElem hkm, hgm]; rfl) h)
      generalize (l[k]'hk2).1 = x at *
      clear hkm hgm hk2
      have HSN := Lib.hid (tmS_snoc (l.map (·.1)) k)
      have HLE := Lib.hid (tmS_len (l.map (·.1)) k)
      have HB1 := Lib.hid (HG.out.new #[.string x.no, .int .i64 x.place, .string x.set, .int .i64 x.time, .slice A4 n4 c4] 71)
      have HPRE := Lib.hid (fun (h0 : 0 < k) => show ∃ g cap, ∃ z, z = tmAt (l.map (·.1)) (k - 1) ∧ u3 = .slice (some ⟨g, 0, none⟩) k cap ∧ g < wr.heap.size ∧ wr.cell? ⟨g, k - 1, none⟩ = some (.int .i64 z) from by
        obtain ⟨g, cap, hv, hg1, hg2⟩ := Own.some_ (enc := fun x : Int => [.int .i64 x]) (hn := fun _ => rfl) HG.out.own (by rw [tmS_len]; exact h0)
        rw [tmS_len] at hv
        have hO := HG.out.own
        rw [hv] at hO
        have hc := (Own.cellAt (enc := fun x : Int => [.int .i64 x]) (hn := fun _ => rfl) hO (k - 1) (by rw [tmS_len]; omega) 0 (by decide)).1
        rw [show (k - 1) * 1 + 0 = k - 1 by omega] at hc
        refine ⟨g, cap, _, ?_, hv, hg2, hc⟩
        simp [tmS])
      clear HG
      go_upto_region 5 with (fail)
      generalize hW : wr.alloc (.cells #[.string x.no, .int .i64 x.place, .string x.set, .int .i64 x.time, .slice A4 n4 c4] 71) = w5 at *
      have d3 : w5.cell? ⟨wr.heap.size, 3, none⟩ = some (.int .i64 x.time) := by rw [← hW]; exact ((str_cells (heap_alloc_new wr _)).1 3).trans rfl
      have fd3 : w5.frozen? ⟨wr.heap.size, 3, none⟩ = false := by rw [← hW]; exact (str_cells (heap_alloc_new wr _)).2 3
      have hz5 : w5.heap.size = wr.heap.size + 1 := by rw [← hW]; simp
      have hw5 : wr.heap.size < w5.heap.size := by omega
      have HCL := Lib.hid (show ∀ (p : Addr), p.block < wr.heap.size → w5.cell? p = wr.cell? p from fun p hp => by rw [← hW]; exact World.cell?_alloc_lt wr _ p hp)
      clear hW hz5 a0 a1 a2 a3 a4
      by_cases h5 : x.time = 5
      · have hk0 : 0 < k := H0.out h5
        have HV := Lib.hid (HLAST.out h5 hk0)
        obtain ⟨g, cap, z, hz, rfl, hgl, hcz⟩ := HPRE.out hk0
        have hcz5 := (HCL.out ⟨g, k - 1, none⟩ hgl).trans hcz
        have i1 : (0 : Int) ≤ (k : Int) - 1 := by omega
        have i2 : (k : Int) - 1 < (k : Int) := by omega
        have i3 : ((k : Int) - 1).toNat = k - 1 := by omega
        clear hcz HPRE
        have q5 : (x.time == 5) = true := beq_iff_eq.2 h5
        have HZ := Lib.hid (HV.out.trans hz.symm)
        clear h5 HV HNOW HLAST hz H0
        have HB2 := Lib.hid (HB1.out.set (i := 3) (fun h => h) (.int .i64 z) (by simp))
        go_upto_region 7 with (fail)
        have e3 : (w5.setCell ⟨wr.heap.size, 3, none⟩ (.int .i64 z)).cell? ⟨wr.heap.size, 3, none⟩ = some (.int .i64 z) := (HB2.out.cell (p := (wr.heap.size, (#[.string x.no, .int .i64 x.place, .string x.set, .int .i64 x.time, .slice A4 n4 c4] : Array Value).setIfInBounds 3 (.int .i64 z), 71)) (by simp)).1 3
        have hz7 : (w5.setCell ⟨wr.heap.size, 3, none⟩ (.int .i64 z)).heap.size = w5.heap.size := by simp [World.setCell]
        generalize w5.setCell ⟨wr.heap.size, 3, none⟩ (.int .i64 z) = w7 at *
        have hw7 : wr.heap.size < w7.heap.size := by omega
        clear hz7 d3 fd3 hcz5
        go_wp2_with (at_builtin; (refine wpList_pushB (R := intR) rfl _ _ _ rfl w.heap.size w.heap.size 3 i0 _ 8 Tryz.underlying22 hi0 hz0 (by assumption) (by assumption) rfl (by decide) _ _ (tmS (l.map (·.1)) k) rfl (HB2.out.own.alloc _) z _ rfl (oneC rfl) w7.heap.size _ _ (heap_alloc_new w7 _) rfl (by rw [HLE.out]; simp [maxLen]; omega) (by rw [HLE.out]; omega) (by simp; omega) ?_); rw [HLE.out]; intro g cap w6 hown6 hg6 hat6 hlt6)
        have hz6 := hg6.size
        simp at hz6
        go_roundw
        case rel => exact ⟨k + 1, by omega, intNum, by rw [HSN.out, HZ.out]; exact Lib.hid ((HB2.out.less (Q := []) (by simp)).alloc _ |>.more hown6 hg6 rfl hat6), by omega⟩
        case measure => simp [intOf]; omega
      · have HV := Lib.hid (HNOW.out (.inl h5))
        have q5 : (x.time == 5) = false := beq_eq_false_iff_ne.2 h5
        clear h5 HNOW HLAST HPRE H0
        go_wp2_with (at_builtin; (refine wpList_pushB (R := intR) rfl _ _ _ rfl w.heap.size w.heap.size 3 i0 _ 8 Tryz.underlying22 hi0 hz0 (by assumption) (by assumption) rfl (by decide) _ _ (tmS (l.map (·.1)) k) rfl (HB1.out.own.alloc _) x.time _ rfl (oneC rfl) w5.heap.size _ _ (heap_alloc_new w5 _) rfl (by rw [HLE.out]; simp [maxLen]; omega) (by rw [HLE.out]; omega) (by simp; omega) ?_); rw [HLE.out]; intro g cap w6 hown6 hg6 hat6 hlt6)
        have hz6 := hg6.size
        simp at hz6
        go_roundw
        case rel => exact ⟨k + 1, by omega, intNum, by rw [HSN.out, HV.out]; exact Lib.hid ((HB1.out.less (Q := []) (by simp)).alloc _ |>.more hown6 hg6 rfl hat6), by omega⟩
        case measure => simp [intOf]; omega
    · have HE := Lib.hid (show tmS (l.map (·.1)) (l.map (·.1)).length = tmS (l.map (·.1)) k by rw [List.length_map, HL.out, show k = L by omega])
      go_wp2
      go_ret
      exact ⟨_, rfl, by rw [HE.out]; exact HG.out.own, HG.out.bel⟩
end Go.Proofs.YtkhegeobdcemkaaGreatDoor

/- A copy of a script, with memory of its own. -/
namespace Go.Proofs.YtkhegeobdcemkaaGreatDoor
set_option linter.unusedVariables false
open Go.RowKit Go.Sort

/-- A list of scenes of one's own, without a stream. -/
structure BI (w : World) (l : List (Scene × Value)) (v : Value) (P : List (Nat × Array Value × TypeId)) (wx : World) : Prop where
  bo : BO svR 71 w l v P wx
  inn : ∀ y ∈ l, Sli paraR wx (InF w wx v P) y.1.paras y.2
section
variable {w wx wy : World} {l : List (Scene × Value)} {v : Value} {P Q : List (Nat × Array Value × TypeId)}
theorem BI.start (w : World) : BI w [] (.slice none 0 0) [] w := ⟨BO.start w, fun x hx => by cases hx⟩
theorem BI.below (h : BI w l v P wx) (hb : Below wx.heap.size wx wy) : BI w l v P wy :=
  ⟨h.bo.below hb, fun y hy => ((h.inn y hy).below hb (fun q hq => hq.2.1)).more fun q hq => ⟨hq.1, Nat.lt_of_lt_of_le hq.2.1 hb.size, hq.2.2⟩⟩
theorem BI.alloc (h : BI w l v P wx) (o : Obj) : BI w l v P (wx.alloc o) := h.below ((Below.refl _ wx).alloc (Nat.le_refl _) o)
theorem BI.drew (h : BI w l v P wx) : BI w l v P wx.drew := ⟨h.bo.drew, fun y hy => (h.inn y hy).drew⟩
theorem BI.new (h : BI w l v P wx) (cs : Array Value) (T : TypeId) : BI w l v ((wx.heap.size, cs, T) :: P) (wx.alloc (.cells cs T)) := ⟨h.bo.new cs T, fun y hy => innNew (h.inn y hy) cs T⟩
theorem BI.set {b i : Nat} {cs : Array Value} {T : TypeId} (h : BI w l v ((b, cs, T) :: P) wx) (u : Value) (hd : ∀ p ∈ P, p.1 ≠ b) : BI w l v ((b, cs.setIfInBounds i u, T) :: P) (wx.setCell ⟨b, i, none⟩ u) := ⟨h.bo.set (fun h => h) u hd, fun y hy => innSet (h.inn y hy)⟩
theorem BI.less (h : BI w l v P wx) (hq : ∀ p ∈ Q, p ∈ P) : BI w l v Q wx := ⟨h.bo.less hq, fun y hy => (h.inn y hy).more fun _ hF => hF.less hq⟩
theorem BI.cell (h : BI w l v P wx) {p : Nat × Array Value × TypeId} (hp : p ∈ P) : (∀ i, wx.cell? ⟨p.1, i, none⟩ = p.2.1[i]?) ∧ (∀ i, wx.frozen? ⟨p.1, i, none⟩ = false) := h.bo.cell hp
theorem BI.more {x' : Scene × Value} {v' : Value} {g : Nat} (h : BI w l v P wx) (hown : Own svR wy w.heap.size w.heap.size 71 (l ++ [x']) v') (hg : wx.grownBy wy v.ownBlock) (hv : v'.ownBlock = some g) (hat : v.ownBlock = some g ∨ g = wx.heap.size)
    (hi : Sli paraR wx (InF w wx v P) x'.1.paras x'.2) : BI w (l ++ [x']) v' P wy := by
  have key : ∀ (k : List Para) u, Sli paraR wx (InF w wx v P) k u → Sli paraR wy (InF w wy v' P) k u := fun k u hs =>
    (hs.keep fun q hq => hg.block q hq.2.1 fun e => hq.2.2.2 e.symm).more fun q hq => ⟨hq.1, Nat.lt_of_lt_of_le hq.2.1 hg.size, hq.2.2.1, by
      rw [hv]
      intro e
      injection e with e
      rcases hat with hat | hat
      · exact hq.2.2.2 (by rw [hat, e])
      · have := hq.2.1; omega⟩
  exact ⟨h.bo.more hown hg hv hat, fun x hx => by
    rcases List.mem_append.1 hx with hx | hx
    · exact key _ _ (h.inn x hx)
    · rw [List.mem_singleton] at hx; subst hx; exact key _ _ hi⟩
/-- A list that a call has just made lies apart from all that stood. -/
theorem BI.fresh (h : BI w l v P wx) (hz : wx.heap.size ≤ wy.heap.size) {k : List Para} {u : Value} (hs : Sli paraR wy (fun q => wx.heap.size ≤ q ∧ q < wy.heap.size) k u) : Sli paraR wy (InF w wy v P) k u :=
  hs.more fun q hq => ⟨Nat.le_trans h.bo.size hq.1, hq.2, fun p hp => by have := h.bo.plt hp; omega, fun e => by have := (h.bo.own.block q e).2; omega⟩
theorem BI.modify {g M cap j : Nat} (h : BI w l (.slice (some ⟨g, 0, none⟩) M cap) P wx) (f : Scene × Value → Scene × Value) (k : Nat) (u : Value) (hf : ∀ x, (f x).1.cells (f x).2 = (x.1.cells x.2).set j u) (hj : j < 5) (hk : k < l.length) (hi : ∀ x, (f x).1.paras = x.1.paras ∧ (f x).2 = x.2) :
    BI w (l.modify k f) (.slice (some ⟨g, 0, none⟩) M cap) P (wx.setCell ⟨g, k * 5 + j, none⟩ u) := by
  refine ⟨BO.modify (n := 5) (enc := fun x : Scene × Value => x.1.cells x.2) (hn := fun _ => rfl) h.bo f k j u hf hj hk, fun y hy => ?_⟩
  have key : ∀ x ∈ l, Sli paraR (wx.setCell ⟨g, k * 5 + j, none⟩ u) (InF w (wx.setCell ⟨g, k * 5 + j, none⟩ u) (.slice (some ⟨g, 0, none⟩) M cap) P) x.1.paras x.2 := fun x hx =>
    ((h.inn x hx).setCell u (p := ⟨g, k * 5 + j, none⟩) (fun hF => hF.2.2.2 rfl)).more fun q hq => ⟨hq.1, by simpa [World.setCell] using hq.2.1, hq.2.2⟩
  rcases mem_mod hy with hy | ⟨x, hx, rfl⟩
  · exact key y hy
  · rw [(hi x).1, (hi x).2]; exact key x hx
end
end Go.Proofs.YtkhegeobdcemkaaGreatDoor

/- The part of one who speaks, in plain words. No program in sight. -/
namespace Go.Proofs.YtkhegeobdcemkaaGreatDoor
set_option linter.unusedVariables false
open Go.RowKit

def cueB (nm : ByteArray) (p : Para) : Bool := decide (p.kind = 2) && decide (p.text = nm)
def hcB (ps : List Para) (nm : ByteArray) : Bool := ps.any (cueB nm)
def nmdB (t nm : ByteArray) : Bool := decide (0 < (fndL (wordsT t) (wordsT nm)).length)
/-- Whether the group with a number is that of one who speaks. -/
def nxtB (gs : List Grp) (nm : ByteArray) (k : Nat) : Bool := match gs[k]? with
  | some g => decide (g.2.2 = nm)
  | none => false
def txtAt (ps : List Para) (k : Nat) : ByteArray := ((ps[k]?).map (·.text)).getD ⟨#[]⟩
def needB (ps : List Para) (nm : ByteArray) (gs : List Grp) (k : Nat) (g : Grp) : Bool :=
  if g.2.2 = ⟨#[]⟩ then nmdB (txtAt ps g.1) nm else (decide (g.2.2 = nm) || nxtB gs nm (k + 1))
def partN (ps : List Para) (nm : ByteArray) (gs : List Grp) : Nat → List Para
  | 0 => []
  | k + 1 => if h : k < gs.length then (if needB ps nm gs k gs[k] then partN ps nm gs k ++ (ps.drop gs[k].1).take (gs[k].2.1 - gs[k].1) else partN ps nm gs k) else partN ps nm gs k
def partS (ps : List Para) (nm : ByteArray) : List Para := partN ps nm (grpS ps) (grpS ps).length
theorem partN_yes {ps : List Para} {nm : ByteArray} {gs : List Grp} {k : Nat} (h : k < gs.length) (hb : needB ps nm gs k gs[k] = true) : partN ps nm gs (k + 1) = partN ps nm gs k ++ (ps.drop gs[k].1).take (gs[k].2.1 - gs[k].1) := by rw [partN, dif_pos h, if_pos hb]
theorem partN_no {ps : List Para} {nm : ByteArray} {gs : List Grp} {k : Nat} (h : k < gs.length) (hb : needB ps nm gs k gs[k] = false) : partN ps nm gs (k + 1) = partN ps nm gs k := by rw [partN, dif_pos h, if_neg (by rw [hb]; decide)]
theorem partN_len (ps : List Para) (nm : ByteArray) (gs : List Grp) : ∀ k, (partN ps nm gs k).length ≤ k * ps.length
  | 0 => by simp [partN]
  | k + 1 => by
    have ih := partN_len ps nm gs k
    rw [partN, Nat.add_mul, Nat.one_mul]
    split
    · split
      · rw [List.length_append, List.length_take, List.length_drop]
        omega
      · omega
    · omega
/-- The names of the groups. -/
def nmG (gs : List Grp) : List ByteArray := gs.map (·.2.2)
theorem nmG_mod (gs : List Grp) (n : Nat) (f : Grp → Grp) (hf : ∀ g, (f g).2.2 = g.2.2) : nmG (gs.modify n f) = nmG gs := by
  unfold nmG
  apply List.ext_getElem?
  intro i
  rw [List.getElem?_map, List.getElem?_modify, List.getElem?_map]
  cases gs[i]? with
  | none => rfl
  | some r => by_cases e : n = i <;> simp [e, hf]
theorem cueB_no2 {nm : ByteArray} {p : Para} (h : ¬ p.kind = 2) : cueB nm p = false := by unfold cueB; rw [decide_eq_false h]; rfl
theorem grpN_nm {ps : List Para} {nm : ByteArray} (hn : ¬ nm = ⟨#[]⟩) : ∀ k, k ≤ ps.length → ((nmG (grpN ps k)).any fun s => decide (s = nm)) = (ps.take k).any (cueB nm)
  | 0, _ => rfl
  | k + 1, hk => by
    have ih := grpN_nm (ps := ps) hn k (by omega)
    have hk2 : k < ps.length := hk
    rw [List.take_succ_eq_append_getElem hk2, List.any_append, ← ih]
    by_cases h2 : ps[k].kind = 2
    · rw [grpN_cue hk2 h2]
      unfold nmG
      rw [List.map_append, List.any_append]
      congr 1
      simp [cueB, h2]
    · by_cases h34 : ps[k].kind = 3 ∨ ps[k].kind = 4
      · rw [grpN_in hk2 h34, nmG_mod _ _ (fun g => (g.1, k + 1, g.2.2)) (fun _ => rfl)]
        simp [cueB_no2 h2]
      · rw [grpN_out hk2 ⟨h2, by omega, by omega⟩]
        unfold nmG
        rw [List.map_append, List.any_append]
        congr 1
        have : ¬ (⟨#[]⟩ : ByteArray) = nm := fun e => hn e.symm
        simp [cueB_no2 h2, this]
/-- A scene has a cue of somebody where one of its groups bears the name. -/
theorem grpS_any (ps : List Para) {nm : ByteArray} (hn : ¬ nm = ⟨#[]⟩) : ((grpS ps).any fun g => decide (g.2.2 = nm)) = hcB ps nm := by
  have h := grpN_nm (ps := ps) hn ps.length (Nat.le_refl _)
  rw [List.take_length] at h
  rw [hcB, ← h]
  unfold nmG grpS
  rw [List.any_map]
  rfl
/-- A name has a word. -/
theorem wdS_pos : ∀ (r cur : List UInt8), wdOk cur = true → 0 < (wdS cur r).length
  | [], cur, h => by rw [wdS, flW_yes h]; simp
  | c :: r, cur, h => by
    rw [wdS]
    split
    · exact wdS_pos r _ (by rw [wdOk_snoc, h]; rfl)
    · rw [flW_yes h]; simp
theorem name_words {nm : ByteArray} (h : nameB nm = true) : 0 < (wordsT nm).length := by
  unfold nameB proB at h
  unfold wordsT
  cases hd : nm.data.toList with
  | nil => rw [hd] at h; simp at h
  | cons c r =>
    rw [hd] at h
    simp only [Bool.and_eq_true] at h
    have hc : capB c = true := h.1.1.2
    have ha : alnB c = true := by unfold alnB; rw [hc]; rfl
    rw [wdS, if_pos (by unfold inWB; rw [ha]; rfl)]
    refine wdS_pos r _ ?_
    rw [List.nil_append]
    show ([loC c].any fun c => c != 39) = true
    rw [List.any_cons, loC_aln ha]
    rfl
theorem name_ne {nm : ByteArray} (h : nameB nm = true) : ¬ nm = ⟨#[]⟩ := by
  intro e
  subst e
  exact absurd h (by decide)
theorem name_sz {nm : ByteArray} (h : nameB nm = true) : nm.size ≤ 30 := by
  unfold nameB proB at h
  simp only [Bool.and_eq_true, decide_eq_true_eq] at h
  exact h.1.1.1.2
/-- The scenes of one who speaks. -/
def sidOne (xs : List Scene) (nm : ByteArray) (k : Nat) (first : Bool) (x : Scene) : Scene := { x with time := if first = true then tmAt xs k else x.time, paras := partS x.paras nm }
def sidN (xs : List Scene) (nm : ByteArray) : Nat → List Scene
  | 0 => []
  | k + 1 => if h : k < xs.length then (if hcB xs[k].paras nm then sidN xs nm k ++ [sidOne xs nm k (sidN xs nm k).isEmpty xs[k]] else sidN xs nm k) else sidN xs nm k
def sidS (xs : List Scene) (nm : ByteArray) : List Scene := sidN xs nm xs.length
theorem sidN_yes {xs : List Scene} {nm : ByteArray} {k : Nat} (h : k < xs.length) (hb : hcB xs[k].paras nm = true) : sidN xs nm (k + 1) = sidN xs nm k ++ [sidOne xs nm k (sidN xs nm k).isEmpty xs[k]] := by rw [sidN, dif_pos h, if_pos hb]
theorem sidN_no {xs : List Scene} {nm : ByteArray} {k : Nat} (h : k < xs.length) (hb : hcB xs[k].paras nm = false) : sidN xs nm (k + 1) = sidN xs nm k := by rw [sidN, dif_pos h, if_neg (by rw [hb]; decide)]
theorem sidN_len (xs : List Scene) (nm : ByteArray) : ∀ k, (sidN xs nm k).length ≤ k
  | 0 => Nat.le_refl _
  | k + 1 => by
    have ih := sidN_len xs nm k
    rw [sidN]
    split
    · split
      · simp; omega
      · omega
    · omega
/-- What the group's name says of its first paragraph. -/
theorem GOk.nm {ps : List Para} {g : Grp} (h : GOk ps g) {p : Para} (hp : ps[g.1]? = some p) (nm : ByteArray) (hn : ¬ nm = ⟨#[]⟩) : decide (g.2.2 = nm) = cueB nm p := by
  unfold cueB
  by_cases h2 : p.kind = 2
  · rw [h.cue p hp h2, decide_eq_true h2]; rfl
  · rw [(h.no p hp h2).1, decide_eq_false h2, decide_eq_false (fun e => hn e.symm)]; rfl
end Go.Proofs.YtkhegeobdcemkaaGreatDoor

