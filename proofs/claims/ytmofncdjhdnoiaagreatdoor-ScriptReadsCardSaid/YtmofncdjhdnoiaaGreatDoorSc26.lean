/- Texts packed: EqX. -/
import Derived.Test.YtmofncdjhdnoiaaGreatDoorSc25
import Derived.Test.YtmofncdjhdnoiaaGreatDoorSc21
/- Lists of scenes compared by a function. -/
namespace Go.Proofs.YtmofncdjhdnoiaaGreatDoor
set_option linter.unusedVariables false
open Go.RowKit Go.Sort

/-- A function that compares two scenes. -/
def EqS (P : Program) (g : Nat) : Prop :=
  (∀ args W, (callFunc g args).run P W = .ok (.enter g args) W) ∧ ∀ (x y : Scene) (u v : Value) (F : Nat → Prop) (W : World), Sli paraR W F x.paras u → Sli paraR W F y.paras v → (∀ b, F b → b < W.heap.size) →
    Calls P g #[.agg #[.string x.no, .int .i64 x.place, .string x.set, .int .i64 x.time, u], .agg #[.string y.no, .int .i64 y.place, .string y.set, .int .i64 y.time, v]] W fun e w' => e = .returned (.bool (decide (x = y))) ∧ Below W.heap.size W w'
theorem eqS2 : EqS Tryz.prog 50 := ⟨fun _ _ => by kernel_rfl, fun x y u v F W h1 h2 h3 => sameScene1_c x y u v F W h1 h2 h3⟩
/-- Two lists of scenes in memory. -/
structure Sc2 (w : World) (F : Nat → Prop) (l : List (Scene × Value)) (v : Value) : Prop where
  sli : Sli svR w F l v
  par : ∀ y ∈ l, Sli paraR w F y.1.paras y.2
  lt : ∀ b, F b → b < w.heap.size
theorem Sc2.below {w w' : World} {F : Nat → Prop} {l : List (Scene × Value)} {v : Value} (h : Sc2 w F l v) (hb : Below w.heap.size w w') : Sc2 w' F l v :=
  ⟨h.sli.below hb h.lt, fun y hy => (h.par y hy).below hb h.lt, fun b hF => Nat.lt_of_lt_of_le (h.lt b hF) hb.size⟩
set_option maxRecDepth 100000 in
set_option maxHeartbeats 1600000 in
theorem eqScenes_c {F : Nat → Prop} (g : Nat) (l1 l2 : List (Scene × Value)) (v1 v2 : Value) (w : World) (h1 : Sc2 w F l1 v1) (h2 : Sc2 w F l2 v2) (hg : EqS Tryz.prog g) :
    Calls Tryz.prog 49 #[v1, v2, .func (.func g) #[] #[]] w fun e w' => e = .returned (.bool (decide (l1.map (·.1) = l2.map (·.1)))) ∧ Below w.heap.size w w' := by
  obtain ⟨A1, c1, rfl, hlc1, hc1⟩ := h1.sli.form
  obtain ⟨A2, c2, rfl, hlc2, hc2⟩ := h2.sli.form
  have eg := hg.1
  have HP := Lib.hid hg.2
  have H1 := Lib.hid h1; clear h1
  have H2 := Lib.hid h2; clear h2
  clear hg
  by_cases hne : l1.length = l2.length
  · obtain ⟨n, hn1⟩ : ∃ n, l1.length = n := ⟨_, rfl⟩
    have hn2 : l2.length = n := by omega
    have HN1 := Lib.hid hn1
    have HN2 := Lib.hid hn2
    rw [hn1] at H1 hlc1 ⊢
    rw [hn2] at H2 ⊢
    clear hn1 hn2 hne
    go_enter Tryz.func49, Tryz.ntmps49
    go_wp2
    go_loopw [17] (fun i wr => ∃ k : Nat, k ≤ n ∧ i = .int .i64 k ∧ Below w.heap.size w wr ∧ Hid ((l1.map (·.1)).take k = (l2.map (·.1)).take k)) (fun i _ => n - (intOf i).toNat)
    case atStart => exact ⟨0, Nat.zero_le _, rfl, Below.refl _ _, rfl⟩
    case round =>
      obtain ⟨k, hk, rfl, hb, HT⟩ := hrel
      by_cases hlt : k < n
      · have hk1 : k < l1.length := by rw [HN1.out]; exact hlt
        have hk2 : k < l2.length := by rw [HN2.out]; exact hlt
        have S1 := H1.out.below hb
        have S2 := H2.out.below hb
        obtain ⟨b, off, rfl, hfb, a0, a1, a2, a3, a4⟩ := scAt S1.sli k hk1
        obtain ⟨b2, off2, rfl, hfb2, d0, d1, d2, d3, d4⟩ := scAt S2.sli k hk2
        have hltb : b < wr.heap.size := S1.lt b hfb
        have hltb2 : b2 < wr.heap.size := S2.lt b2 hfb2
        have p1 := S1.par _ (List.getElem_mem hk1)
        have p2 := S2.par _ (List.getElem_mem hk2)
        obtain ⟨A3, c3, e3, _, _⟩ := p1.form
        obtain ⟨A4, c4, e4, _, _⟩ := p2.form
        have HEQ := Lib.hid (fun (W : World) (hW : Below w.heap.size w W) (hW2 : Below wr.heap.size wr W) => HP.out (l1[k]'hk1).1 (l2[k]'hk2).1 (l1[k]'hk1).2 (l2[k]'hk2).2 F W (p1.below hW2 S1.lt) (p2.below hW2 S2.lt) (fun b hb => Nat.lt_of_lt_of_le (S1.lt b hb) hW2.size))
        have HYES := Lib.hid (fun (h : (l1[k]'hk1).1 = (l2[k]'hk2).1) => eq_take_next (a := l1.map (·.1)) (b := l2.map (·.1)) (k := k) (by rw [List.length_map]; exact hk1) (by rw [List.length_map]; exact hk2) HT.out (by rw [List.getElem_map, List.getElem_map]; exact h))
        have HNO := Lib.hid (fun (h : ¬ (l1[k]'hk1).1 = (l2[k]'hk2).1) => ne_at (a := l1.map (·.1)) (b := l2.map (·.1)) (k := k) (by rw [List.length_map]; exact hk1) (by rw [List.length_map]; exact hk2) (by rw [List.getElem_map, List.getElem_map]; exact h))
        rw [e3] at a4 HEQ
        rw [e4] at d4 HEQ
        clear p1 p2 S1 S2 e3 e4
        generalize (l1[k]'hk1).1 = x at *
        generalize (l2[k]'hk2).1 = y at *
        generalize hx3 : x.paras.length = n3 at *
        generalize hy4 : y.paras.length = n4 at *
        have HBB := Lib.hid hb
        clear hk1 hk2 hx3 hy4 hfb hfb2 hb
        have HB2 := Lib.hid (fun (o1 o2 : Obj) => show Below wr.heap.size wr ((wr.alloc o1).alloc o2) from (((Below.refl _ wr).alloc (Nat.le_refl _) o1).alloc (by simp) o2))
        by_cases hxy : x = y
        · have HD := Lib.hid (show decide (x = y) = true from decide_eq_true hxy)
          have HX := Lib.hid (HYES.out hxy)
          clear hxy HYES HNO
          go_wp2_with fail
          refine (HEQ.out _ (by exact HBB.out.trans ((HB2.out _ _).mono HBB.out.size)) (by exact HB2.out _ _)).mono ?_
          rintro e w' ⟨rfl, hb'⟩
          have HB3 := Lib.hid (HBB.out.trans (((HB2.out _ _).trans (hb'.mono (HB2.out _ _).size)).mono HBB.out.size))
          clear hb'
          rw [HD.out]
          go_wp2
          go_roundw
          case rel => exact ⟨k + 1, by omega, intNum, HB3.out, HX.out⟩
          case measure => simp [intOf]; omega
        · have HD := Lib.hid (show decide (x = y) = false from decide_eq_false hxy)
          have HX := Lib.hid (HNO.out hxy)
          clear hxy HYES HNO
          go_wp2_with fail
          refine (HEQ.out _ (by exact HBB.out.trans ((HB2.out _ _).mono HBB.out.size)) (by exact HB2.out _ _)).mono ?_
          rintro e w' ⟨rfl, hb'⟩
          have HB3 := Lib.hid (HBB.out.trans (((HB2.out _ _).trans (hb'.mono (HB2.out _ _).size)).mono HBB.out.size))
          clear hb'
          rw [HD.out]
          go_wp2
          go_ret
          exact ⟨ret_bool (by symm; simpa using HX.out), HB3.out⟩
      · have e : k = n := by omega
        have HN := Lib.hid (show l1.map (·.1) = l2.map (·.1) by have := HT.out; rwa [List.take_of_length_le (by rw [List.length_map, HN1.out]; omega), List.take_of_length_le (by rw [List.length_map, HN2.out]; omega)] at this)
        go_wp2
        go_ret
        exact ⟨ret_bool (by symm; simpa using HN.out), hb⟩
  · have HN := Lib.hid (show ¬ l1.map (·.1) = l2.map (·.1) by intro h; exact hne (by have := congrArg List.length h; simpa using this))
    have hz : ¬ (l1.length : Int) = l2.length := by omega
    go_enter Tryz.func49, Tryz.ntmps49
    go_wp2
    go_ret
    exact ⟨ret_bool (by symm; simpa using HN.out), Below.refl _ _⟩

set_option maxRecDepth 100000 in
set_option maxHeartbeats 1600000 in
theorem SameScripts_c {F : Nat → Prop} (t1 t2 : ByteArray) (l1 l2 : List (Scene × Value)) (v1 v2 : Value) (w : World) (h1 : Sc2 w F l1 v1) (h2 : Sc2 w F l2 v2) :
    Calls Tryz.prog 16 #[.agg #[.string t1, v1], .agg #[.string t2, v2]] w fun e w' => e = .returned (.bool (decide ((⟨t1, l1.map (·.1)⟩ : Script) = ⟨t2, l2.map (·.1)⟩))) ∧ Below w.heap.size w w' := by
  obtain ⟨A1, c1, rfl, _, _⟩ := h1.sli.form
  obtain ⟨A2, c2, rfl, _, _⟩ := h2.sli.form
  have H1 := Lib.hid h1
  have H2 := Lib.hid h2
  clear h1 h2
  obtain ⟨n1, hn1⟩ : ∃ n, l1.length = n := ⟨_, rfl⟩
  obtain ⟨n2, hn2⟩ : ∃ n, l2.length = n := ⟨_, rfl⟩
  rw [hn1] at H1 ⊢
  rw [hn2] at H2 ⊢
  clear hn1 hn2
  go_enter Tryz.func16, Tryz.ntmps16
  go_upto_region 1 with (fail)
  have hG : PvG w [(w.heap.size + 1, xCs t2 (.slice A2 n2 c2), 28), (w.heap.size, xCs t1 (.slice A1 n1 c1), 28)] ((w.alloc (.cells (xCs t1 (.slice A1 n1 c1)) 28)).alloc (.cells (xCs t2 (.slice A2 n2 c2)) 28)) := by
    have h := ((pvStart w).new (xCs t1 (.slice A1 n1 c1)) 28).new (xCs t2 (.slice A2 n2 c2)) 28
    rw [show (w.alloc (.cells (xCs t1 (.slice A1 n1 c1)) 28)).heap.size = w.heap.size + 1 by simp] at h
    exact h
  generalize hW : (w.alloc (.cells #[.string t1, .slice A1 n1 c1] 28)).alloc (.cells #[.string t2, .slice A2 n2 c2] 28) = w1
  have hG1 : PvG w [(w.heap.size + 1, xCs t2 (.slice A2 n2 c2), 28), (w.heap.size, xCs t1 (.slice A1 n1 c1), 28)] w1 := by rw [← hW]; exact hG
  clear hG hW
  have ga := (hG1.cell (p := (w.heap.size, xCs t1 (.slice A1 n1 c1), 28)) (by simp)).1
  have gb := (hG1.cell (p := (w.heap.size + 1, xCs t2 (.slice A2 n2 c2), 28)) (by simp)).1
  have e0 : w1.cell? ⟨w.heap.size, 0, none⟩ = some (.string t1) := ga 0
  have e1 : w1.cell? ⟨w.heap.size, 1, none⟩ = some (.slice A1 n1 c1) := ga 1
  have d0 : w1.cell? ⟨w.heap.size + 1, 0, none⟩ = some (.string t2) := gb 0
  have d1 : w1.cell? ⟨w.heap.size + 1, 1, none⟩ = some (.slice A2 n2 c2) := gb 1
  have HB := Lib.hid hG1.bel
  have HEQ := Lib.hid (eqScenes_c 50 l1 l2 _ _ w1 (H1.out.below hG1.bel) (H2.out.below hG1.bel) eqS2)
  clear ga gb hG1 H1 H2
  by_cases ht : t1 = t2
  · subst ht
    go_wp2_with fail
    refine HEQ.out.mono ?_
    rintro e w2 ⟨rfl, hb2⟩
    have HB2 := Lib.hid (HB.out.trans (hb2.mono HB.out.size))
    have HDE := Lib.hid (show decide (l1.map (·.1) = l2.map (·.1)) = decide ((⟨t1, l1.map (·.1)⟩ : Script) = ⟨t1, l2.map (·.1)⟩) by simp)
    generalize decide (l1.map (·.1) = l2.map (·.1)) = d at *
    go_wp2
    go_ret
    exact ⟨ret_bool HDE.out, HB2.out⟩
  · have tt := beq_ne ht
    have HN := Lib.hid (show ¬ (⟨t1, l1.map (·.1)⟩ : Script) = ⟨t2, l2.map (·.1)⟩ from fun e => ht (by injection e))
    clear ht
    go_wp2
    go_ret
    exact ⟨ret_bool (by symm; simpa using HN.out), HB.out⟩

end Go.Proofs.YtmofncdjhdnoiaaGreatDoor

