/- Texts packed: TkB, TkA, TlW, TlX, GrW, SdW, SdX. -/
import Derived.Test.YtkhegeobdcemkaaGreatDoorSe01
import Derived.Test.YtkhegeobdcemkaaGreatDoorSe02
import Derived.Test.YtkhegeobdcemkaaGreatDoorSe15
import Derived.Deep.QuietTactic
import Derived.BigQuiet
import Derived.Deep.RegionHeld3
import Derived.Deep.DeepCutAuto
import Derived.RegionTactic
import Derived.Test.YtkhegeobdcemkaaGreatDoorSe14
import Derived.Test.YtkhegeobdcemkaaGreatDoorSe03
import Derived.Test.YtkhegeobdcemkaaGreatDoorSe29
import Derived.Test.YtkhegeobdcemkaaGreatDoorSe06
import Derived.Test.YtkhegeobdcemkaaGreatDoorSe09
import Derived.Test.YtkhegeobdcemkaaGreatDoorSe21
/- The generator's takes with a change. -/
namespace Go.Proofs.YtkhegeobdcemkaaGreatDoor
set_option linter.unusedVariables false
open Go.RowKit Go.Sort

theorem GS.far {α : Type} {n : Nat} {enc : α → List Value} {hn : ∀ x, (enc x).length = n} {w wx : World} {sb : Nat} {e : TypeId} {l : List α} {v : Value} {k : Int} (h : GS (Rep.flat n enc hn) e w sb l v [] k wx) {b : Nat} (i : Nat) (u : Value) (hb : w.heap.size ≤ b) (hne : v.ownBlock ≠ some b) : GS (Rep.flat n enc hn) e w sb l v [] k (wx.setCell ⟨b, i, none⟩ u) :=
  ⟨h.str.setCell (by have := h.lt; show sb < b; omega) _, gSet h.gr hb _, h.own.fkeep (fun q e _ => Below.heap_setCell wx _ _ q (fun e2 => hne (by rw [e, e2]))), h.lt, fun p hp => by cases hp⟩
end Go.Proofs.YtkhegeobdcemkaaGreatDoor

/- The generator's takes. -/
namespace Go.Proofs.YtkhegeobdcemkaaGreatDoor
set_option linter.unusedVariables false
open Go.RowKit Go.Sort

theorem keyS2 : PlainKey Tryz.prog 9 Value.string := plainKey_string Tryz.underlying9
theorem zeroI (w : World) : (zeroValue 3).run Tryz.prog w = .ok (.int .i64 0) w := by kernel_rfl
end Go.Proofs.YtkhegeobdcemkaaGreatDoor

/- script.Sets, walked. -/
namespace Go.Proofs.YtkhegeobdcemkaaGreatDoor
set_option linter.unusedVariables false
open Go.RowKit Go.Sort

end Go.Proofs.YtkhegeobdcemkaaGreatDoor

/- R.SetsOf, walked. -/
namespace Go.Proofs.YtkhegeobdcemkaaGreatDoor
set_option linter.unusedVariables false
open Go.RowKit Go.Sort

end Go.Proofs.YtkhegeobdcemkaaGreatDoor

/- R.groupsOf, walked. -/
namespace Go.Proofs.YtkhegeobdcemkaaGreatDoor
set_option linter.unusedVariables false
open Go.RowKit Go.Sort

abbrev GpG (w : World) (l : List Grp) (v : Value) (P : List Pb) (wx : World) : Prop := BM gpR 88 w l v P wx
set_option maxRecDepth 100000 in
set_option maxHeartbeats 1600000 in
theorem groupsOf_c {F : Nat → Prop} (x : Scene) (v : Value) (w : World) (h : Sli paraR w F x.paras v) (hF : ∀ b, F b → b < w.heap.size) (hl : x.paras.length ≤ 100000) (hr : RtP x.paras) :
    Calls Tryz.prog 47 #[.agg #[.string x.no, .int .i64 x.place, .string x.set, .int .i64 x.time, v]] w fun e w' => ∃ v', e = .returned v' ∧ Below w.heap.size w w' ∧ Own gpR w' w.heap.size w.heap.size 88 (grpS x.paras) v' := by
  obtain ⟨i0, hi0, hz0, hz1, hz2⟩ := info_parts (show (Tryz.prog.info? 88).map (fun i => (i.zero, i.size, i.bytes)) = some (some (.agg #[.int .i64 0, .int .i64 0, .string ⟨#[]⟩]), 3, 32) by kernel_rfl)
  obtain ⟨A, c, rfl, hlc, hcm⟩ := h.form
  have HH := Lib.hid h
  have HF := Lib.hid hF
  have HCH := Lib.hid (fun k hk => grpN_ch hr k hk)
  obtain ⟨M, hM⟩ : ∃ M, x.paras.length = M := ⟨_, rfl⟩
  have HM := Lib.hid hM
  rw [hM] at HH hlc hl ⊢
  have HR := Lib.hid hr
  clear h hF hM hr
  have G1 := Lib.hid (show GpG w (grpN x.paras 0) (.slice none 0 0) [(w.heap.size, cellsP #[.string x.no, .int .i64 x.place, .string x.set, .int .i64 x.time, .slice A M c] 71)] (w.alloc (.cells #[.string x.no, .int .i64 x.place, .string x.set, .int .i64 x.time, .slice A M c] 71)) from (BM.start (n := 3) (enc := fun x : Grp => [.int .i64 (x.1 : Int), .int .i64 (x.2.1 : Int), .string x.2.2]) (hn := fun _ => rfl) (e := 88) w).new _ _)
  go_enter Tryz.func47, Tryz.ntmps47
  go_upto_region 1 with (fail)
  generalize hW : w.alloc (.cells #[.string x.no, .int .i64 x.place, .string x.set, .int .i64 x.time, .slice A M c] 71) = w1 at *
  obtain ⟨gx, _⟩ := G1.out.cell (b := w.heap.size) (cs := #[.string x.no, .int .i64 x.place, .string x.set, .int .i64 x.time, .slice A M c]) (T := 71) (by simp)
  have y4 : w1.cell? ⟨w.heap.size, 4, none⟩ = some (.slice A M c) := gx 4
  have G2 := Lib.hid (G1.out.less (Q := []) (by simp))
  clear gx hW G1
  go_wp2
  go_loopw [3, 9] (fun v i wr => ∃ k : Nat, k ≤ M ∧ i = .int .i64 k ∧ Hid (GpG w (grpN x.paras k) v [] wr)) (fun _ i _ => M - (intOf i).toNat)
  case atStart => exact ⟨0, Nat.zero_le _, rfl, G2⟩
  case round =>
    clear G2 y4
    obtain ⟨k, hk, rfl, HG⟩ := hrel
    by_cases hlt : k < M
    · have hk2 : k < x.paras.length := by rw [HM.out]; exact hlt
      obtain ⟨b, off, rfl, hfb, p0, p1⟩ := para_at (HH.out.below HG.out.bel HF.out) k hk2
      have hbw : b < wr.heap.size := by have := HF.out b hfb; have := HG.out.size; omega
      have hgl := (HCH.out k (by omega)).len
      have hpos := (HCH.out k (by omega)).pos
      have HCU := Lib.hid (fun h => grpN_cue hk2 h)
      have HIN := Lib.hid (fun h => grpN_in hk2 h)
      have HOU := Lib.hid (fun h => grpN_out hk2 h)
      have HBE := Lib.hid (fun (h : x.paras[k].kind = 3 ∨ x.paras[k].kind = 4) => show 0 < k by
        obtain ⟨j, e, _⟩ := HR.out.behind k hk2 h
        omega)
      generalize x.paras[k]'hk2 = p at *
      generalize grpN x.paras k = gs at *
      have G4 := Lib.hid (HG.out.new #[.int .i64 p.kind, .string p.text] 78)
      have hzz := HG.out.size
      clear hk2 HG
      go_upto_region 5 with (fail)
      generalize hW : wr.alloc (.cells #[.int .i64 p.kind, .string p.text] 78) = w5 at *
      obtain ⟨gx, _⟩ := G4.out.cell (b := wr.heap.size) (cs := #[.int .i64 p.kind, .string p.text]) (T := 78) (by simp)
      have d0 : w5.cell? ⟨wr.heap.size, 0, none⟩ = some (.int .i64 p.kind) := gx 0
      have d1 : w5.cell? ⟨wr.heap.size, 1, none⟩ = some (.string p.text) := gx 1
      have G5 := Lib.hid (G4.out.less (Q := []) (by simp))
      have hzw : w.heap.size ≤ w5.heap.size := G5.out.size
      have ew : IntKind.i64.wrap ((k : Int) + 1) = (k : Int) + 1 := IntWalk.i64_in _ (by omega)
      have HCS := fun (s : ByteArray) => show ([.int .i64 (k : Int), .int .i64 ((k : Int) + 1), .string s] : List Value) = [.int .i64 (k : Int), .int .i64 ((k + 1 : Nat) : Int), .string s] by rw [Int.natCast_add]; rfl
      clear gx hW p0 p1 G4
      by_cases h2 : p.kind = 2
      · have e2 : (p.kind == 2) = true := beq_iff_eq.2 h2
        have HN := Lib.hid (HCU.out h2)
        clear h2 HCU HIN HOU HBE
        go_wp2_with (at_builtin; (refine wpList_pushB (R := gpR) rfl _ _ _ rfl w.heap.size w.heap.size 88 i0 _ 32 Tryz.underlying85 hi0 hz0 (by assumption) (by assumption) rfl (by decide) _ u3 gs rfl (G5.out.own.alloc _) (k, k + 1, p.text) [.int .i64 (k : Int), .int .i64 ((k : Int) + 1), .string p.text] (HCS _) (oneC rfl) w5.heap.size _ _ (heap_alloc_new w5 _) rfl (by simp [maxLen]; omega) (by omega) (by simp; omega) ?_); intro g cap w7 hown7 hg7 hat7 hlt7)
        go_roundw
        case rel => exact ⟨k + 1, by omega, intNum, by rw [HN.out]; exact Lib.hid ((G5.out.alloc _).more hown7 hg7 rfl hat7)⟩
        case measure => simp [intOf]; omega
      have e2 : (p.kind == 2) = false := beq_eq_false_iff_ne.2 h2
      by_cases h34 : p.kind = 3 ∨ p.kind = 4
      · have HN := Lib.hid (HIN.out h34)
        have hp0 := hpos (HBE.out h34)
        obtain ⟨g, cap, rfl, hg1, hg2⟩ := Own.some_ (enc := fun x : Grp => [.int .i64 (x.1 : Int), .int .i64 (x.2.1 : Int), .string x.2.2]) (hn := fun _ => rfl) G5.out.own hp0
        have hca := Own.cellAt (enc := fun x : Grp => [.int .i64 (x.1 : Int), .int .i64 (x.2.1 : Int), .string x.2.2]) (hn := fun _ => rfl) G5.out.own (gs.length - 1) (by omega) 1 (by decide)
        have G6 := Lib.hid (BM.modify (enc := fun x : Grp => [.int .i64 (x.1 : Int), .int .i64 (x.2.1 : Int), .string x.2.2]) (hn := fun _ => rfl) G5.out (fun g => (g.1, k + 1, g.2.2)) (gs.length - 1) 1 (.int .i64 ((k : Int) + 1)) (fun _ => rfl) (by decide) (by omega))
        obtain ⟨u, hu⟩ : ∃ u, w5.cell? ⟨g, (gs.length - 1) * 3 + 1, none⟩ = some u := ⟨_, hca.1⟩
        have fu := hca.2
        have ew1 : IntKind.i64.wrap ((gs.length : Int) - 1) = (gs.length : Int) - 1 := IntWalk.i64_in _ (by omega)
        have i1 : (0 : Int) ≤ (gs.length : Int) - 1 := by omega
        have i2 : (gs.length : Int) - 1 < (gs.length : Int) := by omega
        have i3 : ((gs.length : Int) - 1).toNat = gs.length - 1 := by omega
        clear HCU HIN HOU HBE hca G5 hpos h2
        generalize gs.length = m at *
        by_cases h3 : p.kind = 3
        · have e3 : (p.kind == 3) = true := beq_iff_eq.2 h3
          clear h3 h34
          go_wp2
          go_roundw
          case rel => exact ⟨k + 1, by omega, intNum, by rw [HN.out]; exact G6⟩
          case measure => simp [intOf]; omega
        · have e3 : (p.kind == 3) = false := beq_eq_false_iff_ne.2 h3
          have e4 : (p.kind == 4) = true := beq_iff_eq.2 (h34.resolve_left h3)
          clear h3 h34
          go_wp2
          go_roundw
          case rel => exact ⟨k + 1, by omega, intNum, by rw [HN.out]; exact G6⟩
          case measure => simp [intOf]; omega
      · have e3 : (p.kind == 3) = false := beq_eq_false_iff_ne.2 (fun h => h34 (.inl h))
        have e4 : (p.kind == 4) = false := beq_eq_false_iff_ne.2 (fun h => h34 (.inr h))
        have HN := Lib.hid (HOU.out ⟨h2, fun h => h34 (.inl h), fun h => h34 (.inr h)⟩)
        clear h2 h34 HCU HIN HOU HBE
        go_wp2_with (at_builtin; (refine wpList_pushB (R := gpR) rfl _ _ _ rfl w.heap.size w.heap.size 88 i0 _ 32 Tryz.underlying85 hi0 hz0 (by assumption) (by assumption) rfl (by decide) _ u3 gs rfl (G5.out.own.alloc _) (k, k + 1, ⟨#[]⟩) [.int .i64 (k : Int), .int .i64 ((k : Int) + 1), .string ⟨#[]⟩] (HCS _) (oneC rfl) w5.heap.size _ _ (heap_alloc_new w5 _) rfl (by simp [maxLen]; omega) (by omega) (by simp; omega) ?_); intro g cap w7 hown7 hg7 hat7 hlt7)
        go_roundw
        case rel => exact ⟨k + 1, by omega, intNum, by rw [HN.out]; exact Lib.hid ((G5.out.alloc _).more hown7 hg7 rfl hat7)⟩
        case measure => simp [intOf]; omega
    · have HE := Lib.hid (show grpS x.paras = grpN x.paras k by unfold grpS; rw [HM.out, show M = k by omega])
      go_wp2
      go_ret
      exact ⟨_, rfl, HG.out.bel, by rw [HE.out]; exact HG.out.own⟩
end Go.Proofs.YtkhegeobdcemkaaGreatDoor

/- script.groups, walked. -/
namespace Go.Proofs.YtkhegeobdcemkaaGreatDoor
set_option linter.unusedVariables false
open Go.RowKit Go.Sort

end Go.Proofs.YtkhegeobdcemkaaGreatDoor

/- Whether a scene has a cue of somebody: the library's search, script.hasCue. -/
namespace Go.Proofs.YtkhegeobdcemkaaGreatDoor
set_option linter.unusedVariables false
open Go.RowKit Go.Sort

def eqP (kd : Int) (tx : ByteArray) (p : Para) : Bool := decide (p.kind = kd) && decide (p.text = tx)
set_option maxRecDepth 100000 in
set_option maxHeartbeats 800000 in
theorem idxPara_c {F : Nat → Prop} (l : List Para) (v : Value) (kd : Int) (tx : ByteArray) (w : World) (hv : Sli paraR w F l v) (hF : ∀ b, F b → b < w.heap.size) (hlen : l.length ≤ 1000000000) :
    Calls Tryz.prog 165 #[v, .agg #[.int .i64 kd, .string tx]] w fun e w' => e = .returned (.int .i64 (idxV (l.findIdx? (eqP kd tx)))) ∧ Below w.heap.size w w' := by
  obtain ⟨A, c, rfl, _, _⟩ := hv.form
  have HV := Lib.hid hv
  have HF := Lib.hid hF
  obtain ⟨L, hL⟩ : ∃ L, l.length = L := ⟨_, rfl⟩
  have HL := Lib.hid hL
  rw [hL] at HV hlen ⊢
  clear hv hF hL
  have HB := Lib.hid ((Below.refl w.heap.size w).alloc (Nat.le_refl _) (.cells #[.int .i64 kd, .string tx] 78))
  have HX := Lib.hid (fun (W : World) (hb : Below (w.alloc (.cells #[.int .i64 kd, .string tx] 78)).heap.size (w.alloc (.cells #[.int .i64 kd, .string tx] 78)) W) => show W.cell? ⟨w.heap.size, 0, none⟩ = some (.int .i64 kd) ∧ W.cell? ⟨w.heap.size, 1, none⟩ = some (.string tx) by
    obtain ⟨y, _⟩ := str_cells ((hb.block w.heap.size (by simp)).trans (heap_alloc_new w _))
    exact ⟨y 0, y 1⟩)
  go_enter Tryz.func165, Tryz.ntmps165
  go_upto_region 1 with (fail)
  generalize w.alloc (.cells #[.int .i64 kd, .string tx] 78) = w1 at *
  go_wp2
  go_loopw [5, 8] (fun v i wr => ∃ k : Nat, k ≤ L ∧ i = .int .i64 k ∧ Hid (Below w1.heap.size w1 wr) ∧ Hid (∀ x ∈ l.take k, eqP kd tx x = false)) (fun _ i _ => L - (intOf i).toNat)
  case atStart => exact ⟨0, Nat.zero_le _, rfl, Lib.hid (Below.refl _ _), by intro x hx; simp at hx⟩
  case round =>
    obtain ⟨k, hk, rfl, HB1, HN⟩ := hrel
    obtain ⟨x0, x1⟩ := HX.out wr HB1.out
    have HBW := Lib.hid (HB.out.trans (HB1.out.mono HB.out.size))
    by_cases hlt : k < L
    · have hk2 : k < l.length := by rw [HL.out]; exact hlt
      obtain ⟨b, off, rfl, hfb, c0, c1⟩ := paraAt (HV.out.below HBW.out HF.out) k hk2
      have HNX := Lib.hid (fun (h : eqP kd tx (l[k]'hk2) = false) => take_next (q := fun x => eqP kd tx x = false) hk2 HN.out h)
      have HAT := Lib.hid (fun (h : eqP kd tx (l[k]'hk2) = true) => findIdx_at (p := eqP kd tx) HN.out hk2 h)
      generalize (l[k]'hk2) = y at *
      clear hk2 HN
      by_cases he : kd = y.kind ∧ tx = y.text
      · have HR := Lib.hid (HAT.out (by unfold eqP; rw [he.1, he.2]; simp))
        obtain ⟨rfl, rfl⟩ := he
        clear HNX HAT
        go_wp2
        go_region
        go_wp2
        go_ret
        exact ⟨by rw [HR.out]; rfl, by first | exact HBW.out | exact HBW.out.drew | exact below_drewN HBW.out _⟩
      · have HR := Lib.hid (HNX.out (by
          unfold eqP
          by_cases e1 : y.kind = kd
          · rw [decide_eq_true e1, decide_eq_false (fun e2 => he ⟨e1.symm, e2.symm⟩)]; rfl
          · rw [decide_eq_false e1]; rfl))
        clear HNX HAT
        have HBD := Lib.hid (fun n : Nat => below_drewN HB1.out n)
        by_cases q1 : kd = y.kind
        · have q2 := beq_ne (a := tx) (b := y.text) (fun e => he ⟨q1, e⟩)
          have q2' : ¬ tx.toList = y.text.toList := by simpa using q2
          clear he
          go_wp2
          go_region
          go_wp2
          go_roundw
          case rel => exact ⟨k + 1, by omega, intNum, Lib.hid (by first | exact HB1.out | exact HB1.out.drew | exact HBD.out _), HR.out⟩
          case measure => simp [intOf]; omega
        · clear he
          go_wp2
          go_region
          go_wp2
          go_roundw
          case rel => exact ⟨k + 1, by omega, intNum, Lib.hid (by first | exact HB1.out | exact HB1.out.drew | exact HBD.out _), HR.out⟩
          case measure => simp [intOf]; omega
    · go_wp2
      go_ret
      have H := findIdx_no (take_all (q := fun x : Para => eqP kd tx x = false) (by rw [HL.out]; exact hlt) HN.out)
      exact ⟨by rw [H]; rfl, HBW.out⟩
theorem idx_any {α : Type} (l : List α) (p : α → Bool) : decide (0 ≤ idxV (l.findIdx? p)) = l.any p := by
  cases h : l.findIdx? p with
  | none =>
    rw [List.findIdx?_eq_none_iff] at h
    rw [decide_eq_false (show ¬ 0 ≤ idxV none from fun e => absurd e (by decide))]
    symm
    rw [List.any_eq_false]
    simpa using h
  | some n =>
    obtain ⟨h1, h2, _⟩ := List.findIdx?_eq_some_iff_getElem.1 h
    rw [decide_eq_true (show 0 ≤ idxV (some n) from Int.natCast_nonneg n)]
    symm
    exact List.any_eq_true.2 ⟨_, List.getElem_mem h1, h2⟩
set_option maxRecDepth 100000 in
set_option maxHeartbeats 800000 in
theorem contPara_c {F : Nat → Prop} (l : List Para) (v : Value) (kd : Int) (tx : ByteArray) (w : World) (hv : Sli paraR w F l v) (hF : ∀ b, F b → b < w.heap.size) (hlen : l.length ≤ 1000000000) :
    Calls Tryz.prog 114 #[v, .agg #[.int .i64 kd, .string tx]] w fun e w' => e = .returned (.bool (l.any (eqP kd tx))) ∧ Below w.heap.size w w' := by
  have HV := Lib.hid hv
  have HF := Lib.hid hF
  have HZ := Lib.hid (idx_any l (eqP kd tx))
  have HB := Lib.hid ((Below.refl w.heap.size w).alloc (Nat.le_refl _) (.cells #[.int .i64 kd, .string tx] 78))
  have HI := Lib.hid (idxPara_c l v kd tx (w.alloc (.cells #[.int .i64 kd, .string tx] 78)) (hv.alloc _ hF) (fun q hq => Nat.lt_of_lt_of_le (hF q hq) HB.out.size) hlen)
  generalize l.findIdx? (eqP kd tx) = z at *
  obtain ⟨y, _⟩ := str_cells (heap_alloc_new w (.cells #[.int .i64 kd, .string tx] 78))
  have x0 : (w.alloc (.cells #[.int .i64 kd, .string tx] 78)).cell? ⟨w.heap.size, 0, none⟩ = some (.int .i64 kd) := y 0
  have x1 : (w.alloc (.cells #[.int .i64 kd, .string tx] 78)).cell? ⟨w.heap.size, 1, none⟩ = some (.string tx) := y 1
  clear hv hF y
  go_enter Tryz.func114, Tryz.ntmps114
  go_upto_region 1 with (fail)
  generalize w.alloc (.cells #[.int .i64 kd, .string tx] 78) = w1 at *
  go_wp2_with fail
  refine HI.out.mono ?_
  rintro e w2 ⟨rfl, hb2⟩
  have HE := Lib.hid (HB.out.trans (hb2.mono HB.out.size))
  clear hb2 HI HB
  generalize idxV z = i at *
  go_wp2
  go_ret
  exact ⟨ret_bool HZ.out, HE.out⟩
set_option maxRecDepth 100000 in
set_option maxHeartbeats 800000 in
theorem hasCue_c {F : Nat → Prop} (x : Scene) (v : Value) (nm : ByteArray) (w : World) (hv : Sli paraR w F x.paras v) (hF : ∀ b, F b → b < w.heap.size) (hlen : x.paras.length ≤ 1000000000) :
    Calls Tryz.prog 56 #[.agg #[.string x.no, .int .i64 x.place, .string x.set, .int .i64 x.time, v], .string nm] w fun e w' => e = .returned (.bool (hcB x.paras nm)) ∧ Below w.heap.size w w' := by
  obtain ⟨A, c, rfl, _, _⟩ := hv.form
  have HB := Lib.hid ((Below.refl w.heap.size w).alloc (Nat.le_refl _) (.cells #[.string x.no, .int .i64 x.place, .string x.set, .int .i64 x.time, .slice A x.paras.length c] 71))
  have HI := Lib.hid (contPara_c x.paras (.slice A x.paras.length c) 2 nm (w.alloc (.cells #[.string x.no, .int .i64 x.place, .string x.set, .int .i64 x.time, .slice A x.paras.length c] 71)) (hv.alloc _ hF) (fun q hq => Nat.lt_of_lt_of_le (hF q hq) HB.out.size) hlen)
  obtain ⟨y, _⟩ := str_cells (heap_alloc_new w (.cells #[.string x.no, .int .i64 x.place, .string x.set, .int .i64 x.time, .slice A x.paras.length c] 71))
  have x4 : (w.alloc (.cells #[.string x.no, .int .i64 x.place, .string x.set, .int .i64 x.time, .slice A x.paras.length c] 71)).cell? ⟨w.heap.size, 4, none⟩ = some (.slice A x.paras.length c) := y 4
  clear hv hF y
  go_enter Tryz.func56, Tryz.ntmps56
  go_upto_region 1 with (fail)
  generalize w.alloc (.cells #[.string x.no, .int .i64 x.place, .string x.set, .int .i64 x.time, .slice A x.paras.length c] 71) = w1 at *
  go_wp2_with fail
  refine HI.out.mono ?_
  rintro e w2 ⟨rfl, hb2⟩
  have HE := Lib.hid (HB.out.trans (hb2.mono HB.out.size))
  clear hb2 HI HB
  go_wp2
  go_ret
  exact ⟨rfl, HE.out⟩
end Go.Proofs.YtkhegeobdcemkaaGreatDoor

