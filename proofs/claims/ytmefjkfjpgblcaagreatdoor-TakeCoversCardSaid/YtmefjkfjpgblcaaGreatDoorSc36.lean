/- Texts packed: CgG. -/
import Derived.Test.YtmefjkfjpgblcaaGreatDoorSc35
import Derived.Test.YtmefjkfjpgblcaaGreatDoorSc01
/- take.good, walked. -/
namespace Go.Proofs.YtmefjkfjpgblcaaGreatDoor
set_option linter.unusedVariables false
open Go.RowKit Go.Sort

theorem prtAt {w : World} {F : Nat → Prop} {l : List Prt} {A : Option Addr} {n c : Nat} (h : Sli prtR w F l (.slice A n c)) (k : Nat) (hk : k < l.length) : ∃ b off, A = some ⟨b, off, none⟩ ∧ F b ∧ w.cell? ⟨b, off + k * 5, none⟩ = some (.int .i64 (l[k].1 : Int)) ∧ w.cell? ⟨b, off + k * 5 + 1, none⟩ = some (.int .i64 l[k].2.para) ∧ w.cell? ⟨b, off + k * 5 + 2, none⟩ = some (.int .i64 l[k].2.tin) ∧ w.cell? ⟨b, off + k * 5 + 3, none⟩ = some (.int .i64 l[k].2.tout) ∧ w.cell? ⟨b, off + k * 5 + 4, none⟩ = some (.bool l[k].2.on) := by
  obtain ⟨b, off, a, e, hb, hr, hc⟩ := h.at_ k hk
  have ha : a = [.int .i64 ((l[k]).1 : Int), .int .i64 (l[k]).2.para, .int .i64 (l[k]).2.tin, .int .i64 (l[k]).2.tout, .bool (l[k]).2.on] := hr
  subst ha
  exact ⟨b, off, e, hb, hc 0 _ rfl, hc 1 _ rfl, hc 2 _ rfl, hc 3 _ rfl, hc 4 _ rfl⟩
theorem gdL_next (tl : List Tk) (ps : List Prt) (k : Nat) (hk : k < ps.length) : gdL tl (ps.take (k + 1)) = gdL tl (ps.take k) ++ (if gdP tl ps[k] = true then [ps[k]] else []) := by
  unfold gdL
  rw [List.take_succ_eq_append_getElem hk, List.filter_append]
  congr 1
  cases h : gdP tl ps[k] <;> simp [h]
theorem gdP_at {tl : List (Tk × Value)} {a : Nat} (ha : a < tl.length) (c : Cov) : gdP (tl.map (·.1)) (a, c) = (tl[a]).1.good := by
  unfold gdP
  simp [List.getElem?_eq_getElem ha]
def GdP (tl : List Tk) (ps : List Prt) (w : World) (e : Ending) (w' : World) : Prop := ∃ v, e = .returned v ∧ Own prtR w' w.heap.size w.heap.size 161 (gdL tl ps) v ∧ Below w.heap.size w w'
set_option maxRecDepth 100000 in
set_option maxHeartbeats 4000000 in
theorem good_c {F F2 : Nat → Prop} (ps : List Prt) (pv : Value) (tl : List (Tk × Value)) (tv : Value) (w : World) (hv : Sli prtR w F ps pv) (hF : ∀ b, F b → b < w.heap.size) (hps : ∀ p ∈ ps, p.1 < tl.length) (ht : TkW w F2 tl tv) (hlen : ps.length ≤ 1000000000) :
    Calls Tryz.prog 105 #[pv, tv] w (GdP (tl.map (·.1)) ps w) := by
  obtain ⟨A, c, rfl, hlc, hcm⟩ := hv.form
  obtain ⟨A2, c2, rfl, hlc2, hcm2⟩ := ht.sli.form
  obtain ⟨i0, hi0, hz0, hz1, hz2⟩ := info_parts (show (Tryz.prog.info? 161).map (fun i => (i.zero, i.size, i.bytes)) = some (some (.agg #[.int .i64 0, .int .i64 0, .int .i64 0, .int .i64 0, .bool false]), 5, 40) by kernel_rfl)
  obtain ⟨n, hn⟩ : ∃ n, ps.length = n := ⟨_, rfl⟩
  obtain ⟨L, hL⟩ : ∃ L, tl.length = L := ⟨_, rfl⟩
  have HV := Lib.hid hv
  have HF := Lib.hid hF
  have HN := Lib.hid hn
  have HL := Lib.hid hL
  have HPS := Lib.hid hps
  have HT := Lib.hid ht
  have hLb := ht.len
  rw [hn] at HV hlen hlc ⊢
  rw [hL] at HT hlc2 hLb ⊢
  have HG := Lib.hid (BO.start (R := prtR) (e := 161) w)
  clear hv hF hps ht hn hL
  go_enter Tryz.func105, Tryz.ntmps105
  go_wp2
  go_loopw [5, 10] (fun v i wr => ∃ k : Nat, k ≤ n ∧ i = .int .i64 k ∧ Hid (BO prtR 161 w (gdL (tl.map (·.1)) (ps.take k)) v [] wr)) (fun _ i _ => n - (intOf i).toNat)
  case atStart => exact ⟨0, Nat.zero_le _, rfl, HG.out⟩
  case round =>
    clear HG
    obtain ⟨k, hk, rfl, HG⟩ := hrel
    by_cases hlt : k < n
    · have hk2 : k < ps.length := by rw [HN.out]; exact hlt
      obtain ⟨b, off, rfl, hfb, c0, c1, c2', c3, c4⟩ := prtAt (HV.out.below HG.out.bel HF.out) k hk2
      have HNX := Lib.hid (gdL_next (tl.map (·.1)) ps k hk2)
      have ha := HPS.out _ (List.getElem_mem hk2)
      have hql : (gdL (tl.map (·.1)) (ps.take k)).length ≤ k := by
        unfold gdL
        refine Nat.le_trans (List.length_filter_le _ _) ?_
        rw [List.length_take]; omega
      obtain ⟨q, hq⟩ : ∃ q, (gdL (tl.map (·.1)) (ps.take k)).length = q := ⟨_, rfl⟩
      rw [hq] at hql
      have HQ := Lib.hid hq
      generalize hpk : (ps[k]'hk2) = p at *
      obtain ⟨a, y⟩ := p
      dsimp only at c0 c1 c2' c3 c4 ha
      generalize gdL (tl.map (·.1)) (ps.take k) = cur at *
      obtain ⟨bt, oft, rfl, hft, _, _, _, _, _, _, _, t7, _⟩ := tkAt (HT.out.below HG.out.bel).sli a ha
      have hgp := gdP_at ha y
      have haL : (a : Int) < L := by rw [← HL.out]; omega
      have ha0 : (0 : Int) ≤ a := by omega
      have hbw : b < wr.heap.size := World.block_lt_of_cell? _ _ c0
      have htw : bt < wr.heap.size := World.block_lt_of_cell? _ _ t7
      generalize hgd : (tl[a]'ha).1.good = gd at *
      have HGP := Lib.hid hgp
      clear hq hpk hgd hgp
      have HG1 := Lib.hid (HG.out.alloc (.cells #[.int .i64 (a : Int), .int .i64 y.para, .int .i64 y.tin, .int .i64 y.tout, .bool y.on] 161))
      clear HG
      cases gd with
      | false =>
        have HN2 := Lib.hid (HNX.out.trans (by rw [if_neg (by rw [HGP.out]; decide), List.append_nil]))
        clear HNX HGP
        go_wp2
        go_roundw
        case rel => exact ⟨k + 1, by omega, intNum, by rw [HN2.out]; exact HG1.out⟩
        case measure => simp [intOf]; omega
      | true =>
        have HN2 := Lib.hid (HNX.out.trans (by rw [if_pos HGP.out]))
        clear HNX HGP
        go_upto_region 6 with (fail)
        have hnw := heap_alloc_new wr (.cells #[.int .i64 (a : Int), .int .i64 y.para, .int .i64 y.tin, .int .i64 y.tout, .bool y.on] 161)
        generalize wr.alloc (.cells #[.int .i64 (a : Int), .int .i64 y.para, .int .i64 y.tin, .int .i64 y.tout, .bool y.on] 161) = w2 at *
        obtain ⟨z, _⟩ := str_cells hnw
        have d0 : w2.cell? ⟨wr.heap.size, 0, none⟩ = some (.int .i64 (a : Int)) := z 0
        have d1 : w2.cell? ⟨wr.heap.size, 1, none⟩ = some (.int .i64 y.para) := z 1
        have d2 : w2.cell? ⟨wr.heap.size, 2, none⟩ = some (.int .i64 y.tin) := z 2
        have d3 : w2.cell? ⟨wr.heap.size, 3, none⟩ = some (.int .i64 y.tout) := z 3
        have d4 : w2.cell? ⟨wr.heap.size, 4, none⟩ = some (.bool y.on) := z 4
        clear z hnw c0 c1 c2' c3 c4 t7
        go_wp2_with (at_builtin; (refine wpList_pushB (R := prtR) rfl _ _ _ rfl w.heap.size w.heap.size 161 i0 _ 40 undPs hi0 hz0 (by assumption) (by assumption) rfl (by decide) _ u5 cur rfl (HG1.out.own.alloc _) (a, y) _ rfl (oneC rfl) w2.heap.size _ _ (heap_alloc_new w2 _) rfl (by rw [HQ.out]; simp [maxLen]; omega) (by rw [HQ.out]; omega) (by have := HG1.out.size; simp; omega) ?_); intro g7 cap7 w7 hown7 hg7 hat7 hlt7)
        go_roundw
        case rel => exact ⟨k + 1, by omega, intNum, by rw [HN2.out]; exact Lib.hid ((HG1.out.alloc (.cells #[.int .i64 (a : Int), .int .i64 y.para, .int .i64 y.tin, .int .i64 y.tout, .bool y.on] 161)).more hown7 hg7 rfl hat7)⟩
        case measure => simp [intOf]; omega
    · have hkn : ps.take k = ps := List.take_of_length_le (by rw [HN.out]; omega)
      have HE := Lib.hid hkn
      clear hkn
      go_wp2
      go_ret
      exact ⟨_, rfl, by rw [← congrArg (gdL (tl.map (·.1))) HE.out]; exact HG.out.own, HG.out.bel⟩
end Go.Proofs.YtmefjkfjpgblcaaGreatDoor

