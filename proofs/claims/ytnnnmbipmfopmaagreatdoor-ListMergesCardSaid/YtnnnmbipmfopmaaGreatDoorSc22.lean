/- Texts packed: KpW, KpX, KpY, LmW. -/
import Derived.Test.YtnnnmbipmfopmaaGreatDoorSc01
import Derived.Test.YtnnnmbipmfopmaaGreatDoorSc21
import Derived.Test.YtnnnmbipmfopmaaGreatDoorSc02
import Derived.BigRegion
import Derived.Laws.CopyRow
import Derived.Laws.CopyOwn
import Derived.Laws.IdiomCopy
/- The order of two texts, and of two lists of texts: cmp.Compare, slices.Compare, walked. -/
namespace Go.Proofs.YtnnnmbipmfopmaaGreatDoor
set_option linter.unusedVariables false
open Go.RowKit Go.Sort

def strC (x y : ByteArray) : Int := if x.data.toList < y.data.toList then -1 else if y.data.toList < x.data.toList then 1 else 0
theorem lst_tri (x y : List UInt8) (h1 : ¬ x < y) (h2 : ¬ y < x) : x = y := List.le_antisymm (by simpa using h2) (by simpa using h1)
theorem strC_anti (x y : ByteArray) : strC y x = - strC x y := by
  unfold strC
  by_cases h1 : x.data.toList < y.data.toList
  · rw [if_pos h1, if_neg (List.lt_asymm h1), if_pos h1]; rfl
  · by_cases h2 : y.data.toList < x.data.toList
    · rw [if_pos h2, if_neg h1, if_pos h2]
    · rw [if_neg h2, if_neg h1, if_neg h1, if_neg h2]; rfl
theorem less_yes {x y : ByteArray} (h : x.data.toList < y.data.toList) : Op.bytesLess x.toList y.toList = true := by
  rw [Proofs.bytesLess_eq, Lib.toList_data, Lib.toList_data]; simpa using h
theorem less_no {x y : ByteArray} (h : ¬ x.data.toList < y.data.toList) : Op.bytesLess x.toList y.toList = false := by
  rw [Proofs.bytesLess_eq, Lib.toList_data, Lib.toList_data]; simpa using h
theorem eqq_yes {x y : ByteArray} (h1 : ¬ x.data.toList < y.data.toList) (h2 : ¬ y.data.toList < x.data.toList) : (!x.toList == y.toList) = false := by
  rw [Lib.toList_data, Lib.toList_data, lst_tri _ _ h1 h2]; simp
theorem eqq_no {x y : ByteArray} (h2 : y.data.toList < x.data.toList) : (!x.toList == y.toList) = true := by
  rw [Lib.toList_data, Lib.toList_data, Bool.not_eq_true', beq_eq_false_iff_ne]
  intro e
  rw [e] at h2
  exact List.lt_irrefl _ h2
set_option maxRecDepth 100000 in
set_option maxHeartbeats 1000000 in
theorem nanS_c (x : ByteArray) (w : World) : Calls Tryz.prog 103 #[.string x] w fun e w' => e = .returned (.bool false) ∧ w' = w := by
  go_enter Tryz.func103, Tryz.ntmps103
  go_wp2
  go_ret
  exact ⟨by simp, rfl⟩
set_option maxRecDepth 100000 in
set_option maxHeartbeats 1000000 in
theorem cmpS_c (x y : ByteArray) (w : World) : Calls Tryz.prog 68 #[.string x, .string y] w fun e w' => e = .returned (.int .i64 (strC x y)) ∧ w' = w := by
  have HX := Lib.hid (nanS_c x)
  have HY := Lib.hid (nanS_c y)
  have HS := Lib.hid (show strC x y = if x.data.toList < y.data.toList then -1 else if y.data.toList < x.data.toList then 1 else 0 from rfl)
  go_enter Tryz.func68, Tryz.ntmps68
  go_wp2_with fail
  refine (HX.out w).mono ?_
  rintro e w1 ⟨rfl, rfl⟩
  go_wp2_with fail
  refine (HY.out w1).mono ?_
  rintro e w2 ⟨rfl, rfl⟩
  by_cases h1 : x.data.toList < y.data.toList
  · rw [if_pos h1] at HS
    have hb := less_yes h1
    clear h1
    go_wp2
    go_ret
    exact ⟨by rw [HS.out]; rfl, rfl⟩
  · rw [if_neg h1] at HS
    have hb := less_no h1
    by_cases h2 : y.data.toList < x.data.toList
    · rw [if_pos h2] at HS
      have he := eqq_no h2
      clear h1 h2
      go_wp2
      go_ret
      exact ⟨by rw [HS.out]; rfl, rfl⟩
    · rw [if_neg h2] at HS
      have he := eqq_yes h1 h2
      clear h1 h2
      go_wp2
      go_ret
      exact ⟨by rw [HS.out]; rfl, rfl⟩
/-- Element k of a row of texts. -/
theorem Sli.txt {w : World} {F : Nat → Prop} {l : List ByteArray} {A : Option Addr} {n c : Nat} (h : Sli strR w F l (.slice A n c)) (k : Nat) (hk : k < l.length) : ∃ b off, A = some ⟨b, off, none⟩ ∧ F b ∧ w.cell? ⟨b, off + k, none⟩ = some (.string l[k]) := by
  obtain ⟨b, off, cs, h1, h2, h3, h4⟩ := h.at_ k hk
  refine ⟨b, off, h1, h2, ?_⟩
  have := h4 0 (.string l[k]) (by rw [show cs = [.string l[k]] from h3]; rfl)
  rw [show off + k * strR.n + 0 = off + k by show off + k * 1 + 0 = off + k; omega] at this
  exact this
theorem cmpL_cons (f : ByteArray → ByteArray → Int) (x y : ByteArray) (a b : List ByteArray) : cmpL f (x :: a) (y :: b) = if f x y = 0 then cmpL f a b else f x y := rfl
theorem cmpL_eq {f : ByteArray → ByteArray → Int} : ∀ {a b : List ByteArray} {k : Nat}, (∀ i (h1 : i < a.length) (h2 : i < b.length), i < k → f a[i] b[i] = 0) → k ≤ a.length → k ≤ b.length → cmpL f a b = cmpL f (a.drop k) (b.drop k)
  | _, _, 0, _, _, _ => rfl
  | [], _, k + 1, _, h, _ => by simp at h
  | _, [], k + 1, _, _, h => by simp at h
  | x :: a, y :: b, k + 1, h, h1, h2 => by
    have h0 : f x y = 0 := h 0 (by simp) (by simp) (by omega)
    rw [cmpL, if_pos h0]
    exact cmpL_eq (fun i q1 q2 hi => h (i + 1) (by simpa using q1) (by simpa using q2) (by omega)) (by simpa using h1) (by simpa using h2)
set_option maxRecDepth 100000 in
set_option maxHeartbeats 2000000 in
/-- slices.Compare of texts. -/
theorem cmpSl_c {F G : Nat → Prop} (a b : List ByteArray) (va vb : Value) (w : World) (ha : Sli strR w F a va) (hb : Sli strR w G b vb) :
    Calls Tryz.prog 45 #[va, vb] w fun e w' => e = .returned (.int .i64 (cmpL strC a b)) ∧ w' = w := by
  obtain ⟨A, ca, rfl, hlca, hca⟩ := ha.form
  obtain ⟨B, cb, rfl, hlcb, hcb⟩ := hb.form
  obtain ⟨n, hn⟩ : ∃ n, a.length = n := ⟨_, rfl⟩
  obtain ⟨m, hm⟩ : ∃ m, b.length = m := ⟨_, rfl⟩
  have HA := Lib.hid ha
  have HB := Lib.hid hb
  have HN := Lib.hid hn
  have HM := Lib.hid hm
  have HCS := Lib.hid (fun x y => cmpS_c x y w)
  rw [hn] at HA hlca ⊢
  rw [hm] at HB hlcb ⊢
  clear ha hb hn hm
  go_enter Tryz.func45, Tryz.ntmps45
  go_wp2
  go_loopw [11] (fun i wr => ∃ k : Nat, k ≤ n ∧ k ≤ m ∧ i = .int .i64 k ∧ wr = w ∧ Hid (∀ i (h1 : i < a.length) (h2 : i < b.length), i < k → strC a[i] b[i] = 0)) (fun i _ => n - (intOf i).toNat)
  case atStart => exact ⟨0, Nat.zero_le _, Nat.zero_le _, rfl, rfl, fun i _ _ h => absurd h (Nat.not_lt_zero _)⟩
  case round =>
    obtain ⟨k, hkn, hkm, rfl, rfl, HK⟩ := hrel
    have HE := Lib.hid (cmpL_eq HK.out (by rw [HN.out]; exact hkn) (by rw [HM.out]; exact hkm))
    by_cases hlt : k < n
    · have hlt' : (k : Int) < n := by omega
      obtain ⟨x, hx⟩ : ∃ x, a[k]'(by rw [HN.out]; exact hlt) = x := ⟨_, rfl⟩
      obtain ⟨oa, offa, rfl, _, e1⟩ := HA.out.txt k (by rw [HN.out]; exact hlt)
      rw [hx] at e1
      by_cases hkm' : k < m
      · obtain ⟨y, hy⟩ : ∃ y, b[k]'(by rw [HM.out]; exact hkm') = y := ⟨_, rfl⟩
        obtain ⟨ob, offb, rfl, _, e2⟩ := HB.out.txt k (by rw [HM.out]; exact hkm')
        rw [hy] at e2
        have hm' : ¬ (m : Int) ≤ k := by omega
        have HD := Lib.hid (show cmpL strC a b = if strC x y = 0 then cmpL strC (a.drop (k + 1)) (b.drop (k + 1)) else strC x y by
          rw [HE.out, List.drop_eq_getElem_cons (l := a) (by rw [HN.out]; exact hlt), List.drop_eq_getElem_cons (l := b) (by rw [HM.out]; exact hkm'), cmpL_cons, hx, hy])
        have HK1 := Lib.hid (show strC x y = 0 → ∀ i (h1 : i < a.length) (h2 : i < b.length), i < k + 1 → strC a[i] b[i] = 0 from fun h0 i h1 h2 hi => by
          by_cases e : i = k
          · subst e; rw [hx, hy]; exact h0
          · exact HK.out i h1 h2 (by omega))
        clear hx hy HK HE
        have HC := Lib.hid (HCS.out x y)
        obtain ⟨z, hz⟩ : ∃ z, strC x y = z := ⟨_, rfl⟩
        rw [hz] at HC HD HK1
        clear hz
        go_wp2_with fail
        with_reducible refine HC.out.mono ?_
        rintro e w3 ⟨rfl, rfl⟩
        clear HC
        by_cases h0 : z = 0
        · subst h0
          have HK2 := Lib.hid (HK1.out rfl)
          clear HD HK1
          go_wp2
          go_roundw
          case rel => exact ⟨k + 1, by omega, by omega, intNum, trivial, HK2⟩
          case measure => simp [intOf]; omega
        · rw [if_neg h0] at HD
          have h0' : (z == 0) = false := by rw [beq_eq_false_iff_ne]; exact h0
          go_wp2
          go_ret
          exact ⟨by rw [HD.out]; rfl, rfl⟩
      · have hm' : (m : Int) ≤ k := by omega
        have HD := Lib.hid (show cmpL strC a b = 1 by
          rw [HE.out, List.drop_eq_getElem_cons (l := a) (by rw [HN.out]; exact hlt), List.drop_of_length_le (l := b) (by rw [HM.out]; omega)]; rfl)
        clear hx HK HE
        go_wp2
        go_ret
        exact ⟨by rw [HD.out]; rfl, rfl⟩
    · have hkn' : k = n := by omega
      subst hkn'
      by_cases hnm : k < m
      · have hv : cmpL strC a b = -1 := by
          rw [HE.out, List.drop_of_length_le (by rw [HN.out]; exact Nat.le_refl _), List.drop_eq_getElem_cons (by rw [HM.out]; exact hnm)]; rfl
        have HV := Lib.hid hv
        clear hv
        have hnm' : (k : Int) < m := by omega
        go_wp2
        go_ret
        exact ⟨by rw [HV.out]; rfl, rfl⟩
      · have hv : cmpL strC a b = 0 := by
          rw [HE.out, List.drop_of_length_le (by rw [HN.out]; exact Nat.le_refl _), List.drop_of_length_le (by rw [HM.out]; omega)]; rfl
        have HV := Lib.hid hv
        clear hv
        have hnm' : ¬ (k : Int) < m := by omega
        go_wp2
        go_ret
        exact ⟨by rw [HV.out]; rfl, rfl⟩
end Go.Proofs.YtnnnmbipmfopmaaGreatDoor

/- revise.kept, walked. -/
namespace Go.Proofs.YtnnnmbipmfopmaaGreatDoor
set_option linter.unusedVariables false
open Go.RowKit Go.Sort

def prC (p : Nat × Nat) : List Value := [.int .i64 p.1, .int .i64 p.2]
def prR : Rep (Nat × Nat) := Rep.flat 2 prC (fun _ => rfl)
def u16V (n : Nat) : Value := .int .u16 n
/-- The table in a block of one's own. -/
abbrev TbB (w : World) (L : List Nat) (wx : World) : Prop := PvG w [(w.heap.size, (L.map u16V).toArray, 149)] wx
theorem tb_cell {α : Type} {w wx : World} {L : List Nat} {P : List (Nat × Array Value × TypeId)} {R : Rep α} {T : TypeId} {l : List α} {v : Value} {g : Nat} (h : BO R T w l v P wx) (hp : (g, (L.map u16V).toArray, 149) ∈ P) (i n : Nat) (hi : L[i]? = some n) : wx.cell? ⟨g, i, none⟩ = some (.int .u16 n) ∧ wx.frozen? ⟨g, i, none⟩ = false := by
  obtain ⟨h1, h2⟩ := h.cell hp
  refine ⟨?_, h2 i⟩
  have := h1 i
  dsimp only at this
  rw [this]
  simp [hi, u16V]
theorem keptMul (n m R C : Nat) (hn : n ≤ 3001) (hm : m ≤ 3001) (hR : R ≤ n) (hC : C ≤ m) : IntKind.i64.wrap ((R : Int) * ((m : Int) + 1)) = ((R * (m + 1) : Nat) : Int) ∧ R * (m + 1) ≤ 10000000 := by
  have h1 : R * (m + 1) ≤ 3001 * 3002 := Nat.mul_le_mul (by omega) (by omega)
  refine ⟨?_, by omega⟩
  rw [show (R : Int) * ((m : Int) + 1) = ((R * (m + 1) : Nat) : Int) by push_cast; rfl]
  generalize R * (m + 1) = q at *
  simp [IntKind.wrap, IntKind.bits, IntKind.signed]
  omega
theorem made_u16 (N : Nat) : madeCells #[.int .u16 0] N = ((List.replicate N 0).map u16V).toArray := by
  apply Array.ext
  · rw [size_madeCells]; simp
  · intro i h1 h2
    simp [madeCells, Nat.mod_one, u16V]
theorem tb_set {w wx : World} {L : List Nat} {T : TypeId} {g : Nat} (h : PvG w [(g, (L.map u16V).toArray, T)] wx) (i n : Nat) : PvG w [(g, ((L.set i n).map u16V).toArray, T)] (wx.setCell ⟨g, i, none⟩ (.int .u16 n)) := by
  have := h.set (i := i) (fun h => h) (.int .u16 n) (by simp)
  have e : ((L.map u16V).toArray.setIfInBounds i (.int .u16 n)) = ((L.set i n).map u16V).toArray := by
    rw [List.setIfInBounds_toArray, List.map_set]; rfl
  rw [e] at this
  exact this
set_option maxRecDepth 100000 in
set_option maxHeartbeats 8000000 in
theorem kept_c {F G : Nat → Prop} (a b : List ByteArray) (va vb : Value) (w : World) (ha : Sli strR w F a va) (hb : Sli strR w G b vb) (hF : ∀ q, F q → q < w.heap.size) (hG : ∀ q, G q → q < w.heap.size) (hn3 : a.length ≤ 3000) (hm3 : b.length ≤ 3000) :
    Calls Tryz.prog 67 #[va, vb] w fun e w' => ∃ v, e = .returned v ∧ Own prR w' w.heap.size w.heap.size 74 (prsT a b 0 0) v ∧ Below w.heap.size w w' := by
  obtain ⟨i2, hi2, hz2, hz21, hz22⟩ := info_parts (show (Tryz.prog.info? 74).map (fun i => (i.zero, i.size, i.bytes)) = some (some (.agg #[.int .i64 0, .int .i64 0]), 2, 16) by kernel_rfl)
  obtain ⟨A, ca, rfl, hlca, hca⟩ := ha.form
  obtain ⟨B, cb, rfl, hlcb, hcb⟩ := hb.form
  obtain ⟨n, hn⟩ : ∃ n, a.length = n := ⟨_, rfl⟩
  obtain ⟨m, hm⟩ : ∃ m, b.length = m := ⟨_, rfl⟩
  have HA := Lib.hid (fun (W : World) (h : Below w.heap.size w W) => ha.below h hF)
  have HB := Lib.hid (fun (W : World) (h : Below w.heap.size w W) => hb.below h hG)
  have HN := Lib.hid hn
  have HM := Lib.hid hm
  obtain ⟨N, hN⟩ : ∃ N, (n + 1) * (m + 1) = N := ⟨_, rfl⟩
  have hNb : N ≤ 10000000 := by rw [← hN]; exact tab_sz (by omega) (by omega)
  have HNN := Lib.hid hN
  rw [hn] at HA hlca hn3 ⊢
  rw [hm] at HB hlcb hm3 ⊢
  have hmul : IntKind.i64.wrap (((n : Int) + 1) * ((m : Int) + 1)) = (N : Int) := by
    rw [show ((n : Int) + 1) * ((m : Int) + 1) = ((N : Nat) : Int) by rw [← hN]; push_cast; rfl]
    clear hN HNN
    simp [IntKind.wrap, IntKind.bits, IntKind.signed]; omega
  have hmk := run_make_row' (P := Tryz.prog) 148 149 (.int .u16 0) 2 Tryz.underlying148 (by kernel_rfl) rfl .i64 .i64 N (by omega) (by omega) w
  clear ha hb hn hm hN
  go_enter Tryz.func67, Tryz.ntmps67
  go_upto_region 4 with (fail)
  have G0 := Lib.hid (show TbB w (List.replicate N 0) (w.alloc (.cells (madeCells #[.int .u16 0] N) 149)) from by
    unfold TbB
    rw [made_u16]
    exact (BO.start w).new _ _)
  have T0 := Lib.hid (show TabL a b n 0 (List.replicate N 0) from by
    have := TabL.start a b
    rw [HN.out, HM.out, HNN.out] at this
    exact this)
  generalize w.alloc (.cells (madeCells #[.int .u16 0] N) 149) = W0 at *
  clear hmul
  go_upto_region 5 with (fail)
  go_loopw [9, 10] (fun s9 s10 wr => ∃ (R : Nat) (L : List Nat), R ≤ n ∧ s9 = .int .i64 ((R : Int) - 1) ∧ Hid (TabL a b R 0 L) ∧ Hid (TbB w L wr)) (fun s9 _ _ => (intOf s9 + 1).toNat)
  case atStart => exact ⟨n, _, Nat.le_refl _, rfl, T0, G0⟩
  case round =>
    clear T0 G0
    obtain ⟨R1, L, hR1, rfl, HT, HG⟩ := hrel
    by_cases h0 : R1 = 0
    · subst h0
      have T2 := Lib.hid (fun (r c : Nat) (hr : r ≤ n) (hc : c ≤ m) => show L[r * (m + 1) + c]? = some (lcT a b r c) from by
        have := HT.out.at_ r c (by rw [HN.out]; exact hr) (by rw [HM.out]; exact hc) (by omega)
        rw [HM.out] at this
        exact this)
      clear HT
      go_upto_region 15 with (fail)
      have hL0 : L[0]? = some (lcT a b 0 0) := by have := T2.out 0 0 (Nat.zero_le _) (Nat.zero_le _); simpa using this
      obtain ⟨c0, f0⟩ := tb_cell HG.out (List.mem_singleton.2 rfl) 0 _ hL0
      clear hL0 f0
      have G1 := Lib.hid (show BO prR 74 w [] (.slice none 0 0) [(w.heap.size, (L.map u16V).toArray, 149)] wr from ⟨HG.out.bel, Own.nil_, HG.out.prv⟩)
      have hN0 : 0 < N := by rw [← HNN.out]; exact Nat.mul_pos (by omega) (by omega)
      clear HG
      go_upto_region 16 with (fail)
      clear c0
      go_loopw [11, 12, 13, 14] (fun s11 s12 s13 s14 wr => ∃ (i j : Nat) (out : List (Nat × Nat)), i ≤ n ∧ j ≤ m ∧ s12 = .int .i64 i ∧ s13 = .int .i64 j ∧ s14 = .int .u16 (lcT a b i j : Nat) ∧ Hid (out ++ prsT a b i j = prsT a b 0 0) ∧ Hid (BO prR 74 w out s11 [(w.heap.size, (L.map u16V).toArray, 149)] wr)) (fun _ s12 _ _ _ => n - (intOf s12).toNat)
      case atStart => exact ⟨0, 0, [], Nat.zero_le _, Nat.zero_le _, rfl, rfl, rfl, List.nil_append _, G1⟩
      case round =>
        clear G1
        obtain ⟨i, j, out, hi, hj, rfl, rfl, rfl, HO, HG⟩ := hrel
        have hlt3 := lcT_le a b i j
        rw [HN.out] at hlt3
        by_cases hz : lcT a b i j = 0
        · have HV := Lib.hid (show out = prsT a b 0 0 by rw [← HO.out, prsT_zero hz, List.append_nil])
          rw [hz]
          clear hz hlt3
          go_wp2
          go_ret
          exact ⟨_, rfl, by rw [← HV.out]; exact HG.out.own, HG.out.bel⟩
        · have hin : i < n := by omega
          have hjm : j < m := by
            rcases Nat.lt_or_ge j m with h | h
            · exact h
            · have h2 := lcT_b a b i
              rw [HM.out, show m = j by omega] at h2
              omega
          have hol : out.length ≤ 3000 := by
            have h1 := congrArg List.length HO.out
            have h2 : (prsT a b 0 0).length ≤ 3000 := by
              have h3 := lcT_le a b 0 0
              rw [HN.out] at h3
              have h4 : (prsT a b 0 0).length = lcT a b 0 0 := prs_len
              omega
            rw [List.length_append] at h1
            omega
          obtain ⟨q, hqe⟩ : ∃ q, (i + 1) * (m + 1) = q := ⟨_, rfl⟩
          have hqN : q + m < N := by rw [← HNN.out, ← hqe]; exact idx_lt (by omega) (Nat.le_refl m)
          have hq : IntKind.i64.wrap (((i : Int) + 1) * ((m : Int) + 1)) = (q : Int) := by
            rw [← hqe]
            have := (keptMul n m (i + 1) 0 (by omega) (by omega) (by omega) (Nat.zero_le _)).1
            push_cast at this ⊢
            exact this
          have HQE := Lib.hid hqe
          clear hqe
          obtain ⟨x, hx⟩ : ∃ x, a[i]'(by rw [HN.out]; omega) = x := ⟨_, rfl⟩
          obtain ⟨oa, offa, rfl, hoa, e1⟩ := (HA.out wr HG.out.bel).txt i (by rw [HN.out]; omega)
          obtain ⟨ob, offb, rfl, hob, _⟩ := (HB.out wr HG.out.bel).txt j (by rw [HM.out]; omega)
          rw [hx] at e1
          have hlo : oa < wr.heap.size := by have := hF oa hoa; have := HG.out.size; omega
          have e1s : ∀ (d : Nat) (os : Array Obj), (Sort.grow (redrawn wr d) os).cell? ⟨oa, offa + i, none⟩ = some (.string x) := fun d os => ((below_regrown wr d os).cell (p := ⟨oa, offa + i, none⟩) hlo).trans e1
          obtain ⟨z, hzz⟩ : ∃ z, idxV ((b.drop j).findIdx? fun y => decide (y = x)) = z := ⟨_, rfl⟩
          have HIX := Lib.hid (fun (W : World) (hw : Below wr.heap.size wr W) => show Calls Tryz.prog 102 #[.slice (some ⟨ob, offb + j, none⟩) (m - j) (cb - j), .string x] W (fun e w' => e = .returned (.int .i64 z) ∧ Below W.heap.size W w') from by
            have h1 := (HB.out W (HG.out.bel.trans (hw.mono HG.out.bel.size))).drop_ j (by rw [HM.out]; exact hj) (m - j) (cb - j) (by rw [HM.out]) rfl
            rw [show offb + j * strR.n = offb + j by show offb + j * 1 = offb + j; omega] at h1
            refine (idxStr_c (b.drop j) x _ G W h1).mono ?_
            rintro e w' ⟨rfl, rfl⟩
            exact ⟨by rw [hzz], Below.refl _ _⟩)
          have HZ := Lib.hid hzz
          have HX := Lib.hid hx
          have hlz : (lcT a b i j : Int) > 0 := by omega
          obtain ⟨t, ht⟩ : ∃ t, lcT a b i j = t := ⟨_, rfl⟩
          have HT := Lib.hid ht
          rw [ht] at hlz hlt3 hz ⊢
          clear hzz hx ht hz
          go_upto_region 18 with (fail)
          refine wp_region_quiet_below (by kernel_rfl) (by kernel_rfl) ?_
          repeat (first | go_big_quiet_step ((go_at_call 102; exact Calls.regrown_of (HIX.out _ (below_regrown _ _ _)))) | quiet_step ((go_at_call 102; exact Calls.regrown_of (HIX.out _ (below_regrown _ _ _)))))
          refine wpQuiet_nil ?_
          intro wy hwy
          have hby := below_of_regrown hwy
          clear hwy
          have G2 := Lib.hid (HG.out.below hby)
          clear hby e1 e1s HIX hlo
          have hsk : tkn x (a.drop (i + 1)) (b.drop j) = none → prsT a b i j = prsT a b (i + 1) j ∧ lcT a b i j = lcT a b (i + 1) j := fun h => prsT_no (by rw [HN.out]; omega) (by rw [HX.out]; exact h)
          have hyk : ∀ k, tkn x (a.drop (i + 1)) (b.drop j) = some k → prsT a b i j = (i, j + k) :: prsT a b (i + 1) (j + k + 1) ∧ lcT a b i j = lcT a b (i + 1) (j + k + 1) + 1 := fun k h => prsT_yes (by rw [HN.out]; omega) (by rw [HX.out]; exact h)
          have hlc : lcs (x :: a.drop (i + 1)) (b.drop j) = t := by
            rw [← HT.out]; unfold lcT
            rw [List.drop_eq_getElem_cons (l := a) (i := i) (by rw [HN.out]; omega), HX.out]
          have hdl : (b.drop j).length = m - j := by rw [List.length_drop, HM.out]
          have hix : ((b.drop j).findIdx? fun y => decide (y = x)) = idxq x (b.drop j) := rfl
          have HNO := Lib.hid (fun (h : tkn x (a.drop (i + 1)) (b.drop j) = none) => show out ++ prsT a b (i + 1) j = prsT a b 0 0 ∧ t = lcT a b (i + 1) j from ⟨by rw [← (hsk h).1]; exact HO.out, by rw [← (hsk h).2]; exact HT.out.symm⟩)
          cases hid : idxq x (b.drop j) with
          | none =>
            have ht0 : tkn x (a.drop (i + 1)) (b.drop j) = none := by unfold tkn; rw [hid]
            have hz1 : z = -1 := by rw [← HZ.out, hix, hid]; rfl
            subst hz1
            obtain ⟨HO2, hT2⟩ := HNO.out ht0
            have HO2 := Lib.hid HO2
            clear ht0 hid hix hsk hyk hlc hdl HNO HZ
            go_wp2
            go_roundw
            case rel => exact ⟨i + 1, j, out, by omega, hj, intNum, rfl, by rw [hT2], HO2, G2⟩
            case measure => simp [intOf]; omega
          | some k =>
            obtain ⟨hkl, _, _⟩ := idx_some hid
            have hz1 : z = (k : Int) := by rw [← HZ.out, hix, hid]; rfl
            subst hz1
            have hjk : j + k < m := by omega
            obtain ⟨d, hd⟩ : ∃ d, lcT a b (i + 1) (j + k + 1) = d := ⟨_, rfl⟩
            have hLk : L[q + j + k + 1]? = some d := by
              have := T2.out (i + 1) (j + k + 1) (by omega) (by omega)
              rw [HQE.out, hd] at this
              rw [← this]
              congr 1
              omega
            obtain ⟨c1, f1⟩ := tb_cell G2.out (List.mem_singleton.2 rfl) (q + j + k + 1) d hLk
            have hw1 : IntKind.u16.wrap ((t : Int) - 1) = ((t - 1 : Nat) : Int) := by simp [IntKind.wrap, IntKind.bits, IntKind.signed]; omega
            have htk : tkn x (a.drop (i + 1)) (b.drop j) = if d + 1 = t then some k else none := by
              unfold tkn
              rw [hid]
              simp only
              rw [hlc, List.drop_drop, show j + (k + 1) = j + k + 1 by omega, show lcs (a.drop (i + 1)) (b.drop (j + k + 1)) = d from hd]
            have hk0 : ¬ (k : Int) < 0 := by omega
            by_cases hdt : d + 1 = t
            · rw [if_pos hdt] at htk
              obtain ⟨h1, h2⟩ := hyk k htk
              have HO2 := Lib.hid (show (out ++ [(i, j + k)]) ++ prsT a b (i + 1) (j + k + 1) = prsT a b 0 0 by rw [List.append_assoc, List.singleton_append, ← h1]; exact HO.out)
              have ht1 : t - 1 = d := by omega
              rw [ht1] at hw1
              have HD := Lib.hid hd
              have hdd : ((d : Int) == d) = true := by simp
              clear htk h1 h2 hdt hid hix hsk hyk hlc hdl HNO HZ HO hLk hd ht1
              go_wp2_with (at_builtin; (refine wpList_pushB (R := prR) rfl _ _ _ rfl w.heap.size w.heap.size 74 i2 _ 16 Tryz.underlying72 hi2 hz2 (by assumption) (by assumption) rfl (by decide) _ u11 out rfl (G2.out.own.alloc _) (i, j + k) (prC (i, j + k)) rfl (by intro u hu; simp [prC] at hu; rcases hu with rfl | rfl <;> rfl) wy.heap.size _ _ (heap_alloc_new wy _) rfl (by simp [maxLen]; omega) (by omega) (by have := G2.out.size; simp; omega) ?_); intro g7 cap7 w7 hown7 hg7 hat7 hlt7)
              have G7 := Lib.hid ((G2.out.alloc (.cells (prC (i, j + k)).toArray 74)).more hown7 hg7 rfl hat7)
              clear hown7 hg7 hat7 G2 HG c1 f1
              go_wp2
              go_roundw
              case rel => exact ⟨_, _, _, _, ⟨i + 1, by omega, j + k + 1, by omega, rfl, rfl, rfl, out ++ [(i, j + k)], HO2, G7.out⟩, rfl, intNum, by congr 1 <;> omega, by rw [HD.out]⟩
              case measure => simp [intOf]; omega
            · rw [if_neg hdt] at htk
              obtain ⟨HO2, hT2⟩ := HNO.out htk
              have HO2 := Lib.hid HO2
              have hne : ((d : Int) == ((t - 1 : Nat) : Int)) = false := by rw [beq_eq_false_iff_ne]; omega
              clear htk hid hix hsk hyk hlc hdl HNO HZ HO hLk hd hdt
              go_wp2
              go_roundw
              case rel => exact ⟨i + 1, j, out, by omega, hj, intNum, rfl, by rw [hT2], HO2, G2⟩
              case measure => simp [intOf]; omega
    · obtain ⟨R, rfl⟩ : ∃ R, R1 = R + 1 := ⟨R1 - 1, by omega⟩
      have T1 := Lib.hid (show TabL a b R m L from by have := HT.out.row; rw [HM.out] at this; exact this)
      have hge : (0 : Int) ≤ ((R + 1 : Nat) : Int) - 1 := by omega
      have eR : ((R + 1 : Nat) : Int) - 1 = R := by omega
      rw [eR] at hge ⊢
      clear HT eR h0
      go_upto_region 8 with (fail)
      obtain ⟨p, hpe⟩ : ∃ p, R * (m + 1) = p := ⟨_, rfl⟩
      obtain ⟨q, hqe⟩ : ∃ q, (R + 1) * (m + 1) = q := ⟨_, rfl⟩
      have hpq : q = p + m + 1 := by rw [← hpe, ← hqe, Nat.succ_mul]; omega
      have hqN : q + m < N := by rw [← HNN.out, ← hqe]; exact idx_lt hR1 (Nat.le_refl m)
      have hp : IntKind.i64.wrap ((R : Int) * ((m : Int) + 1)) = (p : Int) := by rw [← hpe]; exact (keptMul n m R 0 (by omega) (by omega) (by omega) (Nat.zero_le _)).1
      have hq : IntKind.i64.wrap (((R : Int) + 1) * ((m : Int) + 1)) = (q : Int) := by
        rw [← hqe]
        have := (keptMul n m (R + 1) 0 (by omega) (by omega) hR1 (Nat.zero_le _)).1
        push_cast at this ⊢
        exact this
      have HPE := Lib.hid (And.intro hpe hqe)
      have hpN : p + m < N := by omega
      clear hpe hqe hpq
      go_loopw [10] (fun s10 wr => ∃ (C : Nat) (L : List Nat), C ≤ m ∧ s10 = .int .i64 ((C : Int) - 1) ∧ Hid (TabL a b R C L) ∧ Hid (TbB w L wr)) (fun s10 _ => (intOf s10 + 1).toNat)
      case atStart => exact ⟨m, L, Nat.le_refl _, rfl, T1, HG⟩
      case round =>
        clear T1 HG
        obtain ⟨C1, L, hC1, rfl, HT, HG⟩ := hrel
        by_cases h0 : C1 = 0
        · subst h0
          go_wp2
          go_roundw
          case rel => exact ⟨R, L, by omega, rfl, HT, HG⟩
          case measure => simp [intOf]
        · obtain ⟨C, rfl⟩ : ∃ C, C1 = C + 1 := ⟨C1 - 1, by omega⟩
          have hge2 : (0 : Int) ≤ ((C + 1 : Nat) : Int) - 1 := by omega
          have eC : ((C + 1 : Nat) : Int) - 1 = C := by omega
          rw [eC] at hge2 ⊢
          clear eC h0
          obtain ⟨x, hx⟩ : ∃ x, a[R]'(by rw [HN.out]; omega) = x := ⟨_, rfl⟩
          obtain ⟨oa, offa, rfl, hoa, e1⟩ := (HA.out wr HG.out.bel).txt R (by rw [HN.out]; omega)
          obtain ⟨y, hy⟩ : ∃ y, b[C]'(by rw [HM.out]; omega) = y := ⟨_, rfl⟩
          obtain ⟨ob, offb, rfl, hob, e2⟩ := (HB.out wr HG.out.bel).txt C (by rw [HM.out]; omega)
          rw [hx] at e1
          rw [hy] at e2
          obtain ⟨d1, hd1⟩ : ∃ d, lcT a b (R + 1) (C + 1) = d := ⟨_, rfl⟩
          obtain ⟨d2, hd2⟩ : ∃ d, lcT a b (R + 1) C = d := ⟨_, rfl⟩
          obtain ⟨d3, hd3⟩ : ∃ d, lcT a b R (C + 1) = d := ⟨_, rfl⟩
          have hstep := lcT_step (a := a) (b := b) (r := R) (c := C) (by rw [HN.out]; omega) (by rw [HM.out]; omega)
          rw [hx, hy, hd1, hd2, hd3] at hstep
          have hb1 : d1 ≤ 3000 := by have := lcT_le a b (R + 1) (C + 1); rw [HN.out] at this; omega
          have hb2 : d2 ≤ 3000 := by have := lcT_le a b (R + 1) C; rw [HN.out] at this; omega
          have hb3 : d3 ≤ 3000 := by have := lcT_le a b R (C + 1); rw [HN.out] at this; omega
          have hL1 : L[q + (C + 1)]? = some d1 := by rw [← HPE.out.2, ← HM.out, ← hd1]; exact HT.out.at_ (R + 1) (C + 1) (by rw [HN.out]; omega) (by rw [HM.out]; omega) (by omega)
          have hL2 : L[q + C]? = some d2 := by rw [← HPE.out.2, ← HM.out, ← hd2]; exact HT.out.at_ (R + 1) C (by rw [HN.out]; omega) (by rw [HM.out]; omega) (by omega)
          have hL3 : L[p + (C + 1)]? = some d3 := by rw [← HPE.out.1, ← HM.out, ← hd3]; exact HT.out.at_ R (C + 1) (by rw [HN.out]; omega) (by rw [HM.out]; omega) (by omega)
          have hLl : L.length = N := by rw [HT.out.len, HN.out, HM.out, HNN.out]
          have HST := Lib.hid (fun (v : Nat) (hv : v = lcT a b R C) => show TabL a b R C (L.set (p + C) v) from by
            have := HT.out.step (by rw [HM.out]; omega) (by rw [HN.out]; exact hn3)
            rw [HM.out, HPE.out.1] at this
            rw [hv]; exact this)
          have HSE := Lib.hid hstep
          clear hx hy hd1 hd2 hd3 hstep HT
          obtain ⟨c1, f1⟩ := tb_cell HG.out (List.mem_singleton.2 rfl) (q + C + 1) d1 hL1
          obtain ⟨c2, f2⟩ := tb_cell HG.out (List.mem_singleton.2 rfl) (q + C) d2 hL2
          obtain ⟨c3, f3⟩ := tb_cell HG.out (List.mem_singleton.2 rfl) (p + C + 1) d3 hL3
          obtain ⟨c4, f4⟩ := tb_cell HG.out (List.mem_singleton.2 rfl) (p + C) (L[p + C]'(by omega)) (List.getElem?_eq_getElem (by omega))
          by_cases hxy : x = y
          · rw [if_pos hxy] at HSE
            have HV := Lib.hid (HST.out (d1 + 1) HSE.out.symm)
            have hw1 : IntKind.u16.wrap ((d1 : Int) + 1) = ((d1 + 1 : Nat) : Int) := by simp [IntKind.wrap, IntKind.bits, IntKind.signed]; omega
            subst hxy
            clear HST HSE c2 f1 f2 c3 hL1 hL2 hL3
            go_upto_region 10 with (fail)
            go_region
            go_wp2
            go_roundw
            case rel => exact ⟨C, _, by omega, rfl, HV, (show TbB w (L.set (p + C) (d1 + 1)) (wr.setCell ⟨w.heap.size, p + C, none⟩ (.int .u16 ((d1 : Int) + 1))).drew from (tb_set HG.out (p + C) (d1 + 1)).drew)⟩
            case measure => simp [intOf]
          · rw [if_neg hxy] at HSE
            have hbe : (x.toList == y.toList) = false := by rw [beqS]; simpa using hxy
            have HV := Lib.hid (HST.out (max d2 d3) HSE.out.symm)
            clear hxy HST HSE hL1 hL2 hL3
            go_upto_region 10 with (fail)
            go_region
            clear e1 e2 c1 f1
            go_upto_region 12 with (fail)
            go_region
            have eM : ((max d2 d3 : Nat) : Int) = max (d2 : Int) d3 := by omega
            go_wp2
            go_roundw
            case rel => exact ⟨C, _, by omega, rfl, HV, (show TbB w (L.set (p + C) (max d2 d3)) (wr.setCell ⟨w.heap.size, p + C, none⟩ (.int .u16 (max (d2 : Int) d3))).drew.drew from by
              have h := tb_set HG.out (p + C) (max d2 d3)
              rw [eM] at h
              exact h.drew.drew)⟩
            case measure => simp [intOf]
end Go.Proofs.YtnnnmbipmfopmaaGreatDoor

/- revise.pairs, Pairs, walked. -/
namespace Go.Proofs.YtnnnmbipmfopmaaGreatDoor
set_option linter.unusedVariables false
open Go.RowKit Go.Sort

/-- The pairs of two lists, whatever their order. -/
def prX (a b : List ByteArray) : List (Nat × Nat) := if cmpL strC a b ≤ 0 then prsT a b 0 0 else (prsT b a 0 0).map swp
theorem prsT_len (a b : List ByteArray) (i j : Nat) : (prsT a b i j).length = lcT a b i j := prs_len
theorem prX_le (a b : List ByteArray) : (prX a b).length ≤ a.length + b.length := by
  unfold prX
  split
  · rw [prsT_len]; have := lcT_le a b 0 0; omega
  · rw [List.length_map, prsT_len]; have := lcT_le b a 0 0; omega
theorem modify_mid {α : Type} (f : α → α) (x : α) (B : List α) : ∀ (A : List α) (k : Nat), k = A.length → (A ++ x :: B).modify k f = A ++ f x :: B
  | [], _, h => by subst h; rfl
  | a :: A, k, h => by
    subst h
    show a :: (A ++ x :: B).modify A.length f = _
    rw [modify_mid f x B A A.length rfl]
    rfl
theorem swp_step {l : List (Nat × Nat)} {k : Nat} {p : Nat × Nat} (hk : k < l.length) (hp : l[k] = p) : (((l.take k).map swp ++ l.drop k).modify k (fun x => (p.2, x.2))).modify k (fun x => (x.1, p.1)) = (l.take (k + 1)).map swp ++ l.drop (k + 1) := by
  have h1 : k = ((l.take k).map swp).length := by rw [List.length_map, List.length_take]; omega
  rw [List.drop_eq_getElem_cons hk, hp, modify_mid _ _ _ _ _ h1, modify_mid _ _ _ _ _ h1, List.take_succ_eq_append_getElem hk, hp, List.map_append]
  simp [swp]
def PairP (l : List (Nat × Nat)) (w : World) (e : Ending) (w' : World) : Prop := ∃ v, e = .returned v ∧ Own prR w' w.heap.size w.heap.size 74 l v ∧ Below w.heap.size w w'
set_option maxRecDepth 100000 in
set_option maxHeartbeats 4000000 in
theorem pairs_c {F G : Nat → Prop} (a b : List ByteArray) (va vb : Value) (w : World) (ha : Sli strR w F a va) (hb : Sli strR w G b vb) (hF : ∀ q, F q → q < w.heap.size) (hG : ∀ q, G q → q < w.heap.size) (hn3 : a.length ≤ 3000) (hm3 : b.length ≤ 3000) :
    Calls Tryz.prog 44 #[va, vb] w (PairP (prX a b) w) := by
  have HC := Lib.hid (cmpSl_c a b va vb w ha hb)
  have HAB := Lib.hid (kept_c a b va vb w ha hb hF hG hn3 hm3)
  have HBA := Lib.hid (kept_c b a vb va w hb ha hG hF hm3 hn3)
  have HX := Lib.hid (show prX a b = if cmpL strC a b ≤ 0 then prsT a b 0 0 else (prsT b a 0 0).map swp from rfl)
  have hl3 : (prsT b a 0 0).length ≤ 3000 := by rw [prsT_len]; have := lcT_le b a 0 0; omega
  generalize cmpL strC a b = z at *
  generalize prsT a b 0 0 = l1 at *
  generalize prsT b a 0 0 = l2 at *
  clear ha hb hF hG hn3 hm3
  go_enter Tryz.func44, Tryz.ntmps44
  go_wp2_with fail
  refine HC.out.mono ?_
  rintro e w1 ⟨rfl, rfl⟩
  by_cases hz : z ≤ 0
  · rw [if_pos hz] at HX
    go_wp2_with fail
    refine HAB.out.mono ?_
    rintro e w2 ⟨v, rfl, hown, hb⟩
    go_wp2
    go_ret
    exact ⟨v, rfl, by rw [HX.out]; exact hown, hb⟩
  · rw [if_neg hz] at HX
    go_wp2_with fail
    refine HBA.out.mono ?_
    rintro e w2 ⟨v, rfl, hown, hb⟩
    have G2 := Lib.hid (show BO prR 74 w1 l2 v [] w2 from ⟨hb, hown, fun p hp => by cases hp⟩)
    clear hown hb HBA HAB HC
    obtain ⟨L, hL⟩ : ∃ L, l2.length = L := ⟨_, rfl⟩
    have HL := Lib.hid hL
    rw [hL] at hl3
    have hvf : ∃ A c, v = .slice A L c := by
      obtain ⟨A', c', he, h1, h2⟩ := (G2.out.own.sli (F := fun _ => True) (fun _ _ _ => trivial) (fun _ _ => trivial)).form
      rw [hL] at he
      exact ⟨A', c', he⟩
    obtain ⟨A, c, rfl⟩ := hvf
    clear hL
    go_wp2
    go_loopw [20] (fun i wr => ∃ k : Nat, k ≤ L ∧ i = .int .i64 k ∧ Hid (BO prR 74 w1 ((l2.take k).map swp ++ l2.drop k) (.slice A L c) [] wr)) (fun i _ => L - (intOf i).toNat)
    case atStart => exact ⟨0, Nat.zero_le _, rfl, Lib.hid (by rw [List.take_zero, List.map_nil, List.nil_append, List.drop_zero]; exact G2.out)⟩
    case round =>
      clear G2
      obtain ⟨k, hk, rfl, HG⟩ := hrel
      by_cases hlt : k < L
      · obtain ⟨g, cap, he, hgb, hgw⟩ := Own.some_ (enc := prC) (hn := fun _ => rfl) HG.out.own (by have := HL.out; simp; omega)
        have hll : ((l2.take k).map swp ++ l2.drop k).length = L := by have := HL.out; simp; omega
        rw [hll] at he
        cases he
        obtain ⟨p, hp⟩ : ∃ p, l2[k]'(by rw [HL.out]; exact hlt) = p := ⟨_, rfl⟩
        have hel : ((l2.take k).map swp ++ l2.drop k)[k]'(by rw [hll]; exact hlt) = p := by
          rw [List.getElem_append_right (by simp; rw [HL.out]; omega)]
          simp [hp, HL.out, Nat.min_eq_left (Nat.le_of_lt hlt)]
        obtain ⟨c0', f0⟩ := Own.cellAt (enc := prC) (hn := fun _ => rfl) HG.out.own k (by rw [hll]; exact hlt) 0 (by decide)
        obtain ⟨c1', f1⟩ := Own.cellAt (enc := prC) (hn := fun _ => rfl) HG.out.own k (by rw [hll]; exact hlt) 1 (by decide)
        rw [hel] at c0' c1'
        have c0 : wr.cell? ⟨g, k * 2, none⟩ = some (.int .i64 p.1) := c0'
        have c1 : wr.cell? ⟨g, k * 2 + 1, none⟩ = some (.int .i64 p.2) := c1'
        have f0 : wr.frozen? ⟨g, k * 2, none⟩ = false := f0
        have hkl : k < ((l2.take k).map swp ++ l2.drop k).length := by rw [hll]; exact hlt
        have G3 := Lib.hid (show BO prR 74 w1 ((l2.take (k + 1)).map swp ++ l2.drop (k + 1)) (.slice (some ⟨g, 0, none⟩) L c) [] (((wr.setCell ⟨g, k * 2, none⟩ (.int .i64 p.2)).setCell ⟨g, k * 2 + 1, none⟩ (.int .i64 p.1)).alloc (.cells #[.int .i64 p.1, .int .i64 p.2] 74)) from by
          have h1 := HG.out.modify (n := 2) (enc := prC) (hn := fun _ => rfl) (fun x => (p.2, x.2)) k 0 (.int .i64 p.2) (fun _ => rfl) (by decide) hkl
          have h2 := h1.modify (n := 2) (enc := prC) (hn := fun _ => rfl) (fun x => (x.1, p.1)) k 1 (.int .i64 p.1) (fun _ => rfl) (by decide) (by rw [List.length_modify]; exact hkl)
          rw [swp_step (by rw [HL.out]; exact hlt) hp] at h2
          exact h2.alloc _)
        clear c0' c1' hel hp HG hkl hll
        go_upto_region 8 with (fail)
        clear c0 c1 f0 f1
        go_wp2
        go_roundw
        case rel => exact ⟨k + 1, by omega, intNum, G3⟩
        case measure => simp [intOf]; omega
      · have HF := Lib.hid HG.out
        rw [List.take_of_length_le (by rw [HL.out]; omega), List.drop_of_length_le (by rw [HL.out]; omega), List.append_nil] at HF
        go_wp2
        go_ret
        exact ⟨_, rfl, by rw [HX.out]; exact HF.out.own, HF.out.bel⟩
theorem large_c {F : Nat → Prop} (a : List ByteArray) (va : Value) (w : World) (ha : Sli strR w F a va) : Calls Tryz.prog 21 #[va] w fun e w' => e = .returned (.bool (decide (3000 < a.length))) ∧ w' = w := by
  obtain ⟨A, ca, rfl, hlca, hca⟩ := ha.form
  obtain ⟨n, hn⟩ : ∃ n, a.length = n := ⟨_, rfl⟩
  rw [hn] at hlca ⊢
  clear ha hn
  go_enter Tryz.func21, Tryz.ntmps21
  go_wp2
  go_ret
  exact ⟨by congr 2; simp; omega, rfl⟩
end Go.Proofs.YtnnnmbipmfopmaaGreatDoor

/- slices.Repeat of one number, walked. -/
namespace Go.Proofs.YtnnnmbipmfopmaaGreatDoor
set_option linter.unusedVariables false
open Go.RowKit Go.Sort

/-- A row of n numbers, the first k of which are z. -/
def repC (z : Int) (n k : Nat) : Array Value := ((List.range n).map fun i => Value.int .i64 (if i < k then z else 0)).toArray
theorem repC_size (z : Int) (n k : Nat) : (repC z n k).size = n := by simp [repC]
theorem repC_at {z : Int} {n k i : Nat} (hi : i < n) : (repC z n k)[i]? = some (.int .i64 (if i < k then z else 0)) := by
  unfold repC
  rw [List.getElem?_toArray, List.getElem?_map, List.getElem?_range hi]
  rfl
theorem made_rep (z : Int) (n : Nat) : madeCells #[.int .i64 0] n = repC z n 0 := by
  apply Array.ext
  · rw [size_madeCells, repC_size]
  · intro i h1 h2
    simp [madeCells, Nat.mod_one, repC]
theorem rep_copy {z : Int} {n k m : Nat} (hk : k ≤ n) (hm : m = min k (n - k) ∨ (k = 0 ∧ m = 1 ∧ 1 ≤ n)) : ((repC z n k).toList.take k ++ List.replicate m (Value.int .i64 z) ++ (repC z n k).toList.drop (k + m)).toArray = repC z n (k + m) := by
  have hkm : k + m ≤ n := by omega
  apply Array.ext_getElem?
  intro i
  rw [List.getElem?_toArray]
  have hl : (repC z n k).toList.length = n := by simp [repC_size]
  by_cases hi : i < n
  · rw [repC_at hi]
    by_cases h1 : i < k
    · rw [List.append_assoc, List.getElem?_append_left (by rw [List.length_take, hl]; omega), List.getElem?_take, if_pos h1, Array.getElem?_toList, repC_at hi, if_pos h1, if_pos (by omega)]
    · by_cases h2 : i < k + m
      · rw [List.getElem?_append_left (by rw [List.length_append, List.length_take, hl, List.length_replicate]; omega), List.getElem?_append_right (by rw [List.length_take, hl]; omega), List.length_take, hl, List.getElem?_replicate, if_pos (by omega), if_pos h2]
      · rw [List.getElem?_append_right (by rw [List.length_append, List.length_take, hl, List.length_replicate]; omega), List.length_append, List.length_take, hl, List.length_replicate, List.getElem?_drop, Array.getElem?_toList, show k + m + (i - (min k n + m)) = i by omega, repC_at hi, if_neg h1, if_neg h2]
  · rw [Array.getElem?_eq_none (by rw [repC_size]; omega), List.getElem?_eq_none]
    simp [hl]
    omega
set_option maxRecDepth 100000 in
set_option maxHeartbeats 4000000 in
theorem repeat_c (vb n : Nat) (z : Int) (w : World) (hv : w.heap[vb]? = some (.cells #[.int .i64 z] 3 (0, 0))) (hn : n ≤ 10000) :
    Calls Tryz.prog 43 #[.slice (some ⟨vb, 0, none⟩) 1 1, .int .i64 n] w fun e w' => e = .returned (.slice (some ⟨w.heap.size, 0, none⟩) n n) ∧ Below w.heap.size w w' ∧ w'.heap[w.heap.size]? = some (.cells (repC z n n) 3 (0, 0)) := by
  have HMU := Lib.hid (show Calls Tryz.prog 66 #[.int .u64 1, .int .u64 n] w fun e w' => e = .returned (.tuple #[.int .u64 0, .int .u64 n]) ∧ w' = w from by
    have h := Tryz.bits_Mul 1 n (by decide) (by omega) w
    rw [show 1 * n / 18446744073709551616 = 0 by omega, show 1 * n % 18446744073709551616 = n by omega] at h
    exact h)
  have hw1 : IntKind.u64.wrap (n : Int) = n := by simp [IntKind.wrap, IntKind.bits, IntKind.signed]; omega
  have hmk := run_make_row' (P := Tryz.prog) 22 3 (.int .i64 0) 8 Tryz.underlying22 (by kernel_rfl) rfl .i64 .i64 n (by omega) (by omega) w
  have HV := Lib.hid hv
  clear hv
  go_enter Tryz.func43, Tryz.ntmps43
  go_wp2_with fail
  refine HMU.out.mono ?_
  rintro e w1 ⟨rfl, rfl⟩
  go_upto_region 7 with (fail)
  have hcell : ∀ (v : Value), [Value.int .i64 z][0]? = some v → v = .int .i64 z := fun v h => by simpa using h.symm
  have hs1 : (Tryz.prog.info? 3).map (·.size) = some 1 := by kernel_rfl
  have G0 := Lib.hid (show Below w1.heap.size w1 (w1.alloc (.cells (madeCells #[.int .i64 0] n) 3)) ∧ (w1.alloc (.cells (madeCells #[.int .i64 0] n) 3)).heap[w1.heap.size]? = some (.cells (repC z n 0) 3 (0, 0)) from
    ⟨(Below.refl _ w1).alloc (Nat.le_refl _) _, by rw [heap_alloc_new, made_rep z]⟩)
  have hvb : vb < w1.heap.size := heap_lt HV.out
  have hvc : (w1.alloc (.cells (madeCells #[.int .i64 0] n) 3)).cell? ⟨vb, 0, none⟩ = some (.int .i64 z) := ((str_cells ((Below.heap_alloc w1 (.cells (madeCells #[.int .i64 0] n) 3) vb hvb).trans HV.out)).1 0)
  generalize w1.alloc (.cells (madeCells #[.int .i64 0] n) 3) = W0 at *
  clear hmk hvb HV
  by_cases hn0 : n = 0
  · subst hn0
    have hcp := run_copy_none (P := Tryz.prog) W0 22 22 3 3 (some ⟨w1.heap.size, 0, none⟩) (some ⟨vb, 0, none⟩) 0 0 1 1 Tryz.underlying22 hs1 (by decide)
    go_wp2
    go_loopw [8] (fun s8 wr => s8 = .int .i64 0 ∧ wr = W0) (fun _ _ => 0)
    case atStart => exact ⟨rfl, rfl⟩
    case round =>
      obtain ⟨rfl, rfl⟩ := hrel
      go_wp2
      go_ret
      exact ⟨rfl, G0.out.1, G0.out.2⟩
  · have hcp := run_copy_row (P := Tryz.prog) W0 22 22 3 3 w1.heap.size 0 n n ⟨vb, 0, none⟩ 1 1 (repC z n 0) 3 [.int .i64 z] Tryz.underlying22 hs1 G0.out.2 (show 1 = min 1 n by omega) (fun j v hj => by
      cases j with
      | zero => simp at hj; subst hj; simpa [Addr.add] using hvc
      | succ j => simp at hj) (by rw [repC_size]; simp; omega) (by intro v hv; rw [List.mem_singleton.1 hv]; rfl)
    have hrc := rep_copy (z := z) (n := n) (k := 0) (m := 1) (by omega) (.inr ⟨rfl, rfl, by omega⟩)
    rw [show List.replicate 1 (Value.int .i64 z) = [.int .i64 z] from rfl] at hrc
    simp only [List.length_singleton] at hcp
    rw [hrc] at hcp
    have G1 := Lib.hid (show Below w1.heap.size w1 (W0.setRow w1.heap.size (repC z n (0 + 1))) ∧ (W0.setRow w1.heap.size (repC z n (0 + 1))).heap[w1.heap.size]? = some (.cells (repC z n (0 + 1)) 3 (0, 0)) from ⟨below_setRow G0.out.1 (Nat.le_refl _) _, setRow_heap _ _ _ _ _ _ G0.out.2⟩)
    clear hrc hvc hcell
    go_upto_region 8 with (fail)
    generalize W0.setRow w1.heap.size (repC z n (0 + 1)) = W1 at *
    clear hcp G0
    go_loopw [8] (fun s8 wr => ∃ k : Nat, 1 ≤ k ∧ k ≤ n ∧ s8 = .int .i64 k ∧ Hid (Below w1.heap.size w1 wr ∧ wr.heap[w1.heap.size]? = some (.cells (repC z n k) 3 (0, 0)))) (fun s8 _ => n - (intOf s8).toNat)
    case atStart => exact ⟨1, by omega, by omega, rfl, G1⟩
    case round =>
      clear G1
      obtain ⟨k, hk1, hkn, rfl, HG⟩ := hrel
      by_cases hlt : k < n
      · obtain ⟨m, hm⟩ : ∃ m, min k (n - k) = m := ⟨_, rfl⟩
        have hml : (List.replicate m (Value.int .i64 z)).length = Nat.min k (n - k) := by rw [List.length_replicate]; exact hm.symm
        have hcp := fun (W : World) (hW : W.heap[w1.heap.size]? = some (.cells (repC z n k) 3 (0, 0))) => run_copy_row (P := Tryz.prog) W 22 22 3 3 w1.heap.size k (n - k) (n - k) ⟨w1.heap.size, 0, none⟩ k n (repC z n k) 3 (List.replicate m (.int .i64 z)) Tryz.underlying22 hs1 hW hml (fun j v hj => by
          obtain ⟨hj1, hj2⟩ := List.getElem?_eq_some_iff.1 hj
          rw [List.length_replicate] at hj1
          rw [List.getElem_replicate] at hj2
          subst hj2
          have := (str_cells hW).1 j
          rw [repC_at (by omega), if_pos (by omega)] at this
          by_cases h0 : j = 0
          · subst h0; simpa [Addr.add] using this
          · simpa [Addr.add, h0] using this) (by rw [repC_size, List.length_replicate]; omega) (by intro v hv; rw [(List.mem_replicate.1 hv).2]; rfl)
        have hrc := rep_copy (z := z) (n := n) (k := k) (m := m) hkn (.inl hm.symm)
        simp only [List.length_replicate] at hcp
        rw [hrc] at hcp
        have hcp1 := hcp wr HG.out.2
        have hcp2 := hcp wr.drew HG.out.2
        have G2 := Lib.hid (show Below w1.heap.size w1 (wr.drew.setRow w1.heap.size (repC z n (k + m))) ∧ (wr.drew.setRow w1.heap.size (repC z n (k + m))).heap[w1.heap.size]? = some (.cells (repC z n (k + m)) 3 (0, 0)) from ⟨below_setRow HG.out.1.drew (Nat.le_refl _) _, setRow_heap wr.drew _ _ _ _ _ HG.out.2⟩)
        have hm1 : 1 ≤ m := by omega
        have hm2 : k + m ≤ n := by omega
        clear hcp hrc hml hm
        go_upto_region 9 with (fail)
        go_region
        clear hcp1 hcp2
        go_wp2
        go_roundw
        case rel => exact ⟨k + m, by omega, hm2, by congr 1, Lib.hid G2.out⟩
        case measure => simp [intOf]; omega
      · have hkn' : k = n := by omega
        subst hkn'
        go_wp2
        go_ret
        exact ⟨rfl, HG.out.1, HG.out.2⟩
end Go.Proofs.YtnnnmbipmfopmaaGreatDoor

