/- Texts packed: KqC, KqD, KqE, KqF, KqG, PaQ, LkD, LkE, LkF, LkG. -/
import Derived.Test.YtlmfpaincgkpeaaGreatDoorSc41
import Derived.BigQuiet
import Derived.Test.YtlmfpaincgkpeaaGreatDoorSc23
import Derived.Test.YtlmfpaincgkpeaaGreatDoorSc01
import Derived.Test.YtlmfpaincgkpeaaGreatDoorSc02
import Derived.Deep.DeepCutAuto
import Derived.Test.YtlmfpaincgkpeaaGreatDoorSc21
import Derived.Test.YtlmfpaincgkpeaaGreatDoorSc33
/- The closure of R.PairsOf, walked. -/
namespace Go.Proofs.YtlmfpaincgkpeaaGreatDoor
set_option linter.unusedVariables false
open Go.RowKit Go.Sort

/-- What R.PairsOf has laid: two lists in boxes, two places, the table. -/
structure PoB (w0 : World) (a b : List ByteArray) (A B : Option Addr) (ca cb : Nat) (o : Nat) (g : Nat → Nat) (I X1 J X2 TB i j : Nat) (w : World) : Prop where
  ci : w.cell? ⟨I, 0, none⟩ = some (.int .i64 i)
  cj : w.cell? ⟨J, 0, none⟩ = some (.int .i64 j)
  c1 : w.cell? ⟨X1, 0, none⟩ = some (.slice A a.length ca)
  c2 : w.cell? ⟨X2, 0, none⟩ = some (.slice B b.length cb)
  ct : w.cell? ⟨TB, 0, none⟩ = some (.slice (some ⟨o, 0, none⟩) (a.length + 1) (a.length + 1))
  tab : TbM w0 a.length b.length o g (a.length + 1) (lcT a b) w
  sa : Sli strR w (fun q => q < w.heap.size) a (.slice A a.length ca)
  sb : Sli strR w (fun q => q < w.heap.size) b (.slice B b.length cb)
  lt : I < w.heap.size ∧ J < w.heap.size ∧ X1 < w.heap.size ∧ X2 < w.heap.size ∧ TB < w.heap.size
theorem PoB.below {w0 w w' : World} {a b : List ByteArray} {A B : Option Addr} {ca cb o : Nat} {g : Nat → Nat} {I X1 J X2 TB i j : Nat} (h : PoB w0 a b A B ca cb o g I X1 J X2 TB i j w) (hb : Below w.heap.size w w') : PoB w0 a b A B ca cb o g I X1 J X2 TB i j w' := by
  obtain ⟨l1, l2, l3, l4, l5⟩ := h.lt
  have hz := hb.size
  exact ⟨(hb.cell (p := ⟨I, 0, none⟩) l1).trans h.ci, (hb.cell (p := ⟨J, 0, none⟩) l2).trans h.cj, (hb.cell (p := ⟨X1, 0, none⟩) l3).trans h.c1, (hb.cell (p := ⟨X2, 0, none⟩) l4).trans h.c2, (hb.cell (p := ⟨TB, 0, none⟩) l5).trans h.ct, h.tab.below hb,
    (h.sa.below hb (fun q hq => hq)).more (fun q hq => by omega), (h.sb.below hb (fun q hq => hq)).more (fun q hq => by omega), ⟨by omega, by omega, by omega, by omega, by omega⟩⟩
def NxP (a b : List ByteArray) (i j : Nat) (w : World) (e : Ending) (w' : World) : Prop := ∃ x y : Nat, e = .returned (.tuple #[.int .i64 x, .int .i64 y]) ∧ Below w.heap.size w w' ∧ i ≤ x ∧ x < a.length ∧ j ≤ y ∧ y < b.length ∧ prsT a b i j = (x, y) :: prsT a b (x + 1) (y + 1) ∧ lcT a b i j = lcT a b (x + 1) (y + 1) + 1
set_option maxRecDepth 100000 in
set_option maxHeartbeats 8000000 in
theorem next_po (w0 : World) (a b : List ByteArray) (A B : Option Addr) (ca cb o : Nat) (g : Nat → Nat) (I X1 J X2 TB i j : Nat) (w : World) (h : PoB w0 a b A B ca cb o g I X1 J X2 TB i j w) (hl : 0 < lcT a b i j) (hj : j ≤ b.length) (hn3 : a.length ≤ 3001) (hm3 : b.length ≤ 3001) :
    Calls Tryz.prog 73 #[.pointer (some ⟨I, 0, none⟩), .pointer (some ⟨X1, 0, none⟩), .pointer (some ⟨J, 0, none⟩), .pointer (some ⟨X2, 0, none⟩), .pointer (some ⟨TB, 0, none⟩)] w (NxP a b i j w) := by
  obtain ⟨n, hn⟩ : ∃ n, a.length = n := ⟨_, rfl⟩
  obtain ⟨m, hm⟩ : ∃ m, b.length = m := ⟨_, rfl⟩
  have HN := Lib.hid hn
  have HM := Lib.hid hm
  have HP := Lib.hid (fun (W : World) (hb : Below w.heap.size w W) => h.below hb)
  have hib : i < n := by have := lcT_le a b i j; rw [hn] at this; omega
  have HFIN := Lib.hid (fun (x y : Nat) (W : World) (hb : Below w.heap.size w W) (h1 : i ≤ x) (h2 : x < n) (h3 : j ≤ y) (h4 : y < m) (h5 : prsT a b i j = prsT a b x j ∧ lcT a b i j = lcT a b x j) (h6 : tkn (a[x]'(by rw [HN.out]; exact h2)) (a.drop (x + 1)) (b.drop j) = some (y - j)) => show NxP a b i j w (.returned (.tuple #[.int .i64 x, .int .i64 y])) W from by
    obtain ⟨e1, e2⟩ := prsT_yes (a := a) (b := b) (i := x) (j := j) (k := y - j) (by rw [hn]; exact h2) h6
    rw [show j + (y - j) = y by omega] at e1 e2
    exact ⟨x, y, rfl, hb, h1, by rw [hn]; exact h2, h3, by rw [hm]; exact h4, by rw [h5.1, e1], by rw [h5.2, e2]⟩)
  have hci := h.ci
  have HL := Lib.hid hl
  rw [hn] at hn3
  rw [hm] at hm3 hj
  clear h hl hn hm
  go_enter Tryz.func73, Tryz.ntmps73
  go_upto_region 2 with (fail)
  clear hci
  go_loopw [7, 8] (fun s7 _ wr => ∃ k : Nat, i ≤ k ∧ k < n ∧ s7 = .int .i64 k ∧ Hid (prsT a b i j = prsT a b k j ∧ lcT a b i j = lcT a b k j) ∧ Hid (Below w.heap.size w wr)) (fun s7 _ _ => n - (intOf s7).toNat)
  case atStart => exact ⟨i, Nat.le_refl _, hib, rfl, ⟨rfl, rfl⟩, Below.refl _ _⟩
  case round =>
    obtain ⟨k, hik, hkn, rfl, HK, HB⟩ := hrel
    have hc1 := (HP.out _ HB.out).c1
    have hcj := (HP.out _ HB.out).cj
    rw [HN.out] at hc1
    go_upto_region 5 with (fail)
    clear hc1 hcj
    obtain ⟨x, hx⟩ : ∃ x, a[k]'(by rw [HN.out]; exact hkn) = x := ⟨_, rfl⟩
    have HX := Lib.hid hx
    clear hx
    go_loopw [8] (fun s8 wr => ∃ q : Nat, j ≤ q ∧ q ≤ m ∧ s8 = .int .i64 q ∧ Hid (∀ y (h1 : j ≤ y) (h2 : y < q) (h3 : y < b.length), ¬ (b[y] = x ∧ lcT a b (k + 1) (y + 1) + 1 = lcT a b k j)) ∧ Hid (Below w.heap.size w wr)) (fun s8 _ => m - (intOf s8).toNat)
    case atStart => exact ⟨j, Nat.le_refl _, hj, rfl, (fun y h1 h2 => by omega), HB⟩
    case round =>
      clear HB
      obtain ⟨q, hjq, hqm, rfl, HQ, HB⟩ := hrel
      have hc2 := (HP.out _ HB.out).c2
      rw [HM.out] at hc2
      have hdr : lcs (x :: a.drop (k + 1)) (b.drop j) = lcT a b k j := by
        unfold lcT
        rw [List.drop_eq_getElem_cons (l := a) (i := k) (by rw [HN.out]; exact hkn), HX.out]
      by_cases hlt : q < m
      · have hlt' : (q : Int) < m := by omega
        obtain ⟨y, hy⟩ : ∃ y, b[q]'(by rw [HM.out]; exact hlt) = y := ⟨_, rfl⟩
        have HQN := Lib.hid (fun (hno : ¬ (y = x ∧ lcT a b (k + 1) (q + 1) + 1 = lcT a b k j)) => show ∀ y' (h1 : j ≤ y') (h2 : y' < q + 1) (h3 : y' < b.length), ¬ (b[y'] = x ∧ lcT a b (k + 1) (y' + 1) + 1 = lcT a b k j) from fun y' h1 h2 h3 => by
          by_cases e : y' = q
          · subst e; rw [hy]; exact hno
          · exact HQ.out y' h1 (by omega) h3)
        have HTK := Lib.hid (fun (hyes : y = x ∧ lcT a b (k + 1) (q + 1) + 1 = lcT a b k j) => show tkn (a[k]'(by rw [HN.out]; exact hkn)) (a.drop (k + 1)) (b.drop j) = some (q - j) from by
          rw [HX.out]
          refine tkn_of (by rw [List.length_drop, HM.out]; omega) ?_ ?_ (fun j' hj' => ?_)
          · rw [List.getElem_drop]
            simp only [show j + (q - j) = q by omega]
            rw [hy]; exact hyes.1
          · rw [hdr, List.drop_drop, show j + (q - j + 1) = q + 1 by omega]
            exact hyes.2
          · rw [List.getElem_drop, hdr, List.drop_drop, show j + (j' + 1) = j + j' + 1 by omega]
            exact HQ.out (j + j') (by omega) (by omega) (by rw [HM.out]; omega))
        have HCL := Lib.hid (fun (W : World) (hb : Below w.heap.size w W) => show ∃ oa offa ob offb, A = some ⟨oa, offa, none⟩ ∧ B = some ⟨ob, offb, none⟩ ∧ W.cell? ⟨oa, offa + k, none⟩ = some (.string x) ∧ W.cell? ⟨ob, offb + q, none⟩ = some (.string y) from by
          obtain ⟨oa, offa, e1, _, e2⟩ := (HP.out W hb).sa.txt k (by rw [HN.out]; exact hkn)
          obtain ⟨ob, offb, e3, _, e4⟩ := (HP.out W hb).sb.txt q (by rw [HM.out]; exact hlt)
          rw [HX.out] at e2
          rw [hy] at e4
          exact ⟨oa, offa, ob, offb, e1, e3, e2, e4⟩)
        obtain ⟨oa, offa, ob, offb, eA, eB, _, _⟩ := HCL.out wr HB.out
        subst eA
        subst eB
        have HCX := Lib.hid (fun (W : World) (hb : Below w.heap.size w W) => show W.cell? ⟨oa, offa + k, none⟩ = some (.string x) ∧ W.cell? ⟨ob, offb + q, none⟩ = some (.string y) from by
          obtain ⟨_, _, _, _, e1, e2, e3, e4⟩ := HCL.out W hb
          cases e1
          cases e2
          exact ⟨e3, e4⟩)
        have HTT := Lib.hid (fun (W : World) (hb : Below w.heap.size w W) => show W.cell? ⟨o, k + 1, none⟩ = some (.slice (some ⟨g (k + 1), 0, none⟩) (m + 1) (m + 1)) ∧ W.cell? ⟨o, i, none⟩ = some (.slice (some ⟨g i, 0, none⟩) (m + 1) (m + 1)) ∧ W.cell? ⟨g (k + 1), q + 1, none⟩ = some (.int .i64 (lcT a b (k + 1) (q + 1) : Nat)) ∧ W.cell? ⟨g i, j, none⟩ = some (.int .i64 (lcT a b i j : Nat)) from by
          have ht := (HP.out W hb).tab
          rw [HN.out, HM.out] at ht
          obtain ⟨q1, _⟩ := ht.cellO (i := k + 1) (by omega)
          obtain ⟨q2, _⟩ := ht.cellO (i := i) (by omega)
          rw [if_pos (by omega)] at q1 q2
          exact ⟨q1, q2, (ht.cellR (by omega) (by omega)).1, (ht.cellR (by omega) (by omega)).1⟩)
        have HBX := Lib.hid (fun (W : World) (hb : Below w.heap.size w W) => show W.cell? ⟨X1, 0, none⟩ = some (.slice (some ⟨oa, offa, none⟩) n ca) ∧ W.cell? ⟨X2, 0, none⟩ = some (.slice (some ⟨ob, offb, none⟩) m cb) ∧ W.cell? ⟨TB, 0, none⟩ = some (.slice (some ⟨o, 0, none⟩) (n + 1) (n + 1)) ∧ W.cell? ⟨I, 0, none⟩ = some (.int .i64 i) ∧ W.cell? ⟨J, 0, none⟩ = some (.int .i64 j) from by
          have h := HP.out W hb
          have z1 := h.c1
          have z2 := h.c2
          have z3 := h.ct
          rw [HN.out] at z1 z3
          rw [HM.out] at z2
          exact ⟨z1, z2, z3, h.ci, h.cj⟩)
        have hl1 : lcT a b (k + 1) (q + 1) ≤ 3001 := by have := lcT_le a b (k + 1) (q + 1); rw [HN.out] at this; omega
        have HKE := Lib.hid HK.out.2
        obtain ⟨d1, hd1⟩ : ∃ d, lcT a b (k + 1) (q + 1) = d := ⟨_, rfl⟩
        obtain ⟨d0, hd0⟩ : ∃ d, lcT a b i j = d := ⟨_, rfl⟩
        have hd0' : lcT a b k j = d0 := by rw [← hd0]; exact HKE.out.symm
        rw [hd1] at HTT HTK HQN hl1
        rw [hd0] at HTT
        rw [hd0'] at HTK HQN
        have HD0 := Lib.hid hd0'
        have HRB := Lib.hid (fun (d : Nat) (os : Array Obj) => show Below w.heap.size w (Sort.grow (redrawn wr d) os) from HB.out.trans ((below_regrown wr d os).mono HB.out.size))
        have hc2' := (HBX.out wr HB.out).2.1
        go_upto_region 7 with (fail)
        clear hd1 hd0 hd0' hdr hc2 hc2' HQ
        have s0 := fun d os => (HBX.out _ (HRB.out d os)).1
        have s1 := fun d os => (HBX.out _ (HRB.out d os)).2.1
        have s2 := fun d os => (HBX.out _ (HRB.out d os)).2.2.1
        have s3 := fun d os => (HBX.out _ (HRB.out d os)).2.2.2.1
        have s4 := fun d os => (HBX.out _ (HRB.out d os)).2.2.2.2
        have s5 := fun d os => (HCX.out _ (HRB.out d os)).1
        have s6 := fun d os => (HCX.out _ (HRB.out d os)).2
        have s7 := fun d os => (HTT.out _ (HRB.out d os)).1
        have s8 := fun d os => (HTT.out _ (HRB.out d os)).2.1
        have s9 := fun d os => (HTT.out _ (HRB.out d os)).2.2.1
        have s10 := fun d os => (HTT.out _ (HRB.out d os)).2.2.2
        by_cases hxy : y = x
        · subst hxy
          have hw1 : IntKind.i64.wrap ((d1 : Int) + 1) = (d1 : Int) + 1 := by simp [IntKind.wrap, IntKind.bits, IntKind.signed]; omega
          by_cases hd : d1 + 1 = d0
          · have HTK2 := Lib.hid (HTK.out ⟨rfl, hd⟩)
            have hde : ((d1 : Int) + 1 == (d0 : Int)) = true := by rw [beq_iff_eq]; omega
            clear hd HTK HQN
            refine wp_region_quiet_below (by kernel_rfl) (by kernel_rfl) ?_
            repeat (first | go_big_quiet_step ((fail)) | quiet_step ((fail)))
            refine wpQuiet_nil ?_
            intro wy hwy
            have hby := below_of_regrown hwy
            clear hwy
            have HBy := Lib.hid (HB.out.trans (hby.mono HB.out.size))
            clear s0 s1 s2 s3 s4 s5 s6 s7 s8 s9 s10 hby
            go_wp2
            go_ret2
            exact HFIN.out k q _ HBy.out hik hkn hjq hlt HK.out HTK2.out
          · have HQ2 := Lib.hid (HQN.out (fun h => hd h.2))
            have hde : ((d1 : Int) + 1 == (d0 : Int)) = false := by rw [beq_eq_false_iff_ne]; omega
            clear hd HTK HQN
            refine wp_region_quiet_below (by kernel_rfl) (by kernel_rfl) ?_
            repeat (first | go_big_quiet_step ((fail)) | quiet_step ((fail)))
            refine wpQuiet_nil ?_
            intro wy hwy
            have hby := below_of_regrown hwy
            clear hwy
            have HBy := Lib.hid (HB.out.trans (hby.mono HB.out.size))
            clear s0 s1 s2 s3 s4 s5 s6 s7 s8 s9 s10 hby
            go_wp2
            go_roundw
            case rel => exact ⟨q + 1, by omega, by omega, intNum, Lib.hid (by rw [HD0.out]; exact HQ2.out), HBy⟩
            case measure => simp [intOf]; omega
        · have hbe : (x.toList == y.toList) = false := by rw [beqS]; simpa using (fun e => hxy e.symm)
          have HQ2 := Lib.hid (HQN.out (fun h => hxy h.1))
          clear hxy HTK HQN
          refine wp_region_quiet_below (by kernel_rfl) (by kernel_rfl) ?_
          repeat (first | go_big_quiet_step ((fail)) | quiet_step ((fail)))
          refine wpQuiet_nil ?_
          intro wy hwy
          have hby := below_of_regrown hwy
          clear hwy
          have HBy := Lib.hid (HB.out.trans (hby.mono HB.out.size))
          clear s0 s1 s2 s3 s4 s5 s6 s7 s8 s9 s10 hby
          go_wp2
          go_roundw
          case rel => exact ⟨q + 1, by omega, by omega, intNum, Lib.hid (by rw [HD0.out]; exact HQ2.out), HBy⟩
          case measure => simp [intOf]; omega
      · have hqm' : q = m := by omega
        subst hqm'
        have hno : tkn x (a.drop (k + 1)) (b.drop j) = none := tkn_none (fun j' hj' => by
          rw [List.length_drop, HM.out] at hj'
          rw [List.getElem_drop, hdr, List.drop_drop, show j + (j' + 1) = j + j' + 1 by omega]
          exact HQ.out (j + j') (by omega) (by omega) (by rw [HM.out]; omega))
        obtain ⟨n1, n2⟩ := prsT_no (a := a) (b := b) (i := k) (j := j) (by rw [HN.out]; exact hkn) (by rw [HX.out]; exact hno)
        have HK2 := Lib.hid (show prsT a b i j = prsT a b (k + 1) j ∧ lcT a b i j = lcT a b (k + 1) j from ⟨HK.out.1.trans n1, HK.out.2.trans n2⟩)
        have hk1 : k + 1 < n := by
          have := lcT_le a b (k + 1) j
          have h2 := HL.out
          rw [HK2.out.2] at h2
          rw [HN.out] at this
          omega
        clear hno n1 n2 hdr
        go_wp2
        go_roundw
        case rel => exact ⟨k + 1, by omega, hk1, intNum, HK2, HB⟩
        case measure => simp [intOf]; omega
end Go.Proofs.YtlmfpaincgkpeaaGreatDoor

/- R.PairsOf, walked. -/
namespace Go.Proofs.YtlmfpaincgkpeaaGreatDoor
set_option linter.unusedVariables false
open Go.RowKit Go.Sort

theorem boxes2 (w : World) (v1 v2 : Value) (T : TypeId) : ((w.alloc (.cells #[v1] T)).alloc (.cells #[v2] T)).cell? ⟨w.heap.size, 0, none⟩ = some v1 ∧ ((w.alloc (.cells #[v1] T)).alloc (.cells #[v2] T)).cell? ⟨w.heap.size + 1, 0, none⟩ = some v2 := by
  constructor
  · have y := (str_cells ((Below.heap_alloc (w.alloc (.cells #[v1] T)) (.cells #[v2] T) w.heap.size (by simp)).trans (heap_alloc_new w (.cells #[v1] T)))).1
    exact y 0
  · have z := (str_cells (heap_alloc_new (w.alloc (.cells #[v1] T)) (.cells #[v2] T))).1
    rw [show (w.alloc (.cells #[v1] T)).heap.size = w.heap.size + 1 by simp] at z
    exact z 0
theorem po_cells {W5 W : World} {out : List (Nat × Nat)} {v : Value} {I0 J0 : Nat} {u1 u2 : Value} {T : TypeId} (h : BO prR T W5 out v [(J0, #[u2], 3), (I0, #[u1], 3)] W) : W.cell? ⟨I0, 0, none⟩ = some u1 ∧ W.cell? ⟨J0, 0, none⟩ = some u2 ∧ W.frozen? ⟨I0, 0, none⟩ = false ∧ W.frozen? ⟨J0, 0, none⟩ = false :=
  have a := h.cell (p := (I0, #[u1], 3)) (by simp)
  have b := h.cell (p := (J0, #[u2], 3)) (by simp)
  ⟨a.1 0, b.1 0, a.2 0, b.2 0⟩
def vlen : Value → Nat
  | .slice _ n _ => n
  | _ => 0
set_option maxRecDepth 100000 in
set_option maxHeartbeats 8000000 in
/-- Where the first list is not the greater one. -/
theorem PairsOf1_c {F G : Nat → Prop} (a b : List ByteArray) (va vb : Value) (w : World) (ha : Sli strR w F a va) (hb : Sli strR w G b vb) (hF : ∀ q, F q → q < w.heap.size) (hG : ∀ q, G q → q < w.heap.size) (hn3 : a.length ≤ 3000) (hm3 : b.length ≤ 3000) (hc : cmpL strC a b ≤ 0) :
    Calls Tryz.prog 28 #[va, vb] w (PairP (prsT a b 0 0) w) := by
  obtain ⟨i2, hi2, hz2, hz21, hz22⟩ := info_parts (show (Tryz.prog.info? 59).map (fun i => (i.zero, i.size, i.bytes)) = some (some (.agg #[.int .i64 0, .int .i64 0]), 2, 16) by kernel_rfl)
  obtain ⟨A, ca, rfl, hlca, hca⟩ := ha.form
  obtain ⟨B, cb, rfl, hlcb, hcb⟩ := hb.form
  have HB2 := Lib.hid (((Below.refl w.heap.size w).alloc (Nat.le_refl _) (.cells #[.slice A a.length ca] 42)).alloc (by simp) (.cells #[.slice B b.length cb] 42))
  have HBX := Lib.hid (boxes2 w (.slice A a.length ca) (.slice B b.length cb) 42)
  have hzs : ((w.alloc (.cells #[.slice A a.length ca] 42)).alloc (.cells #[.slice B b.length cb] 42)).heap.size = w.heap.size + 2 := by simp
  have HZS := Lib.hid hzs
  clear hzs
  go_enter Tryz.func28, Tryz.ntmps28
  go_upto_region 1 with (fail)
  generalize (w.alloc (.cells #[.slice A a.length ca] 42)).alloc (.cells #[.slice B b.length cb] 42) = w2 at *
  have SA := Lib.hid ((ha.below HB2.out hF).more (G := fun q => q < w.heap.size) hF)
  have SB := Lib.hid ((hb.below HB2.out hG).more (G := fun q => q < w.heap.size) hG)
  have HCM := cmpSl_c a b _ _ w2 SA.out SB.out
  obtain ⟨z, hz⟩ : ∃ z, cmpL strC a b = z := ⟨_, rfl⟩
  rw [hz] at HCM hc
  have HCM := Lib.hid HCM
  have HLG := longest_c a b _ _ w2 SA.out SB.out (fun q hq => by rw [HZS.out]; omega) (fun q hq => by rw [HZS.out]; omega) (by omega) (by omega)
  unfold LgP at HLG
  have HLG := Lib.hid HLG
  obtain ⟨x1, x2⟩ := HBX.out
  have hc' : ¬ (0 : Int) < z := by omega
  clear ha hb hF hG hz hc
  go_wp2_with fail
  refine HCM.out.mono ?_
  rintro e w3 ⟨rfl, rfl⟩
  clear HCM
  go_wp2_with fail
  refine HLG.out.mono ?_
  rintro e w4 ⟨o, g, rfl, htab⟩
  have HT4 := Lib.hid htab
  clear htab HLG x1 x2
  have HB4 := Lib.hid (HB2.out.trans (HT4.out.bel.mono HB2.out.size))
  have H34 := Lib.hid HT4.out.bel
  have hz34 := HT4.out.bel.size
  have hz3 := HZS.out
  have HQ4 := Lib.hid (show w4.cell? ⟨w.heap.size, 0, none⟩ = some (.slice A a.length ca) ∧ w4.cell? ⟨w.heap.size + 1, 0, none⟩ = some (.slice B b.length cb) from
    ⟨(H34.out.cell (p := ⟨w.heap.size, 0, none⟩) (by dsimp only; omega)).trans HBX.out.1, (H34.out.cell (p := ⟨w.heap.size + 1, 0, none⟩) (by dsimp only; omega)).trans HBX.out.2⟩)
  have hm1 : ∀ W : World, Below (w4.heap.size + 1) (w4.alloc (.cells #[.slice (some ⟨o, 0, none⟩) (a.length + 1) (a.length + 1)] 116)) W → Below w4.heap.size w4 W := fun W hb => ((Below.refl _ w4).alloc (Nat.le_refl _) _).trans (hb.mono (by simp))
  have HPB := Lib.hid (fun (W : World) (i j : Nat) (hb : Below (w4.heap.size + 1) (w4.alloc (.cells #[.slice (some ⟨o, 0, none⟩) (a.length + 1) (a.length + 1)] 116)) W) (hi : W.cell? ⟨w4.heap.size + 1, 0, none⟩ = some (.int .i64 i)) (hj : W.cell? ⟨w4.heap.size + 1 + 1, 0, none⟩ = some (.int .i64 j)) (hz : w4.heap.size + 1 + 1 < W.heap.size) =>
    show PoB w3 a b A B ca cb o g (w4.heap.size + 1) w.heap.size (w4.heap.size + 1 + 1) (w.heap.size + 1) w4.heap.size i j W from
    ⟨hi, hj, ((hm1 W hb).cell (p := ⟨w.heap.size, 0, none⟩) (by dsimp only; omega)).trans HQ4.out.1, ((hm1 W hb).cell (p := ⟨w.heap.size + 1, 0, none⟩) (by dsimp only; omega)).trans HQ4.out.2,
      (hb.cell (p := ⟨w4.heap.size, 0, none⟩) (by dsimp only; omega)).trans ((str_cells (heap_alloc_new w4 _)).1 0), HT4.out.below (hm1 W hb),
      ((SA.out.below H34.out (fun q hq => by omega)).below (hm1 W hb) (fun q hq => by omega)).more (fun q hq => by omega), ((SB.out.below H34.out (fun q hq => by omega)).below (hm1 W hb) (fun q hq => by omega)).more (fun q hq => by omega), ⟨by omega, by omega, by omega, by omega, by omega⟩⟩)
  have hs5 : (w4.alloc (.cells #[.slice (some ⟨o, 0, none⟩) (a.length + 1) (a.length + 1)] 116)).heap.size = w4.heap.size + 1 := by simp
  have HB5 := Lib.hid (HB4.out.alloc HB4.out.size (.cells #[.slice (some ⟨o, 0, none⟩) (a.length + 1) (a.length + 1)] 116))
  have hG := ((BO.start (R := prR) (e := 59) (w4.alloc (.cells #[.slice (some ⟨o, 0, none⟩) (a.length + 1) (a.length + 1)] 116))).new #[.int .i64 0] 3).new #[.int .i64 0] 3
  rw [show ((w4.alloc (.cells #[.slice (some ⟨o, 0, none⟩) (a.length + 1) (a.length + 1)] 116)).alloc (.cells #[.int .i64 0] 3)).heap.size = w4.heap.size + 1 + 1 by simp, hs5] at hG
  have G0 := Lib.hid hG
  have HS5 := Lib.hid hs5
  clear hG hs5 hm1 HQ4 SA SB HT4 HBX
  have hz45 : w3.heap.size ≤ w4.heap.size := hz34
  go_upto_region 12 with (fail)
  generalize w4.alloc (.cells #[.slice (some ⟨o, 0, none⟩) (a.length + 1) (a.length + 1)] 116) = W5 at *
  obtain ⟨Z, hZ⟩ : ∃ Z, w4.heap.size = Z := ⟨_, rfl⟩
  have hZ2 : w.heap.size + 2 ≤ Z := by omega
  have HZW := Lib.hid (show W5.heap.size = Z + 1 by rw [HS5.out, hZ])
  rw [hZ] at G0 HPB ⊢
  generalize ((W5.alloc (.cells #[.int .i64 0] 3)).alloc (.cells #[.int .i64 0] 3)) = W6 at *
  clear HS5 hZ hz34 hz45 H34 HB4
  obtain ⟨I0, hI0⟩ : ∃ I0, Z + 1 = I0 := ⟨_, rfl⟩
  rw [hI0] at G0 HPB HZW ⊢
  obtain ⟨J0, hJ0⟩ : ∃ J0, I0 + 1 = J0 := ⟨_, rfl⟩
  rw [hJ0] at G0 HPB ⊢
  have hne1 : I0 ≠ J0 := by omega
  have hne2 : J0 ≠ I0 := by omega
  have HIJ := Lib.hid (And.intro hI0 hJ0)
  clear hI0 hJ0
  go_loopw [9] (fun s9 wr => ∃ (i j : Nat) (out : List (Nat × Nat)), i ≤ a.length ∧ j ≤ b.length ∧ Hid (out ++ prsT a b i j = prsT a b 0 0) ∧ Hid (BO prR 59 W5 out s9 [(J0, #[.int .i64 j], 3), (I0, #[.int .i64 i], 3)] wr)) (fun s9 _ => 3001 - vlen s9)
  case atStart => exact ⟨0, 0, [], Nat.zero_le _, Nat.zero_le _, List.nil_append _, G0⟩
  case round =>
    clear G0
    obtain ⟨i, j, out, hi, hj, HO, HG⟩ := hrel
    have hol : out.length ≤ 3000 := by
      have h1 := congrArg List.length HO.out
      have h2 : (prsT a b 0 0).length ≤ 3000 := by
        have h3 := lcT_le a b 0 0
        have h4 : (prsT a b 0 0).length = lcT a b 0 0 := prs_len
        omega
      rw [List.length_append] at h1
      omega
    have hvf : ∃ A' c', u9 = .slice A' out.length c' := by
      obtain ⟨A', c', he, h1, h2⟩ := (HG.out.own.sli (F := fun _ => True) (fun _ _ _ => trivial) (fun _ _ => trivial)).form
      exact ⟨A', c', he⟩
    obtain ⟨A9, c9, rfl⟩ := hvf
    have HPO := Lib.hid (fun (W : World) (l2 : List (Nat × Nat)) (v2 : Value) (h : BO prR 59 W5 l2 v2 [(J0, #[.int .i64 j], 3), (I0, #[.int .i64 i], 3)] W) => HPB.out W i j (by rw [← HZW.out]; exact h.bel) ((h.cell (p := (I0, #[.int .i64 i], 3)) (by simp)).1 0) ((h.cell (p := (J0, #[.int .i64 j], 3)) (by simp)).1 0) (h.plt (p := (J0, #[.int .i64 j], 3)) (by simp)))
    have hp := HPO.out _ _ _ HG.out
    have k1 := hp.ci
    have k2 := hp.cj
    have k3 := hp.ct
    obtain ⟨k4, _⟩ := hp.tab.cellO (i := i) hi
    rw [if_pos (by omega)] at k4
    obtain ⟨k5, _⟩ := hp.tab.cellR (r := i) (c := j) (by omega) hj
    obtain ⟨d, hd⟩ : ∃ d, lcT a b i j = d := ⟨_, rfl⟩
    have HD := Lib.hid hd
    rw [hd] at k5
    clear hp hd
    go_upto_region 12 with (fail)
    go_region
    clear k1 k2 k3 k4 k5
    have G1 := Lib.hid HG.out.drew
    clear HG
    obtain ⟨W7, hW7⟩ : ∃ W7, wr.drew = W7 := ⟨_, rfl⟩
    rw [hW7] at G1 ⊢
    clear hW7
    by_cases h0 : d = 0
    · have HV := Lib.hid (show out = prsT a b 0 0 by rw [← HO.out, prsT_zero (by rw [HD.out]; exact h0), List.append_nil])
      subst h0
      go_wp2
      go_ret
      exact ⟨_, rfl, by rw [← HV.out]; exact Own.less (enc := prC) (hn := fun _ => rfl) G1.out.own HB5.out.size, HB5.out.trans (G1.out.bel.mono HB5.out.size)⟩
    · have hd0 : (0 : Int) < d := by omega
      have HNX := next_po w3 a b A B ca cb o g (I0) w.heap.size (J0) (w.heap.size + 1) Z i j W7 (HPO.out _ _ _ G1.out) (by rw [HD.out]; omega) hj (by omega) (by omega)
      unfold NxP at HNX
      have HNX := Lib.hid HNX
      clear h0
      go_wp2_with fail
      refine HNX.out.mono ?_
      rintro e w8 ⟨x, y, rfl, hb8, h1, h2, h3, h4, h5, h6⟩
      have G8 := Lib.hid (G1.out.below hb8)
      have HO2 := Lib.hid (show (out ++ [(x, y)]) ++ prsT a b (x + 1) (y + 1) = prsT a b 0 0 by rw [List.append_assoc, List.singleton_append, ← h5]; exact HO.out)
      have hol2 : out.length + 1 ≤ 3000 := by
        have q1 := congrArg List.length HO2.out
        have q2 : (prsT a b 0 0).length ≤ 3000 := by
          have q3 := lcT_le a b 0 0
          have q4 : (prsT a b 0 0).length = lcT a b 0 0 := prs_len
          omega
        rw [List.length_append, List.length_append] at q1
        simp at q1
        omega
      clear hb8 G1 HNX h5 h6 HO HPO
      have hz8 := G8.out.size
      have hzw := HZW.out
      go_wp2_with (at_builtin; (refine wpList_pushB (R := prR) rfl _ _ _ rfl W5.heap.size W5.heap.size 59 i2 _ 16 Tryz.underlying52 hi2 hz2 (by assumption) (by assumption) rfl (by decide) _ (.slice A9 out.length c9) out rfl (G8.out.own.alloc _) (x, y) (prC (x, y)) rfl (by intro u hu; simp [prC] at hu; rcases hu with rfl | rfl <;> rfl) w8.heap.size _ _ (heap_alloc_new w8 _) rfl (by simp [maxLen]; omega) (by omega) (by simp; omega) ?_); intro g9 cap9 w9 hown9 hg9 hat9 hlt9; have G9 := Lib.hid ((G8.out.alloc (.cells (prC (x, y)).toArray 59)).more hown9 hg9 rfl hat9); obtain ⟨q1, q2, f1, f2⟩ := po_cells G9.out)
      clear hown9 hg9 hat9 G8 hlt9 q1 q2 f1 f2
      have hGA := ((G9.out.less (Q := [(I0, #[.int .i64 i], 3), (J0, #[.int .i64 j], 3)]) (by simp)).set (i := 0) (fun h => h) (.int .i64 ((x : Int) + 1)) (by simpa using hne2))
      have hGB := (hGA.less (Q := [(J0, #[.int .i64 j], 3), (I0, #[.int .i64 ((x : Int) + 1)], 3)]) (by simp)).set (i := 0) (fun h => h) (.int .i64 ((y : Int) + 1)) (by simpa using hne1)
      have GB := Lib.hid hGB
      clear hGA hGB G9
      go_roundw
      case rel => exact ⟨x + 1, y + 1, out ++ [(x, y)], by omega, by omega, HO2, GB⟩
      case measure => show 3001 - (out.length + 1) < 3001 - out.length; omega
set_option maxRecDepth 100000 in
set_option maxHeartbeats 8000000 in
theorem PairsOf_c {F G : Nat → Prop} (a b : List ByteArray) (va vb : Value) (w : World) (ha : Sli strR w F a va) (hb : Sli strR w G b vb) (hF : ∀ q, F q → q < w.heap.size) (hG : ∀ q, G q → q < w.heap.size) (hn3 : a.length ≤ 3000) (hm3 : b.length ≤ 3000) :
    Calls Tryz.prog 28 #[va, vb] w (PairP (prX a b) w) := by
  by_cases hc : cmpL strC a b ≤ 0
  · unfold prX
    rw [if_pos hc]
    exact PairsOf1_c a b va vb w ha hb hF hG hn3 hm3 hc
  have HX := Lib.hid (show prX a b = (prsT b a 0 0).map swp by unfold prX; rw [if_neg hc])
  have hl3 : (prsT b a 0 0).length ≤ 3000 := by rw [prsT_len]; have := lcT_le b a 0 0; omega
  obtain ⟨A, ca, rfl, hlca, hca⟩ := ha.form
  obtain ⟨B, cb, rfl, hlcb, hcb⟩ := hb.form
  have HB2 := Lib.hid (((Below.refl w.heap.size w).alloc (Nat.le_refl _) (.cells #[.slice A a.length ca] 42)).alloc (by simp) (.cells #[.slice B b.length cb] 42))
  have HBX := Lib.hid (boxes2 w (.slice A a.length ca) (.slice B b.length cb) 42)
  have hzs : ((w.alloc (.cells #[.slice A a.length ca] 42)).alloc (.cells #[.slice B b.length cb] 42)).heap.size = w.heap.size + 2 := by simp
  have HZS := Lib.hid hzs
  clear hzs
  go_enter Tryz.func28, Tryz.ntmps28
  go_upto_region 1 with (fail)
  generalize (w.alloc (.cells #[.slice A a.length ca] 42)).alloc (.cells #[.slice B b.length cb] 42) = w5 at *
  have SA := Lib.hid ((ha.below HB2.out hF).more (G := fun q => q < w.heap.size) hF)
  have SB := Lib.hid ((hb.below HB2.out hG).more (G := fun q => q < w.heap.size) hG)
  have HCM := cmpSl_c a b _ _ w5 SA.out SB.out
  have hanti := cmpL_anti strC_anti a b
  have HRC := PairsOf1_c b a _ _ w5 SB.out SA.out (fun q hq => by rw [HZS.out]; omega) (fun q hq => by rw [HZS.out]; omega) hm3 hn3 (by rw [hanti]; omega)
  unfold PairP at HRC
  obtain ⟨z, hz⟩ : ∃ z, cmpL strC a b = z := ⟨_, rfl⟩
  rw [hz] at HCM hc
  have HCM := Lib.hid HCM
  have HRC := Lib.hid HRC
  obtain ⟨x1, x2⟩ := HBX.out
  have hc' : (0 : Int) < z := by omega
  generalize prsT b a 0 0 = l2 at *
  clear ha hb hF hG hz hc hanti
  go_wp2_with fail
  refine HCM.out.mono ?_
  rintro e w3 ⟨rfl, rfl⟩
  clear HCM
  go_wp2_with fail
  refine HRC.out.mono ?_
  rintro e w2 ⟨v, rfl, hown, hb2⟩
  have G2 := Lib.hid (show BO prR 59 w3 l2 v [] w2 from ⟨hb2, hown, fun p hp => by cases hp⟩)
  clear hown hb2 HRC x1 x2 HBX SA SB
  obtain ⟨L, hL⟩ : ∃ L, l2.length = L := ⟨_, rfl⟩
  have HL := Lib.hid hL
  rw [hL] at hl3
  have hvf : ∃ A c, v = .slice A L c := by
    obtain ⟨A', c', he, h1, h2⟩ := (G2.out.own.sli (F := fun _ => True) (fun _ _ _ => trivial) (fun _ _ => trivial)).form
    rw [hL] at he
    exact ⟨A', c', he⟩
  obtain ⟨A, c, rfl⟩ := hvf
  clear hL
  go_wp2
  go_loopw [24] (fun i wr => ∃ k : Nat, k ≤ L ∧ i = .int .i64 k ∧ Hid (BO prR 59 w3 ((l2.take k).map swp ++ l2.drop k) (.slice A L c) [] wr)) (fun i _ => L - (intOf i).toNat)
  case atStart => exact ⟨0, Nat.zero_le _, rfl, Lib.hid (by rw [List.take_zero, List.map_nil, List.nil_append, List.drop_zero]; exact G2.out)⟩
  case round =>
    clear G2
    obtain ⟨k, hk, rfl, HG⟩ := hrel
    by_cases hlt : k < L
    · obtain ⟨g, cap, he, hgb, hgw⟩ := Own.some_ (enc := prC) (hn := fun _ => rfl) HG.out.own (by have := HL.out; simp; omega)
      have hll : ((l2.take k).map swp ++ l2.drop k).length = L := by have := HL.out; simp; omega
      rw [hll] at he
      cases he
      obtain ⟨p, hp⟩ : ∃ p, l2[k]'(by rw [HL.out]; exact hlt) = p := ⟨_, rfl⟩
      have hel : ((l2.take k).map swp ++ l2.drop k)[k]'(by rw [hll]; exact hlt) = p := by
        rw [List.getElem_append_right (by simp; rw [HL.out]; omega)]
        simp [hp, HL.out, Nat.min_eq_left (Nat.le_of_lt hlt)]
      obtain ⟨c0', f0⟩ := Own.cellAt (enc := prC) (hn := fun _ => rfl) HG.out.own k (by rw [hll]; exact hlt) 0 (by decide)
      obtain ⟨c1', f1⟩ := Own.cellAt (enc := prC) (hn := fun _ => rfl) HG.out.own k (by rw [hll]; exact hlt) 1 (by decide)
      rw [hel] at c0' c1'
      have c0 : wr.cell? ⟨g, k * 2, none⟩ = some (.int .i64 p.1) := c0'
      have c1 : wr.cell? ⟨g, k * 2 + 1, none⟩ = some (.int .i64 p.2) := c1'
      have f0 : wr.frozen? ⟨g, k * 2, none⟩ = false := f0
      have hkl : k < ((l2.take k).map swp ++ l2.drop k).length := by rw [hll]; exact hlt
      have G3 := Lib.hid (show BO prR 59 w3 ((l2.take (k + 1)).map swp ++ l2.drop (k + 1)) (.slice (some ⟨g, 0, none⟩) L c) [] (((wr.setCell ⟨g, k * 2, none⟩ (.int .i64 p.2)).setCell ⟨g, k * 2 + 1, none⟩ (.int .i64 p.1)).alloc (.cells #[.int .i64 p.1, .int .i64 p.2] 59)) from by
        have h1 := HG.out.modify (n := 2) (enc := prC) (hn := fun _ => rfl) (fun x => (p.2, x.2)) k 0 (.int .i64 p.2) (fun _ => rfl) (by decide) hkl
        have h2 := h1.modify (n := 2) (enc := prC) (hn := fun _ => rfl) (fun x => (x.1, p.1)) k 1 (.int .i64 p.1) (fun _ => rfl) (by decide) (by rw [List.length_modify]; exact hkl)
        rw [swp_step (by rw [HL.out]; exact hlt) hp] at h2
        exact h2.alloc _)
      clear c0' c1' hel hp HG hkl hll
      go_upto_region 7 with (fail)
      clear c0 c1 f0 f1
      go_wp2
      go_roundw
      case rel => exact ⟨k + 1, by omega, intNum, G3⟩
      case measure => simp [intOf]; omega
    · have HF := Lib.hid HG.out
      rw [List.take_of_length_le (by rw [HL.out]; omega), List.drop_of_length_le (by rw [HL.out]; omega), List.append_nil] at HF
      go_wp2
      go_ret
      exact ⟨_, rfl, by rw [HX.out]; exact Own.less (enc := prC) (hn := fun _ => rfl) HF.out.own HB2.out.size, HB2.out.trans (HF.out.bel.mono HB2.out.size)⟩
end Go.Proofs.YtlmfpaincgkpeaaGreatDoor

/- R.SameEdits for edits that are the same, walked. -/
namespace Go.Proofs.YtlmfpaincgkpeaaGreatDoor
set_option linter.unusedVariables false
open Go.RowKit Go.Sort

structure EdW (w : World) (F : Nat → Prop) (l : List (Edt × Value)) (v : Value) : Prop where
  sli : Sli edR w F l v
  ln : ∀ y ∈ l, Sli strR w F y.1.add y.2
  lt : ∀ q, F q → q < w.heap.size
theorem EdW.below {w w' : World} {F : Nat → Prop} {l : List (Edt × Value)} {v : Value} (h : EdW w F l v) (hb : Below w.heap.size w w') : EdW w' F l v :=
  ⟨h.sli.below hb h.lt, fun y hy => (h.ln y hy).below hb h.lt, fun q hq => Nat.lt_of_lt_of_le (h.lt q hq) hb.size⟩
theorem edAt {w : World} {F : Nat → Prop} {l : List (Edt × Value)} {A : Option Addr} {n c : Nat} (h : Sli edR w F l (.slice A n c)) (k : Nat) (hk : k < l.length) : ∃ b off, A = some ⟨b, off, none⟩ ∧ F b ∧ w.cell? ⟨b, off + k * 3, none⟩ = some (.int .i64 l[k].1.at_) ∧ w.cell? ⟨b, off + k * 3 + 1, none⟩ = some (.int .i64 l[k].1.drop) ∧ w.cell? ⟨b, off + k * 3 + 2, none⟩ = some l[k].2 := by
  obtain ⟨b, off, a, e, hb, hr, hc⟩ := h.at_ k hk
  have ha : a = [.int .i64 l[k].1.at_, .int .i64 l[k].1.drop, l[k].2] := hr
  subst ha
  exact ⟨b, off, e, hb, hc 0 _ rfl, hc 1 _ rfl, hc 2 _ rfl⟩
set_option maxRecDepth 100000 in
set_option maxHeartbeats 1600000 in
theorem sameEd_c {F : Nat → Prop} (x : Edt) (v1 v2 : Value) (w : World) (h1 : Sli strR w F x.add v1) (h2 : Sli strR w F x.add v2) (hF : ∀ b, F b → b < w.heap.size) :
    Calls Tryz.prog 75 #[.agg #[.int .i64 x.at_, .int .i64 x.drop, v1], .agg #[.int .i64 x.at_, .int .i64 x.drop, v2]] w fun e w' => e = .returned (.bool true) ∧ Below w.heap.size w w' := by
  obtain ⟨A1, c1, rfl, hlc1, hc1⟩ := h1.form
  obtain ⟨A2, c2, rfl, hlc2, hc2⟩ := h2.form
  have H1 := Lib.hid h1; clear h1
  have H2 := Lib.hid h2; clear h2
  have HF := Lib.hid hF; clear hF
  obtain ⟨n, hn1⟩ : ∃ n, x.add.length = n := ⟨_, rfl⟩
  rw [hn1] at H1 H2 ⊢
  clear hn1 hlc1 hlc2
  have HB := Lib.hid (((Below.refl w.heap.size w).alloc (Nat.le_refl _) (.cells #[.int .i64 x.at_, .int .i64 x.drop, .slice A1 n c1] 114)).alloc (by simp) (.cells #[.int .i64 x.at_, .int .i64 x.drop, .slice A2 n c2] 114))
  have y := (str_cells ((Below.heap_alloc (w.alloc (.cells #[.int .i64 x.at_, .int .i64 x.drop, .slice A1 n c1] 114)) (.cells #[.int .i64 x.at_, .int .i64 x.drop, .slice A2 n c2] 114) w.heap.size (by simp)).trans (heap_alloc_new w (.cells #[.int .i64 x.at_, .int .i64 x.drop, .slice A1 n c1] 114)))).1
  have z := (str_cells (heap_alloc_new (w.alloc (.cells #[.int .i64 x.at_, .int .i64 x.drop, .slice A1 n c1] 114)) (.cells #[.int .i64 x.at_, .int .i64 x.drop, .slice A2 n c2] 114))).1
  rw [show (w.alloc (.cells #[.int .i64 x.at_, .int .i64 x.drop, .slice A1 n c1] 114)).heap.size = w.heap.size + 1 by simp] at z
  have HY := Lib.hid y
  have HZ := Lib.hid z
  clear y z
  go_enter Tryz.func75, Tryz.ntmps75
  go_upto_region 1 with (fail)
  generalize (w.alloc (.cells #[.int .i64 x.at_, .int .i64 x.drop, .slice A1 n c1] 114)).alloc (.cells #[.int .i64 x.at_, .int .i64 x.drop, .slice A2 n c2] 114) = w1 at *
  have y0 : w1.cell? ⟨w.heap.size, 0, none⟩ = some (.int .i64 x.at_) := HY.out 0
  have y1 : w1.cell? ⟨w.heap.size, 1, none⟩ = some (.int .i64 x.drop) := HY.out 1
  have y2 : w1.cell? ⟨w.heap.size, 2, none⟩ = some (.slice A1 n c1) := HY.out 2
  have z0 : w1.cell? ⟨w.heap.size + 1, 0, none⟩ = some (.int .i64 x.at_) := HZ.out 0
  have z1 : w1.cell? ⟨w.heap.size + 1, 1, none⟩ = some (.int .i64 x.drop) := HZ.out 1
  have z2 : w1.cell? ⟨w.heap.size + 1, 2, none⟩ = some (.slice A2 n c2) := HZ.out 2
  have HEQ := eqStr_c x.add x.add (.slice A1 n c1) (.slice A2 n c2) (fun q => q < w1.heap.size) w1 ((H1.out.below HB.out HF.out).more fun q hq => by have := HF.out q hq; have := HB.out.size; omega) ((H2.out.below HB.out HF.out).more fun q hq => by have := HF.out q hq; have := HB.out.size; omega) (fun q hq => hq)
  rw [decide_eq_true rfl] at HEQ
  have HEQ := Lib.hid HEQ
  clear H1 H2 HY HZ
  go_wp2_with fail
  refine HEQ.out.mono ?_
  rintro e w2 ⟨rfl, hb2⟩
  have HB2 := Lib.hid (HB.out.trans (hb2.mono HB.out.size))
  clear hb2
  go_wp2
  go_ret
  exact ⟨rfl, HB2.out⟩
theorem edits_fn : ∀ args W, (callFunc 75 args).run Tryz.prog W = .ok (.enter 75 args) W := fun _ _ => by kernel_rfl
set_option maxRecDepth 100000 in
set_option maxHeartbeats 1600000 in
theorem eqEdits_c {F : Nat → Prop} (l1 l2 : List (Edt × Value)) (v1 v2 : Value) (w : World) (h1 : EdW w F l1 v1) (h2 : EdW w F l2 v2) (he : l1.map (·.1) = l2.map (·.1)) :
    Calls Tryz.prog 74 #[v1, v2, .func (.func 75) #[] #[]] w fun e w' => e = .returned (.bool true) ∧ Below w.heap.size w w' := by
  obtain ⟨A1, c1, rfl, hlc1, hc1⟩ := h1.sli.form
  obtain ⟨A2, c2, rfl, hlc2, hc2⟩ := h2.sli.form
  have eg := edits_fn
  have H1 := Lib.hid h1; clear h1
  have H2 := Lib.hid h2; clear h2
  have hne : l1.length = l2.length := by have := congrArg List.length he; simpa using this
  obtain ⟨n, hn1⟩ : ∃ n, l1.length = n := ⟨_, rfl⟩
  have hn2 : l2.length = n := by omega
  have HN1 := Lib.hid hn1
  have HN2 := Lib.hid hn2
  have HE := Lib.hid he
  rw [hn1] at H1 hlc1 ⊢
  rw [hn2] at H2 hlc2 ⊢
  clear hn1 hn2 hne he
  go_enter Tryz.func74, Tryz.ntmps74
  go_wp2
  go_loopw [17] (fun i wr => ∃ k : Nat, k ≤ n ∧ i = .int .i64 k ∧ Below w.heap.size w wr) (fun i _ => n - (intOf i).toNat)
  case atStart => exact ⟨0, Nat.zero_le _, rfl, Below.refl _ _⟩
  case round =>
    obtain ⟨k, hk, rfl, hb⟩ := hrel
    by_cases hlt : k < n
    · have hk1 : k < l1.length := by rw [HN1.out]; exact hlt
      have hk2 : k < l2.length := by rw [HN2.out]; exact hlt
      have S1 := H1.out.below hb
      have S2 := H2.out.below hb
      obtain ⟨b, off, rfl, hfb, a0, a1, a2⟩ := edAt S1.sli k hk1
      obtain ⟨b2, off2, rfl, hfb2, d0, d1, d2⟩ := edAt S2.sli k hk2
      have hltb : b < wr.heap.size := S1.lt b hfb
      have hltb2 : b2 < wr.heap.size := S2.lt b2 hfb2
      have p1 := S1.ln _ (List.getElem_mem hk1)
      have p2 := S2.ln _ (List.getElem_mem hk2)
      have hxy : (l1[k]'hk1).1 = (l2[k]'hk2).1 := by
        have h : (l1.map (·.1))[k]? = (l2.map (·.1))[k]? := by rw [HE.out]
        rw [List.getElem?_map, List.getElem?_map, List.getElem?_eq_getElem hk1, List.getElem?_eq_getElem hk2] at h
        injection h
      obtain ⟨A3, c3, e3, l3, _⟩ := p1.form
      obtain ⟨A4, c4, e4, l4, _⟩ := p2.form
      clear l3 l4
      have HBB := Lib.hid hb
      have HB2 := Lib.hid (fun (o1 o2 : Obj) => show Below wr.heap.size wr ((wr.alloc o1).alloc o2) from (((Below.refl _ wr).alloc (Nat.le_refl _) o1).alloc (by simp) o2))
      rw [e3] at a2 p1
      rw [e4] at d2 p2
      rw [← hxy] at d0 d1 d2 p2
      have HEQ := Lib.hid (fun (W : World) (hW2 : Below wr.heap.size wr W) => sameEd_c (l1[k]'hk1).1 _ _ W (p1.below hW2 S1.lt) (p2.below hW2 S2.lt) (fun b hb => Nat.lt_of_lt_of_le (S1.lt b hb) hW2.size))
      clear p1 p2 S1 S2 e3 e4 hxy
      generalize (l1[k]'hk1).1 = x at *
      generalize x.add.length = n3 at *
      clear hk1 hk2 hb hfb hfb2
      go_wp2_with fail
      refine (HEQ.out _ (by exact HB2.out _ _)).mono ?_
      rintro e w' ⟨rfl, hb'⟩
      have HB3 := Lib.hid (HBB.out.trans (((HB2.out _ _).trans (hb'.mono (HB2.out _ _).size)).mono HBB.out.size))
      clear hb'
      go_wp2
      go_roundw
      case rel => exact ⟨k + 1, by omega, intNum, HB3.out⟩
      case measure => simp [intOf]; omega
    · go_wp2
      go_ret
      exact ⟨rfl, hb⟩
set_option maxRecDepth 100000 in
set_option maxHeartbeats 1600000 in
theorem SameEdits_c {F : Nat → Prop} (l1 l2 : List (Edt × Value)) (v1 v2 : Value) (w : World) (h1 : EdW w F l1 v1) (h2 : EdW w F l2 v2) (he : l1.map (·.1) = l2.map (·.1)) :
    Calls Tryz.prog 29 #[v1, v2] w fun e w' => e = .returned (.bool true) ∧ Below w.heap.size w w' := by
  have HEQ := Lib.hid (eqEdits_c l1 l2 v1 v2 w h1 h2 he)
  clear h1 h2 he
  go_enter Tryz.func29, Tryz.ntmps29
  go_wp2_with fail
  refine HEQ.out.mono ?_
  rintro e w2 ⟨rfl, hb2⟩
  have HB := Lib.hid hb2
  clear hb2
  go_wp2
  go_ret
  exact ⟨rfl, HB.out⟩
end Go.Proofs.YtlmfpaincgkpeaaGreatDoor

/- R.DifferOf, walked. -/
namespace Go.Proofs.YtlmfpaincgkpeaaGreatDoor
set_option linter.unusedVariables false
open Go.RowKit Go.Sort

def DfrP (a b : List ByteArray) (w : World) (e : Ending) (w' : World) : Prop := ∃ v l, e = .returned v ∧ Below w.heap.size w w' ∧ l.map (·.1) = (edS b (prZ a b) 0 0).map edI ∧ EdL w' (fun q => w.heap.size ≤ q ∧ q < w'.heap.size) l v
set_option maxRecDepth 100000 in
set_option maxHeartbeats 16000000 in
theorem DifferOf_c {F G : Nat → Prop} (a b : List ByteArray) (va vb : Value) (w : World) (ha : Sli strR w F a va) (hb : Sli strR w G b vb) (hF : ∀ q, F q → q < w.heap.size) (hG : ∀ q, G q → q < w.heap.size) (hnb : ∀ k c, vb = .slice none k c → c = 0) (hn3 : a.length ≤ 3000) (hm3 : b.length ≤ 3000) :
    Calls Tryz.prog 30 #[va, vb] w (DfrP a b w) := by
  obtain ⟨i2, hi2, hz2, hz21, hz22⟩ := info_parts (show (Tryz.prog.info? 59).map (fun i => (i.zero, i.size, i.bytes)) = some (some (.agg #[.int .i64 0, .int .i64 0]), 2, 16) by kernel_rfl)
  obtain ⟨i0, hi0, hz0, hz1, hz3⟩ := info_parts (show (Tryz.prog.info? 114).map (fun i => (i.zero, i.size, i.bytes)) = some (some (.agg #[.int .i64 0, .int .i64 0, .slice none 0 0]), 3, 40) by kernel_rfl)
  have HP := Lib.hid (PairsOf_c a b va vb w ha hb hF hG hn3 hm3)
  obtain ⟨A, ca, rfl, hlca, hca⟩ := ha.form
  obtain ⟨B, cb, rfl, hlcb, hcb⟩ := hb.form
  obtain ⟨n, hn⟩ : ∃ n, a.length = n := ⟨_, rfl⟩
  obtain ⟨m, hm⟩ : ∃ m, b.length = m := ⟨_, rfl⟩
  have HN := Lib.hid hn
  have HM := Lib.hid hm
  have HBS := Lib.hid hb
  rw [hn] at HP hlca hn3 ⊢
  rw [hm] at HP hlcb hm3 hnb HBS ⊢
  clear ha hb hF hn hm
  have HP2 := HP.out
  unfold PairP at HP2
  have HP2 := Lib.hid HP2
  have hxl : (prX a b).length ≤ 6000 := by have := prX_le a b; rw [HN.out, HM.out] at this; omega
  have hqe : prX a b ++ [(n, m)] = prZ a b := by unfold prZ; rw [HN.out, HM.out]
  have HQE := Lib.hid hqe
  clear HP hqe
  go_enter Tryz.func30, Tryz.ntmps30
  go_wp2_with fail
  refine HP2.out.mono ?_
  rintro e w2 ⟨v, rfl, hown, hb2⟩
  have G2 := Lib.hid (show BO prR 59 w (prX a b) v [] w2 from ⟨hb2, hown, fun p hp => by cases hp⟩)
  clear hown hb2 HP2
  go_wp2_with (at_builtin; (refine wpList_pushB (R := prR) rfl _ _ _ rfl w.heap.size w.heap.size 59 i2 _ 16 Tryz.underlying52 hi2 hz2 (by assumption) (by assumption) rfl (by decide) _ v (prX a b) rfl (G2.out.own.alloc _) (n, m) (prC (n, m)) rfl (by intro u hu; simp [prC] at hu; rcases hu with rfl | rfl <;> rfl) w2.heap.size _ _ (heap_alloc_new w2 _) rfl (by simp [maxLen]; omega) (by omega) (by have := G2.out.size; simp; omega) ?_); intro g3 cap3 w3 hown3 hg3 hat3 hlt3)
  have G3 := Lib.hid ((G2.out.alloc (.cells (prC (n, m)).toArray 59)).more hown3 hg3 rfl hat3)
  clear hown3 hg3 hat3 hlt3 G2
  rw [HQE.out] at G3
  have HXL := Lib.hid hxl
  obtain ⟨Q0, hQ0⟩ : ∃ Q0, (prX a b).length = Q0 := ⟨_, rfl⟩
  have hQl : (prZ a b).length = Q0 + 1 := by rw [← HQE.out, List.length_append, ← hQ0]; rfl
  rw [hQ0] at G3 hxl ⊢
  have HQL := Lib.hid hQl
  have HUP := Lib.hid (prZ_up a b)
  have HQR := Lib.hid (fun (W : World) (hw : Below w3.heap.size w3 W) => show Sli prR W (fun q => q < w3.heap.size) (prZ a b) (.slice (some ⟨g3, 0, none⟩) (Q0 + 1) cap3) from
    (G3.out.own.sli (F := fun q => q < w3.heap.size) (fun q _ h => h) (fun g hg => (G3.out.own.block g hg).2)).below hw (fun q hq => hq))
  have HBE := Lib.hid G3.out.bel
  have E3 := Lib.hid (EI.start w3)
  have hn3' := hn3
  have hm3' := hm3
  clear hQ0 hQl G3 HQE
  go_loopw [5, 6, 7, 21] (fun s6 s7 s8 s28 wr => ∃ (k i j : Nat) (l : List (Edt × Value)), k ≤ Q0 + 1 ∧ s28 = .int .i64 k ∧ s7 = .int .i64 i ∧ s8 = .int .i64 j ∧ i ≤ n + 1 ∧ j ≤ m + 1 ∧ l.length ≤ k ∧ Hid (l.map (·.1) ++ (edS b ((prZ a b).drop k) i j).map edI = (edS b (prZ a b) 0 0).map edI) ∧ Hid (Beh (prZ a b) k i j) ∧ Hid (EI w3 l s6 [] wr)) (fun _ _ _ s28 _ => Q0 + 1 - (intOf s28).toNat)
  case atStart => exact ⟨0, 0, 0, [], Nat.zero_le _, rfl, rfl, rfl, Nat.zero_le _, Nat.zero_le _, Nat.zero_le _, rfl, (fun p _ => ⟨Nat.zero_le _, Nat.zero_le _⟩), E3⟩
  case round =>
    clear E3
    obtain ⟨k, i, j, l, hk, rfl, rfl, rfl, hi, hj, hl, HE, HBH, HG⟩ := hrel
    by_cases hlt : k < Q0 + 1
    · obtain ⟨p, hp⟩ : ∃ p, (prZ a b)[k]'(by rw [HQL.out]; exact hlt) = p := ⟨_, rfl⟩
      obtain ⟨g', off', cs', he', _, hcs', hcell'⟩ := (HQR.out wr HG.out.bo.bel).at_ k (by rw [HQL.out]; exact hlt)
      cases he'
      rw [hp] at hcs'
      have hcs' : cs' = prC p := hcs'
      subst hcs'
      have c0 : wr.cell? ⟨g3, k * 2, none⟩ = some (.int .i64 p.1) := by have := hcell' 0 (.int .i64 p.1) rfl; rw [show 0 + k * prR.n + 0 = k * 2 by show 0 + k * 2 + 0 = k * 2; omega] at this; exact this
      have c1 : wr.cell? ⟨g3, k * 2 + 1, none⟩ = some (.int .i64 p.2) := by have := hcell' 1 (.int .i64 p.2) rfl; rw [show 0 + k * prR.n + 1 = k * 2 + 1 by show 0 + k * 2 + 1 = k * 2 + 1; omega] at this; exact this
      have hpi := prZ_in (a := a) (b := b) (p := p) (by rw [← hp]; exact List.getElem_mem _)
      rw [HN.out, HM.out] at hpi
      have hbe : i ≤ p.1 ∧ j ≤ p.2 := HBH.out p (by rw [List.drop_eq_getElem_cons (l := prZ a b) (i := k) (by rw [HQL.out]; exact hlt), hp]; simp)
      have HST := Lib.hid (show Beh (prZ a b) (k + 1) (p.1 + 1) (p.2 + 1) from by have := Beh.step HUP.out (k := k) (by rw [HQL.out]; exact hlt); rw [hp] at this; exact this)
      have HED := Lib.hid (show edS b ((prZ a b).drop k) i j = (if i < p.1 ∨ j < p.2 then [(i, p.1 - i, cutL b j p.2)] else []) ++ edS b ((prZ a b).drop (k + 1)) (p.1 + 1) (p.2 + 1) from by rw [List.drop_eq_getElem_cons (l := prZ a b) (i := k) (by rw [HQL.out]; exact hlt), hp, edS_cons])
      have G4 := Lib.hid (HG.out.new #[.int .i64 p.1, .int .i64 p.2] 59)
      have HX := Lib.hid (HBS.out)
      clear hp hcell' HBH HG
      obtain ⟨p1, p2⟩ := p
      dsimp only at c0 c1 hpi hbe G4
      go_upto_region 6 with (fail)
      obtain ⟨X, hX⟩ : ∃ X, wr.heap.size = X := ⟨_, rfl⟩
      rw [hX] at G4 ⊢
      generalize hW : wr.alloc (.cells #[.int .i64 p1, .int .i64 p2] 59) = W4 at *
      have HXC := Lib.hid (fun (W : World) (l2 : List (Edt × Value)) (v2 : Value) (h : EI w3 l2 v2 [(X, #[.int .i64 p1, .int .i64 p2], 59)] W) => show W.cell? ⟨X, 0, none⟩ = some (.int .i64 p1) ∧ W.cell? ⟨X, 1, none⟩ = some (.int .i64 p2) from
        have q := (h.cell (p := (X, #[.int .i64 p1, .int .i64 p2], 59)) (by simp)).1
        ⟨q 0, q 1⟩)
      clear c0 c1 hW hX
      obtain ⟨x0, x1⟩ := HXC.out _ _ _ G4.out
      go_cut [34] (fun t wx => ∃ q : Bool, t = .bool q ∧ (q = true → i < p1 ∨ j < p2) ∧ (q = false → ¬ (i < p1 ∨ j < p2)) ∧ wx = W4)
      case first =>
        by_cases h1 : i < p1
        · have h1' : (i : Int) < p1 := by omega
          go_wp2_with fail
          go_meet
          exact ⟨true, rfl, (fun _ => .inl h1), (fun h => by cases h), rfl⟩
        · have h1' : ¬ (i : Int) < p1 := by omega
          by_cases h2 : j < p2
          · have h2' : (j : Int) < p2 := by omega
            go_wp2_with fail
            go_meet
            exact ⟨true, rfl, (fun _ => .inr h2), (fun h => by cases h), rfl⟩
          · have h2' : ¬ (j : Int) < p2 := by omega
            go_wp2_with fail
            go_meet
            exact ⟨false, rfl, (fun h => by cases h), (fun _ => by omega), rfl⟩
      case rest =>
        obtain ⟨q, rfl, hq1, hq0, rfl⟩ := hcut
        go_upto_if 34 with (fail)
        go_cut [5] (fun v6 wx => ∃ l2 : List (Edt × Value), l2.length ≤ l.length + 1 ∧ Hid (l2.map (·.1) = l.map (·.1) ++ (if i < p1 ∨ j < p2 then [(i, p1 - i, cutL b j p2)] else []).map edI) ∧ Hid (EI w3 l2 v6 [(X, #[.int .i64 p1, .int .i64 p2], 59)] wx))
        case first =>
          cases q with
          | false =>
            have hno := hq0 rfl
            go_wp2_with fail
            go_meet
            exact ⟨l, by omega, Lib.hid (by rw [if_neg hno]; simp), G4⟩
          | true =>
            have hyes := hq1 rfl
            have HCL0 := Lib.hid (fun (A' : Option Addr) (c' : Nat) (W : World) (hc' : c' ≤ 9223372036854775807) (hw : Below w3.heap.size w3 W) (h : Sli strR W G (cutL b j p2) (.slice A' (p2 - j) c')) => show Calls Tryz.prog 66 #[.slice A' (p2 - j) c'] W (fun e w' => ∃ v, e = .returned v ∧ Own strR w' W.heap.size W.heap.size 9 (cutL b j p2) v ∧ Below W.heap.size W w') from
              cloneAny_c (cutL b j p2) A' (p2 - j) c' W h (by rw [cutL_len (by rw [HM.out]; exact hpi.2)]; omega))
            cases B with
              | none =>
                have hcb0 := hnb m cb rfl
                have hj0 : p2 - j = 0 := by omega
                have HCL := Lib.hid (fun (W : World) (hw : Below w3.heap.size w3 W) => HCL0.out none (cb - j) W (by omega) hw (by
                  have e2 : cutL b j p2 = [] := by unfold cutL; rw [hj0]; rfl
                  rw [hj0, e2]
                  exact sliEmp _ _ (by omega)))
                clear HCL0 hnb hj0 hcb0
                go_upto_region 7 with (fail)
                obtain ⟨ι, ff, hne, hff, hfS⟩ := family (fun W => W.cell? ⟨X, 0, none⟩ = some (.int .i64 p1) ∧ W.cell? ⟨X, 1, none⟩ = some (.int .i64 p2)) wc (HXC.out _ _ _ G4.out)
                have hneW : Nonempty World := ⟨w⟩
                have s0 := fun p => (hff p).1
                have s1 := fun p => (hff p).2
                have HFS := Lib.hid hfS
                clear hff hfS
                have hsb0 : j ≤ p2 := hbe.2
                have hsb1 : p2 ≤ cb := by omega
                have hz4 := G4.out.bo.size
                refine wp_region_segs2 [10, 11, 13, 14] [15] [] [([0, 1, 2, 4, 6, 7, 8], [3, 5, 9], 10), ([], [], 11), ([12], [], 13), ([], [], 14)] (by kernel_rfl) (by kernel_rfl) (fun _ _ _ dd _ h => by cases dd <;> exact h) (fun W => ∃ p : ι, W = ff p) (HFS.out _ (HXC.out _ _ _ G4.out.drew)) ?_
                refine wpSegs2_step (by simp only [pick, List.getElem?_cons_succ, List.getElem?_cons_zero]; rfl) (by simp only [pick, List.getElem?_cons_succ, List.getElem?_cons_zero]; rfl) rfl (fun K0 hK0 L0 hL0 => ?_)
                repeat (first | go_big_quiet_step (fail) | quiet_step (fail))
                refine wpQuiet_nil (hL0 _ ?_)
                repeat (first | go_big_quiet_step (fail) | quiet_step (fail))
                refine wpQuiet_nil ?_
                go_simp
                refine hK0 (fun W => ∃ p : ι, W = ff p) _ _ (fun _ h => h) (HFS.out _ (HXC.out _ _ _ G4.out.drew)) ?_
                refine wpSegs2_step (by simp only [pick, List.getElem?_cons_succ, List.getElem?_cons_zero]; rfl) (by simp only [pick, List.getElem?_cons_succ, List.getElem?_cons_zero]; rfl) rfl (fun K1 hK1 L1 hL1 => ?_)
                repeat (first | go_big_quiet_step (fail) | quiet_step (fail))
                refine wpQuiet_nil (hL1 _ ?_)
                repeat (first | go_big_quiet_step (fail) | quiet_step (fail))
                refine wpQuiet_nil ?_
                go_simp
                refine (HCL.out wc.drew (G4.out.drew.bo.bel)).mono ?_
                rintro e w7 ⟨v7, rfl, hown7, hb7⟩
                have G7 := Lib.hid (G4.out.drew.below hb7)
                have HFR := Lib.hid (G4.out.drew.fresh (wy := w7) hb7.size (hown7.sli (fun q h1 h2 => ⟨h1, h2⟩) (fun g hg => hown7.block g hg)))
                have hz7 := G7.out.bo.size
                refine hK1 (fun W => ∃ p : ι, W = ff p) _ _ (fun _ h => h) (HFS.out _ (HXC.out _ _ _ G7.out)) ?_
                obtain ⟨A7, c7, e7, _, _⟩ := HFR.out.form
                rw [cutL_len (by rw [HM.out]; exact hpi.2)] at e7
                subst e7
                clear hown7 hb7 G4
                refine wpSegs2_step (by simp only [pick, List.getElem?_cons_succ, List.getElem?_cons_zero]; rfl) (by simp only [pick, List.getElem?_cons_succ, List.getElem?_cons_zero]; rfl) rfl (fun K2 hK2 L2 hL2 => ?_)
                repeat (first | go_big_quiet_step (fail) | quiet_step (fail))
                refine wpQuiet_nil (hL2 _ ?_)
                repeat (first | go_big_quiet_step (fail) | quiet_step (fail))
                refine wpQuiet_nil ?_
                go_simp
                have e1p : ((p1 - i : Nat) : Int) = (p1 : Int) - i := by omega
                have G8 := Lib.hid (G7.out.alloc (.cells #[.int .i64 i, .int .i64 ((p1 : Int) - i), .slice A7 (p2 - j) c7] 114))
                have HF8 := Lib.hid ((HFR.out.alloc (.cells #[.int .i64 i, .int .i64 ((p1 : Int) - i), .slice A7 (p2 - j) c7] 114) (fun q hq => hq.2.1)).more (G := InF w3 (w7.alloc (.cells #[.int .i64 i, .int .i64 ((p1 : Int) - i), .slice A7 (p2 - j) c7] 114)) u5 [(X, #[.int .i64 p1, .int .i64 p2], 59)]) fun q hq => ⟨hq.1, by have := hq.2.1; simp; omega, hq.2.2⟩)
                have HNEW := Lib.hid (heap_alloc_new w7 (.cells #[.int .i64 i, .int .i64 ((p1 : Int) - i), .slice A7 (p2 - j) c7] 114))
                have hz8 : w3.heap.size ≤ (w7.alloc (.cells #[.int .i64 i, .int .i64 ((p1 : Int) - i), .slice A7 (p2 - j) c7] 114)).heap.size := G8.out.bo.size
                refine hK2 (fun W => ∃ p : ι, W = ff p) _ _ (fun _ h => h) (HFS.out _ (HXC.out _ _ _ G8.out)) ?_
                clear G7 HFR
                refine wpSegs2_step (by simp only [pick, List.getElem?_cons_succ, List.getElem?_cons_zero]; rfl) (by simp only [pick, List.getElem?_cons_succ, List.getElem?_cons_zero]; rfl) rfl (fun K3 hK3 L3 hL3 => ?_)
                repeat (first | go_big_quiet_step (fail) | quiet_step (fail))
                refine wpQuiet_nil (hL3 _ ?_)
                repeat (first | go_big_quiet_step (fail) | quiet_step (fail))
                refine wpQuiet_nil ?_
                refine oper_push (R := edR) rfl _ _ _ rfl w3.heap.size w3.heap.size 114 i0 _ 40 Tryz.underlying55 hi0 hz0 hz1 hz3 rfl (by decide) _ u5 l rfl G8.out.bo.own ((⟨(i : Int), (p1 : Int) - i, cutL b j p2⟩, .slice A7 (p2 - j) c7) : Edt × Value) _ rfl (by intro u hu; simp [edC] at hu; rcases hu with rfl | rfl | rfl <;> rfl) w7.heap.size _ _ HNEW.out rfl (by unfold maxLen; omega) (by omega) hz8 ?_
                intro g9 cap9 w9 hown9 hg9 hat9 hlt9
                have G9 := Lib.hid (G8.out.more hown9 hg9 rfl hat9 HF8.out)
                refine hK3 (fun W => ∃ p : ι, W = ff p) _ _ (fun _ h => h) (HFS.out _ (HXC.out _ _ _ G9.out)) ?_
                clear hown9 hg9 hat9 hlt9 G8 HF8 HNEW
                refine wpSegs2_fin (by simp only [pick, List.getElem?_cons_succ, List.getElem?_cons_zero]; rfl) (by simp only [pick, List.getElem?_cons_succ, List.getElem?_cons_zero]; rfl) (fun L4 hL4 => ?_)
                repeat (first | go_big_quiet_step (fail) | quiet_step (fail))
                refine wpQuiet_nil (hL4 _ ?_)
                repeat (first | go_big_quiet_step (fail) | quiet_step (fail))
                refine wpQuiet_nil ?_
                clear s0 s1 hz8
                go_wp2
                go_meet
                exact ⟨_, by simp, Lib.hid (by rw [if_pos hyes, List.map_append]; simp [edI, e1p]), G9⟩
              | some aB =>
                obtain ⟨blk, off, path⟩ := aB
                have HCL := Lib.hid (fun (W : World) (hw : Below w3.heap.size w3 W) => HCL0.out (if cb = j then some ⟨blk, off, path⟩ else some ((⟨blk, off, path⟩ : Addr).add j)) (cb - j) W (by omega) hw (by
                  by_cases hjp : j < p2
                  · obtain ⟨b', o', _, he, _⟩ := HBS.out.at_ 0 (by rw [HM.out]; omega)
                    cases he
                    rw [if_neg (by omega)]
                    have q := cutSli (HBS.out.below (HBE.out.trans (hw.mono HBE.out.size)) hG) hbe.2 (by rw [HM.out]; exact hpi.2)
                    have e : ((⟨blk, off, none⟩ : Addr).add j) = ⟨blk, off + j, none⟩ := by
                      by_cases h0 : j = 0
                      · subst h0; simp [Addr.add]
                      · simp [Addr.add, h0]
                    rw [e]
                    exact q
                  · have e1 : p2 - j = 0 := by omega
                    have e2 : cutL b j p2 = [] := by unfold cutL; rw [e1]; rfl
                    rw [e1, e2]
                    exact sliEmp _ _ (by omega)))
                obtain ⟨A', hA'⟩ : ∃ A', (if cb = j then some ⟨blk, off, path⟩ else some ((⟨blk, off, path⟩ : Addr).add j)) = A' := ⟨_, rfl⟩
                rw [hA'] at HCL
                have HA' := Lib.hid hA'
                clear HCL0 hnb hA'
                go_upto_region 7 with (fail)
                obtain ⟨ι, ff, hne, hff, hfS⟩ := family (fun W => W.cell? ⟨X, 0, none⟩ = some (.int .i64 p1) ∧ W.cell? ⟨X, 1, none⟩ = some (.int .i64 p2)) wc (HXC.out _ _ _ G4.out)
                have hneW : Nonempty World := ⟨w⟩
                have s0 := fun p => (hff p).1
                have s1 := fun p => (hff p).2
                have HFS := Lib.hid hfS
                clear hff hfS
                have hsb0 : j ≤ p2 := hbe.2
                have hsb1 : p2 ≤ cb := by omega
                have hz4 := G4.out.bo.size
                refine wp_region_segs2 [10, 11, 13, 14] [15] [] [([0, 1, 2, 4, 6, 7, 8], [3, 5, 9], 10), ([], [], 11), ([12], [], 13), ([], [], 14)] (by kernel_rfl) (by kernel_rfl) (fun _ _ _ dd _ h => by cases dd <;> exact h) (fun W => ∃ p : ι, W = ff p) (HFS.out _ (HXC.out _ _ _ G4.out.drew)) ?_
                refine wpSegs2_step (by simp only [pick, List.getElem?_cons_succ, List.getElem?_cons_zero]; rfl) (by simp only [pick, List.getElem?_cons_succ, List.getElem?_cons_zero]; rfl) rfl (fun K0 hK0 L0 hL0 => ?_)
                repeat (first | go_big_quiet_step (fail) | quiet_step (fail))
                refine wpQuiet_nil (hL0 _ ?_)
                repeat (first | go_big_quiet_step (fail) | quiet_step (fail))
                refine wpQuiet_nil ?_
                go_simp
                rw [HA'.out]
                refine hK0 (fun W => ∃ p : ι, W = ff p) _ _ (fun _ h => h) (HFS.out _ (HXC.out _ _ _ G4.out.drew)) ?_
                refine wpSegs2_step (by simp only [pick, List.getElem?_cons_succ, List.getElem?_cons_zero]; rfl) (by simp only [pick, List.getElem?_cons_succ, List.getElem?_cons_zero]; rfl) rfl (fun K1 hK1 L1 hL1 => ?_)
                repeat (first | go_big_quiet_step (fail) | quiet_step (fail))
                refine wpQuiet_nil (hL1 _ ?_)
                repeat (first | go_big_quiet_step (fail) | quiet_step (fail))
                refine wpQuiet_nil ?_
                go_simp
                refine (HCL.out wc.drew (G4.out.drew.bo.bel)).mono ?_
                rintro e w7 ⟨v7, rfl, hown7, hb7⟩
                have G7 := Lib.hid (G4.out.drew.below hb7)
                have HFR := Lib.hid (G4.out.drew.fresh (wy := w7) hb7.size (hown7.sli (fun q h1 h2 => ⟨h1, h2⟩) (fun g hg => hown7.block g hg)))
                have hz7 := G7.out.bo.size
                refine hK1 (fun W => ∃ p : ι, W = ff p) _ _ (fun _ h => h) (HFS.out _ (HXC.out _ _ _ G7.out)) ?_
                obtain ⟨A7, c7, e7, _, _⟩ := HFR.out.form
                rw [cutL_len (by rw [HM.out]; exact hpi.2)] at e7
                subst e7
                clear hown7 hb7 G4
                refine wpSegs2_step (by simp only [pick, List.getElem?_cons_succ, List.getElem?_cons_zero]; rfl) (by simp only [pick, List.getElem?_cons_succ, List.getElem?_cons_zero]; rfl) rfl (fun K2 hK2 L2 hL2 => ?_)
                repeat (first | go_big_quiet_step (fail) | quiet_step (fail))
                refine wpQuiet_nil (hL2 _ ?_)
                repeat (first | go_big_quiet_step (fail) | quiet_step (fail))
                refine wpQuiet_nil ?_
                go_simp
                have e1p : ((p1 - i : Nat) : Int) = (p1 : Int) - i := by omega
                have G8 := Lib.hid (G7.out.alloc (.cells #[.int .i64 i, .int .i64 ((p1 : Int) - i), .slice A7 (p2 - j) c7] 114))
                have HF8 := Lib.hid ((HFR.out.alloc (.cells #[.int .i64 i, .int .i64 ((p1 : Int) - i), .slice A7 (p2 - j) c7] 114) (fun q hq => hq.2.1)).more (G := InF w3 (w7.alloc (.cells #[.int .i64 i, .int .i64 ((p1 : Int) - i), .slice A7 (p2 - j) c7] 114)) u5 [(X, #[.int .i64 p1, .int .i64 p2], 59)]) fun q hq => ⟨hq.1, by have := hq.2.1; simp; omega, hq.2.2⟩)
                have HNEW := Lib.hid (heap_alloc_new w7 (.cells #[.int .i64 i, .int .i64 ((p1 : Int) - i), .slice A7 (p2 - j) c7] 114))
                have hz8 : w3.heap.size ≤ (w7.alloc (.cells #[.int .i64 i, .int .i64 ((p1 : Int) - i), .slice A7 (p2 - j) c7] 114)).heap.size := G8.out.bo.size
                refine hK2 (fun W => ∃ p : ι, W = ff p) _ _ (fun _ h => h) (HFS.out _ (HXC.out _ _ _ G8.out)) ?_
                clear G7 HFR
                refine wpSegs2_step (by simp only [pick, List.getElem?_cons_succ, List.getElem?_cons_zero]; rfl) (by simp only [pick, List.getElem?_cons_succ, List.getElem?_cons_zero]; rfl) rfl (fun K3 hK3 L3 hL3 => ?_)
                repeat (first | go_big_quiet_step (fail) | quiet_step (fail))
                refine wpQuiet_nil (hL3 _ ?_)
                repeat (first | go_big_quiet_step (fail) | quiet_step (fail))
                refine wpQuiet_nil ?_
                refine oper_push (R := edR) rfl _ _ _ rfl w3.heap.size w3.heap.size 114 i0 _ 40 Tryz.underlying55 hi0 hz0 hz1 hz3 rfl (by decide) _ u5 l rfl G8.out.bo.own ((⟨(i : Int), (p1 : Int) - i, cutL b j p2⟩, .slice A7 (p2 - j) c7) : Edt × Value) _ rfl (by intro u hu; simp [edC] at hu; rcases hu with rfl | rfl | rfl <;> rfl) w7.heap.size _ _ HNEW.out rfl (by unfold maxLen; omega) (by omega) hz8 ?_
                intro g9 cap9 w9 hown9 hg9 hat9 hlt9
                have G9 := Lib.hid (G8.out.more hown9 hg9 rfl hat9 HF8.out)
                refine hK3 (fun W => ∃ p : ι, W = ff p) _ _ (fun _ h => h) (HFS.out _ (HXC.out _ _ _ G9.out)) ?_
                clear hown9 hg9 hat9 hlt9 G8 HF8 HNEW
                refine wpSegs2_fin (by simp only [pick, List.getElem?_cons_succ, List.getElem?_cons_zero]; rfl) (by simp only [pick, List.getElem?_cons_succ, List.getElem?_cons_zero]; rfl) (fun L4 hL4 => ?_)
                repeat (first | go_big_quiet_step (fail) | quiet_step (fail))
                refine wpQuiet_nil (hL4 _ ?_)
                repeat (first | go_big_quiet_step (fail) | quiet_step (fail))
                refine wpQuiet_nil ?_
                clear s0 s1 hz8
                go_wp2
                go_meet
                exact ⟨_, by simp, Lib.hid (by rw [if_pos hyes, List.map_append]; simp [edI, e1p]), G9⟩
        case rest =>
          clear G4 x0 x1
          obtain ⟨l2, hl2, HM2, G5⟩ := hcut
          obtain ⟨x0, x1⟩ := HXC.out _ _ _ G5.out
          have HE2 := Lib.hid (show l2.map (·.1) ++ (edS b ((prZ a b).drop (k + 1)) (p1 + 1) (p2 + 1)).map edI = (edS b (prZ a b) 0 0).map edI from by rw [HM2.out, ← HE.out, HED.out, List.map_append, List.append_assoc])
          have G6 := Lib.hid (G5.out.less (Q := []) (by simp))
          clear G5 HM2 HE HED
          go_upto_region 8 with (fail)
          go_region
          go_wp2
          go_roundw
          case rel => exact ⟨k + 1, p1 + 1, p2 + 1, l2, by omega, intNum, intNum, intNum, by omega, by omega, by omega, HE2, HST, G6.out.drew⟩
          case measure => simp [intOf]; omega
    · have hkQ : k = Q0 + 1 := by omega
      have HF := Lib.hid (show l.map (·.1) = (edS b (prZ a b) 0 0).map edI from by
        rw [← HE.out, List.drop_of_length_le (by rw [HQL.out]; omega)]
        simp [edS])
      go_wp2
      go_ret
      exact ⟨_, l, rfl, HBE.out.trans (HG.out.bo.bel.mono HBE.out.size), HF.out, ⟨HG.out.edL.sli.more (fun q hq => ⟨Nat.le_trans HBE.out.size hq.1, hq.2⟩), fun y hy => (HG.out.edL.par y hy).more (fun q hq => ⟨Nat.le_trans HBE.out.size hq.1, hq.2⟩)⟩⟩
end Go.Proofs.YtlmfpaincgkpeaaGreatDoor

/- Lists of pairs compared; the generator's long list, walked. -/
namespace Go.Proofs.YtlmfpaincgkpeaaGreatDoor
set_option linter.unusedVariables false
open Go.RowKit Go.Sort

theorem prAt {w : World} {F : Nat → Prop} {l : List (Nat × Nat)} {A : Option Addr} {n c : Nat} (h : Sli prR w F l (.slice A n c)) (k : Nat) (hk : k < l.length) : ∃ b off, A = some ⟨b, off, none⟩ ∧ F b ∧ w.cell? ⟨b, off + k * 2, none⟩ = some (.int .i64 (l[k].1 : Nat)) ∧ w.cell? ⟨b, off + k * 2 + 1, none⟩ = some (.int .i64 (l[k].2 : Nat)) := by
  obtain ⟨b, off, a, e, hb, hr, hc⟩ := h.at_ k hk
  have ha : a = prC l[k] := hr
  subst ha
  exact ⟨b, off, e, hb, hc 0 _ rfl, hc 1 _ rfl⟩
theorem eqArr (a b : Int) (w : World) : (Op.equalIn 10000 59 (.agg #[.int .i64 a, .int .i64 b]) (.agg #[.int .i64 a, .int .i64 b])).run Tryz.prog w = .ok true w := by
  have u3 := Tryz.underlying3
  have a3 := Tryz.isAgg3
  have z3 := Tryz.sizeOf3
  rw [show (10000 : Nat) = 9999 + 1 from rfl, Op.equalIn]
  simp only [Sem.run_bind, run_underlying Tryz.underlying59, Result.andThen_ok]
  simp only [Std.Legacy.Range.forIn_eq_forIn_range', Std.Legacy.Range.size, Nat.sub_zero, Nat.add_sub_cancel, Nat.div_one, List.range'_succ, List.range'_zero, List.forIn_cons, List.forIn_nil]
  go_simp
set_option maxRecDepth 100000 in
set_option maxHeartbeats 1600000 in
theorem eqPr_c {F : Nat → Prop} (l : List (Nat × Nat)) (v1 v2 : Value) (w : World) (h1 : Sli prR w F l v1) (h2 : Sli prR w F l v2) (hF : ∀ b, F b → b < w.heap.size) :
    Calls Tryz.prog 27 #[v1, v2] w fun e w' => e = .returned (.bool true) ∧ Below w.heap.size w w' := by
  obtain ⟨A1, c1, rfl, hlc1, hc1⟩ := h1.form
  obtain ⟨A2, c2, rfl, hlc2, hc2⟩ := h2.form
  have H1 := Lib.hid h1; clear h1
  have H2 := Lib.hid h2; clear h2
  have HF := Lib.hid hF; clear hF
  obtain ⟨n, hn⟩ : ∃ n, l.length = n := ⟨_, rfl⟩
  have HN := Lib.hid hn
  rw [hn] at H1 H2 hlc1 ⊢
  clear hn
  go_enter Tryz.func27, Tryz.ntmps27
  go_wp2
  go_loopw [13] (fun i wr => ∃ k : Nat, k ≤ n ∧ i = .int .i64 k ∧ Hid (Below w.heap.size w wr)) (fun i _ => n - (intOf i).toNat)
  case atStart => exact ⟨0, Nat.zero_le _, rfl, Below.refl _ _⟩
  case round =>
    obtain ⟨k, hk, rfl, hb⟩ := hrel
    by_cases hlt : k < n
    · obtain ⟨b, off, rfl, hfb, c0, c1⟩ := prAt (H1.out.below hb.out HF.out) k (by rw [HN.out]; exact hlt)
      obtain ⟨b2, off2, rfl, hfb2, d0, d1⟩ := prAt (H2.out.below hb.out HF.out) k (by rw [HN.out]; exact hlt)
      generalize (l[k]'(by rw [HN.out]; exact hlt)).1 = x at *
      generalize (l[k]'(by rw [HN.out]; exact hlt)).2 = y at *
      have heq := eqArr (x : Int) (y : Int)
      go_upto_region 6 with (fail)
      go_region
      go_wp2
      go_roundw
      case rel => exact ⟨k + 1, by omega, intNum, Lib.hid (hb.out.trans ((Below.refl _ wr).drew.mono hb.out.size))⟩
      case measure => simp [intOf]; omega
    · go_wp2
      go_ret
      exact ⟨rfl, hb.out⟩
set_option maxRecDepth 100000 in
set_option maxHeartbeats 1600000 in
theorem Many_s (sb : Nat) (k0 : Int) (n : Nat) (w : World) (hs : Str w sb k0) (hn : n ≤ 10000) :
    Calls Tryz.prog 23 #[.pointer (some ⟨sb, 0, none⟩), .int .i64 n] w (Took sb k0 0 (fun v w' => ∃ l : List ByteArray, Own strR w' w.heap.size w.heap.size 9 l v ∧ l.length = n ∧ ∀ x ∈ l, x.size ≤ 10) w) := by
  have G0 := Lib.hid (show GS dumR 3 w sb [] (.slice none 0 0) [] k0 w from GS.start hs)
  have hmk := run_make_row' (P := Tryz.prog) 42 9 (.string ⟨#[]⟩) 16 Tryz.underlying42 (by kernel_rfl) rfl .i64 .i64 n (by omega) (by omega) w
  clear hs
  go_enter Tryz.func23, Tryz.ntmps23
  go_upto_region 2 with (fail)
  have G1 := Lib.hid (show ∃ cs : Array Value, cs.size = n ∧ (∀ j, j < n → ∃ x : ByteArray, cs[j]? = some (.string x) ∧ x.size ≤ 10) ∧ PvS w sb [(w.heap.size, cs, 9)] k0 (w.alloc (.cells (madeCells #[.string ⟨#[]⟩] n) 9)) from
    ⟨_, size_madeCells _ _, fun j hj => ⟨⟨#[]⟩, by simp [madeCells, hj, Nat.mod_one], by decide⟩, G0.out.new _ _⟩)
  generalize w.alloc (.cells (madeCells #[.string ⟨#[]⟩] n) 9) = W0 at *
  clear hmk G0
  go_wp2
  go_loopw [11] (fun i wr => ∃ k : Nat, k ≤ n ∧ i = .int .i64 k ∧ Hid (∃ cs : Array Value, cs.size = n ∧ (∀ j, j < n → ∃ x : ByteArray, cs[j]? = some (.string x) ∧ x.size ≤ 10) ∧ PvS w sb [(w.heap.size, cs, 9)] k0 wr)) (fun i _ => n - (intOf i).toNat)
  case atStart => exact ⟨0, Nat.zero_le _, rfl, G1⟩
  case round =>
    clear G1
    obtain ⟨k, hk, rfl, HG⟩ := hrel
    obtain ⟨cs, hcs, hx, G⟩ := HG.out
    by_cases hlt : k < n
    · obtain ⟨x, hx1, _⟩ := hx k hlt
      obtain ⟨q, f⟩ := G.cell (p := (w.heap.size, cs, 9)) (by simp)
      have c0 : wr.cell? ⟨w.heap.size, k, none⟩ = some (.string x) := (q k).trans hx1
      have f0 : wr.frozen? ⟨w.heap.size, k, none⟩ = false := f k
      have G2 := Lib.hid (show ∃ cs : Array Value, cs.size = n ∧ (∀ j, j < n → ∃ x : ByteArray, cs[j]? = some (.string x) ∧ x.size ≤ 10) ∧ PvS w sb [(w.heap.size, cs, 9)] k0 (wr.setCell ⟨w.heap.size, k, none⟩ (.string ⟨#[109]⟩)) from
        ⟨cs.setIfInBounds k (.string ⟨#[109]⟩), by simp [hcs], fun j hj => by
          rw [Array.getElem?_setIfInBounds]
          by_cases e : k = j
          · rw [if_pos e, if_pos (by omega)]; exact ⟨_, rfl, by decide⟩
          · rw [if_neg e]; exact hx j hj, G.set (i := k) (fun h => h) (.string ⟨#[109]⟩) (by simp)⟩)
      clear q f hx1 hx HG G hcs
      go_wp2
      go_roundw
      case rel => exact ⟨k + 1, by omega, intNum, G2⟩
      case measure => simp [intOf]; omega
    · go_wp2
      go_ret
      have hb := (G.prv (w.heap.size, cs, 9) (by simp)).1
      dsimp only at hb
      have hxs : ∀ j : Nat, ∃ x : ByteArray, (j < n → cs[j]? = some (.string x)) ∧ x.size ≤ 10 := fun j => by
        by_cases hj : j < n
        · obtain ⟨x, h1, h2⟩ := hx j hj; exact ⟨x, fun _ => h1, h2⟩
        · exact ⟨⟨#[]⟩, fun h => absurd h hj, by decide⟩
      refine ⟨_, k0, rfl, ⟨(List.range n).map fun j => (hxs j).choose, ?_, by simp, fun x hx2 => ?_⟩, by omega, G.str, G.gr⟩
      · have := Own.ofCells (base := w.heap.size) (lo := w.heap.size) (cap := n) (l := (List.range n).map fun j => (hxs j).choose) hb (Nat.le_refl _) (by simp) (by unfold maxLen; omega) hcs (fun j x hj => by
          rw [(str_cells hb).1 j]
          obtain ⟨hj1, hj2⟩ := List.getElem?_eq_some_iff.1 hj
          simp at hj1
          rw [(hxs j).choose_spec.1 hj1]
          simp at hj2
          rw [hj2])
        simpa using this
      · obtain ⟨j, _, rfl⟩ := List.mem_map.1 hx2
        exact (hxs j).choose_spec.2
end Go.Proofs.YtlmfpaincgkpeaaGreatDoor

/- script.Layout and script.Starts, walked. -/
namespace Go.Proofs.YtlmfpaincgkpeaaGreatDoor
set_option linter.unusedVariables false
open Go.RowKit Go.Sort

theorem fillB_len (b : Blk) : ∀ (m f : Nat) (P : List (List ByteArray)) (pg : List ByteArray), (fillB b m f P pg).1.length ≤ P.length + m
  | 0, _, _, _ => Nat.le_refl _
  | m + 1, f, P, pg => by
    unfold fillB
    split
    · show P.length ≤ _; omega
    · have := fillB_len b m (stopB b f (54 - pg.length)) (P ++ [pg ++ (b.lines.drop f).take (stopB b f (54 - pg.length) - f) ++ (if b.kind = 3 then [moreS] else [])]) (if b.kind = 3 then [contS b.name] else [])
      rw [List.length_append, List.length_singleton] at this
      omega
theorem putB_len (b : Blk) (r : List Blk) (q : PgQ) : (putB b r q).1.1.length ≤ q.1.length + (b.lines.length + 2) ∧ (putB b r q).2 ≤ q.1.length + 1 := by
  unfold putB
  dsimp only
  have h : (if topB b r q.2 = true ∧ ¬ q.2 = [] then q.1 ++ [q.2] else q.1).length ≤ q.1.length + 1 := by
    split
    · rw [List.length_append, List.length_singleton]; exact Nat.le_refl _
    · omega
  exact ⟨Nat.le_trans (fillB_len b _ 0 _ _) (by omega), h⟩
theorem layB_plen {M : Nat} : ∀ (l : List Blk) (q : PgQ) (st : List Nat), (∀ b ∈ l, b.lines.length ≤ M) → (layB l q.1 q.2 st).1.length ≤ q.1.length + l.length * (M + 2) ∧ ∀ s ∈ (layB l q.1 q.2 st).2.2, s ∈ st ∨ s ≤ q.1.length + l.length * (M + 2)
  | [], q, st, _ => ⟨by show q.1.length ≤ _; omega, fun s hs => .inl hs⟩
  | b :: r, q, st, h => by
    obtain ⟨h1, h2⟩ := putB_len b r q
    have hb := h b (by simp)
    obtain ⟨a, c⟩ := layB_plen r (putB b r q).1 (st ++ [(putB b r q).2]) (fun y hy => h y (by simp [hy]))
    rw [show layB (b :: r) q.1 q.2 st = layB r (putB b r q).1.1 (putB b r q).1.2 (st ++ [(putB b r q).2]) from rfl, List.length_cons, Nat.add_mul, Nat.one_mul]
    refine ⟨by omega, fun s hs => ?_⟩
    rcases c s hs with hs | hs
    · rcases List.mem_append.1 hs with hs | hs
      · exact .inl hs
      · rw [List.mem_singleton] at hs; subst hs; exact .inr (by omega)
    · exact .inr (by omega)
theorem valAt {w : World} {F : Nat → Prop} {l : List Value} {A : Option Addr} {n c : Nat} (h : Sli valR w F l (.slice A n c)) (k : Nat) (hk : k < l.length) : ∃ b off, A = some ⟨b, off, none⟩ ∧ F b ∧ w.cell? ⟨b, off + k, none⟩ = some l[k] := by
  obtain ⟨A', c', e, h1, h2, h3⟩ := h
  injection e with e1 e2 e3
  subst e1
  obtain ⟨b, off, cs, rfl, hF, hl, hc⟩ := h3 (by omega)
  refine ⟨b, off, rfl, hF, hc k _ ?_⟩
  have hz : (cs.drop (k * 1)).take 1 = [l[k]] := hl.2 k _ (List.getElem?_eq_getElem hk)
  rw [Nat.mul_one] at hz
  have := congrArg (fun q : List Value => q[0]?) hz
  simpa using this
end Go.Proofs.YtlmfpaincgkpeaaGreatDoor

/- revise.made, walked. -/
namespace Go.Proofs.YtlmfpaincgkpeaaGreatDoor
set_option linter.unusedVariables false
open Go.RowKit Go.Sort

def drC (dn : Int) (t : ByteArray) (v1 v2 v3 : Value) : Array Value := #[.int .i64 dn, .string t, v1, v2, v3]
set_option maxRecDepth 100000 in
set_option maxHeartbeats 16000000 in
theorem rvMade_c {F : Nat → Prop} (dn : Int) (t : ByteArray) (ls : List (Scene × Value)) (vS : Value) (Ag Al : Option Addr) (ng cg nl cl : Nat) (nos : List ByteArray) (An : Option Addr) (cn : Nat) (w : World) (h : ScL w F t ls vS) (hok : ∀ y ∈ ls, LnOk y.1) (hpn : ∀ y ∈ ls, y.1.paras.length ≤ 61) (hln : ls.length ≤ 91)
    (hno : Sli strR w F nos (.slice An nos.length cn)) (hns : ∀ n ∈ nos, n.size ≤ 100) (hnl : nos.length ≤ 1000) :
    Calls Tryz.prog 58 #[.agg (drC dn t vS (.slice Ag ng cg) (.slice Al nl cl)), .slice An nos.length cn] w (MadP (ls.map (·.1)) nos w) := by
  obtain ⟨i0, hi0, hz0, hz1, hz2⟩ := info_parts (show (Tryz.prog.info? 151).map (fun i => (i.zero, i.size, i.bytes)) = some (some (.agg #[.int .i64 0, .slice none 0 0, .slice none 0 0, .string ⟨#[]⟩]), 4, 72) by kernel_rfl)
  obtain ⟨is, his, hs0, hs1, hs2⟩ := info_parts (show (Tryz.prog.info? 9).map (fun i => (i.zero, i.size, i.bytes)) = some (some (.string ⟨#[]⟩), 1, 16) by kernel_rfl)
  obtain ⟨A, c, rfl, hlc, hcm⟩ := h.sli.form
  obtain ⟨L, hL⟩ : ∃ L, ls.length = L := ⟨_, rfl⟩
  have HL := Lib.hid hL
  obtain ⟨N, hN⟩ : ∃ N, nos.length = N := ⟨_, rfl⟩
  have HN := Lib.hid hN
  have HSC := Lib.hid (fun (W : World) (hb : Below w.heap.size w W) => h.below hb)
  have HNO := Lib.hid (fun (W : World) (hb : Below w.heap.size w W) => hno.below hb h.lt)
  have HOK := Lib.hid hok
  have HPN := Lib.hid hpn
  have HNS := Lib.hid hns
  have HFO := Lib.hid (sli_forms h.par)
  have hxok : ∀ x ∈ ls.map (·.1), LnOk x := fun x hx => by
    obtain ⟨y, hy, rfl⟩ := List.mem_map.1 hx
    exact hok y hy
  have hxpn : ∀ x ∈ ls.map (·.1), x.paras.length ≤ 61 := fun x hx => by
    obtain ⟨y, hy, rfl⟩ := List.mem_map.1 hx
    exact hpn y hy
  have HFW := Lib.hid (fun (k : Nat) => allB2_few hxok hxpn (nos.take k) (fun n hn => hns n (List.mem_of_mem_take hn)))
  have HLK := Lib.hid (fun (s : ByteArray) => show lk (mpC ls L) s = (fndS ls s).map scV from by
    have h1 := lk_mpC (ls := ls) (s := s) ls.length (Nat.le_refl _)
    rw [List.take_length, hL] at h1
    exact h1)
  have HFM := Lib.hid (fun (s : ByteArray) => fnd_map ls s)
  rw [hL] at hlc hln HSC ⊢
  rw [hN] at HNO hnl ⊢
  have HB0 := Lib.hid ((Below.refl w.heap.size w).alloc (Nat.le_refl _) (.cells (drC dn t (.slice A L c) (.slice Ag ng cg) (.slice Al nl cl)) 45))
  have HY := Lib.hid (str_cells (heap_alloc_new w (.cells (drC dn t (.slice A L c) (.slice Ag ng cg) (.slice Al nl cl)) 45))).1
  have HM0 := Lib.hid (MapL.made (κ := ByteArray) (mk := Value.string) (w.alloc (.cells (drC dn t (.slice A L c) (.slice Ag ng cg) (.slice Al nl cl)) 45)))
  have hz1w : (w.alloc (.cells (drC dn t (.slice A L c) (.slice Ag ng cg) (.slice Al nl cl)) 45)).heap.size = w.heap.size + 1 := by simp
  unfold drC at HB0 HY HM0 hz1w ⊢
  have hmm := @run_makeMap Tryz.prog
  clear h hno hok hpn hns hxok hxpn hL hN
  go_enter Tryz.func58, Tryz.ntmps58
  go_upto_region 1 with (fail)
  generalize w.alloc (.cells #[.int .i64 dn, .string t, .slice A L c, .slice Ag ng cg, .slice Al nl cl] 45) = w1 at *
  have y2 : w1.cell? ⟨w.heap.size, 2, none⟩ = some (.slice A L c) := HY.out 2
  have hMb := (Below.refl w1.heap.size w1).alloc (Nat.le_refl _) (.map #[] 0)
  have HB1 := Lib.hid (HB0.out.trans (hMb.mono (by omega)))
  have y2' : (w1.alloc (.map #[] 0)).cell? ⟨w.heap.size, 2, none⟩ = some (.slice A L c) := (hMb.cell (p := ⟨w.heap.size, 2, none⟩) (by show w.heap.size < _; omega)).trans y2
  have hz2w : (w1.alloc (.map #[] 0)).heap.size = w.heap.size + 2 := by simp [hz1w]
  clear hMb HB0 HY
  go_upto_region 2 with (fail)
  generalize w1.alloc (.map #[] 0) = w2 at *
  rw [hz1w] at HM0
  obtain ⟨M1, hM1⟩ : ∃ M1, w.heap.size + 1 = M1 := ⟨_, rfl⟩
  rw [hM1] at HM0 ⊢
  have hM1w : w.heap.size ≤ M1 := by omega
  have hM1z : M1 < w2.heap.size := by omega
  clear y2 hz1w hz2w hM1
  go_wp2
  go_loopw [24] (fun iv wr => ∃ k : Nat, k ≤ L ∧ iv = .int .i64 k ∧ Hid (MapL wr M1 Value.string (mpC ls k)) ∧ Hid (Below w.heap.size w wr)) (fun iv _ => L - (intOf iv).toNat)
  case atStart => exact ⟨0, Nat.zero_le _, rfl, HM0.out, HB1.out⟩
  case round =>
    clear HM0 HB1 y2' hmm
    obtain ⟨k, hk, rfl, HM, HB⟩ := hrel
    have hMz := HM.out.lt
    by_cases hlt : k < L
    · have hkl : k < ls.length := by rw [HL.out]; exact hlt
      have hHr := HSC.out wr HB.out
      obtain ⟨b, off, rfl, hfb, c0, c1, c2, c3, c4⟩ := scAt hHr.sli k hkl
      obtain ⟨A4, n4, cc4, h4⟩ := HFO.out _ (List.getElem_mem hkl)
      have HST := Lib.hid (show mpC ls (k + 1) = up (mpC ls k) (ls[k]'hkl).1.no (.agg #[.string (ls[k]'hkl).1.no, .int .i64 (ls[k]'hkl).1.place, .string (ls[k]'hkl).1.set, .int .i64 (ls[k]'hkl).1.time, .slice A4 n4 cc4]) by
        rw [mpC, List.getElem?_eq_getElem hkl]
        dsimp only
        unfold scV
        rw [h4])
      rw [h4] at c4
      generalize (ls[k]'hkl).1 = x at *
      have HM5 := Lib.hid (HM.out.alloc (.cells #[.string x.no, .int .i64 x.place, .string x.set, .int .i64 x.time, .slice A4 n4 cc4] 90))
      have HB5 := Lib.hid (HB.out.alloc (by have := HB.out.size; omega) (.cells #[.string x.no, .int .i64 x.place, .string x.set, .int .i64 x.time, .slice A4 n4 cc4] 90))
      clear h4 hHr hkl HM HB
      go_wp2_with (at_mapUpdate; refine wpList_update_plain _ rfl _ _ _ 145 rfl 9 90 keyMs Tryz.underlying145 M1 (mpC ls k) rfl HM5.out x.no rfl (.agg #[.string x.no, .int .i64 x.place, .string x.set, .int .i64 x.time, .slice A4 n4 cc4]) rfl ?_; intro w6 hm6 hg6; rw [← HST.out] at hm6; have HB6 := Lib.hid (HB5.out.grown hg6 (by have := HB5.out.size; omega) (fun b hb => by injection hb with hb; omega)); have HM6 := Lib.hid hm6; clear hm6 hg6)
      go_roundw
      case rel => exact ⟨k + 1, by omega, intNum, HM6, HB6⟩
      case measure => simp [intOf]; omega
    · have hkL : k = L := by omega
      subst hkL
      have hmm := @run_makeMap Tryz.prog
      have hbz := HB.out.size
      have HQ0 := Lib.hid (show BQ w [] (.slice none 0 0) M1 wr.heap.size (mpC ls k) [] (wr.alloc (.map #[] 0)) from
        ⟨HB.out.alloc hbz _, Own.nil_, HM.out.alloc _, MapL.made (κ := Int) (mk := Value.int .i64) wr, ⟨by omega, (fun e => by cases e), (fun e => by cases e), hM1w, hbz⟩, (fun y hy => by cases hy), (fun y hy => by cases hy)⟩)
      obtain ⟨M2, hM2⟩ : ∃ M2, wr.heap.size = M2 := ⟨_, rfl⟩
      rw [hM2] at HQ0
      have hM2v := hM2
      go_upto_region 9 with (fail)
      clear hmm
      generalize wr.alloc (.map #[] 0) = w3 at *
      clear hM2 hM2v HM HB hbz hMz
      obtain ⟨xs, hxs⟩ : ∃ xs, ls.map (·.1) = xs := ⟨_, rfl⟩
      have HXS := Lib.hid hxs
      rw [hxs] at HFW HFM
      clear hxs
      go_wp2
      go_loopw [9, 36] (fun v iv wr => ∃ (j : Nat) (l : List BkT), j ≤ N ∧ iv = .int .i64 j ∧ Hid (l.map (·.1) = allB2 xs (nos.take j)) ∧ Hid (BQ w l v M1 M2 (mpC ls k) (hdM xs nos j) wr)) (fun _ iv _ => N - (intOf iv).toNat)
      case atStart => exact ⟨0, [], Nat.zero_le _, rfl, rfl, HQ0⟩
      case round =>
        clear HQ0
        obtain ⟨j, l, hj, rfl, HK, HG⟩ := hrel
        obtain ⟨A3, q3, e3, _⟩ := HG.out.bkl.sli.form
        subst e3
        have hlb : l.length ≤ 62000 := by
          have h1 := (HFW.out j).1
          rw [← HK.out, List.length_map, List.length_take] at h1
          omega
        have hzr := HG.out.bel.size
        by_cases hlt : j < N
        · have hjl : j < nos.length := by rw [HN.out]; exact hlt
          obtain ⟨b, off, rfl, hfb, c0⟩ := strAt (HNO.out wr HG.out.bel) j hjl
          have HNZ := Lib.hid (HNS.out _ (List.getElem_mem hjl))
          have HHS := Lib.hid (show hdM xs nos (j + 1) = up (hdM xs nos j) (l.length : Int) (.string (nos[j]'hjl)) by rw [hdM_step hjl, ← HK.out, List.length_map])
          have HAS := Lib.hid (show allB2 xs (nos.take (j + 1)) = l.map (·.1) ++ entB xs (nos[j]'hjl) by rw [allB2_step hjl, HK.out])
          generalize nos[j]'hjl = no at *
          clear hjl
          go_upto_region 13 with (at_mapUpdate; refine wpList_update_plain _ rfl _ _ _ 147 rfl 3 9 keyMi Tryz.underlying147 M2 (hdM xs nos j) rfl HG.out.mb (l.length : Int) rfl (.string no) rfl ?_; intro w6 hm6 hg6; rw [← HHS.out] at hm6)
          have G6 := Lib.hid (HG.out.setM hm6 hg6)
          clear hm6 hg6 HG c0
          have HKM := Lib.hid (HLK.out no)
          cases hf : fndS ls no with
          | some y =>
            have hmem := fnd_mem hf
            obtain ⟨A4, n4, cc4, h4⟩ := HFO.out y hmem
            have hsc0 := (HSC.out w (Below.refl _ _)).par y hmem
            have HLV := Lib.hid (show lk (mpC ls k) no = some (.agg #[.string y.1.no, .int .i64 y.1.place, .string y.1.set, .int .i64 y.1.time, .slice A4 n4 cc4]) by
              rw [HKM.out, hf]
              show some (scV y) = _
              unfold scV
              rw [h4])
            have HEB := Lib.hid (show entB xs no = blocksS y.1 by
              have h1 := HFM.out no
              rw [hf] at h1
              unfold entB
              rw [h1]
              rfl)
            have HOx := Lib.hid (And.intro (HOK.out y hmem) (HPN.out y hmem))
            rw [h4] at hsc0
            have HPA := Lib.hid (fun (W : World) (hb : Below w.heap.size w W) => show Sli paraR W F y.1.paras (.slice A4 n4 cc4) ∧ (∀ q, F q → q < W.heap.size) from ⟨hsc0.below hb (HSC.out w (Below.refl _ _)).lt, (HSC.out W hb).lt⟩)
            obtain ⟨x, vx⟩ := y
            dsimp only at HLV HEB HOx HPA
            clear hf hmem h4 hsc0 HKM
            have HG7 := Lib.hid (G6.out.alloc (.cells #[.string x.no, .int .i64 x.place, .string x.set, .int .i64 x.time, .slice A4 n4 cc4] 90))
            have hx7 := heap_alloc_new w6 (.cells #[.string x.no, .int .i64 x.place, .string x.set, .int .i64 x.time, .slice A4 n4 cc4] 90)
            go_upto_region 15 with (first | (at_lookup; refine wpList_lookup_plain _ rfl _ _ 145 true rfl 9 90 keyMs Tryz.underlying145 (.agg #[.string ⟨#[]⟩, .int .i64 0, .string ⟨#[]⟩, .int .i64 0, .slice none 0 0]) (zeroSc _) M1 (mpC ls k) rfl G6.out.ma no rfl ?_; rw [HLV.out]; simp only [if_true, Option.getD_some, Option.isSome_some]) | fail)
            generalize w6.alloc (.cells #[.string x.no, .int .i64 x.place, .string x.set, .int .i64 x.time, .slice A4 n4 cc4] 90) = w7 at *
            obtain ⟨e0, e1, e2, e3, e4⟩ := sc_cells (str_cells hx7)
            have HBL := Lib.hid (Blocks_c x (.slice A4 n4 cc4) w7 (HPA.out w7 HG7.out.bel).1 (HPA.out w7 HG7.out.bel).2 HOx.out.1)
            have hxf := blocks_few HOx.out.1 HOx.out.2
            clear hx7 G6
            go_wp2_with fail
            refine HBL.out.mono ?_
            rintro e w9 ⟨l2, v2, rfl, hl2, hN2⟩
            obtain ⟨s1, s2, s3⟩ := hN2.parts
            obtain ⟨A2, c2, rfl, _, _⟩ := s1.form
            have hm2 : l2.length = (blocksS x).length := by rw [← hl2, List.length_map]
            have hm0 : 0 < l2.length := by
              obtain ⟨a, b, e, _⟩ := blocks_shape x
              rw [hm2, e]
              simp
            have hm62 : l2.length ≤ 62 := by rw [hm2]; exact hxf.1
            have G9 := Lib.hid (HG7.out.below hN2.bo.bel)
            have HS := Lib.hid s1
            have HO1 := Lib.hid (show ∀ y ∈ l2, ∀ u ∈ bkCs y, u.oneCell' = true from fun y hy => by
              obtain ⟨_, _, e1, _⟩ := (s2 y hy).form
              obtain ⟨_, _, e2, _⟩ := (s3 y hy).form
              exact bk_one e1 e2)
            have HP2 := Lib.hid (And.intro (fun y hy => HG7.out.fresh hN2.bo.bel.size (s2 y hy)) (fun y hy => HG7.out.fresh hN2.bo.bel.size (s3 y hy)))
            have HL2 := Lib.hid (show (l ++ l2).map (·.1) = allB2 xs (nos.take (j + 1)) by rw [List.map_append, hl2, HAS.out, HEB.out])
            have hzw9 := G9.out.bel.size
            clear hN2 s1 s2 s3 hl2 hm2 hxf HBL HG7 e0 e1 e2 e3 e4
            go_wp2_with (at_builtin; (refine wpList_appLm (n := 4) (enc := bkCs) (hn := fun _ => rfl) rfl _ _ _ rfl w.heap.size w.heap.size 151 i0 _ 72 Tryz.underlying146 hi0 hz0 hz1 hz2 rfl (by decide) _ (.slice A3 l.length q3) l rfl G9.out.bo l2 HO1.out A2 l2.length c2 rfl HS.out rfl hm0 (by unfold maxLen; omega) (by omega) hzw9 ?_); intro g2 capA wA hownA hgA hatA hltA)
            go_roundw
            case rel => exact ⟨j + 1, l ++ l2, by omega, intNum, HL2, Lib.hid (G9.out.more hownA hgA rfl hatA HP2.out.1 HP2.out.2)⟩
            case measure => simp [intOf]; omega
          | none =>
            have HLV := Lib.hid (show lk (mpC ls k) no = none by rw [HKM.out, hf]; rfl)
            have HEB := Lib.hid (show entB xs no = [blkWrap 0 (no ++ omitS)] by
              have h1 := HFM.out no
              rw [hf] at h1
              unfold entB
              rw [h1]
              rfl)
            clear hf HKM
            have HG7 := Lib.hid (G6.out.alloc (.cells #[.string ⟨#[]⟩, .int .i64 0, .string ⟨#[]⟩, .int .i64 0, .slice none 0 0] 90))
            have hnz := HNZ.out
            have hx1 : ¬ 9223372036854775807 < no.size + (⟨#[32, 79, 77, 73, 84, 84, 69, 68]⟩ : ByteArray).size := by
              have : (⟨#[32, 79, 77, 73, 84, 84, 69, 68]⟩ : ByteArray).size = 8 := rfl
              omega
            have hsz : (no ++ (⟨#[32, 79, 77, 73, 84, 84, 69, 68]⟩ : ByteArray)).size ≤ 1000000 := by
              rw [ByteArray.size_append]
              have : (⟨#[32, 79, 77, 73, 84, 84, 69, 68]⟩ : ByteArray).size = 8 := rfl
              omega
            have HNH := Lib.hid (fun (W : World) => NewHeading_c (no ++ (⟨#[32, 79, 77, 73, 84, 84, 69, 68]⟩ : ByteArray)) W hsz)
            clear hsz hnz
            go_upto_region 16 with (first | (at_lookup; refine wpList_lookup_plain _ rfl _ _ 145 true rfl 9 90 keyMs Tryz.underlying145 (.agg #[.string ⟨#[]⟩, .int .i64 0, .string ⟨#[]⟩, .int .i64 0, .slice none 0 0]) (zeroSc _) M1 (mpC ls k) rfl G6.out.ma no rfl ?_; rw [HLV.out]; simp only [if_true, Option.getD_none, Option.isSome_none]) | fail)
            generalize w6.alloc (.cells #[.string ⟨#[]⟩, .int .i64 0, .string ⟨#[]⟩, .int .i64 0, .slice none 0 0] 90) = w7 at *
            have hx1 : ¬ 9223372036854775807 < no.size + (⟨#[32, 79, 77, 73, 84, 84, 69, 68]⟩ : ByteArray).size := by
              have := HNZ.out
              have : (⟨#[32, 79, 77, 73, 84, 84, 69, 68]⟩ : ByteArray).size = 8 := rfl
              omega
            clear G6
            go_wp2_with fail
            refine (HNH.out w7).mono ?_
            rintro e w9 ⟨v1, rfl, hb9, ho9⟩
            have s2 := ho9.sliF (enc := fun x : ByteArray => [.string x]) (hn := fun _ => rfl) (F := fun q => w7.heap.size ≤ q ∧ q < w9.heap.size) (fun g hg => ho9.block g hg)
            obtain ⟨A2, c2, e2, _, _⟩ := s2.form
            subst e2
            obtain ⟨nw, hnw⟩ : ∃ nw, (wrapT (no ++ (⟨#[32, 79, 77, 73, 84, 84, 69, 68]⟩ : ByteArray)) 60).length = nw := ⟨_, rfl⟩
            have HL2 := Lib.hid (show (l ++ [((blkWrap 0 (no ++ omitS), .slice A2 nw c2, .slice none 0 0) : BkT)]).map (·.1) = allB2 xs (nos.take (j + 1)) by rw [List.map_append, HAS.out, HEB.out]; rfl)
            rw [hnw] at s2 ⊢
            have hal := (Below.refl w9.heap.size w9).alloc (Nat.le_refl _) (.cells #[.int .i64 0, .slice A2 nw c2, .slice none 0 0, .string ⟨#[]⟩] 151)
            have G9 := Lib.hid ((HG7.out.below hb9).alloc (.cells #[.int .i64 0, .slice A2 nw c2, .slice none 0 0, .string ⟨#[]⟩] 151))
            have hs2 := (HG7.out.fresh hb9.size s2).below hal (fun q hq => hq.2.1)
            have HP2 := Lib.hid (hs2.more (G := BQF w (.slice A3 l.length q3) M1 M2 (w9.alloc (.cells #[.int .i64 0, .slice A2 nw c2, .slice none 0 0, .string ⟨#[]⟩] 151))) fun q hq => ⟨hq.1, by have := hq.2.1; have := hal.size; omega, hq.2.2⟩)
            have hzw9 := (HG7.out.below hb9).bel.size
            clear hb9 ho9 s2 hnw hal hs2 HNH HG7 hx1
            go_wp2_with (at_builtin; (refine wpList_pushB (R := bkR) rfl _ _ _ rfl w.heap.size w.heap.size 151 i0 _ 72 Tryz.underlying146 hi0 hz0 hz1 hz2 rfl (by decide) _ (.slice A3 l.length q3) l rfl G9.out.bo ((blkWrap 0 (no ++ omitS), .slice A2 nw c2, .slice none 0 0) : BkT) _ rfl (by intro u hu; simp [bkCs] at hu; rcases hu with rfl | rfl | rfl | rfl <;> rfl) w9.heap.size _ _ (heap_alloc_new w9 _) rfl (by unfold maxLen; omega) (by omega) (by simp; omega) ?_); intro g2 capA wA hownA hgA hatA hltA)
            go_roundw
            case rel => exact ⟨j + 1, l ++ [((blkWrap 0 (no ++ omitS), .slice A2 nw c2, .slice none 0 0) : BkT)], by omega, intNum, HL2, Lib.hid (G9.out.more hownA hgA rfl hatA (fun y hy => by rw [List.mem_singleton.1 hy]; exact HP2.out) (fun y hy => by rw [List.mem_singleton.1 hy]; exact Sli.nil_))⟩
            case measure => simp [intOf]; omega
        · have hjN : j = N := by omega
          subst hjN
          have hall : nos.take j = nos := List.take_of_length_le (by rw [HN.out]; exact Nat.le_refl _)
          have hff := (HFW.out j).2
          rw [hall] at hff
          have hlk := HK.out
          rw [hall] at hlk
          have hmem : ∀ y ∈ l, y.1 ∈ allB2 xs nos := fun y hy => by rw [← hlk]; exact List.mem_map_of_mem hy
          have HLA := Lib.hid (Lay2_c l A3 q3 8500 wr HG.out.bkl (fun y hy => (hff _ (hmem y hy)).1) (fun y hy => (hff _ (hmem y hy)).2.1) (fun y hy => (hff _ (hmem y hy)).2.2) (by decide) (Nat.le_trans (Nat.mul_le_mul_right _ hlb) (by decide)))
          have HLL := Lib.hid hlk
          have HPB := Lib.hid (show (pagesB (l.map (·.1))).length ≤ 600000000 by
            have h1 := (layB_plen (M := 8500) (l.map (·.1)) ([], []) [] (fun b hb => by rw [hlk] at hb; exact (hff b hb).2.2)).1
            dsimp only [List.length_nil] at h1
            have h2 : (l.map (·.1)).length * (8500 + 2) ≤ 62000 * 8502 := Nat.mul_le_mul_right _ (by rw [List.length_map]; exact hlb)
            unfold pagesB
            rw [List.length_append]
            have h3 : (if (layB (l.map (·.1)) [] [] []).2.1 = [] then ([] : List (List ByteArray)) else [(layB (l.map (·.1)) [] [] []).2.1]).length ≤ 1 := by split <;> simp
            omega)
          have HBE := Lib.hid HG.out.bel
          have HMB := Lib.hid HG.out.mb
          clear hall hff hlk hmem HG
          go_wp2_with fail
          refine HLA.out.mono ?_
          rintro e w5 ⟨Ps, pgV, fV, sV, rfl, hPs, hfl, hMR⟩
          obtain ⟨A7, c7, e7⟩ := own_sl (hMR.own (42, Ps.map (·.2), pgV) (by simp))
          obtain ⟨A8, c8, e8⟩ := own_sl (hMR.own (3, frsB (l.map (·.1)), fV) (by simp))
          obtain ⟨A9, c9, e9⟩ := own_sl (hMR.own (3, (layB (l.map (·.1)) [] [] []).2.2.map (fun k : Nat => Value.int .i64 (k : Int)), sV) (by simp))
          dsimp only at e7 e8 e9
          rw [List.length_map] at e7 e9
          rw [layB_len, List.length_map] at e9
          obtain ⟨P, hP⟩ : ∃ P, Ps.length = P := ⟨_, rfl⟩
          have HPL := Lib.hid hP
          rw [hfl, hP] at e8
          rw [hP] at e7
          subst e7
          subst e8
          subst e9
          have hP6 : P ≤ 600000000 := by
            have h1 := HPB.out
            rw [← hPs, List.length_map, hP] at h1
            exact h1
          obtain ⟨zr, hzr2⟩ : ∃ zr, wr.heap.size = zr := ⟨_, rfl⟩
          have hzr3 : w.heap.size ≤ zr := by omega
          have HRP := Lib.hid (show Sli valR w5 (fun q => zr ≤ q ∧ q < w5.heap.size) (Ps.map (·.2)) (.slice A7 P c7) from by
            have ho := hMR.own (42, Ps.map (·.2), .slice A7 P c7) (by simp)
            rw [hzr2] at ho
            exact ho.sliF (enc := fun v : Value => [v]) (hn := fun _ => rfl) (fun g hg => ho.block g hg))
          have HRQ := Lib.hid (show ∀ q ∈ Ps, Sli strR w5 (fun q => zr ≤ q ∧ q < w5.heap.size) q.1 q.2 from fun q hq => by
            have hr := hMR.own (9, q.1.map Value.string, q.2) (by simp only [List.mem_cons, List.mem_map]; exact .inr (.inr (.inr ⟨q, hq, rfl⟩)))
            have hs := Own.strs hr
            rw [hzr2] at hs
            exact hs.sliF (enc := fun x : ByteArray => [.string x]) (hn := fun _ => rfl) (fun g hg => hs.block g hg))
          have HRF := Lib.hid (show Sli valR w5 (fun q => zr ≤ q ∧ q < w5.heap.size) (frsB (l.map (·.1))) (.slice A8 P c8) from by
            have ho := hMR.own (3, frsB (l.map (·.1)), .slice A8 P c8) (by simp)
            rw [hzr2] at ho
            exact ho.sliF (enc := fun v : Value => [v]) (hn := fun _ => rfl) (fun g hg => ho.block g hg))
          have HB5 := Lib.hid (HBE.out.trans (hMR.bel.mono HBE.out.size))
          have HM5 := Lib.hid (HMB.out.below hMR.bel HMB.out.lt)
          have HFL := Lib.hid (show (frsB (l.map (·.1))).length = P by rw [hfl, hP])
          have HPS := Lib.hid hPs
          have hz5 := HB5.out.size
          have hz5r := hMR.size
          have hal := (Below.refl w5.heap.size w5).alloc (Nat.le_refl _) (.cells #[.slice A7 P c7, .slice A8 P c8, .slice A9 l.length c9] 154)
          have HX6 := Lib.hid (heap_alloc_new w5 (.cells #[.slice A7 P c7, .slice A8 P c8, .slice A9 l.length c9] 154))
          have HAL := Lib.hid hal
          have hz56 : w5.heap.size < (w5.alloc (.cells #[.slice A7 P c7, .slice A8 P c8, .slice A9 l.length c9] 154)).heap.size := by simp
          clear hMR hPs hfl hP hal HLA HPB HBE HMB
          go_upto_region 19 with (fail)
          generalize w5.alloc (.cells #[.slice A7 P c7, .slice A8 P c8, .slice A9 l.length c9] 154) = w6 at *
          obtain ⟨gx, _⟩ := str_cells HX6.out
          have x1 : w6.cell? ⟨w5.heap.size, 1, none⟩ = some (.slice A8 P c8) := gx 1
          clear gx
          rw [HLL.out] at HRF HFL HPS
          obtain ⟨fb, hfb2⟩ : ∃ fb, frsB (allB2 xs nos) = fb := ⟨_, rfl⟩
          have HFB := Lib.hid hfb2
          have HFI := Lib.hid (frsB_int (allB2 xs nos))
          rw [hfb2] at HRF HFL HFI
          clear hfb2
          obtain ⟨m2, hm2⟩ : ∃ m2, hdM xs nos j = m2 := ⟨_, rfl⟩
          have HDV := Lib.hid (fun z => hdM_val xs nos j z)
          have HFE := Lib.hid (show frsS xs nos = fb.map fun v => strV (lk m2 (intV v)) by unfold frsS; rw [HFB.out, HN.out, hm2])
          rw [hm2] at HM5 HDV
          clear hm2
          go_wp2
          go_loopw [16, 67] (fun v iv wr => ∃ i : Nat, i ≤ P ∧ iv = .int .i64 i ∧ Hid (BO strR 9 w6 ((fb.take i).map fun v => strV (lk m2 (intV v))) v [] wr)) (fun _ iv _ => P - (intOf iv).toNat)
          case atStart => exact ⟨0, Nat.zero_le _, rfl, BO.start w6⟩
          case round =>
            clear x1
            obtain ⟨i, hi, rfl, HO⟩ := hrel
            have hzo := HO.out.size
            by_cases hlt : i < P
            · have hil : i < fb.length := by rw [HFL.out]; exact hlt
              have hrf := (HRF.out.below HAL.out (fun q hq => hq.2)).below HO.out.bel (fun q hq => by have := hq.2; omega)
              obtain ⟨b, off, rfl, hfb3, c0⟩ := valAt hrf i hil
              obtain ⟨z, hz⟩ := HFI.out _ (List.getElem_mem hil)
              rw [hz] at c0
              have HTK := Lib.hid (show (fb.take (i + 1)).map (fun v => strV (lk m2 (intV v))) = (fb.take i).map (fun v => strV (lk m2 (intV v))) ++ [strV (lk m2 z)] by
                rw [List.take_succ_eq_append_getElem hil, List.map_append, List.map_cons, List.map_nil, hz]
                rfl)
              have hll : ((fb.take i).map fun v => strV (lk m2 (intV v))).length = i := by rw [List.length_map, List.length_take, Nat.min_eq_left (by omega)]
              have HM6 := Lib.hid ((HM5.out.below HAL.out HM5.out.lt).below HO.out.bel (by have := HM5.out.lt; omega))
              have HZ := Lib.hid (HDV.out z)
              generalize strV (lk m2 z) = sz at *
              generalize ((fb.take i).map fun v => strV (lk m2 (intV v))) = acc at *
              obtain ⟨A6, c6, hv6, _, _⟩ := (HO.out.own.sliF (enc := fun x : ByteArray => [.string x]) (hn := fun _ => rfl) (F := fun _ => True) (fun _ _ => trivial)).form
              rw [hll] at hv6
              subst hv6
              have GA := Lib.hid (HO.out.alloc (.cells #[.string sz] 9))
              clear hil hrf hz HO
              go_wp2_with (first | (at_lookup; refine wpList_lookup_plain _ rfl _ _ 147 false rfl 3 9 keyMi Tryz.underlying147 (.string ⟨#[]⟩) (zeroSt _) M2 m2 rfl HM6.out z rfl ?_; simp only [Bool.false_eq_true, if_false]; rw [HZ.out]) | (at_builtin; (refine wpList_pushB (R := strR) rfl _ _ _ rfl w6.heap.size w6.heap.size 9 is _ 16 Tryz.underlying42 his hs0 hs1 hs2 rfl (by decide) _ (.slice A6 i c6) acc rfl GA.out.own sz _ rfl (oneC rfl) wr.heap.size _ _ (heap_alloc_new wr _) rfl (by unfold maxLen; omega) (by omega) (by simp; omega) ?_); intro g cap8 w8 hown8 hg8 hat8 hlt8))
              go_roundw
              case rel =>
                rw [hll] at hown8
                exact ⟨i + 1, by omega, intNum, Lib.hid (by rw [HTK.out]; exact GA.out.more hown8 hg8 rfl hat8)⟩
              case measure => simp [intOf]; omega
            · have hiP : i = P := by omega
              subst hiP
              have hall : fb.take i = fb := List.take_of_length_le (by rw [HFL.out]; exact Nat.le_refl _)
              obtain ⟨gx, _⟩ := str_cells ((HO.out.bel.block w5.heap.size hz56).trans HX6.out)
              have x0 : wr.cell? ⟨w5.heap.size, 0, none⟩ = some (.slice A7 i c7) := gx 0
              have ho := HO.out.own
              rw [hall, ← HFE.out] at ho
              have HR := Lib.hid (show MadP (ls.map (·.1)) nos w (.returned (.tuple #[.slice A7 i c7, u16])) wr from by
                rw [HXS.out]
                have hw6 := HAL.out.size
                have hww := HO.out.bel.size
                have key : ∀ {α : Type} {R : Rep α} (k : List α) z, Sli R w5 (fun q => zr ≤ q ∧ q < w5.heap.size) k z → Sli R wr (fun q => w.heap.size ≤ q ∧ q < wr.heap.size) k z := fun k z hs =>
                  ((hs.below HAL.out (fun q hq => hq.2)).below HO.out.bel (fun q hq => by have := hq.2; omega)).more fun q hq => ⟨by have := hq.1; omega, by have := hq.2; omega⟩
                exact ⟨Ps, _, _, rfl, (HB5.out.trans (HAL.out.mono hz5)).trans (HO.out.bel.mono (by omega)), HPS.out, by rw [HFE.out, List.length_map, HFL.out, HPL.out], by rw [HPL.out]; omega, key _ _ HRP.out, fun q hq => key _ _ (HRQ.out q hq), ho.sliF (enc := fun x : ByteArray => [.string x]) (hn := fun _ => rfl) (fun g hg => by have := ho.block g hg; exact ⟨by omega, this.2⟩)⟩)
              clear gx ho
              go_wp2
              go_ret2
              exact HR.out
end Go.Proofs.YtlmfpaincgkpeaaGreatDoor

/- revise.Lock, walked. -/
namespace Go.Proofs.YtlmfpaincgkpeaaGreatDoor
set_option linter.unusedVariables false
open Go.RowKit Go.Sort

/-- What stays below a place but for one block, beside a list that grows. -/
def KQ (z D : Nat) (w6 W : World) (v : Value) : Prop := z ≤ W.heap.size ∧ ∀ q, q < z → q ≠ D → W.heap[q]? = w6.heap[q]? ∧ v.ownBlock ≠ some q
theorem KQ.below {z D : Nat} {w6 W W' : World} {v : Value} (h : KQ z D w6 W v) (hb : Below W.heap.size W W') : KQ z D w6 W' v :=
  ⟨Nat.le_trans h.1 hb.size, fun q hq hD => ⟨(hb.block q (by have := h.1; omega)).trans (h.2 q hq hD).1, (h.2 q hq hD).2⟩⟩
theorem KQ.alloc {z D : Nat} {w6 W : World} {v : Value} (h : KQ z D w6 W v) (o : Obj) : KQ z D w6 (W.alloc o) v := h.below ((Below.refl _ W).alloc (Nat.le_refl _) o)
theorem KQ.more {z D g : Nat} {w6 W W' : World} {v v' : Value} (h : KQ z D w6 W v) (hg : W.grownBy W' v.ownBlock) (hv : v'.ownBlock = some g) (hat : v.ownBlock = some g ∨ g = W.heap.size) : KQ z D w6 W' v' :=
  ⟨Nat.le_trans h.1 hg.size, fun q hq hD => ⟨(hg.block q (by have := h.1; omega) (fun e => (h.2 q hq hD).2 e.symm)).trans (h.2 q hq hD).1, fun e => by
    rw [hv] at e
    injection e with e
    rcases hat with hat | hat
    · exact (h.2 q hq hD).2 (by rw [hat, e])
    · have := h.1; omega⟩⟩
theorem KQ.set {z D : Nat} {w6 W : World} {v : Value} (h : KQ z D w6 W v) (i : Nat) (u : Value) : KQ z D w6 (W.setCell ⟨D, i, none⟩ u) v :=
  ⟨by have := h.1; simpa [World.setCell] using this, fun q hq hD => ⟨(Below.heap_setCell W ⟨D, i, none⟩ u q (by show q ≠ D; exact hD)).trans (h.2 q hq hD).1, (h.2 q hq hD).2⟩⟩
theorem KQ.sli {z D : Nat} {w6 W : World} {v y : Value} {α : Type} {R : Rep α} {k : List α} {F : Nat → Prop} (h : KQ z D w6 W v) (hs : Sli R w6 F k y) (hF : ∀ q, F q → q < z ∧ q ≠ D) : Sli R W F k y :=
  hs.keep fun q hq => (h.2 q (hF q hq).1 (hF q hq).2).1
/-- A leaf as it lies in a row: its name, its draft, the entry that begins it, its lines' slice. -/
abbrev LfT := ByteArray × Int × ByteArray × Value
def lfC (x : LfT) : List Value := [.string x.1, .int .i64 x.2.1, .string x.2.2.1, x.2.2.2]
def lfR : Rep LfT := Rep.flat 4 lfC (fun _ => rfl)
def itN (i : Nat) : ByteArray := ⟨(Lib.itoa ((i : Int) + 1)).toArray⟩
def lvs (fs : List ByteArray) (Ps : List (List ByteArray × Value)) : Nat → List LfT
  | 0 => []
  | k + 1 => lvs fs Ps k ++ [(itN k, 1, (fs[k]?).getD ⟨#[]⟩, ((Ps[k]?).map (·.2)).getD (.slice none 0 0))]
theorem lvs_len (fs : List ByteArray) (Ps : List (List ByteArray × Value)) : ∀ k, (lvs fs Ps k).length = k
  | 0 => rfl
  | k + 1 => by rw [lvs, List.length_append, lvs_len fs Ps k]; rfl
theorem numL_len (l : List Scene) : ∀ k, (numL k l).length = l.length
  | 0 => rfl
  | k + 1 => by rw [numL, List.length_modify, numL_len l k]
theorem nbS_len (xs : List Scene) : (nbS xs).length = xs.length := by
  unfold nbS
  split
  · exact numL_len _ _
  · unfold cutS
    rw [List.length_modify, List.length_take, List.length_drop]
    omega
def drZ : Array Value := drC 0 ⟨#[]⟩ (.slice none 0 0) (.slice none 0 0) (.slice none 0 0)
/-- The pages of a script whose scenes have numbers, and the first entries of each. -/
def lkPg (xs : List Scene) : List (List ByteArray) := pagesB (allB2 xs (xs.map (·.no)))
def lkFr (xs : List Scene) : List ByteArray := frsS xs (xs.map (·.no))
def lockE (x : Script) : Int := if ¬ chkE x = 0 then chkE x else if ¬ nbE x.scenes = 0 then nbE x.scenes else if 999 < (lkPg (nbS x.scenes)).length then 2 else 0
def LockP (t : ByteArray) (xs : List Scene) (w : World) (e : Ending) (w' : World) : Prop := ∃ d : Value, e = .returned (.tuple #[d, .int .i64 (lockE ⟨t, xs⟩)]) ∧ Below w.heap.size w w' ∧ (¬ lockE ⟨t, xs⟩ = 0 → d = .agg drZ) ∧
  (lockE ⟨t, xs⟩ = 0 → ∃ (sc : List (Scene × Value)) (vS lv : Value) (Ps : List (List ByteArray × Value)), d = .agg (drC 1 t vS (.slice none 0 0) lv) ∧ sc.map (·.1) = nbS xs ∧ Ps.map (·.1) = lkPg (nbS xs) ∧ (lkFr (nbS xs)).length = Ps.length ∧
    Sli svR w' (fun q => w.heap.size ≤ q ∧ q < w'.heap.size) sc vS ∧ (∀ y ∈ sc, Sli paraR w' (fun q => w.heap.size ≤ q ∧ q < w'.heap.size) y.1.paras y.2) ∧ (∀ q ∈ Ps, Sli strR w' (fun q => w.heap.size ≤ q ∧ q < w'.heap.size) q.1 q.2) ∧
    Sli lfR w' (fun q => w.heap.size ≤ q ∧ q < w'.heap.size) (lvs (lkFr (nbS xs)) Ps Ps.length) lv)
theorem lockP_no {t : ByteArray} {xs : List Scene} {w w' : World} {z : Int} (hz : ¬ z = 0) (h : lockE ⟨t, xs⟩ = z) (hb : Below w.heap.size w w') : LockP t xs w (.returned (.tuple #[.agg drZ, .int .i64 z])) w' :=
  ⟨_, by rw [h], hb, fun _ => rfl, fun h2 => absurd (h.symm.trans h2) hz⟩
/-- What a scene's list in memory is to be for the pages of its entries. -/
theorem scl_of {w w' : World} {sc : List (Scene × Value)} {v : Value} {t : ByteArray} (h : BI w sc v [] w') (ht : t.size ≤ 1000000) (hl : sc.length ≤ 91) (hok : ∀ y ∈ sc, LnOk y.1 ∧ y.1.paras.length ≤ 61) : ScL w' (fun q => w.heap.size ≤ q ∧ q < w'.heap.size) t sc v :=
  ⟨h.bo.own.sli (fun b h1 h2 => ⟨h1, h2⟩) (fun g hg => h.bo.own.block g hg), fun y hy => (h.inn y hy).more fun q hq => ⟨hq.1, hq.2.1⟩, fun q hq => hq.2, ht, by omega, fun y hy => by
    have h1 := (hok y hy).1
    have h2 := (hok y hy).2
    have h3 := h1.sizes
    exact ⟨by omega, by omega, by omega, fun p hp => by have := (h1.para hp).1; omega⟩⟩
end Go.Proofs.YtlmfpaincgkpeaaGreatDoor

/- revise.Lock: the walk. -/
namespace Go.Proofs.YtlmfpaincgkpeaaGreatDoor
set_option linter.unusedVariables false
open Go.RowKit Go.Sort

set_option maxRecDepth 100000 in
set_option maxHeartbeats 16000000 in
theorem rvLock_c {F : Nat → Prop} (t : ByteArray) (ls : List (Scene × Value)) (v : Value) (w : World) (h : ScL w F t ls v) (hl : ls.length ≤ 91) (hm : MaxLaid w) (he : ErrsLaid w) (hp : PowLaid w)
    (hN : chkE ⟨t, ls.map (·.1)⟩ = 0 → nbE (ls.map (·.1)) = 0 → (∀ y ∈ nbS (ls.map (·.1)), LnOk y ∧ y.paras.length ≤ 61) ∧ SortsK ((nbS (ls.map (·.1))).map (·.no)) 51) :
    Calls Tryz.prog 18 #[.agg #[.string t, v]] w (LockP t (ls.map (·.1)) w) := by
  obtain ⟨i0, hi0, hz0, hz1, hz2⟩ := info_parts (show (Tryz.prog.info? 92).map (fun i => (i.zero, i.size, i.bytes)) = some (some (.agg #[.string ⟨#[]⟩, .int .i64 0, .string ⟨#[]⟩, .slice none 0 0]), 4, 64) by kernel_rfl)
  obtain ⟨A, c, rfl, hlc, hcm⟩ := h.sli.form
  obtain ⟨L, hL⟩ : ∃ L, ls.length = L := ⟨_, rfl⟩
  have htl := h.tl
  have HSC := Lib.hid (fun (W : World) (hb : Below w.heap.size w W) => h.below hb)
  have HMX := Lib.hid (fun (W : World) (hb : Below w.heap.size w W) => max_below hm hb (Nat.le_refl _))
  have HER := Lib.hid (fun (W : World) (hb : Below w.heap.size w W) => he.below hb (Nat.le_refl _))
  have HPO := Lib.hid (fun (W : World) (hb : Below w.heap.size w W) => pow_below hp hb (Nat.le_refl _))
  obtain ⟨xs, hxs⟩ : ∃ xs, ls.map (·.1) = xs := ⟨_, rfl⟩
  have HXS := Lib.hid hxs
  have HXL := Lib.hid (show xs.length = L by rw [← hxs, List.length_map]; exact hL)
  have HL := Lib.hid hL
  have HCH := Lib.hid (fun (W : World) (hb : Below w.heap.size w W) => show Calls Tryz.prog 56 #[.agg #[.string t, .slice A L c]] W (ChP ⟨t, xs⟩ W) from by
    have h1 := Check_c t ls (.slice A ls.length c) W (h.below hb) (max_below hm hb (Nat.le_refl _))
    rw [hL, hxs] at h1
    exact h1)
  have HNU := Lib.hid (fun (W : World) (hb : Below w.heap.size w W) (hc : chkE ⟨t, xs⟩ = 0) => show Calls Tryz.prog 57 #[.agg #[.string t, .slice A L c]] W (NbP t xs W) from by
    have h1 := rvNumb_c t ls (.slice A ls.length c) W (h.below hb) hl (by rw [hxs]; exact hc) (max_below hm hb (Nat.le_refl _)) (he.below hb (Nat.le_refl _))
    rw [hL, hxs] at h1
    exact h1)
  have HNN := Lib.hid hN
  rw [hxs] at HNN
  rw [hL] at hl hlc ⊢
  rw [hxs]
  have m0 : BO lfR 92 w [] (.slice none 0 0) [(w.heap.size + 1, drZ, 45), (w.heap.size, xCs t (.slice A L c), 40)] ((w.alloc (.cells (xCs t (.slice A L c)) 40)).alloc (.cells drZ 45)) := by
    have h := ((BO.start (R := lfR) (e := 92) w).new (xCs t (.slice A L c)) 40).new drZ 45
    rw [show (w.alloc (.cells (xCs t (.slice A L c)) 40)).heap.size = w.heap.size + 1 by simp] at h
    exact h
  clear h hm he hp hN hL hxs
  go_enter Tryz.func18, Tryz.ntmps18
  go_upto_region 1 with (fail)
  generalize hW : (w.alloc (.cells #[.string t, .slice A L c] 40)).alloc (.cells #[.int .i64 0, .string ⟨#[]⟩, .slice none 0 0, .slice none 0 0, .slice none 0 0] 45) = w1
  have G1 := Lib.hid (show BO lfR 92 w [] (.slice none 0 0) [(w.heap.size + 1, drZ, 45), (w.heap.size, xCs t (.slice A L c), 40)] w1 by rw [← hW]; exact m0)
  clear m0 hW
  have HXC := Lib.hid (fun (W : World) (h : BO lfR 92 w [] (.slice none 0 0) [(w.heap.size + 1, drZ, 45), (w.heap.size, xCs t (.slice A L c), 40)] W) => show (W.cell? ⟨w.heap.size, 0, none⟩ = some (.string t) ∧ W.cell? ⟨w.heap.size, 1, none⟩ = some (.slice A L c)) from
    have a := h.cell (p := (w.heap.size, xCs t (.slice A L c), 40)) (by simp)
    ⟨a.1 0, a.1 1⟩)
  have HRC := Lib.hid (fun (W : World) (hb : W.heap[w.heap.size + 1]? = some (.cells drZ 45 (0, 0))) => show (W.cell? ⟨w.heap.size + 1, 0, none⟩ = some (.int .i64 0) ∧ W.cell? ⟨w.heap.size + 1, 1, none⟩ = some (.string ⟨#[]⟩) ∧ W.cell? ⟨w.heap.size + 1, 2, none⟩ = some (.slice none 0 0) ∧ W.cell? ⟨w.heap.size + 1, 3, none⟩ = some (.slice none 0 0) ∧ W.cell? ⟨w.heap.size + 1, 4, none⟩ = some (.slice none 0 0)) ∧ (W.frozen? ⟨w.heap.size + 1, 0, none⟩ = false ∧ W.frozen? ⟨w.heap.size + 1, 1, none⟩ = false ∧ W.frozen? ⟨w.heap.size + 1, 2, none⟩ = false ∧ W.frozen? ⟨w.heap.size + 1, 3, none⟩ = false ∧ W.frozen? ⟨w.heap.size + 1, 4, none⟩ = false) from
    have a := str_cells hb
    ⟨⟨a.1 0, a.1 1, a.1 2, a.1 3, a.1 4⟩, a.2 0, a.2 1, a.2 2, a.2 3, a.2 4⟩)
  obtain ⟨d0, d1⟩ := HXC.out w1 G1.out
  have HCK := Lib.hid (HCH.out w1 G1.out.bel)
  go_wp2_with fail
  refine HCK.out.mono ?_
  rintro e w2 ⟨rfl, hb2⟩
  have G2 := Lib.hid (G1.out.below hb2)
  clear hb2 G1 d0 d1 HCK HCH
  obtain ⟨d0, d1⟩ := HXC.out w2 G2.out
  obtain ⟨⟨y0, y1, y2, y3, y4⟩, f0, f1, f2, f3, f4⟩ := HRC.out w2 (G2.out.prv (w.heap.size + 1, drZ, 45) (by simp)).1
  obtain ⟨E, hE⟩ : ∃ E, chkE ⟨t, xs⟩ = E := ⟨_, rfl⟩
  have HE := Lib.hid hE
  rw [hE]
  clear hE
  by_cases hE0 : E = 0
  case neg =>
    have q1 : (E == 0) = false := beq_eq_false_iff_ne.2 hE0
    have HNO := Lib.hid (fun (W : World) (hb : Below w.heap.size w W) => lockP_no (t := t) (xs := xs) hE0 (by unfold lockE; rw [HE.out, if_pos hE0]) hb)
    have HB2 := Lib.hid G2.out.bel
    clear hE0 G2 HE HNN HNU
    go_wp2
    refine ⟨rfl, .tuple #[.agg drZ, .int .i64 E], (by rw [results_cell_tmp rfl]; go_simp; rfl), ?_⟩
    refine HNO.out _ ?_
    repeat (first | with_reducible exact HB2.out | with_reducible refine Below.drew ?_ | with_reducible refine Below.setCell ?_ (by dsimp only; omega) _)
  subst hE0
  have HNB := Lib.hid (HNU.out w2 G2.out.bel HE.out)
  clear HNU
  go_wp2_with fail
  refine HNB.out.mono ?_
  rintro e w3 ⟨t', sc, v', rfl, hbi, hnb⟩
  obtain ⟨A5, c5, e5, _, _⟩ := (hbi.bo.own.sli (F := fun _ => True) (fun _ _ _ => trivial) (fun _ _ => trivial)).form
  subst e5
  unfold xCs
  have HBI := Lib.hid hbi
  have HNB2 := Lib.hid hnb
  have G3 := Lib.hid (G2.out.below hbi.bo.bel)
  have hzw2 := G2.out.size
  have hz23 := hbi.bo.bel.size
  clear hbi hnb HNB d0 d1 y0 y1 y2 y3 y4 f0 f1 f2 f3 f4
  obtain ⟨⟨y0, y1, y2, y3, y4⟩, f0, f1, f2, f3, f4⟩ := HRC.out w3 (G3.out.prv (w.heap.size + 1, drZ, 45) (by simp)).1
  have hR2 : w.heap.size + 1 < w2.heap.size := G2.out.plt (p := (w.heap.size + 1, drZ, 45)) (by simp)
  have hR3 : w.heap.size + 1 < w3.heap.size := by omega
  obtain ⟨E, hE⟩ : ∃ E, nbE xs = E := ⟨_, rfl⟩
  have HE2 := Lib.hid hE
  rw [hE] at HNB2 ⊢
  clear hE
  by_cases hE0 : E = 0
  case neg =>
    have q1 : (E == 0) = false := beq_eq_false_iff_ne.2 hE0
    have HNO := Lib.hid (fun (W : World) (hb : Below w.heap.size w W) => lockP_no (t := t) (xs := xs) hE0 (by unfold lockE; rw [if_neg (by rw [HE.out]; decide), HE2.out, if_pos hE0]) hb)
    have HB3 := Lib.hid G3.out.bel
    clear hE0 G2 G3 HE HE2 HNN HNB2 HBI
    go_wp2
    refine ⟨rfl, .tuple #[.agg drZ, .int .i64 E], (by rw [results_cell_tmp rfl]; go_simp; rfl), ?_⟩
    refine HNO.out _ ?_
    repeat (first | with_reducible exact HB3.out | with_reducible refine Below.alloc ?_ (by simp; omega) _ | with_reducible refine Below.drew ?_ | with_reducible refine Below.setCell ?_ (by dsimp only; omega) _)
  subst hE0
  obtain ⟨ht', hsc⟩ := HNB2.out rfl
  have ht2 := ht'.symm
  subst ht2
  clear ht'
  obtain ⟨hok, hso⟩ := HNN.out HE.out HE2.out
  have hscl : sc.length ≤ 91 := by
    have h1 := congrArg List.length hsc
    rw [List.length_map, nbS_len, HXL.out] at h1
    omega
  have HOK := Lib.hid (fun (y : Scene × Value) (hy : y ∈ sc) => hok y.1 (by rw [← hsc]; exact List.mem_map_of_mem hy))
  have HSL := Lib.hid (scl_of HBI.out htl hscl HOK.out)
  have HSO := Lib.hid hso
  have HSN := Lib.hid hsc
  clear HNN HNB2 hok hso hsc G2
  obtain ⟨S, hS⟩ : ∃ S, sc.length = S := ⟨_, rfl⟩
  have HS := Lib.hid hS
  rw [hS] at hscl ⊢
  rw [hS] at HBI HSL
  clear hS
  have hz30 := G3.out.size
  have G4 := Lib.hid (show BO lfR 92 w [] (.slice none 0 0) [(w3.heap.size + 1, drC 1 t (.slice A5 S c5) (.slice none 0 0) (.slice none 0 0), 45), (w.heap.size + 1, drZ, 45)] ((w3.alloc (.cells (xCs t (.slice A5 S c5)) 40)).alloc (.cells (drC 1 t (.slice A5 S c5) (.slice none 0 0) (.slice none 0 0)) 45)) from by
    have h := ((G3.out.less (Q := [(w.heap.size + 1, drZ, 45)]) (by simp)).alloc (.cells (xCs t (.slice A5 S c5)) 40)).new (drC 1 t (.slice A5 S c5) (.slice none 0 0) (.slice none 0 0)) 45
    rw [show (w3.alloc (.cells (xCs t (.slice A5 S c5)) 40)).heap.size = w3.heap.size + 1 by simp] at h
    exact h)
  have HB34 := Lib.hid (show Below w3.heap.size w3 ((w3.alloc (.cells (xCs t (.slice A5 S c5)) 40)).alloc (.cells (drC 1 t (.slice A5 S c5) (.slice none 0 0) (.slice none 0 0)) 45)) from ((Below.refl _ w3).alloc (Nat.le_refl _) _).alloc (by simp) _)
  have hz34 : ((w3.alloc (.cells (xCs t (.slice A5 S c5)) 40)).alloc (.cells (drC 1 t (.slice A5 S c5) (.slice none 0 0) (.slice none 0 0)) 45)).heap.size = w3.heap.size + 2 := by simp
  unfold xCs drC at G4 HB34 hz34
  have HZ34 := Lib.hid hz34
  clear hz34
  obtain ⟨D, hD⟩ : ∃ D, w3.heap.size + 1 = D := ⟨_, rfl⟩
  have hD3 : w3.heap.size < D := by omega
  have hDR : ¬ w.heap.size + 1 = D := by omega
  clear y0 y1 y2 y3 y4 f0 f1 f2 f3 f4 G3
  go_upto_region 8 with (fail)
  generalize (w3.alloc (.cells #[.string t, .slice A5 S c5] 40)).alloc (.cells #[.int .i64 1, .string t, .slice A5 S c5, .slice none 0 0, .slice none 0 0] 45) = w4 at *
  rw [hD] at G4
  have HD := Lib.hid hD
  clear hD
  have hD4 : D < w4.heap.size := by have := HZ34.out; have := HD.out; omega
  have hz34 : w3.heap.size ≤ w4.heap.size := by have := HZ34.out; omega
  have HDC := Lib.hid (fun (W : World) (lv : Value) (hb : W.heap[D]? = some (.cells (drC 1 t (.slice A5 S c5) (.slice none 0 0) lv) 45 (0, 0))) => show (W.cell? ⟨D, 0, none⟩ = some (.int .i64 1) ∧ W.cell? ⟨D, 1, none⟩ = some (.string t) ∧ W.cell? ⟨D, 2, none⟩ = some (.slice A5 S c5) ∧ W.cell? ⟨D, 3, none⟩ = some (.slice none 0 0) ∧ W.cell? ⟨D, 4, none⟩ = some lv) ∧ W.frozen? ⟨D, 4, none⟩ = false from
    have a := str_cells hb
    ⟨⟨a.1 0, a.1 1, a.1 2, a.1 3, a.1 4⟩, a.2 4⟩)
  have HDB := Lib.hid (fun (W : World) (hb : Below w4.heap.size w4 W) => (HDC.out W (.slice none 0 0) ((hb.block D hD4).trans (G4.out.prv (D, #[.int .i64 1, .string t, .slice A5 S c5, .slice none 0 0, .slice none 0 0], 45) (by simp)).1)).1)
  have HSCL := Lib.hid (fun (W : World) (hb : Below w4.heap.size w4 W) => show ScL W (fun q => q < w4.heap.size) t sc (.slice A5 S c5) from by
    have h1 := (HSL.out.below (HB34.out)).below hb
    have h2 := hb.size
    have h3 := HB34.out.size
    exact ⟨h1.sli.more (fun q hq => by have := hq.2; omega), fun y hy => (h1.par y hy).more (fun q hq => by have := hq.2; omega), fun q hq => by omega, h1.tl, h1.len, h1.bd⟩)
  have HB4 := Lib.hid G4.out.bel
  have HEN := Lib.hid (fun (W : World) (hb : Below w4.heap.size w4 W) => show Calls Tryz.prog 59 #[.agg #[.int .i64 1, .string t, .slice A5 S c5, .slice none 0 0, .slice none 0 0]] W (EntP (sc.map (·.1.no)) W) from
    entries_c 1 t sc (.slice A5 S c5) none 0 0 W (HSCL.out W hb) (by rw [HS.out]; exact hscl) (HER.out W (HB4.out.trans (hb.mono HB4.out.size))) (by
      have h1 := HSO.out
      rw [← HSN.out, List.map_map] at h1
      exact h1))
  obtain ⟨ι, ff, hne, hff, hfS⟩ := family (fun W => W.cell? ⟨D, 0, none⟩ = some (.int .i64 1) ∧ W.cell? ⟨D, 1, none⟩ = some (.string t) ∧ W.cell? ⟨D, 2, none⟩ = some (.slice A5 S c5) ∧ W.cell? ⟨D, 3, none⟩ = some (.slice none 0 0) ∧ W.cell? ⟨D, 4, none⟩ = some (.slice none 0 0)) w4 (HDB.out w4 (Below.refl _ _))
  have hneW : Nonempty World := ⟨w⟩
  have s0 := fun p => (hff p).1
  have s1 := fun p => (hff p).2.1
  have s2 := fun p => (hff p).2.2.1
  have s3 := fun p => (hff p).2.2.2.1
  have s4 := fun p => (hff p).2.2.2.2
  have HFS := Lib.hid hfS
  clear hff hfS
  refine wp_region_segs2 [2, 3] [4, 5, 6, 7, 8] [] [([], [0, 1], 2), ([], [], 3)] (by kernel_rfl) (by kernel_rfl) (fun _ _ _ dd _ h => by cases dd <;> exact h) (fun W => ∃ p : ι, W = ff p) (HFS.out _ (HDB.out w4 (Below.refl _ _))) ?_
  refine wpSegs2_step (by simp only [pick, List.getElem?_cons_succ, List.getElem?_cons_zero]; rfl) (by simp only [pick, List.getElem?_cons_succ, List.getElem?_cons_zero]; rfl) rfl (fun K0 hK0 L0 hL0 => ?_)
  repeat (first | go_big_quiet_step (fail) | quiet_step (fail))
  refine wpQuiet_nil (hL0 _ ?_)
  repeat (first | go_big_quiet_step (fail) | quiet_step (fail))
  refine wpQuiet_nil ?_
  go_simp
  refine (HEN.out w4.drew (Below.refl _ w4).drew).mono ?_
  rintro e w5 ⟨A7, c7, rfl, hns, hb5⟩
  have HB5 := Lib.hid (show Below w4.heap.size w4 w5 from (Below.refl _ w4).drew.trans hb5)
  have HNS := Lib.hid hns
  refine hK0 (fun W => ∃ p : ι, W = ff p) _ _ (fun _ h => h) (HFS.out _ (HDB.out _ HB5.out)) ?_
  clear hns hb5 HEN
  have hmn : (sc.map (·.1.no)).length = S := by rw [List.length_map, HS.out]
  have HMD := Lib.hid (show Calls Tryz.prog 58 #[.agg #[.int .i64 1, .string t, .slice A5 S c5, .slice none 0 0, .slice none 0 0], .slice A7 S c7] w5 (MadP (sc.map (·.1)) (sc.map (·.1.no)) w5) from by
    have h1 := rvMade_c (F := fun q => q < w5.heap.size) 1 t sc (.slice A5 S c5) none none 0 0 0 0 (sc.map (·.1.no)) A7 c7 w5 (by
      have h2 := HSCL.out w5 HB5.out
      have h3 := HB5.out.size
      exact ⟨h2.sli.more (fun q hq => by omega), fun y hy => (h2.par y hy).more (fun q hq => by omega), fun q hq => hq, h2.tl, h2.len, h2.bd⟩) (fun y hy => (HOK.out y hy).1) (fun y hy => (HOK.out y hy).2) (by rw [HS.out]; exact hscl) (HNS.out.more fun q hq => hq.2) (fun n hn => by
        obtain ⟨y, hy, rfl⟩ := List.mem_map.1 hn
        have := (HOK.out y hy).1.sizes.1
        omega) (by rw [hmn]; omega)
    rw [hmn] at h1
    exact h1)
  rw [hmn]
  refine wpSegs2_step (by simp only [pick, List.getElem?_cons_succ, List.getElem?_cons_zero]; rfl) (by simp only [pick, List.getElem?_cons_succ, List.getElem?_cons_zero]; rfl) rfl (fun K1 hK1 L1 hL1 => ?_)
  repeat (first | go_big_quiet_step (fail) | quiet_step (fail))
  refine wpQuiet_nil (hL1 _ ?_)
  repeat (first | go_big_quiet_step (fail) | quiet_step (fail))
  refine wpQuiet_nil ?_
  go_simp
  refine HMD.out.mono ?_
  rintro e w6 ⟨Ps, pV, fV, rfl, hb6, hPs, hfl, hP7, hr1, hr2, hr3⟩
  have HB6 := Lib.hid (HB5.out.trans (hb6.mono HB5.out.size))
  refine hK1 (fun W => ∃ p : ι, W = ff p) _ _ (fun _ h => h) (HFS.out _ (HDB.out _ HB6.out)) ?_
  obtain ⟨A8, c8, e8, _, _⟩ := hr1.form
  obtain ⟨A9, c9, e9, _, _⟩ := hr3.form
  subst e8
  subst e9
  obtain ⟨P, hP⟩ : ∃ P, Ps.length = P := ⟨_, rfl⟩
  have hfr : frsS (sc.map (·.1)) (sc.map (·.1.no)) = lkFr (nbS xs) := by
    unfold lkFr
    rw [← HSN.out, List.map_map]
    rfl
  have hpg : pagesB (allB2 (sc.map (·.1)) (sc.map (·.1.no))) = lkPg (nbS xs) := by
    unfold lkPg
    rw [← HSN.out, List.map_map]
    rfl
  rw [hfr] at hfl hr3 ⊢
  rw [hpg] at hPs
  obtain ⟨fs, hfs⟩ : ∃ fs, lkFr (nbS xs) = fs := ⟨_, rfl⟩
  have HFN := Lib.hid hfs
  rw [hfs] at hfl hr3 ⊢
  have HPS := Lib.hid hPs
  have HPL := Lib.hid hP
  have HFL := Lib.hid (hfl.trans hP)
  have HR1 := Lib.hid hr1
  have HR2 := Lib.hid hr2
  have HR3 := Lib.hid hr3
  have HPX := Lib.hid (show (lkPg (nbS xs)).length = P by rw [← hPs, List.length_map, hP])
  rw [hfl, hP, List.length_map, hP]
  rw [hP] at hP7
  have hz56 := hb6.size
  have hz45 := HB5.out.size
  have G6 := Lib.hid (G4.out.below HB6.out)
  clear HMD s0 s1 s2 s3 s4 HFS hr1 hr2 hr3 hfl hP hPs hfr hpg hfs hb6 G4 HNS hmn
  refine wpSegs2_fin (by simp only [pick, List.getElem?_cons_succ, List.getElem?_cons_zero]; rfl) (by simp only [pick, List.getElem?_cons_succ, List.getElem?_cons_zero]; rfl) (fun L2 hL2 => ?_)
  repeat (first | go_big_quiet_step (fail) | quiet_step (fail))
  refine wpQuiet_nil (hL2 _ ?_)
  repeat (first | go_big_quiet_step (fail) | quiet_step (fail))
  refine wpQuiet_nil ?_
  obtain ⟨⟨y0, y1, y2, y3, y4⟩, f0, f1, f2, f3, f4⟩ := HRC.out w6 (G6.out.prv (w.heap.size + 1, drZ, 45) (by simp)).1
  by_cases h999 : 999 < P
  · have HNO := Lib.hid (fun (W : World) (hb : Below w.heap.size w W) => lockP_no (t := t) (xs := xs) (z := 2) (by decide) (by unfold lockE; rw [if_neg (by rw [HE.out]; decide), if_neg (by rw [HE2.out]; decide), if_pos (by rw [HPX.out]; exact h999)]) hb)
    have HB7 := Lib.hid G6.out.bel
    have hi : (999 : Int) < (P : Int) := by omega
    have hR6 : w.heap.size + 1 < w6.heap.size := by omega
    clear G6 HE HE2
    go_wp2
    refine ⟨rfl, .tuple #[.agg drZ, .int .i64 2], (by rw [results_cell_tmp rfl]; go_simp; rfl), ?_⟩
    refine HNO.out _ ?_
    repeat (first | with_reducible exact HB7.out | with_reducible refine Below.drew ?_ | with_reducible refine Below.setCell ?_ (by dsimp only; omega) _)
  have hi : ¬ (999 : Int) < (P : Int) := by omega
  clear y0 y1 y2 y3 y4 f0 f1 f2 f3 f4
  have HK6 := Lib.hid (show KQ w6.heap.size D w6 w6 (.slice none 0 0) from ⟨Nat.le_refl _, fun q hq hD => ⟨rfl, fun e => by cases e⟩⟩)
  have hD5 : D < w5.heap.size := by omega
  go_wp2
  go_loopw [42] (fun iv wr => ∃ (i : Nat) (lv : Value), i ≤ P ∧ iv = .int .i64 i ∧ Hid (BO lfR 92 w (lvs fs Ps i) lv [(D, #[.int .i64 1, .string t, .slice A5 S c5, .slice none 0 0, lv], 45), (w.heap.size + 1, drZ, 45)] wr) ∧ Hid (KQ w6.heap.size D w6 wr lv)) (fun iv _ => P - (intOf iv).toNat)
  case atStart => exact ⟨0, _, Nat.zero_le _, rfl, G6, HK6⟩
  case round =>
    clear G6 HK6
    obtain ⟨i, lv, hi2, rfl, HO, HK⟩ := hrel
    have hll := lvs_len fs Ps i
    obtain ⟨A6, c6, hv6, _, _⟩ := (HO.out.own.sliF (enc := lfC) (hn := fun _ => rfl) (F := fun _ => True) (fun _ _ => trivial)).form
    rw [hll] at hv6
    subst hv6
    have hzo := HO.out.size
    by_cases hlt : i < P
    · have hil : i < Ps.length := by rw [HPL.out]; exact hlt
      have hif : i < fs.length := by rw [HFL.out]; exact hlt
      obtain ⟨bp, op, rfl, hbp, c0⟩ := valAt (HK.out.sli HR1.out (fun q hq => ⟨hq.2, by have := hq.1; omega⟩)) i (by rw [List.length_map]; exact hil)
      obtain ⟨bf, of, rfl, hbf, c1⟩ := strAt HR3.out i hif
      obtain ⟨A10, c10, e10, _, _⟩ := (HR2.out _ (List.getElem_mem hil)).form
      rw [List.getElem_map, e10] at c0
      have HST := Lib.hid (show lvs fs Ps (i + 1) = lvs fs Ps i ++ [(itN i, 1, fs[i]'hif, .slice A10 (Ps[i]'hil).1.length c10)] by
        rw [lvs, List.getElem?_eq_getElem hif, List.getElem?_eq_getElem hil, Option.map_some, e10]
        rfl)
      have HFC := Lib.hid (fun (W : World) (v : Value) (hk : KQ w6.heap.size D w6 W v) => show W.cell? ⟨bf, of + i, none⟩ = some (.string (fs[i]'hif)) from
        (World.cell?_of_block (a := ⟨bf, of + i, none⟩) (hk.2 bf hbf.2 (by have := hbf.1; omega)).1).trans c1)
      generalize fs[i]'hif = f at *
      generalize (Ps[i]'hil).1.length = n10 at *
      generalize lvs fs Ps i = acc at *
      clear c1 e10 hil hif
      have HDS := Lib.hid (fun (W : World) (l2 : List LfT) (v : Value) (hb : BO lfR 92 w l2 v [(D, #[.int .i64 1, .string t, .slice A5 S c5, .slice none 0 0, .slice A6 i c6], 45), (w.heap.size + 1, drZ, 45)] W) => show W.cell? ⟨D, 4, none⟩ = some (.slice A6 i c6) ∧ W.frozen? ⟨D, 4, none⟩ = false from
        have a := str_cells (hb.prv (D, #[.int .i64 1, .string t, .slice A5 S c5, .slice none 0 0, .slice A6 i c6], 45) (by simp)).1
        ⟨a.1 4, a.2 4⟩)
      go_upto_region 14 with (fail)
      clear c0
      obtain ⟨ι, ff, hne, hff, hfS⟩ := family (fun W => W.cell? ⟨D, 4, none⟩ = some (.slice A6 i c6) ∧ W.cell? ⟨bf, of + i, none⟩ = some (.string f)) wr ⟨(HDS.out _ _ _ HO.out).1, HFC.out _ _ HK.out⟩
      have hneW : Nonempty World := ⟨w⟩
      have s0 := fun p => (hff p).1
      have s1 := fun p => (hff p).2
      have HFS := Lib.hid hfS
      clear hff hfS
      refine wp_region_segs2 [4, 11, 12] [] [] [([0, 2, 3, 5, 6, 7, 9], [1, 8], 4), ([10], [], 11), ([], [], 12), ([13], [], 14)] (by kernel_rfl) (by kernel_rfl) (fun _ _ _ dd _ h => by cases dd <;> exact h) (fun W => ∃ p : ι, W = ff p) (HFS.out _ ⟨(HDS.out _ _ _ HO.out).1, HFC.out _ _ HK.out⟩) ?_
      refine wpSegs2_step (by simp only [pick, List.getElem?_cons_succ, List.getElem?_cons_zero]; rfl) (by simp only [pick, List.getElem?_cons_succ, List.getElem?_cons_zero]; rfl) rfl (fun K0 hK0 L0 hL0 => ?_)
      repeat (first | go_big_quiet_step (fail) | quiet_step (fail))
      refine wpQuiet_nil (hL0 _ ?_)
      repeat (first | go_big_quiet_step (fail) | quiet_step (fail))
      refine wpQuiet_nil ?_
      go_simp
      refine (itoa_c ((i : Int) + 1) wr.drew ⟨by omega, by omega⟩ (HPO.out _ HO.out.bel.drew)).mono ?_
      rintro e w7 ⟨rfl, hb7⟩
      have G7 := Lib.hid (HO.out.drew.below hb7)
      have K7 := Lib.hid ((HK.out.below (Below.refl _ wr).drew).below hb7)
      have hz7 := G7.out.size
      refine hK0 (fun W => ∃ p : ι, W = ff p) _ _ (fun _ h => h) (HFS.out _ ⟨(HDS.out _ _ _ G7.out).1, HFC.out _ _ K7.out⟩) ?_
      clear hb7 HO HK
      refine wpSegs2_step (by simp only [pick, List.getElem?_cons_succ, List.getElem?_cons_zero]; rfl) (by simp only [pick, List.getElem?_cons_succ, List.getElem?_cons_zero]; rfl) rfl (fun K1 hK1 L1 hL1 => ?_)
      repeat (first | go_big_quiet_step (fail) | quiet_step (fail))
      refine wpQuiet_nil (hL1 _ ?_)
      repeat (first | go_big_quiet_step (fail) | quiet_step (fail))
      refine wpQuiet_nil ?_
      go_simp
      have G8 := Lib.hid (G7.out.alloc (.cells #[.string (itN i), .int .i64 1, .string f, .slice A10 n10 c10] 92))
      have K8 := Lib.hid (K7.out.alloc (.cells #[.string (itN i), .int .i64 1, .string f, .slice A10 n10 c10] 92))
      have HNEW := Lib.hid (heap_alloc_new w7 (.cells #[.string (itN i), .int .i64 1, .string f, .slice A10 n10 c10] 92))
      have hz8 : w.heap.size ≤ (w7.alloc (.cells #[.string (itN i), .int .i64 1, .string f, .slice A10 n10 c10] 92)).heap.size := G8.out.size
      refine hK1 (fun W => ∃ p : ι, W = ff p) _ _ (fun _ h => h) (HFS.out _ ⟨(HDS.out _ _ _ G8.out).1, HFC.out _ _ K8.out⟩) ?_
      clear G7 K7
      refine wpSegs2_step (by simp only [pick, List.getElem?_cons_succ, List.getElem?_cons_zero]; rfl) (by simp only [pick, List.getElem?_cons_succ, List.getElem?_cons_zero]; rfl) rfl (fun K2 hK2 L2 hL2 => ?_)
      repeat (first | go_big_quiet_step (fail) | quiet_step (fail))
      refine wpQuiet_nil (hL2 _ ?_)
      repeat (first | go_big_quiet_step (fail) | quiet_step (fail))
      refine wpQuiet_nil ?_
      refine oper_push (R := lfR) rfl _ _ _ rfl w.heap.size w.heap.size 92 i0 _ 64 Tryz.underlying43 hi0 hz0 hz1 hz2 rfl (by decide) _ (.slice A6 i c6) acc rfl G8.out.own ((itN i, 1, f, .slice A10 n10 c10) : LfT) _ rfl (by intro u hu; simp [lfC] at hu; rcases hu with rfl | rfl | rfl | rfl <;> rfl) w7.heap.size _ _ HNEW.out rfl (by rw [hll]; unfold maxLen; omega) (by rw [hll]; omega) hz8 ?_
      intro g cap8 w8 hown8 hg8 hat8 hlt8
      have G9 := Lib.hid (G8.out.more hown8 hg8 rfl hat8)
      have K9 := Lib.hid (K8.out.more (v' := .slice (some ⟨g, 0, none⟩) (acc.length + 1) cap8) hg8 rfl hat8)
      refine hK2 (fun W => ∃ p : ι, W = ff p) _ _ (fun _ h => h) (HFS.out _ ⟨(HDS.out _ _ _ G9.out).1, HFC.out _ _ K9.out⟩) ?_
      have f8 := (HDS.out _ _ _ G9.out).2
      have c8 := (HDS.out _ _ _ G9.out).1
      rw [hll] at G9 K9 ⊢
      have GA := Lib.hid (G9.out.set (i := 4) (fun h => h) (.slice (some ⟨g, 0, none⟩) (i + 1) cap8) (fun p hp => by rw [List.mem_singleton.1 hp]; exact hDR))
      have KA := Lib.hid (K9.out.set 4 (.slice (some ⟨g, 0, none⟩) (i + 1) cap8))
      clear hown8 hg8 hat8 hlt8 G8 K8 G9 K9 HNEW
      refine wpSegs2_last (by simp only [pick, List.getElem?_cons_succ, List.getElem?_cons_zero]; rfl) (by simp only [pick, List.getElem?_cons_succ, List.getElem?_cons_zero]; rfl) rfl (by rfl) (fun K3 hK3 L3 hL3 => ?_)
      repeat (first | go_big_quiet_step (fail) | quiet_step (fail))
      refine wpQuiet_nil (hL3 _ ?_)
      repeat (first | go_big_quiet_step (fail) | quiet_step (fail))
      refine wpQuiet_nil ?_
      go_simp
      refine hK3 _ _ (wpSegs2_end ?_)
      clear s0 s1 f8 c8 hz8
      go_wp2
      go_roundw
      case rel => exact ⟨i + 1, _, by omega, intNum, Lib.hid (by rw [HST.out]; exact GA.out), KA⟩
      case measure => simp [intOf]; omega
    · have hiP : i = P := by omega
      subst hiP
      obtain ⟨⟨z0, z1, z2, z3, z4⟩, _⟩ := HDC.out wr _ (HO.out.prv (D, #[.int .i64 1, .string t, .slice A5 S c5, .slice none 0 0, .slice A6 i c6], 45) (by simp)).1
      obtain ⟨⟨y0, y1, y2, y3, y4⟩, f0, f1, f2, f3, f4⟩ := HRC.out wr (HO.out.prv (w.heap.size + 1, drZ, 45) (by simp)).1
      have hR6 : w.heap.size + 1 < wr.heap.size := HO.out.plt (p := (w.heap.size + 1, drZ, 45)) (by simp)
      have hlk : lockE ⟨t, xs⟩ = 0 := by
        unfold lockE
        rw [if_neg (by rw [HE.out]; decide), if_neg (by rw [HE2.out]; decide), if_neg (by rw [HPX.out]; exact h999)]
      have HLK := Lib.hid hlk
      have HEND := Lib.hid (fun (W : World) (hW : ∀ q, q ≠ w.heap.size + 1 → W.heap[q]? = wr.heap[q]?) (hz : wr.heap.size ≤ W.heap.size) (hb : Below w.heap.size w W) => show LockP t xs w (.returned (.tuple #[.agg (drC 1 t (.slice A5 S c5) (.slice none 0 0) (.slice A6 i c6)), .int .i64 0])) W from by
        have hzk := HK.out.1
        have h34 := HB34.out.size
        have hs3 := (HSL.out.below HB34.out).below HB6.out
        refine ⟨_, by rw [HLK.out], hb, fun h => absurd HLK.out h, fun _ => ⟨sc, _, _, Ps, rfl, HSN.out, HPS.out, by rw [HFN.out, HFL.out, HPL.out], ?_, fun y hy => ?_, fun q hq => ?_, ?_⟩⟩
        · exact ((HK.out.sli hs3.sli (fun q hq => by have := hq.2; omega)).keep fun q hq => hW q (by have := hq.1; omega)).more fun q hq => ⟨by have := hq.1; omega, by have := hq.2; omega⟩
        · exact ((HK.out.sli (hs3.par y hy) (fun q hq => by have := hq.2; omega)).keep fun q hq => hW q (by have := hq.1; omega)).more fun q hq => ⟨by have := hq.1; omega, by have := hq.2; omega⟩
        · exact ((HK.out.sli (HR2.out q hq) (fun q hq => ⟨hq.2, by have := hq.1; omega⟩)).keep fun q hq => hW q (by have := hq.1; omega)).more fun q hq => ⟨by have := hq.1; omega, by have := hq.2; omega⟩
        · have ho := HO.out.own
          rw [HFN.out, HPL.out]
          exact ((ho.sliF (enc := lfC) (hn := fun _ => rfl) (F := fun q => w.heap.size ≤ q ∧ q < wr.heap.size ∧ q ≠ w.heap.size + 1) (fun g hg => ⟨(ho.block g hg).1, (ho.block g hg).2, fun e => (HO.out.prv (w.heap.size + 1, drZ, 45) (by simp)).2.2 (by rw [hg, e])⟩)).keep fun q hq => hW q hq.2.2).more fun q hq => ⟨hq.1, by have := hq.2; omega⟩)
      have HBW := Lib.hid HO.out.bel
      clear hlk HO HK
      go_wp2
      refine ⟨rfl, .tuple #[.agg (drC 1 t (.slice A5 S c5) (.slice none 0 0) (.slice A6 i c6)), .int .i64 0], (by rw [results_cell_tmp rfl]; go_simp; rfl), ?_⟩
      refine HEND.out _ (fun q hq => ?_) ?_ ?_
      · simp only [Below.heap_setCell _ ⟨w.heap.size + 1, _, none⟩ _ q hq]
      · simp
      · repeat (first | with_reducible exact HBW.out | with_reducible refine Below.drew ?_ | with_reducible refine Below.setCell ?_ (by dsimp only; omega) _)
end Go.Proofs.YtlmfpaincgkpeaaGreatDoor

/- The gate of the laws of drafts: a small script is locked, and a number found. -/
namespace Go.Proofs.YtlmfpaincgkpeaaGreatDoor
set_option linter.unusedVariables false
open Go.RowKit Go.Sort

def dX : Scene := ⟨⟨#[]⟩, 1, ⟨#[72, 65, 76, 76]⟩, 1, []⟩
def dY : Scene := ⟨⟨#[49]⟩, 1, ⟨#[72, 65, 76, 76]⟩, 1, []⟩
theorem dX_nbE : nbE [dX] = 0 := by rfl
theorem dX_nbS : nbS [dX] = [dY] := by kernel_rfl
theorem dX_chk : chkE ⟨⟨#[84]⟩, [dX]⟩ = 0 := by rfl
theorem dY_pg : (lkPg [dY]).length = 1 := by kernel_rfl
theorem dY_fr : lkFr [dY] = [⟨#[49]⟩] := by kernel_rfl
theorem dX_lock : lockE ⟨⟨#[84]⟩, [dX]⟩ = 0 := by
  unfold lockE
  rw [if_neg (by rw [dX_chk]; decide), if_neg (by show ¬ ¬ nbE [dX] = 0; rw [dX_nbE]; decide), if_neg (by show ¬ 999 < (lkPg (nbS [dX])).length; rw [dX_nbS, dY_pg]; decide)]
theorem dY_ok : LnOk dY := ⟨⟨.inr (by kernel_rfl), by decide, by decide, by kernel_rfl, by kernel_rfl⟩, by decide⟩
theorem lfAt {w : World} {F : Nat → Prop} {l : List LfT} {A : Option Addr} {n c : Nat} (h : Sli lfR w F l (.slice A n c)) (k : Nat) (hk : k < l.length) : ∃ b off, A = some ⟨b, off, none⟩ ∧ F b ∧ w.cell? ⟨b, off + k * 4, none⟩ = some (.string l[k].1) ∧ w.cell? ⟨b, off + k * 4 + 1, none⟩ = some (.int .i64 l[k].2.1) ∧ w.cell? ⟨b, off + k * 4 + 2, none⟩ = some (.string l[k].2.2.1) ∧ w.cell? ⟨b, off + k * 4 + 3, none⟩ = some l[k].2.2.2 := by
  obtain ⟨b, off, a, e, hb, hr, hc⟩ := h.at_ k hk
  have ha : a = lfC l[k] := hr
  subst ha
  exact ⟨b, off, e, hb, hc 0 _ rfl, hc 1 _ rfl, hc 2 _ rfl, hc 3 _ rfl⟩
set_option maxRecDepth 100000 in
set_option maxHeartbeats 8000000 in
theorem drafts_c (w : World) (hm : MaxLaid w) (he : ErrsLaid w) (hp : PowLaid w) : Calls Tryz.prog 15 #[] w fun e w' => e = .returned (.bool true) ∧ Below w.heap.size w w' := by
  have HB1 := Lib.hid ((Below.refl w.heap.size w).alloc (Nat.le_refl _) (.cells #[.string ⟨#[]⟩, .int .i64 1, .string ⟨#[72, 65, 76, 76]⟩, .int .i64 1, .slice none 0 0] 90))
  have hz1 : w.heap.size < (w.alloc (.cells #[.string ⟨#[]⟩, .int .i64 1, .string ⟨#[72, 65, 76, 76]⟩, .int .i64 1, .slice none 0 0] 90)).heap.size := by simp
  have HS := Lib.hid (show ScL (w.alloc (.cells #[.string ⟨#[]⟩, .int .i64 1, .string ⟨#[72, 65, 76, 76]⟩, .int .i64 1, .slice none 0 0] 90)) (fun q => q = w.heap.size) ⟨#[84]⟩ [(dX, .slice none 0 0)] (.slice (some ⟨w.heap.size, 0, none⟩) 1 1) from
    ⟨Sli.new (R := svR) (cs := [.string ⟨#[]⟩, .int .i64 1, .string ⟨#[72, 65, 76, 76]⟩, .int .i64 1, .slice none 0 0]) 90 1 (Lay.one (R := svR) (x := (dX, .slice none 0 0)) rfl) rfl (Nat.le_refl _) (by decide), fun y hy => by rw [List.mem_singleton.1 hy]; exact Sli.nil_, fun q hq => by rw [show q = _ from hq]; exact hz1, by decide, by decide, fun y hy => by
      rw [List.mem_singleton.1 hy]
      exact ⟨by decide, by decide, by decide, fun p hp => by cases hp⟩⟩)
  have HER := Lib.hid (fun (W : World) (hb : Below w.heap.size w W) => he.below hb (Nat.le_refl _))
  have HLK := Lib.hid (rvLock_c ⟨#[84]⟩ [(dX, .slice none 0 0)] (.slice (some ⟨w.heap.size, 0, none⟩) 1 1) _ HS.out (by decide) (max_below hm HB1.out (Nat.le_refl _)) (HER.out _ HB1.out) (pow_below hp HB1.out (Nat.le_refl _)) (fun _ _ => by
    show (∀ y ∈ nbS [dX], LnOk y ∧ y.paras.length ≤ 61) ∧ SortsK ((nbS [dX]).map (·.no)) _
    rw [dX_nbS]
    exact ⟨fun y hy => by rw [List.mem_singleton.1 hy]; exact ⟨dY_ok, by decide⟩, sorts1 _ _ (by decide)⟩))
  clear hm he hp HS
  go_enter Tryz.func15, Tryz.ntmps15
  go_upto_region 1 with (fail)
  go_wp2_with fail
  refine HLK.out.mono ?_
  rintro e w2 ⟨d, rfl, hb2, _, hd⟩
  obtain ⟨sc, vS, lv, Ps, rfl, hsc, hPs, hfl, hq1, _, _, hlv⟩ := hd dX_lock
  have HB2 := Lib.hid (HB1.out.trans (hb2.mono HB1.out.size))
  rw [show lockE ⟨⟨#[84]⟩, [((dX, .slice none 0 0) : Scene × Value)].map (·.1)⟩ = 0 from dX_lock]
  obtain ⟨A5, c5, e5, _, _⟩ := hq1.form
  subst e5
  have hP : Ps.length = 1 := by
    have h1 := congrArg List.length hPs
    rw [List.length_map] at h1
    rw [h1]
    show (lkPg (nbS [dX])).length = 1
    rw [dX_nbS]
    exact dY_pg
  have hfs : lkFr (nbS ([((dX, .slice none 0 0) : Scene × Value)].map (·.1))) = [⟨#[49]⟩] := by
    show lkFr (nbS [dX]) = _
    rw [dX_nbS]
    exact dY_fr
  rw [hfs, hP] at hlv
  obtain ⟨A6, c6, e6, _, _⟩ := hlv.form
  subst e6
  obtain ⟨b, off, e7, hb, _, _, q2, _⟩ := lfAt hlv 0 (by rw [lvs_len]; decide)
  subst e7
  have q2' : w2.cell? ⟨b, off + 2, none⟩ = some (.string ⟨#[49]⟩) := by
    have h1 : (lvs [⟨#[49]⟩] Ps 1)[0]'(by rw [lvs_len]; decide) = (itN 0, 1, ⟨#[49]⟩, ((Ps[0]?).map (·.2)).getD (.slice none 0 0)) := rfl
    rw [h1] at q2
    simpa using q2
  rw [lvs_len]
  unfold drC
  have HBW := Lib.hid (HB2.out.alloc HB2.out.size (.cells #[.int .i64 1, .string ⟨#[84]⟩, .slice A5 sc.length c5, .slice none 0 0, .slice (some ⟨b, off, none⟩) 1 c6] 45))
  have hq : Hid (∀ W, Below (w2.alloc (.cells #[.int .i64 1, .string ⟨#[84]⟩, .slice A5 sc.length c5, .slice none 0 0, .slice (some ⟨b, off, none⟩) 1 c6] 45)).heap.size (w2.alloc (.cells #[.int .i64 1, .string ⟨#[84]⟩, .slice A5 sc.length c5, .slice none 0 0, .slice (some ⟨b, off, none⟩) 1 c6] 45)) W → W.cell? ⟨w2.heap.size, 4, none⟩ = some (.slice (some ⟨b, off, none⟩) 1 c6) ∧ W.cell? ⟨b, off + 2, none⟩ = some (.string ⟨#[49]⟩)) := Lib.hid fun W hx => by
    obtain ⟨yy, _⟩ := str_cells ((hx.block w2.heap.size (by simp)).trans (heap_alloc_new w2 _))
    refine ⟨yy 4, ?_⟩
    rw [hx.cell (p := ⟨b, off + 2, none⟩) (by have := hb.2; simp; omega), World.cell?_alloc_lt w2 _ ⟨b, off + 2, none⟩ hb.2]
    exact q2'
  have HBT := Lib.hid (Between12_c (w2.alloc (.cells #[.int .i64 1, .string ⟨#[84]⟩, .slice A5 sc.length c5, .slice none 0 0, .slice (some ⟨b, off, none⟩) 1 c6] 45)) (HER.out _ HBW.out))
  clear q2 q2' hlv hq1 hfs hP hPs hfl hsc hd hb hb2 HLK
  go_upto_region 2 with (fail)
  generalize w2.alloc (.cells #[.int .i64 1, .string ⟨#[84]⟩, .slice A5 sc.length c5, .slice none 0 0, .slice (some ⟨b, off, none⟩) 1 c6] 45) = w3 at *
  go_wp2_with fail
  refine HBT.out.mono ?_
  rintro e w4 ⟨rfl, hb4⟩
  obtain ⟨z4, z2⟩ := hq.out w4 hb4
  have HB4 := Lib.hid (HBW.out.trans (hb4.mono HBW.out.size))
  clear hb4 HBT
  go_wp2
  go_ret
  exact ⟨rfl, HB4.out⟩
end Go.Proofs.YtlmfpaincgkpeaaGreatDoor

