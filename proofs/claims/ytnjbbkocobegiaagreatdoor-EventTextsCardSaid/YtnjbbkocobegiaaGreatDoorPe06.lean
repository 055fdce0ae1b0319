/- Texts packed: CodeT. -/
import Derived.Test.YtnjbbkocobegiaaGreatDoorRows
import Derived.Test.YtnjbbkocobegiaaGreatDoorPe04
import Derived.Test.YtnjbbkocobegiaaGreatDoorPe01
import Derived.Test.YtnjbbkocobegiaaGreatDoorPe05
/- The program's reader of codes. -/
namespace Go.Proofs.YtnjbbkocobegiaaGreatDoor
set_option linter.unusedVariables false
open Go.RowKit Go.Sort

def FourL (w : World) (B : Nat) (l : List Int) : Prop := l.length = 4 ∧ ∃ T, w.heap[B]? = some (.cells (l.map (Value.int .i64)).toArray T (0, 0))
theorem FourL.cell {w : World} {B : Nat} {l : List Int} (h : FourL w B l) (k : Nat) (hk : k < l.length) : w.cell? ⟨B, k, none⟩ = some (.int .i64 l[k]) ∧ w.frozen? ⟨B, k, none⟩ = false := by
  obtain ⟨_, T, h⟩ := h
  obtain ⟨hc, hf⟩ := str_cells h
  exact ⟨by rw [hc]; simp [hk], hf _⟩
theorem FourL.set {w : World} {B : Nat} {l : List Int} (h : FourL w B l) (k : Nat) (v : Int) : FourL (w.setCell ⟨B, k, none⟩ (.int .i64 v)) B (l.set k v) := by
  obtain ⟨h4, T, h⟩ := h
  refine ⟨by simpa using h4, T, ?_⟩
  rw [setBlk _ h]
  simp [List.map_set]
theorem FourL.drewN {w : World} {B : Nat} {l : List Int} (h : FourL w B l) (n : Nat) : FourL (w.drewN n) B l := h
theorem four_eq {l : List Int} (h : l.length = 4) : ∃ a b c d, l = [a, b, c, d] := by
  match l, h with
  | [a, b, c, d], _ => exact ⟨a, b, c, d, rfl⟩
def fourOk (s : ByteArray) (k : Nat) (l : List Int) : Prop := ∀ j, j < k → okPair s j ∧ l[j]? = some (nAt s j)
theorem fourOk.next {s : ByteArray} {k : Nat} {l : List Int} (h : fourOk s k l) (hk : k < l.length) (hp : okPair s k) : fourOk s (k + 1) (l.set k (nAt s k)) := by
  intro j hj
  by_cases e : j = k
  · subst e; exact ⟨hp, by simp [hk]⟩
  · obtain ⟨a, b⟩ := h j (by omega)
    exact ⟨a, by rw [List.getElem?_set_ne (by omega)]; exact b⟩

def readR (r : Int) (s : ByteArray) (e : Ending) : Prop := ∃ v ok, e = .returned (.tuple #[.int .i64 v, .bool ok]) ∧ readP r s v ok
theorem readR.of {r v : Int} {s : ByteArray} {ok : Bool} {e : Ending} (h : readP r s v ok) (he : e = .returned (.tuple #[.int .i64 v, .bool ok])) : readR r s e := ⟨v, ok, he, h⟩
set_option maxRecDepth 100000 in
set_option maxHeartbeats 4000000 in
theorem readCode_c (r : Int) (s : ByteArray) (w : World) (hr : isRateB r = true) (hs : s.size ≤ 140737488355328) :
    Calls Tryz.prog 113 #[.int .i64 r, .string s] w fun e w' => readR r s e ∧ Below w.heap.size w w' := by
  have HR := Lib.hid hr
  by_cases h11 : s.size = 11
  · go_enter Tryz.func113, Tryz.ntmps113
    go_wp2
    go_loopw [15] (fun i wr => ∃ (k : Nat) (l : List Int), k ≤ 4 ∧ i = .int .i64 k ∧ Below w.heap.size w wr ∧ w.heap.size < wr.heap.size ∧ Hid (FourL wr w.heap.size l) ∧ Hid (fourOk s k l)) (fun i _ => 4 - (intOf i).toNat)
    case atStart => exact ⟨0, [0, 0, 0, 0], by omega, rfl, (Below.refl _ _).alloc (Nat.le_refl _) _, by simp, ⟨rfl, _, heap_alloc_new w _⟩, fun j hj => absurd hj (by omega)⟩
    case round =>
      obtain ⟨k, l, hk, rfl, hb, hlt, HF, HO⟩ := hrel
      by_cases hk4 : k < 4
      · have h3 : 3 * k < s.size := by omega
        have h31 : 3 * k + 1 < s.size := by omega
        obtain ⟨x, hx⟩ : ∃ x : Nat, s[3 * k].toNat = x := ⟨_, rfl⟩
        obtain ⟨y, hy⟩ : ∃ y : Nat, s[3 * k + 1].toNat = y := ⟨_, rfl⟩
        have HX := Lib.hid (show bt s (3 * k) = x by rw [bt_of h3, ← hx])
        have HY := Lib.hid (show bt s (3 * k + 1) = y by rw [bt_of h31, ← hy])
        have hx8 : x < 256 := by rw [← hx]; exact s[3 * k].toNat_lt
        have hy8 : y < 256 := by rw [← hy]; exact s[3 * k + 1].toNat_lt
        have hkl : k < l.length := by rw [HF.out.1]; exact hk4
        have p1 : IntKind.i64.wrap (3 * (k : Int)) = 3 * (k : Int) := IntWalk.i64_in _ (by omega)
        have p2 : IntKind.i64.wrap (3 * (k : Int) + 1) = 3 * (k : Int) + 1 := IntWalk.i64_in _ (by omega)
        have p3 : (0 : Int) ≤ 3 * (k : Int) := by omega
        have p4 : (0 : Int) ≤ 3 * (k : Int) + 1 := by omega
        have p5 : (3 * (k : Int)).toNat = 3 * k := by omega
        have p6 : (3 * (k : Int) + 1).toNat = 3 * k + 1 := by omega
        have p7 : 3 * (k : Int) < (s.size : Int) := by omega
        have p8 : 3 * (k : Int) + 1 < (s.size : Int) := by omega
        have H11 := Lib.hid h11; clear h11
        by_cases hc : 48 ≤ x ∧ x ≤ 57 ∧ 48 ≤ y ∧ y ≤ 57
        · obtain ⟨c0, f0⟩ := HF.out.cell k hkl
          have HN := Lib.hid (show nAt s k = 10 * ((x : Int) - 48) + ((y : Int) - 48) by unfold nAt; rw [HX.out, HY.out])
          have HP := Lib.hid (show okPair s k by unfold okPair isDg; rw [HX.out, HY.out]; omega)
          have q1 : ((x : Int) - 48) % 256 = (x : Int) - 48 := by omega
          have q2 : ((y : Int) - 48) % 256 = (y : Int) - 48 := by omega
          have q3 : IntKind.i64.wrap (10 * ((x : Int) - 48)) = 10 * ((x : Int) - 48) := IntWalk.i64_in _ (by omega)
          have q4 : IntKind.i64.wrap (10 * ((x : Int) - 48) + ((y : Int) - 48)) = 10 * ((x : Int) - 48) + ((y : Int) - 48) := IntWalk.i64_in _ (by omega)
          go_wp2
          go_quiet (fail)
          go_wp2
          go_roundw
          case rel => exact ⟨k + 1, _, by omega, by simp, (below_drewN hb _).setCell (Nat.le_refl _) _, by show _ < (World.setCell _ _ _).heap.size; simpa [World.setCell] using hlt, (HF.out.drewN _).set k (10 * ((x : Int) - 48) + ((y : Int) - 48)), by have := HO.out.next hkl HP.out; rw [HN.out] at this; exact this⟩
          case measure => simp [intOf]; omega
        · have HZ := Lib.hid (readP_none hr (s := s) (.inr ⟨k, by omega, by unfold okPair isDg; rw [HX.out, HY.out]; omega⟩) 0)
          go_wp2
          go_quiet (fail)
          go_wp2
          all_goals
            go_ret2
            exact ⟨.of HZ.out rfl, below_drewN hb _⟩
      · obtain rfl : k = 4 := by omega
        obtain ⟨h4, _⟩ := HF.out
        obtain ⟨a, b, c, d, rfl⟩ := four_eq h4
        have o0 := HO.out 0 (by omega)
        have o1 := HO.out 1 (by omega)
        have o2 := HO.out 2 (by omega)
        have o3 := HO.out 3 (by omega)
        simp at o0 o1 o2 o3
        have ha := nAt_bd o0.1
        have hb1 := nAt_bd o1.1
        have hc := nAt_bd o2.1
        have hd := nAt_bd o3.1
        rw [← o0.2] at ha; rw [← o1.2] at hb1; rw [← o2.2] at hc; rw [← o3.2] at hd
        have HE := Lib.hid (And.intro o0.2 (And.intro o1.2 (And.intro o2.2 o3.2)))
        clear o0 o1 o2 o3 h4
        have c0 := (HF.out.cell 0 (by simp)).1
        have c1 := (HF.out.cell 1 (by simp)).1
        have c2 := (HF.out.cell 2 (by simp)).1
        have c3 := (HF.out.cell 3 (by simp)).1
        simp only [List.getElem_cons_zero, List.getElem_cons_succ] at c0 c1 c2 c3
        obtain ⟨g, hg⟩ : ∃ g : Int, countedN r = g := ⟨_, rfl⟩
        have hg2 : g = 24 ∨ g = 25 ∨ g = 30 := by rw [← hg]; rcases rate_cases HR.out with rfl | rfl | rfl | rfl <;> decide
        have HG := Lib.hid hg; clear hg
        have HV := Lib.hid (show frameOf r (nAt s 0) (nAt s 1) (nAt s 2) (nAt s 3) = (60 * (60 * a + b) + c) * g + d - dropN r (60 * a + b) by
          obtain ⟨e1, e2, e3, e4⟩ := HE.out
          rw [← e1, ← e2, ← e3, ← e4]; unfold frameOf; rw [HG.out])
        go_wp2
        obtain ⟨m, hm⟩ : ∃ m : Int, 60 * a + b = m := ⟨_, rfl⟩
        have hm0 : 0 ≤ m ∧ m ≤ 6039 := by omega
        rw [hm]
        obtain ⟨z, hz⟩ : ∃ z : Int, (60 * m + c) * g = z := ⟨_, rfl⟩
        have hz0 : 0 ≤ z ∧ z ≤ 100000000 := by rw [← hz]; rcases hg2 with h | h | h <;> rw [h] <;> omega
        have q3 : IntKind.i64.wrap (60 * m) = 60 * m := IntWalk.i64_in _ (by omega)
        have q4 : IntKind.i64.wrap (60 * m + c) = 60 * m + c := IntWalk.i64_in _ (by omega)
        have q5 : IntKind.i64.wrap ((60 * m + c) * g) = z := by rw [hz]; exact IntWalk.i64_in _ (by omega)
        have q6 : IntKind.i64.wrap (z + d) = z + d := IntWalk.i64_in _ (by omega)
        have HM := Lib.hid hm; clear hm
        have HZ := Lib.hid hz; clear hz
        clear ha hb1
        go_quiet ((go_at_call 108; exact quietL ((counted_c _ _ HR.out).mono fun _ _ h => ⟨by rw [h.1, HG.out], h.2⟩)))
        clear q3 q4 q5 q6
        have HF2 := Lib.hid (show frameOf r (nAt s 0) (nAt s 1) (nAt s 2) (nAt s 3) = z + d - dropN r m by rw [HV.out, HM.out, HZ.out])
        have hzd : 0 ≤ z + d ∧ z + d ≤ 100000099 := by omega
        clear HV c0 c1 c2 c3 hd hc hg2 HF HO
        have hbb := Lib.hid hb
        have hbz := hb.size
        have fr_lt : framesN r ≤ 2592000 := (frames_bd HR.out).2
        by_cases h4 : r = 4
        · have HV := Lib.hid (show z + d - 2 * (m - m / 10) = frameOf r (nAt s 0) (nAt s 1) (nAt s 2) (nAt s 3) by rw [HF2.out]; unfold dropN; rw [if_pos h4])
          clear HF2 fr_lt
          subst h4
          have e3 : framesN 4 = 2589408 := rfl
          by_cases c0 : 0 ≤ z + d - 2 * (m - m / 10)
          · by_cases c1 : z + d - 2 * (m - m / 10) < 2589408
            · have HP := Lib.hid (readP_some (r := 4) (ok := ((codeS 4 (z + d - 2 * (m - m / 10))).toList == s.toList)) HR.out HV.out (by rw [beqS]; simp [c0, c1, e3]; try (intros; omega)))
              have c0' : 2 * (m - m / 10) ≤ z + d := by omega
              go_wp2_with fail
              refine (frames_c 4 _ HR.out).mono ?_
              rintro e w' ⟨rfl, rfl⟩
              go_wp2_with fail
              refine (code_c 4 _ _ HR.out c0 (by rw [e3]; exact c1)).mono ?_
              rintro e w2 ⟨rfl, hb2⟩
              have HB := Lib.hid ((below_drewN hbb.out _).trans (hb2.mono hbz))
              go_wp2
              go_ret2
              exact ⟨.of HP.out rfl, HB.out⟩
            · have HP := Lib.hid (readP_some (ok := false) HR.out HV.out (by simp; intros; omega))
              have c0' : 2 * (m - m / 10) ≤ z + d := by omega
              have c1' : 2589408 ≤ z + d - 2 * (m - m / 10) := by omega
              go_wp2_with fail
              refine (frames_c 4 _ HR.out).mono ?_
              rintro e w' ⟨rfl, rfl⟩
              go_wp2
              go_ret2
              exact ⟨.of HP.out rfl, below_drewN hb _⟩
          · have HP := Lib.hid (readP_some (ok := false) HR.out HV.out (by simp; intros; omega))
            have c0' : z + d < 2 * (m - m / 10) := by omega
            go_wp2
            go_ret2
            exact ⟨.of HP.out rfl, below_drewN hb _⟩
        · have HV := Lib.hid (show z + d = frameOf r (nAt s 0) (nAt s 1) (nAt s 2) (nAt s 3) by rw [HF2.out]; unfold dropN; rw [if_neg h4]; omega)
          clear HF2
          by_cases c0 : 0 ≤ z + d
          · by_cases c1 : z + d < framesN r
            · have HP := Lib.hid (readP_some (r := r) (ok := ((codeS r (z + d)).toList == s.toList)) HR.out HV.out (by rw [beqS]; simp [c0, c1]))
              go_wp2_with fail
              refine (frames_c r _ HR.out).mono ?_
              rintro e w' ⟨rfl, rfl⟩
              go_wp2_with fail
              refine (code_c r _ _ HR.out c0 c1).mono ?_
              rintro e w2 ⟨rfl, hb2⟩
              have HB := Lib.hid ((below_drewN hbb.out _).trans (hb2.mono hbz))
              go_wp2
              go_ret2
              exact ⟨.of HP.out rfl, HB.out⟩
            · have HP := Lib.hid (readP_some (ok := false) HR.out HV.out (by simp; intros; omega))
              have c1' : framesN r ≤ z + d := by omega
              go_wp2_with fail
              refine (frames_c r _ HR.out).mono ?_
              rintro e w' ⟨rfl, rfl⟩
              go_wp2
              go_ret2
              exact ⟨.of HP.out rfl, below_drewN hb _⟩
          · exfalso; omega
  · have HZ := Lib.hid (readP_none hr (.inl h11) 0)
    go_enter Tryz.func113, Tryz.ntmps113
    go_wp2
    go_ret2
    exact ⟨.of HZ.out rfl, Below.refl _ _⟩
end Go.Proofs.YtnjbbkocobegiaaGreatDoor

