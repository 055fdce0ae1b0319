/- Texts packed: BetwW. -/
import Derived.Test.YtodlfdfkhdfblaaGreatDoorTn01
import Derived.Test.YtodlfdfkhdfblaaGreatDoorTn16
import Derived.Test.YtodlfdfkhdfblaaGreatDoorTn02
import Derived.Deep.DeepCutAuto
import Derived.RegionTactic
/- The reference's numbers between two others: that they end, and how long the text is. -/
namespace Go.Proofs.YtodlfdfkhdfblaaGreatDoor
set_option linter.unusedVariables false
open Go.RowKit Go.Sort

def CapsP (w : World) (e : Ending) (w' : World) : Prop := ∃ (z : ByteArray) (b : Bool), e = .returned (.tuple #[.string z, .bool b]) ∧ z.size ≤ 5 ∧ Below w.heap.size w w'
set_option maxRecDepth 100000 in
set_option maxHeartbeats 4000000 in
theorem nextCapitals_c (s : ByteArray) (n : Nat) (w : World) (hs : s.size ≤ 10000) (h1 : 1 ≤ n) (h5 : n ≤ 5) : Calls Tryz.prog 117 #[.string s, .int .i64 n] w (CapsP w) := by
  have qc : ∀ (w : World) (s : ByteArray), (convert 9 128 (.string s)).run Tryz.prog w = .ok (.slice (some ⟨w.heap.size, 0, none⟩) s.size (grownCap w s.size 0 5)) (Lib.bytesWorld w 5 s) := fun w s => Lib.run_convert_string_bytes w _ _ _ s Tryz.underlying9 Tryz.underlying128 Tryz.underlying5
  by_cases hc : s.size < n
  · obtain ⟨c, hcd⟩ : ∃ c : Nat, c = n - s.size - 1 := ⟨_, rfl⟩
    have e1 : IntKind.i64.wrap (IntKind.i64.wrap ((n : Int) - (s.size : Int)) - 1) = (c : Int) := by
      rw [IntWalk.i64_in _ (show -9223372036854775808 ≤ (n : Int) - (s.size : Int) ∧ (n : Int) - (s.size : Int) ≤ 9223372036854775807 by omega), IntWalk.i64_in _ (by omega)]; omega
    have e2 : (n : Int) - (s.size : Int) - 1 = (c : Int) := by omega
    have HC := Lib.hid hcd
    have hc5 : c ≤ 5 := by omega
    clear hcd
    go_enter Tryz.func117, Tryz.ntmps117
    go_wp2_with fail
    refine (Tryz.strings_Repeat ⟨#[65]⟩ c _ (by omega) (by show 1 * c ≤ _; omega)).mono ?_
    rintro e w2 ⟨rfl, hb2⟩
    generalize hW : (⟨(Lib.repeatL (⟨#[65]⟩ : ByteArray).data.toList _).toArray⟩ : ByteArray) = Y
    have hYs : Y.size = c := by rw [← hW]; show ((Lib.repeatL [65] _).toArray).size = c; rw [List.size_toArray, Lib.repeatL_length]; simp
    clear hW
    go_wp2
    go_ret2
    exact ⟨_, _, rfl, by rw [ByteArray.size_append, ByteArray.size_append]; show s.size + Y.size + 1 ≤ 5; have := HC.out; omega, hb2⟩
  · have hz : (s.extract 0 n).size = n := by rw [ByteArray.size_extract]; omega
    have hN : ¬ (s.size : Int) < n := by omega
    go_enter Tryz.func117, Tryz.ntmps117
    go_upto_region 4 with (fail)
    generalize hW : Lib.bytesWorld w 5 (s.extract 0 n) = wB
    have H0 := Lib.hid (show ByB w wB w.heap.size n by have h := ByB.start w w 5 (s.extract 0 n) (Below.refl _ _); rw [hW, hz] at h; exact h)
    generalize grownCap w n 0 5 = cp
    clear hW
    go_wp2
    go_loopw [7] (fun i wr => ∃ k : Nat, k ≤ n ∧ i = .int .i64 ((k : Int) - 1) ∧ wr = wB) (fun i _ => (intOf i + 1).toNat)
    case atStart => exact ⟨n, Nat.le_refl _, rfl, rfl⟩
    case round =>
      obtain ⟨k, hk, rfl, rfl⟩ := hrel
      by_cases hk0 : k = 0
      · subst hk0
        go_wp2
        go_ret2
        exact ⟨_, _, rfl, by decide, H0.out.2.1⟩
      · obtain ⟨j, rfl⟩ : ∃ j, k = j + 1 := ⟨k - 1, by omega⟩
        have ej : ((j + 1 : Nat) : Int) - 1 = (j : Int) := by omega
        rw [ej]
        obtain ⟨x, hx0, hx1, hxc, hxf⟩ := H0.out.at_ j (by omega)
        by_cases hx : x < 90
        · have ex : IntKind.u8.wrap (x + 1) = x + 1 := by simp [IntKind.wrap, IntKind.bits]; omega
          have H1 := Lib.hid (H0.out.set j (by omega) (x + 1) (by omega) (by omega))
          go_wp2
          go_loopw [8] (fun i wx => ∃ q : Nat, q ≤ n ∧ i = .int .i64 (q : Int) ∧ Hid (ByB w wx w.heap.size n)) (fun i _ => n - (intOf i).toNat)
          case atStart => exact ⟨j + 1, by omega, by simp, H1⟩
          case round =>
            clear H1 hxc hxf
            obtain ⟨q, hq, rfl, HQ⟩ := hrel
            by_cases hqn : q < n
            · obtain ⟨y, hy0, hy1, hyc, hyf⟩ := HQ.out.at_ q hqn
              have H2 := Lib.hid (HQ.out.set q hqn 65 (by omega) (by omega))
              go_wp2
              go_roundw
              case rel => exact ⟨q + 1, by omega, intNum, H2⟩
              all_goals (try (simp [intOf] <;> omega))
            · obtain ⟨m, rfl⟩ : ∃ m, n = m + 1 := ⟨n - 1, by omega⟩
              have em : ((m + 1 : Nat) : Int) - 1 = (m : Int) := by omega
              obtain ⟨y, hy0, hy1, hyc, hyf⟩ := HQ.out.at_ m (by omega)
              by_cases hy : y = 65
              · subst hy
                have H2 := Lib.hid (HQ.out.set m (by omega) 66 (by omega) (by omega))
                obtain ⟨z, hz2, hzr⟩ := H2.out.str Tryz.prog 128 9 5 cp Tryz.underlying128 Tryz.underlying5 Tryz.underlying9
                go_wp2
                go_ret2
                exact ⟨_, _, rfl, by omega, H2.out.2.1⟩
              · obtain ⟨z, hz2, hzr⟩ := HQ.out.str Tryz.prog 128 9 5 cp Tryz.underlying128 Tryz.underlying5 Tryz.underlying9
                go_wp2
                go_ret2
                exact ⟨_, _, rfl, by omega, HQ.out.2.1⟩
        · go_wp2
          go_roundw
          case rel => exact ⟨j, by omega, rfl, by trivial⟩
          all_goals (try (simp [intOf] <;> omega))

/-- The first of some numbers that is not 0. -/
def orI (l : List Int) : Int := (l.find? (fun x => decide (x ≠ 0))).getD 0
set_option maxHeartbeats 1000000 in
theorem orI_c (A : Option Addr) (l : List Int) (c lo : Nat) (w : World) (hr : Rs w lo w.heap.size 1 intc A l) (hl : l.length ≤ 1000000) : Calls Tryz.prog 162 #[.slice A l.length c] w (fun e w' => e = .returned (.int .i64 (orI l)) ∧ w' = w) := by
  have HR := Lib.hid hr
  clear hr
  go_enter Tryz.func162, Tryz.ntmps162
  go_wp2
  go_loop [8, 5] (fun i _ => ∃ k : Nat, k ≤ l.length ∧ i = .int .i64 k ∧ Hid (∀ x ∈ l.take k, decide (x ≠ 0) = false)) (fun i _ => l.length - (intOf i).toNat)
  case atStart => exact ⟨0, by omega, rfl, Lib.hid (by simp)⟩
  case round =>
    obtain ⟨k, hk, rfl, HX⟩ := hrel
    by_cases hlt : k < l.length
    · obtain ⟨b, off, rfl, hb0, hb, hcell⟩ := HR.out.at1 (enc1 := .int .i64) hlt
      by_cases h0 : l[k] = 0
      · rw [h0] at hcell
        go_wp2
        go_round
        case rel => exact ⟨k + 1, by omega, intNum, Lib.hid (take_next (q := fun x => decide (x ≠ 0) = false) hlt HX.out (by simp [h0]))⟩
        all_goals (try (simp [intOf] <;> omega))
      · have HV := Lib.hid (show orI l = l[k] by unfold orI; rw [List.find?_eq_some_iff_getElem.2 ⟨by simpa using h0, k, hlt, rfl, fun j hj => by have := HX.out l[j] (by rw [List.mem_take_iff_getElem]; exact ⟨j, by omega, rfl⟩); simpa using this⟩]; rfl)
        generalize l[k] = z at *
        go_wp2
        go_ret
        exact ⟨by rw [HV.out]; rfl, rfl⟩
    · have HV := Lib.hid (show orI l = 0 by unfold orI; rw [List.find?_eq_none.2 (fun x hx => by have := take_all (q := fun x => decide (x ≠ 0) = false) hlt HX.out x hx; simpa using this)]; rfl)
      go_wp2
      go_ret
      exact ⟨by rw [HV.out]; rfl, rfl⟩

def anyI (w : World) (e : Ending) (w' : World) : Prop := ∃ z : Int, e = .returned (.int .i64 z) ∧ Below w.heap.size w w'
set_option maxRecDepth 100000 in
set_option maxHeartbeats 2000000 in
theorem NumbersOrder_any (a b : ByteArray) (w : World) (ha : a.size ≤ 10000) (hb : b.size ≤ 10000) (hl : ErrsLaid w) : Calls Tryz.prog 118 #[.string a, .string b] w (anyI w) := by
  have HL := Lib.hid hl
  clear hl
  go_enter Tryz.func118, Tryz.ntmps118
  go_wp2_with fail
  refine (halved_c a _ (by omega)).mono ?_
  rintro e w1 ⟨rfl, hb1⟩
  have HB1 := Lib.hid hb1
  clear hb1
  have hk1 := numK_le a
  generalize hA1 : a.extract 0 (numK a) = a1
  generalize hA2 : a.extract (numK a) a.size = a2
  have z1 : a1.size ≤ 10000 := by rw [← hA1, ByteArray.size_extract]; omega
  have z2 : a2.size ≤ 10000 := by rw [← hA2, ByteArray.size_extract]; omega
  clear hA1 hA2
  go_wp2_with fail
  refine (halved_c b _ (by omega)).mono ?_
  rintro e w2 ⟨rfl, hb2⟩
  have HB2 := Lib.hid (HB1.out.trans (hb2.mono HB1.out.size))
  clear hb2 HB1
  have hk2 := numK_le b
  generalize hA1 : b.extract 0 (numK b) = b1
  generalize hA2 : b.extract (numK b) b.size = b2
  have z3 : b1.size ≤ 10000 := by rw [← hA1, ByteArray.size_extract]; omega
  have z4 : b2.size ≤ 10000 := by rw [← hA2, ByteArray.size_extract]; omega
  clear hA1 hA2
  go_wp2_with fail
  refine (atoi_c a1 _ (by omega) (HL.out.below HB2.out (Nat.le_refl _))).mono ?_
  rintro e w3 ⟨n3, v3, h3, rfl, hb3⟩
  have HB3 := Lib.hid (HB2.out.trans (hb3.mono HB2.out.size))
  clear hb3 HB2 h3
  go_wp2_with fail
  refine (atoi_c b1 _ (by omega) (HL.out.below HB3.out (Nat.le_refl _))).mono ?_
  rintro e w4 ⟨n4, v4, h4, rfl, hb4⟩
  have HB4 := Lib.hid (HB3.out.trans (hb4.mono HB3.out.size))
  clear hb4 HB3 h4
  go_wp2_with fail
  have hcc := Tryz.cmp_Compare_int n3 n4 w4
  with_reducible refine hcc.mono ?_
  clear hcc
  rintro e w5 ⟨rfl, rfl⟩
  go_wp2_with fail
  have hcc := Tryz.strings_Compare a2 b2 w5
  with_reducible refine hcc.mono ?_
  clear hcc
  rintro e w6 ⟨rfl, rfl⟩
  generalize Lib.compareInt n3 n4 = p
  generalize Lib.compareBytes _ _ = q
  go_wp2_with fail
  refine (orI_c (some ⟨w6.heap.size, 0, none⟩) [p, q] 2 0 _ (Rs.more (Rs.new1 w6 [p, q] (.int .i64) _ _ (Nat.le_refl _)) (Nat.zero_le _) (by simp)) (by simp)).mono ?_
  rintro e w7 ⟨rfl, rfl⟩
  go_wp2
  go_ret
  exact ⟨_, rfl, HB4.out.alloc HB4.out.size _⟩
end Go.Proofs.YtodlfdfkhdfblaaGreatDoor

