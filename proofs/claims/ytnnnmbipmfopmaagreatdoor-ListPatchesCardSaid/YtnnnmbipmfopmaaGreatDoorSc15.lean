/- Texts packed: StoryB, NmA. -/
import Derived.Test.YtnnnmbipmfopmaaGreatDoorSc14
import Derived.Test.YtnnnmbipmfopmaaGreatDoorSc01
import Derived.Deep.RegionLaw
import Derived.Test.YtnnnmbipmfopmaaGreatDoorSc04
import Derived.Test.YtnnnmbipmfopmaaGreatDoorSc02
import Derived.Deep.DeepCutAuto
/- The generator's scenes. -/
namespace Go.Proofs.YtnnnmbipmfopmaaGreatDoor
set_option linter.unusedVariables false
open Go.RowKit Go.Sort

theorem results_cell1 {fn : Func} {p : Tmp} {ty : TypeId} (h : fn.results = #[.cell p ty]) (tmps : Array Value) (P : Program) (w : World) : (results fn tmps).run P w = ((asAddr (tmps.getD p undef)).run P w).andThen fun a w₁ => (loadVar ty a).run P w₁ := by
  simp only [results, h]
  simp [Sem.run_bind, Result.andThen]
end Go.Proofs.YtnnnmbipmfopmaaGreatDoor

/- Numbers of scenes compared, exactly: R.NumbersOrder, revise.compare. -/
namespace Go.Proofs.YtnnnmbipmfopmaaGreatDoor
set_option linter.unusedVariables false
open Go.RowKit Go.Sort

/-- The number that Atoi hands back, whatever the text. -/
def atoiV (s : ByteArray) : Int := match Lib.atoiAll s.data.toList with
  | .ok v => v
  | .range => Lib.atoiSat s.data.toList
  | _ => 0
theorem atoi_e (s : ByteArray) (w : World) (hs : s.size ≤ 140737488355328) (hl : ErrsLaid w) : Calls Tryz.prog 95 #[.string s] w (fun e w' => ∃ ev, e = .returned (.tuple #[.int .i64 (atoiV s), ev]) ∧ Below w.heap.size w w') := by
  obtain ⟨⟨t1, p1, h1⟩, ⟨t2, p2, h2⟩, _, _⟩ := hl
  unfold atoiV
  cases h : Lib.atoiAll s.data.toList
  case ok v =>
    refine (Any.strconv_Atoi_ok Tryz.laysC172 s (by omega) v h w).mono ?_
    rintro e w' ⟨he, hw⟩
    refine ⟨_, he, ?_⟩
    rcases hw with rfl | ⟨t, rfl⟩
    · exact Below.refl _ _
    · exact Joins.below_bytesWorld _ _ _ _ (Nat.le_refl _)
  · refine (Any.strconv_Atoi_syntax Tryz.laysC172 s (by omega) h _ w h1 (.inr ⟨_, _, rfl⟩)).mono ?_
    rintro e w' ⟨N, he, _, _, hb⟩
    exact ⟨_, he, hb⟩
  · refine (Any.strconv_Atoi_range Tryz.laysC172 s (by omega) h _ w h2 (.inr ⟨_, _, rfl⟩)).mono ?_
    rintro e w' ⟨N, he, _, _, hb⟩
    exact ⟨_, he, hb⟩
/-- The order of numbers of scenes. -/
def numD (s : ByteArray) : ByteArray := s.extract 0 (numK s)
def numC (s : ByteArray) : ByteArray := s.extract (numK s) s.size
def cmpN (a b : ByteArray) : Int := orI [Lib.compareInt (atoiV (numD a)) (atoiV (numD b)), Lib.compareBytes (numC a).data.toList (numC b).data.toList]
theorem numD_size (s : ByteArray) : (numD s).size ≤ s.size := by
  have := numK_le s
  unfold numD
  rw [ByteArray.size_extract]; omega
def CmpP (z : Int) (w : World) (e : Ending) (w' : World) : Prop := e = .returned (.int .i64 z) ∧ Below w.heap.size w w'
def ParP (s : ByteArray) (w : World) (e : Ending) (w' : World) : Prop := e = .returned (.agg #[.int .i64 (atoiV (numD s)), .string (numC s)]) ∧ Below w.heap.size w w'
set_option maxRecDepth 100000 in
set_option maxHeartbeats 2000000 in
theorem parse_c (s : ByteArray) (w : World) (hs : s.size ≤ 10000) (hl : ErrsLaid w) : Calls Tryz.prog 61 #[.string s] w (ParP s w) := by
  have HL := Lib.hid hl
  have HB := Lib.hid ((Below.refl w.heap.size w).alloc (Nat.le_refl _) (.cells #[.int .i64 0, .string ⟨#[]⟩] 115))
  have HX := Lib.hid (heap_alloc_new w (.cells #[.int .i64 0, .string ⟨#[]⟩] 115))
  clear hl
  go_enter Tryz.func61, Tryz.ntmps61
  go_upto_region 1 with (fail)
  generalize w.alloc (.cells #[.int .i64 0, .string ⟨#[]⟩] 115) = w1 at *
  go_wp2
  go_loopw [3] (fun iv wr => ∃ k : Nat, k ≤ s.size ∧ iv = .int .i64 k ∧ wr = w1 ∧ Hid (∀ x ∈ s.data.toList.take k, digB x = true)) (fun iv _ => s.size - (intOf iv).toNat)
  case atStart => exact ⟨0, Nat.zero_le _, rfl, rfl, Lib.hid (fun x hx => by simp at hx)⟩
  case round =>
    obtain ⟨k, hk, rfl, rfl, HK⟩ := hrel
    obtain ⟨d, hd1, hd2⟩ : ∃ d : Bool, (d = true → ∃ hlt : k < s.size, digB (s[k]'hlt) = true) ∧ (d = false → ∀ hlt : k < s.size, digB (s[k]'hlt) = false) := by
      by_cases hlt : k < s.size
      · exact ⟨digB (s[k]'hlt), fun h => ⟨hlt, h⟩, fun h _ => h⟩
      · exact ⟨false, (fun h => by cases h), fun _ h => absurd h hlt⟩
    have HD1 := Lib.hid hd1
    have HD2 := Lib.hid hd2
    clear hd1 hd2
    go_upto_region 2 with (fail)
    go_cut [21] (fun cv wx => cv = .bool d ∧ wx = wr)
    case first =>
      by_cases hlt : k < s.size
      · have hdd : digB (s[k]'hlt) = d := by
          cases h : d with
          | true => exact (HD1.out h).2
          | false => exact HD2.out h hlt
        have hlt2 : (k : Int) < (s.size : Int) := by omega
        by_cases c1 : 48 ≤ (s[k]'hlt).toNat
        · by_cases c2 : (s[k]'hlt).toNat ≤ 57
          · have HDD := Lib.hid (show d = true by rw [← hdd]; simp [digB, c1, c2])
            have c1' : (48 : Int) ≤ ((s[k]'hlt).toNat : Int) := by omega
            have c2' : ((s[k]'hlt).toNat : Int) ≤ 57 := by omega
            clear hdd
            go_wp2
            go_meet
            exact ⟨by rw [HDD.out], rfl⟩
          · have HDD := Lib.hid (show d = false by rw [← hdd]; simp [digB, c2])
            have c1' : (48 : Int) ≤ ((s[k]'hlt).toNat : Int) := by omega
            have c2' : ¬ ((s[k]'hlt).toNat : Int) ≤ 57 := by omega
            clear hdd
            go_wp2
            go_meet
            exact ⟨by rw [HDD.out], rfl⟩
        · have HDD := Lib.hid (show d = false by rw [← hdd]; simp [digB, c1])
          have c1' : ¬ (48 : Int) ≤ ((s[k]'hlt).toNat : Int) := by omega
          clear hdd
          go_wp2
          go_meet
          exact ⟨by rw [HDD.out], rfl⟩
      · have HDD := Lib.hid (show d = false by
          cases h : d with
          | true => exact absurd (HD1.out h).1 hlt
          | false => rfl)
        have hlt2 : decide ((k : Int) < (s.size : Int)) = false := decide_eq_false (by omega)
        have hlt3 : decide (k < s.size) = false := decide_eq_false hlt
        go_wp2_with fail
        go_meet
        exact ⟨by rw [HDD.out], rfl⟩
    case rest =>
      obtain ⟨rfl, rfl⟩ := hcut
      cases hd : d with
      | true =>
        obtain ⟨hlt, hdg⟩ := HD1.out hd
        have HKN := Lib.hid (allB_next hlt HK.out hdg)
        clear hdg HD1 HD2
        go_wp2
        go_roundw
        case rel => exact ⟨k + 1, by omega, intNum, by first | rfl | trivial, HKN⟩
        case measure => simp [intOf]; omega
      | false =>
        have hkk := numK_eq HK.out hk (fun hlt => HD2.out hd hlt)
        have HKK := Lib.hid (show s.extract 0 k = numD s ∧ s.extract k s.size = numC s by unfold numD numC; rw [hkk]; exact ⟨rfl, rfl⟩)
        have z1 := numD_size s
        have hHE := HL.out.below HB.out (Nat.le_refl _)
        have HAT := Lib.hid (atoi_e (numD s) _ (by omega) hHE)
        have hk2 : (k : Int) ≤ (s.size : Int) := by omega
        clear HD1 HD2 hkk HK hHE
        go_wp2_with fail
        rw [HKK.out.1]
        refine HAT.out.mono ?_
        rintro e w2 ⟨ev, rfl, hb2⟩
        have hx2 := (hb2.block w.heap.size (heap_lt HX.out)).trans HX.out
        obtain ⟨gx, fx⟩ := str_cells hx2
        have x0 : w2.cell? ⟨w.heap.size, 0, none⟩ = some (.int .i64 0) := gx 0
        have x1 : w2.cell? ⟨w.heap.size, 1, none⟩ = some (.string ⟨#[]⟩) := gx 1
        have f0 : w2.frozen? ⟨w.heap.size, 0, none⟩ = false := fx 0
        have f1 : w2.frozen? ⟨w.heap.size, 1, none⟩ = false := fx 1
        have HB2 := Lib.hid (HB.out.trans (hb2.mono HB.out.size))
        generalize hav : atoiV (numD s) = av at *
        have HAV := Lib.hid hav
        clear hb2 hx2 gx fx HAT hav
        go_wp2
        refine ⟨rfl, .agg #[.int .i64 av, .string (s.extract k s.size)], (by rw [results_cell1 rfl]; go_simp), ?_⟩
        exact ⟨by rw [HKK.out.2, HAV.out], belSet (belSet HB2.out (Nat.le_refl _) _) (Nat.le_refl _) _⟩
set_option maxRecDepth 100000 in
set_option maxHeartbeats 2000000 in
theorem compare_c (a b : ByteArray) (w : World) (ha : a.size ≤ 10000) (hb : b.size ≤ 10000) (hl : ErrsLaid w) : Calls Tryz.prog 41 #[.string a, .string b] w (CmpP (cmpN a b) w) := by
  have HL := Lib.hid hl
  clear hl
  go_enter Tryz.func41, Tryz.ntmps41
  go_wp2_with fail
  refine (parse_c a w ha HL.out).mono ?_
  rintro e w1 ⟨rfl, hb1⟩
  have HB1 := Lib.hid hb1
  clear hb1
  go_wp2_with fail
  refine (parse_c b w1 hb (HL.out.below HB1.out (Nat.le_refl _))).mono ?_
  rintro e w2 ⟨rfl, hb2⟩
  have HB2 := Lib.hid (HB1.out.trans (hb2.mono HB1.out.size))
  have HV := Lib.hid (show cmpN a b = orI [Lib.compareInt (atoiV (numD a)) (atoiV (numD b)), Lib.compareBytes (numC a).data.toList (numC b).data.toList] from rfl)
  clear hb2 HB1
  generalize atoiV (numD a) = n3 at *
  generalize atoiV (numD b) = n4 at *
  generalize numC a = a2 at *
  generalize numC b = b2 at *
  have HZ := Lib.hid (((Below.refl w2.heap.size w2).alloc (Nat.le_refl _) (.cells #[.int .i64 n3, .string a2] 115)).alloc (by simp) (.cells #[.int .i64 n4, .string b2] 115))
  have y := (str_cells ((Below.heap_alloc (w2.alloc (.cells #[.int .i64 n3, .string a2] 115)) (.cells #[.int .i64 n4, .string b2] 115) w2.heap.size (by simp)).trans (heap_alloc_new w2 (.cells #[.int .i64 n3, .string a2] 115)))).1
  have z := (str_cells (heap_alloc_new (w2.alloc (.cells #[.int .i64 n3, .string a2] 115)) (.cells #[.int .i64 n4, .string b2] 115))).1
  rw [show (w2.alloc (.cells #[.int .i64 n3, .string a2] 115)).heap.size = w2.heap.size + 1 by simp] at z
  have HY := Lib.hid y
  have HZZ := Lib.hid z
  clear y z
  go_upto_region 2 with (fail)
  generalize (w2.alloc (.cells #[.int .i64 n3, .string a2] 115)).alloc (.cells #[.int .i64 n4, .string b2] 115) = w3 at *
  have y0 : w3.cell? ⟨w2.heap.size, 0, none⟩ = some (.int .i64 n3) := HY.out 0
  have y1 : w3.cell? ⟨w2.heap.size, 1, none⟩ = some (.string a2) := HY.out 1
  have z0 : w3.cell? ⟨w2.heap.size + 1, 0, none⟩ = some (.int .i64 n4) := HZZ.out 0
  have z1 : w3.cell? ⟨w2.heap.size + 1, 1, none⟩ = some (.string b2) := HZZ.out 1
  have HI1 := Lib.hid (fun W => show Calls Tryz.prog 63 #[.int .i64 n3, .int .i64 n4] W (fun e w' => e = .returned (.int .i64 (Lib.compareInt n3 n4)) ∧ w' = W) from Tryz.cmp_Compare_int n3 n4 W)
  have HI2 := Lib.hid (fun W => show Calls Tryz.prog 64 #[.string a2, .string b2] W (fun e w' => e = .returned (.int .i64 (Lib.compareBytes a2.data.toList b2.data.toList)) ∧ w' = W) from Tryz.strings_Compare a2 b2 W)
  clear HY HZZ
  refine wp_region_drewN_tail 10 (by kernel_rfl) (by kernel_rfl) ?_
  simp only [List.take_succ_cons, List.take_zero, List.drop_succ_cons, List.drop_zero]
  repeat (quiet_step ((first | (go_at_call 63; exact Calls.quiet_of_same (HI1.out _)) | (go_at_call 64; exact Calls.quiet_of_same (HI2.out _)))))
  refine wpQuiet_nil ?_
  intro wx hwx
  obtain ⟨nqx, hwx⟩ := hwx
  subst hwx
  generalize Lib.compareInt n3 n4 = p at *
  generalize Lib.compareBytes a2.data.toList b2.data.toList = q at *
  have HB3 := Lib.hid (HB2.out.trans ((below_drewN HZ.out nqx).mono HB2.out.size))
  generalize w3.drewN nqx = w4 at *
  clear y0 y1 z0 z1
  go_wp2_with fail
  refine (orI_c (some ⟨w4.heap.size, 0, none⟩) [p, q] 2 0 _ (Rs.more (Rs.new1 w4 [p, q] (.int .i64) _ _ (Nat.le_refl _)) (Nat.zero_le _) (by simp)) (by simp)).mono ?_
  rintro e w7 ⟨rfl, rfl⟩
  go_wp2
  go_ret
  exact ⟨by rw [HV.out]; rfl, HB3.out.alloc HB3.out.size _⟩
end Go.Proofs.YtnnnmbipmfopmaaGreatDoor

