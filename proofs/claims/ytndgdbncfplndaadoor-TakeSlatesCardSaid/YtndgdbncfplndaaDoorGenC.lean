/- The generator's changed texts and frames. -/
import Derived.Test.YtndgdbncfplndaaDoorRows
import Derived.Test.YtndgdbncfplndaaDoorGenA
import Derived.Test.YtndgdbncfplndaaDoorStr
namespace Go.Proofs.YtndgdbncfplndaaDoor
set_option linter.unusedVariables false
open Go.RowKit Go.Sort

set_option maxHeartbeats 400000 in
theorem Frame_c (sb : Nat) (k r : Int) (w : World) (hs : Str w sb k) (hk : k ≤ 4000000000000000000) :
    Calls Tryd.prog 25 #[.pointer (some ⟨sb, 0, none⟩), .int .i64 r] w (Took sb k 2 (isInt (fun x => -10000000 ≤ x ∧ x ≤ 10000000)) w) := by
  have h0 := hs.nonneg
  have S0 := Lib.hid hs; clear hs
  go_enter Tryd.func25, Tryd.ntmps25
  go_wp2_with fail
  refine (next_c sb k 2600000 _ S0.out (by omega) (by omega) (by omega)).mono ?_
  rintro e w1 ⟨v1, k1, rfl, ⟨x1, hx10, hx11, rfl⟩, hk1, hs1, hg1⟩
  have S1 := Lib.hid hs1; have G1 := Lib.hid hg1; clear hs1 hg1
  go_wp2_with fail
  refine (pickL w1 [0, 1, 24, 1799, 1800, 1801, 17981, 17982, 86399, 2073599, 2073600, 2159999, 2589407, 2589408, 2591999, 2592000, -1, x1] _ _ 18 _ rfl rfl (by decide) (by decide) S1.out (by omega)).mono ?_
  rintro e w2 ⟨v2, k2, rfl, ⟨x2, hx2, rfl⟩, hk2, hs2, hg2⟩
  have b2 : -10000000 ≤ x2 ∧ x2 ≤ 10000000 := by simp at hx2; omega
  have S2 := Lib.hid hs2; have G2 := Lib.hid (gTrans (gAlloc G1.out _) hg2); clear hs2 hg2 hx2
  go_wp2
  go_ret
  exact ⟨_, k2, rfl, ⟨x2, b2, rfl⟩, by omega, S2.out, G2.out⟩

theorem enc_size {n : Nat} (h : n < 256) : (Utf8.encode (n : Int)).size ≤ 4 := by
  have : ((List.range 256).all fun n => decide ((Utf8.encode (n : Int)).size ≤ 4)) = true := by decide +kernel
  rw [List.all_eq_true] at this
  simpa using this n (List.mem_range.2 h)
set_option maxHeartbeats 1000000 in
theorem Changed_c (sb : Nat) (k : Int) (t u : ByteArray) (w : World) (hs : Str w sb k) (hk : k ≤ 4000000000000000000) (ht : t.size ≤ 1000000000) (hu : u.size ≤ 1000000000) :
    Calls Tryd.prog 40 #[.pointer (some ⟨sb, 0, none⟩), .string t, .string u] w (Took sb k 3 (isStr (fun x => x.size ≤ t.size + u.size + 8)) w) := by
  have h0 := hs.nonneg
  have S0 := Lib.hid hs; clear hs
  cases he : t.toList.isEmpty with
  | true =>
    go_enter Tryd.func40, Tryd.ntmps40
    go_wp2
    go_ret
    exact ⟨_, k, rfl, ⟨u, by omega, rfl⟩, by omega, S0.out, gRefl _ _⟩
  | false =>
    have hts : 0 < t.size := by
      rw [ByteArray.toList_eq] at he
      cases hd : t.data.toList with
      | nil => rw [hd] at he; cases he
      | cons y l => show 0 < t.data.size; rw [← Array.length_toList, hd]; simp
    cases he2 : u.toList.isEmpty with
    | true =>
      go_enter Tryd.func40, Tryd.ntmps40
      go_wp2
      go_ret
      exact ⟨_, k, rfl, ⟨u, by omega, rfl⟩, by omega, S0.out, gRefl _ _⟩
    | false =>
      have hus : 0 < u.size := by
        rw [ByteArray.toList_eq] at he2
        cases hd : u.data.toList with
        | nil => rw [hd] at he2; cases he2
        | cons y l => show 0 < u.data.size; rw [← Array.length_toList, hd]; simp
      go_enter Tryd.func40, Tryd.ntmps40
      go_wp2_with fail
      refine (next_c sb k t.size _ S0.out (by omega) (by omega) (by omega)).mono ?_
      rintro e w1 ⟨v1, k1, rfl, ⟨x1, hx10, hx11, rfl⟩, hk1, hs1, hg1⟩
      have S1 := Lib.hid hs1; have G1 := Lib.hid hg1; clear hs1 hg1
      obtain ⟨i, rfl⟩ := Int.eq_ofNat_of_zero_le hx10
      go_wp2_with fail
      refine (next_c sb k1 u.size _ S1.out (by omega) (by omega) (by omega)).mono ?_
      rintro e w2 ⟨v2, k2, rfl, ⟨x2, hx20, hx21, rfl⟩, hk2, hs2, hg2⟩
      have S2 := Lib.hid hs2; have G2 := Lib.hid (gTrans G1.out hg2); clear hs2 hg2
      obtain ⟨j, rfl⟩ := Int.eq_ofNat_of_zero_le hx20
      have hi : i < t.size := by omega
      have hj : j < u.size := by omega
      clear hx10 hx11 hx20 hx21
      go_wp2_with fail
      refine (next_c sb k2 3 _ S2.out (by omega) (by omega) (by omega)).mono ?_
      rintro e w3 ⟨v3, k3, rfl, ⟨x3, hx30, hx31, rfl⟩, hk3, hs3, hg3⟩
      have S3 := Lib.hid hs3; have G3 := Lib.hid (gTrans G2.out hg3); clear hs3 hg3
      have q1 : IntKind.i64.wrap ((i : Int) + 1) = (i : Int) + 1 := IntWalk.i64_in _ (by omega)
      have hi1 : (i : Int) + 1 ≤ (t.size : Int) := by omega
      have hn1 : ((i : Int) + 1).toNat = i + 1 := by omega
      have hle : i + 1 ≤ t.size := by omega
      have hle0 : i ≤ t.size := by omega
      have hu8 : u[j].toNat < 256 := u[j].toNat_lt
      generalize u[j].toNat = n8 at hu8 ⊢
      have hz := enc_size hu8
      generalize hE : Utf8.encode (n8 : Int) = E at hz
      have HE := Lib.hid hE
      have hcv : ∀ W, (convert 21 9 (.int .i32 (n8 : Int))).run Tryd.prog W = .ok (.string E) W := fun W => by
        rw [run_convert_int_string W _ _ _ _ (by kernel_rfl) Tryd.underlying9, hE]
      clear hE
      rcases (show x3 = 0 ∨ x3 = 1 ∨ x3 = 2 by omega) with rfl | rfl | rfl
      · go_wp2
        go_quiet (fail)
        go_wp2
        go_ret
        refine ⟨_, k3, rfl, ⟨_, ?_, rfl⟩, by omega, S3.out.drewN _, grown_drewN G3.out _⟩
        show _ ≤ _
        simp; omega
      · go_wp2
        go_quiet (fail)
        go_wp2
        go_ret
        refine ⟨_, k3, rfl, ⟨_, ?_, rfl⟩, by omega, S3.out.drewN _, grown_drewN G3.out _⟩
        show _ ≤ _
        simp; omega
      · go_wp2
        go_quiet (fail)
        go_wp2
        go_ret
        refine ⟨_, k3, rfl, ⟨_, ?_, rfl⟩, by omega, S3.out.drewN _, grown_drewN G3.out _⟩
        show _ ≤ _
        simp; omega
end Go.Proofs.YtndgdbncfplndaaDoor
