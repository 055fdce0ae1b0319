/- Texts packed: TgP. -/
import Derived.Test.YtlfnmmnbfoimeaaGreatDoorSc16
import Derived.Test.YtlfnmmnbfoimeaaGreatDoorSc02
import Derived.Test.YtlfnmmnbfoimeaaGreatDoorSc01
import Derived.Test.YtlfnmmnbfoimeaaGreatDoorSc25
import Derived.Lib.Join
/- The generator's patterns and the texts in which they are looked for. -/
namespace Go.Proofs.YtlfnmmnbfoimeaaGreatDoor
set_option linter.unusedVariables false
open Go.RowKit Go.Sort

def patL : List ByteArray := [⟨#[103, 117, 110, 42]⟩, ⟨#[114, 101, 100]⟩, ⟨#[63]⟩, ⟨#[35]⟩, ⟨#[99, 97, 114, 124, 103, 117, 110, 115]⟩, ⟨#[115, 111, 108, 100, 105, 101, 114, 115]⟩, ⟨#[97, 124, 116, 104, 101]⟩, ⟨#[116, 119, 111]⟩, ⟨#[100, 111, 110, 39, 116]⟩, ⟨#[49, 50]⟩]
theorem pat_join (sep : List UInt8) (n : Nat) (l : List ByteArray) (h : ∀ x ∈ l, x.size ≤ n) : (Lib.join (l.map (·.data.toList)) sep).length ≤ (n + sep.length) * l.length := by
  cases l with
  | nil => exact Nat.zero_le _
  | cons x r =>
    rw [List.map_cons, Lib.join_cons, List.length_append, Lib.joinTail_length, List.length_map]
    have h1 := h x (by simp)
    have hx : x.data.toList.length = x.size := by simp
    have h2 : ∀ (r : List ByteArray), (∀ y ∈ r, y.size ≤ n) → Lib.lens (r.map (·.data.toList)) ≤ n * r.length := by
      intro r
      induction r with
      | nil => intro _; exact Nat.zero_le _
      | cons y r ih =>
        intro hr
        have a := ih (fun z hz => hr z (by simp [hz]))
        have b := hr y (by simp)
        have hy : y.data.toList.length = y.size := by simp
        simp only [Lib.lens, List.map_cons, List.sum_cons, List.length_cons, Nat.mul_add, Nat.mul_one] at a ⊢
        omega
    have h3 := h2 r (fun y hy => h y (by simp [hy]))
    rw [List.length_cons, Nat.mul_add, Nat.mul_one, Nat.add_mul]
    omega
set_option maxRecDepth 100000 in
set_option maxHeartbeats 4000000 in
theorem Pattern_c (sb : Nat) (k0 : Int) (w : World) (hs : Str w sb k0) (hk0 : k0 ≤ 4000000000000000000) :
    Calls Tryz.prog 17 #[.pointer (some ⟨sb, 0, none⟩)] w (Took sb k0 20 (isStr (fun x => x.size ≤ 200)) w) := by
  obtain ⟨i0, hi0, hz0, hz1, hz2⟩ := info_parts (show (Tryz.prog.info? 9).map (fun i => (i.zero, i.size, i.bytes)) = some (some (.string ⟨#[]⟩), 1, 16) by kernel_rfl)
  have G0 := Lib.hid (show GS strR 9 w sb [] (.slice none 0 0) [] k0 w from GS.start hs)
  clear hs
  go_enter Tryz.func17, Tryz.ntmps17
  go_wp2_with fail
  refine (pickL w [2, 2, 3, 9] _ _ _ _ rfl rfl (by decide) (by decide) G0.out.str (by omega)).mono ?_
  rintro e w1 ⟨v1, n1, rfl, ⟨y1, hy1, rfl⟩, hn1, hs1, hg1⟩
  have hyb : 2 ≤ y1 ∧ y1 ≤ 9 := by simp at hy1; omega
  have G1 := Lib.hid ((G0.out.alloc _).turn hg1 hs1)
  clear hs1 hg1 hy1 G0
  go_wp2_with fail
  refine (range_c sb n1 1 y1 w1 G1.out.str (by omega) (by omega) (by omega) (by omega)).mono ?_
  rintro e w2 ⟨v2, n2, rfl, ⟨y2, ⟨hy20, hy21⟩, rfl⟩, hn2, hs2, hg2⟩
  obtain ⟨m, rfl⟩ := Int.eq_ofNat_of_zero_le (show 0 ≤ y2 by omega)
  have G2 := Lib.hid (G1.out.turn hg2 hs2)
  clear hs2 hg2 G1
  go_wp2
  go_loopw [3, 10] (fun v i wr => ∃ (q : Nat) (l : List ByteArray) (n : Int), q ≤ m ∧ i = .int .i64 q ∧ l.length = q ∧ n ≤ k0 + 2 + q ∧ Hid (∀ x ∈ l, x.size ≤ 10) ∧ Hid (GS strR 9 w sb l v [] n wr)) (fun _ i _ => m - (intOf i).toNat)
  case atStart => exact ⟨0, [], n2, Nat.zero_le _, rfl, rfl, by omega, (fun x hx => by cases hx), G2.out⟩
  case round =>
    clear G2
    obtain ⟨q, l, n, hq, rfl, hlq, hn, HX, HG⟩ := hrel
    have HLQ := Lib.hid hlq
    clear hlq
    by_cases hlt : q < m
    · go_wp2_with fail
      refine (oneL wr patL _ _ _ _ rfl rfl (by decide) (by decide) HG.out.str (by omega)).mono ?_
      rintro e w3 ⟨v3, n3, rfl, ⟨x3, hx3, rfl⟩, hn3, hs3, hg3⟩
      have hxz : x3.size ≤ 10 := oneOf (n := 10) (by decide +kernel) hx3
      have G3 := Lib.hid ((HG.out.alloc (.cells (patL.map Value.string).toArray 9)).turn hg3 hs3)
      have HX3 := Lib.hid (show ∀ x ∈ l ++ [x3], x.size ≤ 10 from fun x hx => by
        rcases List.mem_append.1 hx with hx | hx
        · exact HX.out x hx
        · rw [List.mem_singleton.1 hx]; exact hxz)
      clear hs3 hg3 hx3 hxz HG HX
      have hll := HLQ.out
      go_wp2_with (at_builtin; (refine wpList_pushB (R := strR) rfl _ _ _ rfl w.heap.size w.heap.size 9 i0 _ 16 Tryz.underlying69 hi0 hz0 (by assumption) (by assumption) rfl (by decide) _ u3 l rfl (G3.out.own.alloc _) x3 _ rfl (oneC rfl) w3.heap.size _ _ (heap_alloc_new w3 _) rfl (by simp [maxLen]; omega) (by omega) (by have := G3.out.size; simp; omega) ?_); intro g7 cap7 w7 hown7 hg7 hat7 hlt7)
      have HG7 := Lib.hid (show GS strR 9 w sb (l ++ [x3]) (.slice (some ⟨g7, 0, none⟩) (q + 1) cap7) [] n3 w7 by have h7 := G3.out.push hown7 hg7; rw [hll] at h7; exact h7)
      clear hown7 hg7 hat7 hlt7 G3
      go_roundw
      · exact ⟨q + 1, l ++ [x3], n3, by omega, intNum, by rw [List.length_append, hll]; rfl, by omega, HX3.out, HG7.out⟩
      · simp [intOf]; omega
    · have hqm : q = m := by omega
      have hll := HLQ.out
      have HJ := Lib.hid (show (⟨(Lib.join (l.map (·.data.toList)) (⟨#[32]⟩ : ByteArray).data.toList).toArray⟩ : ByteArray).size ≤ 200 from by
        have h := pat_join (⟨#[32]⟩ : ByteArray).data.toList 10 l HX.out
        have e : (⟨#[32]⟩ : ByteArray).data.toList.length = 1 := rfl
        rw [e] at h
        show (Lib.join _ _).toArray.size ≤ 200
        rw [List.size_toArray]
        omega)
      have HC := Lib.hid (joinX l ⟨#[32]⟩ (⟨(Lib.join (l.map (·.data.toList)) (⟨#[32]⟩ : ByteArray).data.toList).toArray⟩ : ByteArray) u3 (fun b => b < wr.heap.size) wr rfl (by have := HJ.out; omega) (HG.out.own.sli (fun b _ h => h) (fun g hg => (HG.out.own.block g hg).2)) (fun b h => h) (by omega))
      generalize (⟨(Lib.join (l.map (·.data.toList)) (⟨#[32]⟩ : ByteArray).data.toList).toArray⟩ : ByteArray) = J at *
      go_wp2_with fail
      refine HC.out.mono ?_
      rintro e w3 ⟨rfl, hb3⟩
      have G3 := Lib.hid (HG.out.below hb3)
      clear hb3 HG HX HC hll
      go_wp2_with fail
      refine (flip_c sb n 6 w3 G3.out.str (by omega) (by decide) (by decide)).mono ?_
      rintro e w4 ⟨v4, n4, rfl, ⟨b4, rfl⟩, hn4, hs4, hg4⟩
      have G4 := Lib.hid (G3.out.turn hg4 hs4)
      clear hs4 hg4 G3
      cases b4 with
      | false =>
        go_wp2
        go_ret
        exact ⟨_, n4, rfl, ⟨J, HJ.out, rfl⟩, by omega, G4.out.str, G4.out.gr⟩
      | true =>
        go_wp2_with fail
        refine (Tryz.strings_Repeat ⟨#[119]⟩ 20 w4 (by decide) (by decide)).mono ?_
        rintro e w5 ⟨rfl, hb⟩
        have G5 := Lib.hid (G4.out.below hb)
        have hr1 := rep_sz ⟨#[119]⟩ 20 60 (by decide)
        generalize (⟨(Lib.repeatL (⟨#[119]⟩ : ByteArray).data.toList 20).toArray⟩ : ByteArray) = r1 at *
        clear hb G4
        go_wp2_with fail
        refine (Tryz.strings_Repeat ⟨#[119]⟩ 21 w5 (by decide) (by decide)).mono ?_
        rintro e w6 ⟨rfl, hb⟩
        have G6 := Lib.hid (G5.out.below hb)
        have hr2 := rep_sz ⟨#[119]⟩ 21 60 (by decide)
        generalize (⟨(Lib.repeatL (⟨#[119]⟩ : ByteArray).data.toList 21).toArray⟩ : ByteArray) = r2 at *
        clear hb G5
        go_wp2_with fail
        refine (oneL w6 [⟨#[]⟩, ⟨#[42]⟩, ⟨#[97, 124]⟩, ⟨#[124, 97]⟩, ⟨#[71, 117, 110]⟩, ⟨#[97, 32, 32, 98]⟩, ⟨#[32, 97]⟩, ⟨#[97, 42, 98]⟩, ⟨#[39]⟩, ⟨#[35, 97]⟩, ⟨#[97, 124, 98, 42]⟩, r1, r2] _ _ _ _ rfl rfl (by simp) (by simp) G6.out.str (by omega)).mono ?_
        rintro e wA ⟨vA, nA, rfl, ⟨xA, hxA, rfl⟩, hnA, hsA, hgA⟩
        have hxz : xA.size ≤ 200 := by
          simp only [List.mem_cons, List.not_mem_nil, or_false] at hxA
          rcases hxA with rfl | rfl | rfl | rfl | rfl | rfl | rfl | rfl | rfl | rfl | rfl | rfl | rfl <;> first | omega | decide
        have GA := Lib.hid ((G6.out.alloc _).turn hgA hsA)
        clear hsA hgA hxA hr1 hr2 G6
        go_wp2
        go_ret
        exact ⟨_, nA, rfl, ⟨xA, hxz, rfl⟩, by omega, GA.out.str, GA.out.gr⟩
end Go.Proofs.YtlfnmmnbfoimeaaGreatDoor

