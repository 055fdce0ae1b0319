/- Texts packed: StoryA. -/
import Derived.Test.YtojgjejbhcjifaaGreatDoorSm01
import Derived.RegionTactic
import Derived.Deep.RegionHeld3
import Derived.Deep.DeepCutAuto
/- The generator's words and paragraphs. -/
namespace Go.Proofs.YtojgjejbhcjifaaGreatDoor
set_option linter.unusedVariables false
open Go.RowKit Go.Sort

set_option maxHeartbeats 1600000 in
theorem gwords_c (sb : Nat) (k0 most bytes : Int) (w : World) (hs : Str w sb k0) (hk0 : k0 ≤ 4000000000000000000) (hm1 : 1 ≤ most) (hm2 : most ≤ 1000) (hb1 : 0 ≤ bytes) (hb2 : bytes ≤ 100000) :
    Calls Tryz.prog 22 #[.pointer (some ⟨sb, 0, none⟩), .int .i64 most, .int .i64 bytes] w (Took sb k0 1001 (isStr (fun x => (x.size : Int) ≤ bytes)) w) := by
  have S0 := Lib.hid hs
  clear hs
  go_enter Tryz.func22, Tryz.ntmps22
  go_wp2_with fail
  refine (range_c sb k0 1 most _ S0.out (by omega) hm1 (by omega) (by omega)).mono ?_
  rintro e w1 ⟨v1, n1, rfl, ⟨m1, ⟨hm1', hm2'⟩, rfl⟩, hn1, hs1, hg1⟩
  obtain ⟨m, rfl⟩ := Int.eq_ofNat_of_zero_le (show 0 ≤ m1 by omega)
  have S1 := Lib.hid hs1
  have G1 := Lib.hid hg1
  clear hs1 hg1
  go_wp2
  go_loopw [7, 12] (fun t i wr => ∃ (k : Nat) (x : ByteArray) (n : Int), k ≤ m ∧ i = .int .i64 k ∧ t = .string x ∧ (x.size : Int) ≤ bytes ∧ n ≤ k0 + 1 + k ∧ Hid (Str wr sb n) ∧ Hid (w.grownBy wr (some sb))) (fun _ i _ => m - (intOf i).toNat)
  case atStart => exact ⟨0, ⟨#[]⟩, n1, by omega, rfl, rfl, hb1, by omega, S1.out, G1.out⟩
  case round =>
    obtain ⟨k, x, n, hk, rfl, rfl, hx, hn, HS, HG⟩ := hrel
    by_cases hlt : k < m
    · go_wp2_with fail
      refine (oneL wr [⟨#[114, 97, 105, 110]⟩, ⟨#[84, 119, 111]⟩, ⟨#[103, 117, 110, 115]⟩, ⟨#[65, 78, 78]⟩, ⟨#[66, 111]⟩, ⟨#[97]⟩, ⟨#[116, 104, 101]⟩, ⟨#[114, 101, 100]⟩, ⟨#[99, 97, 114, 46]⟩, ⟨#[115, 111, 108, 100, 105, 101, 114, 115]⟩, ⟨#[49, 50]⟩, ⟨#[100, 111, 110, 39, 116]⟩, ⟨#[45, 45]⟩, ⟨#[97, 98, 99, 100, 101, 102, 103, 104, 105, 106, 107, 108, 109, 110, 111, 112, 113, 114, 115, 116, 117, 118, 119, 120, 121, 122, 97, 98, 99, 100, 101, 102, 103, 104, 105, 106, 107, 108, 109, 110, 111, 112, 113, 114, 115, 116, 117, 118, 119, 120, 121, 122]⟩, ⟨#[99, 97, 114]⟩] _ _ _ _ rfl rfl (by decide) (by decide) HS.out (by omega)).mono ?_
      rintro e w2 ⟨v2, n2, rfl, ⟨y, hy, rfl⟩, hn2, hs2, hg2⟩
      have hy1 : y.size ≤ 60 := oneOf (by decide +kernel) hy
      have S2 := Lib.hid hs2
      have G2 := Lib.hid (gTrans HG.out (gTrans (gAlloc (gRefl wr sb) _) hg2))
      clear hs2 hg2 hy HS HG
      go_upto_if 18 with (fail)
      go_cut [8] (fun s wx => ∃ z : ByteArray, s = .string z ∧ z.size ≤ 61 ∧ wx = w2)
      case first =>
        go_wp2
        all_goals
          go_meet
          first
            | exact ⟨y, rfl, by omega, rfl⟩
            | exact ⟨⟨#[32]⟩ ++ y, rfl, by rw [ByteArray.size_append]; show 1 + y.size ≤ 61; omega, rfl⟩
      case rest =>
        obtain ⟨z, rfl, hz, rfl⟩ := hcut
        have hzx : (x ++ z).size = x.size + z.size := ByteArray.size_append
        by_cases ho : bytes < (x.size : Int) + z.size
        · go_wp2
          go_ret
          exact ⟨_, n2, rfl, ⟨x, hx, rfl⟩, by omega, S2.out, G2.out⟩
        · have ho' : (x.size : Int) + z.size ≤ bytes := by omega
          go_wp2
          go_roundw
          case rel => exact ⟨k + 1, x ++ z, n2, by omega, intNum, rfl, by omega, by omega, S2.out, G2.out⟩
          case measure => simp [intOf]; omega
    · go_wp2
      go_ret
      exact ⟨_, n, rfl, ⟨x, hx, rfl⟩, by omega, HS.out, HG.out⟩

/-- A list that begins as a literal of one element. -/
theorem GS.lit {α : Type} {R : Rep α} {e : TypeId} {w wx : World} {sb : Nat} {n : Int} (x : α) (cs : List Value) (hn : cs.length = R.n) (hx : ∀ w F, R.rel w F x cs) (hs : Str wx sb n) (hg : w.grownBy wx (some sb)) (hl : sb < w.heap.size) : GS R e w sb [x] (.slice (some ⟨wx.heap.size, 0, none⟩) 1 1) [] n (wx.alloc (.cells cs.toArray e)) :=
  ⟨hs.alloc _, gAlloc hg _, ⟨cs, ⟨by simp [hn], .inr ⟨wx.heap.size, 1, cs.toArray, rfl, hg.size, heap_alloc_new wx _, Nat.le_refl _, by decide, by simp [hn], by simp [← hn]⟩⟩, Lay.one (hx _ _)⟩, hl, fun p hp => by cases hp⟩

end Go.Proofs.YtojgjejbhcjifaaGreatDoor

