/- Texts packed: GenJ. -/
import Derived.Test.YtnjbbkocobegiaaGreatDoorPe27
import Derived.Test.YtnjbbkocobegiaaGreatDoorPe24
import Derived.Test.YtnjbbkocobegiaaGreatDoorPe19
/- The generator's texts of events. -/
namespace Go.Proofs.YtnjbbkocobegiaaGreatDoor
set_option linter.unusedVariables false
open Go.RowKit Go.Sort

theorem rolls_sz {a b c : Roll} (ha : rollBd a) (hb : rollBd b) (hc : rollBd c) : ∀ r ∈ ([a, b, c] : List Roll), r.name.size ≤ 140737488355328 := by
  intro r hr
  simp at hr
  rcases hr with rfl | rfl | rfl
  · have := ha.1; omega
  · have := hb.1; omega
  · have := hc.1; omega
set_option maxHeartbeats 1000000 in
theorem GEventsText_c (sb B : Nat) (k0 : Int) (a b c : Roll) (w : World) (hs : Str w sb k0) (hk0 : k0 ≤ 2000000000000000000) (hR : RollsBlk w B a b c) (ha : rollBd a) (hb : rollBd b) (hc : rollBd c) (hB : sb < B) (hp : ∀ w1, w.grownBy w1 (some sb) → PowLaid w1) :
    Calls Tryz.prog 23 #[.pointer (some ⟨sb, 0, none⟩), .slice (some ⟨B, 0, none⟩) 3 3] w (Took sb k0 60 (isStr (fun x => x.size ≤ 100000)) w) := by
  have S0 := Lib.hid hs
  have HR := Lib.hid hR
  have HA := Lib.hid (And.intro ha (And.intro hb hc))
  have HZ := Lib.hid (rolls_sz ha hb hc)
  have HP := Lib.hid hp
  have hsb := hs.lt
  have hBw := heap_lt hR
  clear hs hR ha hb hc hp
  go_enter Tryz.func23, Tryz.ntmps23
  go_wp2_with fail
  refine (GEvents_c sb B k0 a b c _ S0.out (by omega) HR.out HA.out.1 HA.out.2.1 HA.out.2.2 hB).mono ?_
  rintro e w1 ⟨v1, n1, rfl, ⟨l, hl, hx, hll⟩, hn1, hs1, hg1⟩
  have hz1 := hg1.size
  have S1 := Lib.hid hs1
  have G1 := Lib.hid hg1
  have L1 := Lib.hid (hl.more (G := fun q => q ≠ sb ∧ q < w1.heap.size) (fun q hq => ⟨by omega, hq.2⟩))
  have HX := Lib.hid hx
  have R1 := Lib.hid (HR.out.grown hg1 (by omega))
  clear hs1 hg1 hl hx
  obtain ⟨A1, c1, rfl, hc11, hc12⟩ := L1.out.form
  have hcc := EventsFault_c (some ⟨B, 0, none⟩) [a, b, c] 3 0 l _ _ w1 (R1.out.rs 0 w1.heap.size (by omega) (by omega)) (by simp) (by omega) HZ.out L1.out (fun q hq => hq.2)
  have HC := Lib.hid hcc
  clear hcc
  go_wp2_with fail
  refine HC.out.mono ?_
  rintro e w2 ⟨rfl, hb2⟩
  have hz2 := hb2.size
  have S2 := Lib.hid (S1.out.below hb2)
  have G2 := Lib.hid (gBelow G1.out hb2)
  have R2 := Lib.hid (R1.out.keep (hb2.block B (by omega)))
  have L2 := Lib.hid (L1.out.below hb2 (fun q hq => hq.2))
  clear hb2 HC S1 G1 R1 L1
  go_upto_if 13 with (fail)
  go_cut [5] (fun v wx => ∃ (l : List Ev), wx = w2 ∧ Hid (Sli evR w2 (fun q => q ≠ sb ∧ q < w1.heap.size) l v) ∧ Hid (∀ x ∈ l, x.roll.size ≤ 1000) ∧ l.length ≤ 5 ∧ Hid (0 < l.length → evErrA [a, b, c] l = 0))
  case first =>
    by_cases h0 : evErrA [a, b, c] l = 0
    · have HE := Lib.hid h0
      rw [h0]
      clear h0
      go_wp2
      go_meet
      exact ⟨l, rfl, L2.out, fun x hx => (HX.out x hx).1, hll, fun _ => HE.out⟩
    · have hne : (evErrA [a, b, c] l != 0) = true := by rw [bne_iff_ne]; exact h0
      clear h0
      go_wp2
      go_meet
      exact ⟨[], rfl, Sli.nil_, (fun x hx => by cases hx), by simp, (fun h => absurd h (by simp))⟩
  case rest =>
    clear L2 HX hll
    obtain ⟨l, rfl, L2, HX, hll, HE⟩ := hcut
    have hcc := EventsText_c (some ⟨B, 0, none⟩) [a, b, c] 3 0 l u5 _ wc (R2.out.rs 0 wc.heap.size (by omega) (by omega)) (by simp) HE.out L2.out (fun q hq => Nat.lt_of_lt_of_le hq.2 hz2) HX.out (HP.out _ G2.out)
    have HC := Lib.hid hcc
    have htl := evText_le [a, b, c] l HX.out 1 0 (by omega) (by omega)
    clear hcc
    go_wp2_with fail
    refine HC.out.mono ?_
    rintro e w3 ⟨rfl, hb3⟩
    have S3 := Lib.hid (S2.out.below hb3)
    have G3 := Lib.hid (gBelow G2.out hb3)
    have hxs : (⟨(evText [a, b, c] 1 0 l).toArray⟩ : ByteArray).size ≤ 5500 := by show (evText [a, b, c] 1 0 l).toArray.size ≤ 5500; rw [List.size_toArray]; omega
    generalize (⟨(evText [a, b, c] 1 0 l).toArray⟩ : ByteArray) = T at *
    clear hb3 HC htl
    go_wp2_with fail
    refine (flip_c sb n1 2 _ S3.out (by omega) (by omega) (by omega)).mono ?_
    rintro e w4 ⟨v4, n4, rfl, ⟨b4, rfl⟩, hn4, hs4, hg4⟩
    have S4 := Lib.hid hs4
    have G4 := Lib.hid (gTrans G3.out hg4)
    clear hs4 hg4
    cases b4 with
    | false =>
      go_wp2
      go_ret
      exact ⟨_, n4, rfl, ⟨T, by show _ ≤ _; omega, rfl⟩, by omega, S4.out, G4.out⟩
    | true =>
      go_wp2_with fail
      refine (Changed_c sb n4 T ⟨#[48, 49, 58, 59, 32, 10, 65]⟩ _ S4.out (by omega) (by omega) (by decide)).mono ?_
      rintro e w5 ⟨v5, n5, rfl, ⟨x5, hx5, rfl⟩, hn5, hs5, hg5⟩
      have S5 := Lib.hid hs5
      have G5 := Lib.hid (gTrans G4.out hg5)
      have b5 : x5.size ≤ 100000 := by
        have : (⟨#[48, 49, 58, 59, 32, 10, 65]⟩ : ByteArray).size = 7 := rfl
        omega
      clear hs5 hg5 hx5
      go_wp2
      go_ret
      exact ⟨_, n5, rfl, ⟨x5, b5, rfl⟩, by omega, S5.out, G5.out⟩
end Go.Proofs.YtnjbbkocobegiaaGreatDoor

