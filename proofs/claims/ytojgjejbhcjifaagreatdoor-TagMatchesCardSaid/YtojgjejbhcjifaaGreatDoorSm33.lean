/- Texts packed: TgL, TgT. -/
import Derived.Test.YtojgjejbhcjifaaGreatDoorSm31
import Derived.Test.YtojgjejbhcjifaaGreatDoorSm32
import Derived.Test.YtojgjejbhcjifaaGreatDoorSm07
import Derived.Test.YtojgjejbhcjifaaGreatDoorSm09
/- CheckPattern and Match, walked; the question that begins the laws. -/
namespace Go.Proofs.YtojgjejbhcjifaaGreatDoor
set_option linter.unusedVariables false
open Go.RowKit

theorem patE_yes {p : ByteArray} (h : patB p = true) : patE p = 0 := by unfold patE; rw [if_pos h]
theorem patE_bad {p : ByteArray} (h : patB p = false) : patE p = 9 := by unfold patE; rw [h]; rfl
/-- The parts of a pattern. -/
def itmsP (p : ByteArray) : List Itm := (partsP p).map fun s => (rdItm s).1
theorem itmsP_len (p : ByteArray) : (itmsP p).length = (partsP p).length := List.length_map _
theorem partsP_pos (p : ByteArray) : 1 ≤ (partsP p).length := by unfold partsP; rw [words_len]; omega
theorem begins_ws (s : ByteArray) : (rdItm s).1.begins = true → 0 < (rdItm s).1.ws.length := by
  by_cases h1 : s.toList = [63]
  · rw [rdItm_q h1]; intro h; cases h
  by_cases h2 : s.toList = [35]
  · rw [rdItm_h h1 h2]; intro h; cases h
  by_cases h3 : Lib.hasSuffix s.data.toList [42] = true
  · rw [rdItm_s h1 h2 h3]; intro _; exact Nat.lt_succ_self 0
  by_cases h4 : (words s 124).all pwB = true
  · rw [rdItm_y h1 h2 h3 h4]; intro h; cases h
  · rw [rdItm_n h1 h2 h3 h4]; intro h; cases h
/-- What matching leaves. -/
def MatP (p t : ByteArray) (w : World) (e : Ending) (w' : World) : Prop :=
  ∃ v, e = .returned (.tuple #[v, .int .i64 (patE p)]) ∧ Below w.heap.size w w' ∧ (patB p = true → Own (hitR (partsP p).length) w' w.heap.size w.heap.size 35 (hitsAt (itmsP p) (wordsT t) 0) v)
set_option maxRecDepth 100000 in
set_option maxHeartbeats 4000000 in
theorem Match_c (p t : ByteArray) (w : World) (hs : p.size ≤ 100000) (ht : t.size ≤ 100000) (hm : MaxLaid w) (hE : ErrsLaid w) : Calls Tryz.prog 7 #[.string p, .string t] w (MatP p t w) := by
  have HC := Lib.hid (readPattern_c p w (by omega) hm)
  have HLE := Lib.hid (itmsP_len p)
  have HL1 := Lib.hid (partsP_pos p)
  have HL2 := Lib.hid (show (partsP p).length ≤ p.size + 1 from words_le p 32)
  cases hp : patB p with
  | true =>
    have HP := Lib.hid (patE_yes hp)
    rw [show RdpP p w = fun e w' => ∃ v, e = .returned (.tuple #[v, .bool (patB p)]) ∧ Below w.heap.size w w' ∧ (patB p = true → Sli itmR w' (fun b => w.heap.size ≤ b ∧ b < w'.heap.size) ((partsP p).map fun s => (rdItm s).1) v) from rfl, hp] at HC
    go_enter Tryz.func7, Tryz.ntmps7
    go_wp2_with fail
    refine HC.out.mono ?_
    rintro e w1 ⟨v, rfl, hb1, hx⟩
    have HX := Lib.hid (show Sli itmR w1 (fun b => w.heap.size ≤ b ∧ b < w1.heap.size) (itmsP p) v from hx (by trivial))
    have HB1 := Lib.hid hb1
    have HE1 := Lib.hid (hE.below hb1 (Nat.le_refl _))
    clear hb1 hx HC hp hE hm
    go_wp2_with fail
    refine (Words_c t w1 (by omega)).mono ?_
    rintro e w2 ⟨v2, rfl, hown, hb2⟩
    have HX2 := Lib.hid (HX.out.below hb2 (fun b hb => hb.2))
    have HW2 := Lib.hid (hown.sli (F := fun b => b < w2.heap.size) (fun b _ h => h) (fun g hg => (hown.block g hg).2))
    have HB2 := Lib.hid (HB1.out.trans (hb2.mono HB1.out.size))
    have HH := Lib.hid (hits_c (itmsP p) v (wordsT t) v2 w2 HX2.out (fun b hb => Nat.lt_of_lt_of_le hb.2 hb2.size) HW2.out (fun b hb => hb) (by rw [HLE.out]; exact HL1.out) (by rw [HLE.out]; have := HL2.out; omega) (by have := wordsT_len t; omega) (fun s hs => by have := wordsT_sz hs; omega) (fun x hx => by obtain ⟨s, _, rfl⟩ := List.mem_map.1 hx; exact begins_ws s) (HE1.out.below hb2 (Nat.le_refl _)))
    clear hown hb2 HX HB1 HE1
    go_wp2_with fail
    refine HH.out.mono ?_
    rintro e w3 ⟨v3, rfl, hown3, hb3⟩
    have HB3 := Lib.hid (HB2.out.trans (hb3.mono HB2.out.size))
    have HO3 := Lib.hid (show Own (hitR (itmsP p).length) w3 w.heap.size w.heap.size 35 (hitsAt (itmsP p) (wordsT t) 0) v3 from hown3.less (enc := fun x : Nat × Int => [.int .i64 (x.1 : Int), .int .i64 ((itmsP p).length : Int), .int .i64 x.2]) (hn := fun _ => rfl) HB2.out.size)
    clear hown3 hb3 HH
    go_wp2
    go_ret2
    exact ⟨v3, by rw [HP.out]; rfl, HB3.out, fun _ => by rw [← HLE.out]; exact HO3.out⟩
  | false =>
    have HP := Lib.hid (patE_bad hp)
    rw [show RdpP p w = fun e w' => ∃ v, e = .returned (.tuple #[v, .bool (patB p)]) ∧ Below w.heap.size w w' ∧ (patB p = true → Sli itmR w' (fun b => w.heap.size ≤ b ∧ b < w'.heap.size) ((partsP p).map fun s => (rdItm s).1) v) from rfl, hp] at HC
    have HPB := Lib.hid hp
    clear hp
    go_enter Tryz.func7, Tryz.ntmps7
    go_wp2_with fail
    refine HC.out.mono ?_
    rintro e w1 ⟨v, rfl, hb1, _⟩
    go_wp2
    go_ret2
    exact ⟨_, by rw [HP.out]; rfl, hb1, fun h => by rw [HPB.out] at h; cases h⟩

abbrev gunP : ByteArray := ⟨#[35, 32, 103, 117, 110, 42]⟩
abbrev gunT : ByteArray := ⟨#[116, 119, 111, 32, 103, 117, 110, 115]⟩
theorem gun_pat : patB gunP = true := by decide +kernel
theorem gun_words : wordsT gunT = [⟨#[116, 119, 111]⟩, ⟨#[103, 117, 110, 115]⟩] := by decide +kernel
theorem gun_len : (partsP gunP).length = 2 := by decide +kernel
theorem gun_hit : hitA (itmsP gunP) [⟨#[116, 119, 111]⟩, ⟨#[103, 117, 110, 115]⟩] 0 = some 2 := by decide +kernel
theorem gun_hits : hitsAt (itmsP gunP) (wordsT gunT) 0 = [(0, 2)] := by
  rw [gun_words]
  have hl : (itmsP gunP).length = 2 := by rw [itmsP_len, gun_len]
  rw [hitsAt_yes (by decide) (by rw [hl]; decide) gun_hit, hl, hitsAt_end (by decide)]
set_option maxRecDepth 100000 in
set_option maxHeartbeats 1000000 in
theorem tags_c (w : World) (hm : MaxLaid w) (hE : ErrsLaid w) : Calls Tryz.prog 9 #[] w fun e w' => e = .returned (.bool true) ∧ Below w.heap.size w w' := by
  have HC := Lib.hid (Match_c gunP gunT w (by decide) (by decide) hm hE)
  have HE := Lib.hid (patE_yes gun_pat)
  go_enter Tryz.func9, Tryz.ntmps9
  go_wp2_with fail
  refine HC.out.mono ?_
  rintro e w1 ⟨v, rfl, hb, hown⟩
  have hown := hown gun_pat
  rw [gun_hits, gun_len] at hown
  rw [HE.out]
  obtain ⟨A, c, rfl, _⟩ := (hown.sli (F := fun _ => True) (fun _ _ _ => trivial) (fun _ _ => trivial)).form
  obtain ⟨b, off, a, rfl, _, hr, hc⟩ := Sli.at_ (hown.sli (F := fun _ => True) (fun _ _ _ => trivial) (fun _ _ => trivial)) 0 (Nat.lt_succ_self 0)
  have hr : a = [.int .i64 0, .int .i64 2, .int .i64 2] := hr
  subst hr
  have c2 : w1.cell? ⟨b, off + 2, none⟩ = some (.int .i64 2) := by simpa using hc 2 _ rfl
  clear HC hown hc hm hE
  simp only [List.length_cons, List.length_nil, Nat.zero_add]
  go_wp2
  go_ret
  exact ⟨rfl, hb⟩
end Go.Proofs.YtojgjejbhcjifaaGreatDoor

/- Lists of hits compared: the same list. -/
namespace Go.Proofs.YtojgjejbhcjifaaGreatDoor
set_option linter.unusedVariables false
open Go.RowKit Go.Sort

theorem hitAt_cells {w : World} {F : Nat → Prop} {N : Nat} {l : List (Nat × Int)} {A : Option Addr} {n c : Nat} (h : Sli (hitR N) w F l (.slice A n c)) (k : Nat) (hk : k < l.length) : ∃ b off, A = some ⟨b, off, none⟩ ∧ F b ∧ w.cell? ⟨b, off + k * 3, none⟩ = some (.int .i64 (l[k].1 : Int)) ∧ w.cell? ⟨b, off + k * 3 + 1, none⟩ = some (.int .i64 (N : Int)) ∧ w.cell? ⟨b, off + k * 3 + 2, none⟩ = some (.int .i64 l[k].2) := by
  obtain ⟨b, off, a, e, hb, hr, hc⟩ := h.at_ k hk
  have ha : a = [.int .i64 ((l[k]).1 : Int), .int .i64 (N : Int), .int .i64 (l[k]).2] := hr
  subst ha
  exact ⟨b, off, e, hb, hc 0 _ rfl, hc 1 _ rfl, hc 2 _ rfl⟩
set_option maxRecDepth 100000 in
set_option maxHeartbeats 800000 in
theorem eqHit_c (N : Nat) (l : List (Nat × Int)) (v1 v2 : Value) (F : Nat → Prop) (w : World) (h1 : Sli (hitR N) w F l v1) (h2 : Sli (hitR N) w F l v2) (hF : ∀ b, F b → b < w.heap.size) :
    Calls Tryz.prog 10 #[v1, v2] w fun e w' => e = .returned (.bool true) ∧ Below w.heap.size w w' := by
  obtain ⟨A1, c1, rfl, hlc1, hc1⟩ := h1.form
  obtain ⟨A2, c2, rfl, hlc2, hc2⟩ := h2.form
  have H1 := Lib.hid h1; clear h1
  have H2 := Lib.hid h2; clear h2
  have HF := Lib.hid hF; clear hF
  obtain ⟨n, hn1⟩ : ∃ n, l.length = n := ⟨_, rfl⟩
  rw [hn1] at H1 H2 hlc1 hlc2 ⊢
  have HN := Lib.hid hn1
  clear hn1
  go_enter Tryz.func10, Tryz.ntmps10
  go_wp2
  go_loopw [13] (fun i wr => ∃ k : Nat, k ≤ n ∧ i = .int .i64 k ∧ Below w.heap.size w wr) (fun i _ => n - (intOf i).toNat)
  case atStart => exact ⟨0, Nat.zero_le _, rfl, Below.refl _ _⟩
  case round =>
    obtain ⟨k, hk, rfl, hb⟩ := hrel
    by_cases hlt : k < n
    · have hk2 : k < l.length := by rw [HN.out]; exact hlt
      obtain ⟨b, off, rfl, hfb, c0, c1, c2⟩ := hitAt_cells (H1.out.below hb HF.out) k hk2
      obtain ⟨b2, off2, rfl, hfb2, d0, d1, d2⟩ := hitAt_cells (H2.out.below hb HF.out) k hk2
      generalize l[k] = x at *
      obtain ⟨x1, x2⟩ := x
      dsimp only at c0 c1 c2 d0 d1 d2
      go_wp2
      go_region
      go_wp2
      go_roundw
      · exact ⟨k + 1, by omega, intNum, by first | exact hb | exact hb.drew | exact below_drewN hb _⟩
      · simp [intOf]; omega
    · go_wp2
      go_ret
      exact ⟨rfl, hb⟩
end Go.Proofs.YtojgjejbhcjifaaGreatDoor

