/- Texts packed: TgH. -/
import Derived.Test.YtlfnmmnbfoimeaaGreatDoorSc31
import Derived.Test.YtlfnmmnbfoimeaaGreatDoorSc13
import Derived.Test.YtlfnmmnbfoimeaaGreatDoorSc02
/- Counts of words and parts that match a word, walked. -/
namespace Go.Proofs.YtlfnmmnbfoimeaaGreatDoor
set_option linter.unusedVariables false
open Go.RowKit

theorem cntW_some {w : ByteArray} {k : Nat} (h : idxN w = some k) : cntW w = (k : Int) + 1 := by unfold cntW; rw [h]
theorem cntW_none {w : ByteArray} (h : idxN w = none) : cntW w = nmV w := by unfold cntW; rw [h]
theorem idxN_lt {w : ByteArray} {k : Nat} (h : idxN w = some k) : k < 12 := (List.findIdx?_eq_some_iff_getElem.1 h).1
theorem nmV_no {w : ByteArray} (h : w.size < 1 ∨ 3 < w.size ∨ (byt0 w).toNat = 48 ∨ allB digB w = false) : nmV w = 0 := by unfold nmV; rw [ok3_no h]; rfl
theorem byt0_get {w : ByteArray} (h : 0 < w.size) : byt0 w = w[0] := by
  unfold byt0
  have h0 := Lib.data_getElem? w 0 h
  cases hl : w.data.toList with
  | nil => rw [hl] at h0; cases h0
  | cons c l => rw [hl] at h0; injection h0
set_option maxRecDepth 100000 in
set_option maxHeartbeats 4000000 in
theorem tCounted_c (s : ByteArray) (w : World) (hs : s.size ≤ 1000000) (hE : ErrsLaid w) : Calls Tryz.prog 102 #[.string s] w fun e w' => e = .returned (.int .i64 (cntW s)) ∧ Below w.heap.size w w' := by
  have HE := Lib.hid hE
  clear hE
  go_enter Tryz.func102, Tryz.ntmps102
  go_upto_region 2 with (fail)
  have hsl := strLit w numWs #[.string ⟨#[111, 110, 101]⟩, .string ⟨#[116, 119, 111]⟩, .string ⟨#[116, 104, 114, 101, 101]⟩, .string ⟨#[102, 111, 117, 114]⟩, .string ⟨#[102, 105, 118, 101]⟩, .string ⟨#[115, 105, 120]⟩, .string ⟨#[115, 101, 118, 101, 110]⟩, .string ⟨#[101, 105, 103, 104, 116]⟩, .string ⟨#[110, 105, 110, 101]⟩, .string ⟨#[116, 101, 110]⟩, .string ⟨#[101, 108, 101, 118, 101, 110]⟩, .string ⟨#[116, 119, 101, 108, 118, 101]⟩] 169 12 rfl rfl (by decide)
  have hbl := (Below.refl w.heap.size w).alloc (Nat.le_refl _) (.cells #[.string ⟨#[111, 110, 101]⟩, .string ⟨#[116, 119, 111]⟩, .string ⟨#[116, 104, 114, 101, 101]⟩, .string ⟨#[102, 111, 117, 114]⟩, .string ⟨#[102, 105, 118, 101]⟩, .string ⟨#[115, 105, 120]⟩, .string ⟨#[115, 101, 118, 101, 110]⟩, .string ⟨#[101, 105, 103, 104, 116]⟩, .string ⟨#[110, 105, 110, 101]⟩, .string ⟨#[116, 101, 110]⟩, .string ⟨#[101, 108, 101, 118, 101, 110]⟩, .string ⟨#[116, 119, 101, 108, 118, 101]⟩] 169)
  generalize w.alloc (.cells #[.string ⟨#[111, 110, 101]⟩, .string ⟨#[116, 119, 111]⟩, .string ⟨#[116, 104, 114, 101, 101]⟩, .string ⟨#[102, 111, 117, 114]⟩, .string ⟨#[102, 105, 118, 101]⟩, .string ⟨#[115, 105, 120]⟩, .string ⟨#[115, 101, 118, 101, 110]⟩, .string ⟨#[101, 105, 103, 104, 116]⟩, .string ⟨#[110, 105, 110, 101]⟩, .string ⟨#[116, 101, 110]⟩, .string ⟨#[101, 108, 101, 118, 101, 110]⟩, .string ⟨#[116, 119, 101, 108, 118, 101]⟩] 169) = w1 at *
  have HI := Lib.hid (show Calls Tryz.prog 107 #[.slice (some ⟨w.heap.size, 0, none⟩) 12 12, .string s] w1 fun e w' => e = .returned (.int .i64 (idxV (idxN s))) ∧ w1 = w' from idxStr_c numWs s _ _ w1 hsl)
  have HB := Lib.hid hbl
  have HE1 := Lib.hid (HE.out.below hbl (Nat.le_refl _))
  clear hsl hbl HE
  cases hk : idxN s with
  | some k =>
    have HR := Lib.hid (cntW_some hk)
    have hlt := idxN_lt hk
    have hpos : (0 : Int) ≤ ((k : Nat) : Int) := by omega
    have hwr : IntKind.i64.wrap ((k : Int) + 1) = (k : Int) + 1 := IntWalk.i64_in _ (by omega)
    rw [hk] at HI
    rw [show idxV (some k) = ((k : Nat) : Int) from rfl] at HI
    clear hk
    go_wp2_with fail
    refine HI.out.mono ?_
    rintro e w' ⟨rfl, rfl⟩
    go_wp2
    go_ret
    exact ⟨by rw [HR.out]; rfl, HB.out⟩
  | none =>
    have HC := Lib.hid (cntW_none hk)
    rw [hk] at HI
    rw [show idxV none = (-1 : Int) from rfl] at HI
    clear hk
    go_wp2_with fail
    refine HI.out.mono ?_
    rintro e w' ⟨rfl, rfl⟩
    clear HI
    by_cases h0 : s.size < 1
    · have HR := Lib.hid (HC.out.trans (nmV_no (.inl h0)))
      have hz : (s.size : Int) < 1 := by omega
      go_wp2
      go_ret
      exact ⟨by rw [HR.out]; rfl, HB.out⟩
    by_cases h3 : 3 < s.size
    · have HR := Lib.hid (HC.out.trans (nmV_no (.inr (.inl h3))))
      have hz : ¬ (s.size : Int) < 1 := by omega
      have hz3 : (3 : Int) < s.size := by omega
      go_wp2
      go_ret
      exact ⟨by rw [HR.out]; rfl, HB.out⟩
    have hz : ¬ (s.size : Int) < 1 := by omega
    have hz3 : ¬ (3 : Int) < s.size := by omega
    have hp : 0 < s.size := by omega
    have hu0 : s[0].toNat < 256 := s[0].toNat_lt
    have hby := byt0_get hp
    by_cases h48 : s[0].toNat = 48
    · have HR := Lib.hid (HC.out.trans (nmV_no (.inr (.inr (.inl (by rw [hby]; exact h48))))))
      have h48' : ((s[0].toNat : Int) == 48) = true := by rw [h48]; rfl
      clear h48 hby
      go_wp2
      go_ret
      exact ⟨by rw [HR.out]; rfl, HB.out⟩
    have h48' : ((s[0].toNat : Int) == 48) = false := beq_eq_false_iff_ne.2 (by omega)
    have HY := Lib.hid (fun (h : allB digB s = true) => show cntW s = (dval 0 s.data.toList : Int) ∧ Lib.atoiAll s.data.toList = .ok (dval 0 s.data.toList : Int) from by
      have hk3 := ok3_yes (w := s) (by omega) (by omega) (by rw [hby]; exact h48) h
      exact ⟨HC.out.trans (by unfold nmV; rw [if_pos hk3]), ok3_atoi hk3⟩)
    have HN0 := Lib.hid (fun (h : allB digB s = false) => HC.out.trans (nmV_no (.inr (.inr (.inr h)))))
    clear h48 hby
    go_wp2
    clear h48' hu0
    go_loop [31] (fun i => ∃ k : Nat, k ≤ s.size ∧ i = .int .i64 k ∧ Hid (∀ x ∈ s.data.toList.take k, digB x = true)) (fun i => s.size - (intOf i).toNat)
    case atStart => exact ⟨0, Nat.zero_le _, rfl, by intro x hx; simp at hx⟩
    case round =>
      obtain ⟨k, hk, rfl, HN⟩ := hrel
      by_cases hlt : k < s.size
      · have hu : s[k].toNat < 256 := s[k].toNat_lt
        have HDD := Lib.hid (fun W => tDigit_c s[k] W)
        have HX := Lib.hid (fun (h : digB s[k] = false) => HN0.out (allB_no hlt h))
        have HNX := Lib.hid (fun (h : digB s[k] = true) => allB_next hlt HN.out h)
        cases hc2 : digB s[k] with
        | true =>
          have HK := Lib.hid (HNX.out hc2)
          go_wp2_with (first | (go_at_call 123; with_reducible refine (HDD.out _).mono ?_; rintro e w' ⟨rfl, rfl⟩; rw [hc2]) | fail)
          go_round
          case rel => exact ⟨k + 1, by omega, intNum, HK.out⟩
          case measure => simp [intOf]; omega
        | false =>
          have HR := Lib.hid (HX.out hc2)
          go_wp2_with (first | (go_at_call 123; with_reducible refine (HDD.out _).mono ?_; rintro e w' ⟨rfl, rfl⟩; rw [hc2]) | fail)
          go_ret
          exact ⟨by rw [HR.out]; rfl, HB.out⟩
      · have HR := Lib.hid (HY.out (allB_yes hlt HN.out))
        have HAT := Lib.hid (atoi_o s w1 (by omega) HE1.out)
        go_wp2_with fail
        refine HAT.out.mono ?_
        rintro e w2 ⟨n, ev, hn, hA, rfl, hb2⟩
        have HB2 := Lib.hid (HB.out.trans (hb2.mono HB.out.size))
        have hnv : cntW s = n := by
          rcases hA with ⟨hok, _⟩ | ⟨hbad, _⟩
          · have h2 := HR.out.2
            rw [hok] at h2
            injection h2 with h2
            rw [HR.out.1, h2]
          · exact absurd HR.out.2 (hbad _)
        have HNV := Lib.hid hnv
        clear hb2 hA hnv
        go_wp2
        go_ret
        exact ⟨by rw [HNV.out]; rfl, HB2.out⟩
theorem fitI_any {x : Itm} {w : ByteArray} (h : x.any = true) : fitI x w = true := if_pos h
theorem fitI_count {x : Itm} {w : ByteArray} (h : x.any = false) (h2 : x.count = true) : fitI x w = decide (0 < cntW w) := by unfold fitI; rw [h, h2]; rfl
theorem fitI_begins {x : Itm} {w : ByteArray} (h : x.any = false) (h2 : x.count = false) (h3 : x.begins = true) : fitI x w = Lib.hasPrefix w.data.toList (x.ws.headD ByteArray.empty).data.toList := by unfold fitI; rw [h, h2, h3]; rfl
theorem fitI_words {x : Itm} {w : ByteArray} (h : x.any = false) (h2 : x.count = false) (h3 : x.begins = false) : fitI x w = x.ws.any fun y => decide (y = w) := by unfold fitI; rw [h, h2, h3]; rfl
set_option maxRecDepth 100000 in
set_option maxHeartbeats 4000000 in
theorem matches_c {F : Nat → Prop} (x : Itm) (v : Value) (s : ByteArray) (w : World) (hs : s.size ≤ 1000000) (hE : ErrsLaid w) (hv : Sli strR w F x.ws v) (hF : ∀ b, F b → b < w.heap.size) (hb : x.begins = true → 0 < x.ws.length) :
    Calls Tryz.prog 101 #[itmV x v, .string s] w fun e w' => e = .returned (.bool (fitI x s)) ∧ Below w.heap.size w w' := by
  obtain ⟨A, c, rfl, hlc, hcm⟩ := hv.form
  have HV := Lib.hid hv
  have HB := Lib.hid hb
  have HFF := Lib.hid hF
  have HFA := Lib.hid (fun h => fitI_any (x := x) (w := s) h)
  have HFC := Lib.hid (fun h h2 => fitI_count (x := x) (w := s) h h2)
  have HFB := Lib.hid (fun h h2 h3 => fitI_begins (x := x) (w := s) h h2 h3)
  have HFW := Lib.hid (fun h h2 h3 => fitI_words (x := x) (w := s) h h2 h3)
  obtain ⟨any, count, begins, ws⟩ := x
  obtain ⟨L, hL⟩ : ∃ L, ws.length = L := ⟨_, rfl⟩
  have HL := Lib.hid hL
  unfold itmV
  dsimp only at *
  rw [hL] at HV hlc ⊢
  have hbl := (Below.refl w.heap.size w).alloc (Nat.le_refl _) (.cells #[.bool any, .bool count, .bool begins, .slice A L c] 103)
  have hz : (w.alloc (.cells #[.bool any, .bool count, .bool begins, .slice A L c] 103)).heap.size = w.heap.size + 1 := by simp
  have HCT := Lib.hid (tCounted_c s (w.alloc (.cells #[.bool any, .bool count, .bool begins, .slice A L c] 103)) hs (hE.below hbl (Nat.le_refl _)))
  have HV1 := Lib.hid (HV.out.below hbl HFF.out)
  have HB1 := Lib.hid hbl
  clear hv hb hF hL hbl
  cases any with
  | true =>
    have HR := Lib.hid (HFA.out rfl)
    clear HFA HFC HFB HFW
    go_enter Tryz.func101, Tryz.ntmps101
    go_wp2
    go_ret
    exact ⟨ret_bool HR.out.symm, HB1.out⟩
  | false =>
  cases count with
  | true =>
    have HR := Lib.hid (HFC.out rfl rfl)
    clear HFA HFC HFB HFW
    go_enter Tryz.func101, Tryz.ntmps101
    go_wp2_with fail
    refine HCT.out.mono ?_
    rintro e w2 ⟨rfl, hb2⟩
    by_cases hp : 0 < cntW s
    all_goals
      generalize cntW s = n at *
      go_wp2
      go_ret
      exact ⟨ret_bool (by rw [HR.out]; first | done | exact (decide_eq_true hp).symm | exact (decide_eq_false hp).symm), HB1.out.trans (hb2.mono HB1.out.size)⟩
  | false =>
  cases begins with
  | true =>
    have HR := Lib.hid (HFB.out rfl rfl rfl)
    have h0 := HB.out rfl
    have hk : 0 < ws.length := h0
    obtain ⟨b, off, rfl, hfb, c0⟩ := strAt HV1.out 0 hk
    rw [Nat.add_zero] at c0
    have hq : ws.headD ByteArray.empty = ws[0] := by cases ws with | nil => simp at hk | cons y r => rfl
    rw [hq] at HR
    have HP := Lib.hid (fun W => show Calls Tryz.prog 79 #[.string s, .string ws[0]] W (fun e w' => e = .returned (.bool (Lib.hasPrefix s.data.toList ws[0].data.toList)) ∧ w' = W) from Tryz.strings_HasPrefix s ws[0] W)
    have hL0 : 0 < L := by rw [← HL.out]; exact hk
    generalize Lib.hasPrefix s.data.toList ws[0].data.toList = pq at *
    clear hq
    generalize ws[0] = y at *
    clear HFA HFC HFB HFW h0 hk
    go_enter Tryz.func101, Tryz.ntmps101
    go_wp2_with fail
    refine (HP.out _).mono ?_
    rintro e w' ⟨rfl, rfl⟩
    go_wp2
    go_ret
    exact ⟨ret_bool HR.out.symm, HB1.out⟩
  | false =>
    have HR := Lib.hid (HFW.out rfl rfl rfl)
    have HC := Lib.hid (contains_c ws s (.slice A L c) _ _ HV1.out)
    generalize (ws.any fun y => decide (y = s)) = pq at *
    clear HFA HFC HFB HFW
    go_enter Tryz.func101, Tryz.ntmps101
    go_wp2_with fail
    refine HC.out.mono ?_
    rintro e w' ⟨rfl, rfl⟩
    go_wp2
    go_ret
    exact ⟨ret_bool HR.out.symm, HB1.out⟩
end Go.Proofs.YtlfnmmnbfoimeaaGreatDoor

