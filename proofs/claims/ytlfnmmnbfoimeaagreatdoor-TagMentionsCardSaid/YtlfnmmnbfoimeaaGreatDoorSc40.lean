/- Texts packed: RtT, RlB, WdX, TgQ. -/
import Derived.Test.YtlfnmmnbfoimeaaGreatDoorSc13
import Derived.Test.YtlfnmmnbfoimeaaGreatDoorSc39
import Derived.Test.YtlfnmmnbfoimeaaGreatDoorSc01
import Derived.Test.YtlfnmmnbfoimeaaGreatDoorSc22
import Derived.Deep.DeepCutAuto
import Derived.Test.YtlfnmmnbfoimeaaGreatDoorSc08
import Derived.Test.YtlfnmmnbfoimeaaGreatDoorSc02
import Derived.Test.YtlfnmmnbfoimeaaGreatDoorSc32
/- A script's text, read, is the script. No program in sight. -/
namespace Go.Proofs.YtlfnmmnbfoimeaaGreatDoor
set_option linter.unusedVariables false
open Go.RowKit

/-! Nothing in a line is a line feed. -/
/-! Line by line. -/
end Go.Proofs.YtlfnmmnbfoimeaaGreatDoor

/- The reference's lines of a script, walked. -/
namespace Go.Proofs.YtlfnmmnbfoimeaaGreatDoor
set_option linter.unusedVariables false
open Go.RowKit Go.Sort

/-- The list of texts so far, and the blocks beside it. -/
abbrev LnG (w : World) (l : List ByteArray) (v : Value) (P : List (Nat × Array Value × TypeId)) (wx : World) : Prop := BO strR 9 w l v P wx
end Go.Proofs.YtlfnmmnbfoimeaaGreatDoor

/- R.WordsOf, walked. -/
namespace Go.Proofs.YtlfnmmnbfoimeaaGreatDoor
set_option linter.unusedVariables false
open Go.RowKit

theorem q39 (c : UInt8) : (c == 39) = decide (c.toNat = 39) := by
  have hh : ∀ c : UInt8, decide ((c == 39) = decide (c.toNat = 39)) = true := u8_eq (q := fun _ => true) (by decide +kernel)
  simpa using hh c
set_option maxHeartbeats 1600000 in
theorem inWord_c (c : UInt8) (w : World) : Calls Tryz.prog 105 #[.int .u8 c.toNat] w fun e w' => e = .returned (.bool (inWB c)) ∧ w = w' := by
  have hu : c.toNat < 256 := c.toNat_lt
  have HV := Lib.hid (show inWB c = ((((decide (65 ≤ c.toNat) && decide (c.toNat ≤ 90)) || (decide (97 ≤ c.toNat) && decide (c.toNat ≤ 122))) || (decide (48 ≤ c.toNat) && decide (c.toNat ≤ 57))) || decide (c.toNat = 39)) by unfold inWB; rw [q39]; rfl)
  rcases (show (97 ≤ c.toNat ∧ c.toNat ≤ 122) ∨ (65 ≤ c.toNat ∧ c.toNat ≤ 90) ∨ (48 ≤ c.toNat ∧ c.toNat ≤ 57) ∨ c.toNat < 48 ∨ (57 < c.toNat ∧ c.toNat < 65) ∨ (90 < c.toNat ∧ c.toNat < 97) ∨ 122 < c.toNat by omega) with ⟨h1, h2⟩ | ⟨h1, h2⟩ | ⟨h1, h2⟩ | h1 | ⟨h1, h2⟩ | ⟨h1, h2⟩ | h1
  all_goals
    generalize inWB c = b at *
    generalize c.toNat = n at *
    go_enter Tryz.func105, Tryz.ntmps105
    go_wp2
    go_ret
    exact ⟨ret_bool (by rw [HV.out, Bool.eq_iff_iff]; simp; omega), rfl⟩
theorem enc_one {c : UInt8} (h : c.toNat < 128) : Utf8.encode (c.toNat : Int) = ⟨#[c]⟩ := by
  have hh : ∀ c : UInt8, (!decide (c.toNat < 128) || decide (Utf8.encode (c.toNat : Int) = ⟨#[c]⟩)) = true := u8_eq (q := fun _ => true) (by decide +kernel)
  have := hh c
  rw [decide_eq_true h] at this
  simpa using this
theorem inWB_ascii {c : UInt8} (h : inWB c = true) : (loC c).toNat < 128 := by
  have hh : ∀ c : UInt8, (!inWB c || decide ((loC c).toNat < 128)) = true := u8_eq (q := fun _ => true) (by decide +kernel)
  have := hh c
  rw [h] at this
  simpa using this
theorem trim_ok (cur : List UInt8) : (⟨(Lib.trimS cur [39]).toArray⟩ : ByteArray).toList.isEmpty = !wdOk cur := by
  rw [toList_mk, Bool.eq_iff_iff, List.isEmpty_iff, trimS_nil]
  unfold wdOk
  rw [Bool.not_eq_true', ← Bool.not_eq_true, List.any_eq_true, List.all_eq_true]
  constructor
  · rintro h ⟨x, hx, h2⟩
    have := h x hx
    simp at this h2
    exact h2 this
  · intro h x hx
    by_cases e : x = 39
    · subst e; rfl
    · exact absurd ⟨x, hx, by simpa using e⟩ h
theorem snoc_str (cur : List UInt8) (c : UInt8) : (⟨cur.toArray⟩ : ByteArray) ++ ⟨#[c]⟩ = ⟨(cur ++ [c]).toArray⟩ := by
  apply ByteArray.ext
  simp [ByteArray.data_append]
structure WdO (s : ByteArray) (w : World) (k : Nat) (out : List ByteArray) (cur : List UInt8) (v : Value) (wr : World) : Prop where
  bo : LnG w out v [] wr
  at_ : k ≤ s.size → WdI s k out cur
  end_ : k = s.size + 1 → out = wordsT s
theorem WdO.flush {s : ByteArray} {w w' : World} {k : Nat} {out : List ByteArray} {cur : List UInt8} {v v' : Value} {wr : World} (h : WdO s w k out cur v wr) (hk : k ≤ s.size) (hc : ∀ h : k < s.size, inWB s[k] = false) (hb : LnG w (out ++ flW cur) v' [] w') : WdO s w (k + 1) (out ++ flW cur) [] v' w' :=
  ⟨hb, fun h2 => (h.at_ hk).out_ (by omega) (hc (by omega)), fun h2 => (h.at_ hk).end_ (by omega)⟩
theorem WdO.word {s : ByteArray} {w : World} {k : Nat} {out : List ByteArray} {cur : List UInt8} {v : Value} {wr : World} (h : WdO s w k out cur v wr) (hk : k < s.size) (hc : inWB s[k] = true) : WdO s w (k + 1) out (cur ++ [loC s[k]]) v wr :=
  ⟨h.bo, fun h2 => (h.at_ (by omega)).in_ hk hc, fun h2 => by omega⟩
set_option maxRecDepth 100000 in
set_option maxHeartbeats 800000 in
theorem WordsOf_c (s : ByteArray) (w : World) (hs : s.size ≤ 100000000) :
    Calls Tryz.prog 69 #[.string s] w fun e w' => ∃ v, e = .returned v ∧ Own strR w' w.heap.size w.heap.size 9 (wordsT s) v ∧ Below w.heap.size w w' := by
  obtain ⟨i0, hi0, hz0, hz1, hz2⟩ := info_parts (show (Tryz.prog.info? 9).map (fun i => (i.zero, i.size, i.bytes)) = some (some (.string ⟨#[]⟩), 1, 16) by kernel_rfl)
  have H0 := Lib.hid (show WdO s w 0 [] [] (.slice none 0 0) w from ⟨BO.start w, fun _ => WdI.start s, fun h => by omega⟩)
  have he : (⟨#[]⟩ : ByteArray) = ⟨([] : List UInt8).toArray⟩ := rfl
  go_enter Tryz.func69, Tryz.ntmps69
  go_upto_region 3 with (fail)
  go_wp2
  go_loopw [3, 4, 5] (fun v wd i wr => ∃ (k : Nat) (out : List ByteArray) (cur : List UInt8), k ≤ s.size + 1 ∧ i = .int .i64 k ∧ wd = .string ⟨cur.toArray⟩ ∧ cur.length ≤ k ∧ Hid (WdO s w k out cur v wr)) (fun _ _ i _ => s.size + 1 - (intOf i).toNat)
  case atStart => exact ⟨0, [], [], Nat.zero_le _, rfl, rfl, Nat.zero_le _, H0⟩
  case round =>
    clear H0 he
    obtain ⟨k, out, cur, hk, rfl, rfl, hm, HW⟩ := hrel
    by_cases hle : k ≤ s.size
    case neg =>
      have HE := Lib.hid (HW.out.end_ (by omega))
      have hle2 : (s.size : Int) < k := by omega
      clear hle
      go_wp2
      go_ret
      exact ⟨_, rfl, by rw [← HE.out]; exact HW.out.bo.own, HW.out.bo.bel⟩
    have hle2 : (k : Int) ≤ s.size := by omega
    have hbs := HW.out.bo.size
    obtain ⟨b, hb⟩ : ∃ b : Bool, b = if h : k < s.size then inWB s[k] else false := ⟨_, rfl⟩
    have HB := Lib.hid hb
    go_upto_region 6 with (fail)
    go_cut [22] (fun x wx => x = .bool b ∧ wx = wr)
    case first =>
      by_cases hks : k < s.size
      · have HI := Lib.hid (inWord_c s[k] wr)
        rw [dif_pos hks] at hb
        have HBB := Lib.hid hb
        clear hb
        go_wp2_with (first | (go_at_call 105; refine HI.out.mono ?_; rintro e w' ⟨rfl, rfl⟩) | fail)
        go_meet
        exact ⟨by rw [HBB.out], rfl⟩
      · rw [dif_neg hks] at hb
        subst hb
        go_wp2
        go_meet
        exact ⟨rfl, rfl⟩
    case rest =>
    obtain ⟨rfl, rfl⟩ := hcut
    clear hb
    cases b with
    | true =>
      have hks : k < s.size := by
        apply Classical.byContradiction
        intro hn
        have := HB.out
        rw [dif_neg hn] at this
        cases this
      have HIN := Lib.hid (show inWB s[k] = true by have := HB.out; rw [dif_pos hks] at this; exact this.symm)
      have hcu : s[k].toNat < 256 := s[k].toNat_lt
      have hasc := inWB_ascii HIN.out
      have HNW := Lib.hid (HW.out.word hks HIN.out)
      go_upto_region 8 with (fail)
      generalize s[k] = c at *
      have HCP := Lib.hid (show capB c = (decide (65 ≤ c.toNat) && decide (c.toNat ≤ 90)) from rfl)
      go_cut [31] (fun x wx => x = .bool (capB c) ∧ wx = wc)
      case first =>
        rcases (show c.toNat < 65 ∨ (65 ≤ c.toNat ∧ c.toNat ≤ 90) ∨ (65 ≤ c.toNat ∧ 90 < c.toNat) by omega) with h1 | ⟨h1, h2⟩ | ⟨h1, h2⟩
        all_goals
          go_wp2
          go_meet
          exact ⟨congrArg Value.bool (by rw [HCP.out, Bool.eq_iff_iff]; simp; omega), rfl⟩
      case rest =>
      obtain ⟨rfl, rfl⟩ := hcut
      go_upto_if 31 with (fail)
      go_cut [6] (fun x wx => x = .int .u8 ((loC c).toNat : Int) ∧ wx = wc)
      case first =>
        cases hcp : capB c with
        | true =>
          have hcb : c.toNat ≤ 90 := by simp [capB] at hcp; omega
          have HLC := Lib.hid (show (loC c).toNat = c.toNat + 32 by rw [loC_nat, if_pos hcp])
          have hwu : IntKind.u8.wrap ((c.toNat : Int) + 32) = (c.toNat : Int) + 32 := by rw [IntKind.wrap_u8]; omega
          clear hcp
          go_wp2
          go_meet
          exact ⟨by rw [HLC.out]; simp, rfl⟩
        | false =>
          have HLC := Lib.hid (show (loC c).toNat = c.toNat by rw [loC_nat, if_neg (by rw [hcp]; decide)])
          clear hcp
          go_wp2
          go_meet
          exact ⟨by rw [HLC.out], rfl⟩
      case rest =>
      obtain ⟨rfl, rfl⟩ := hcut
      have HEN := Lib.hid (enc_one hasc)
      generalize loC c = d at *
      have hcv : ∀ W, (convert 21 9 (.int .i32 (d.toNat : Int))).run Tryz.prog W = .ok (.string ⟨#[d]⟩) W := fun W => by
        rw [run_convert_int_string W _ _ _ _ (by kernel_rfl) Tryz.underlying9, HEN.out]
      have HSN := Lib.hid (snoc_str cur d)
      have hdu : d.toNat < 128 := hasc
      clear hasc hcu
      go_wp2
      go_roundw
      case rel => exact ⟨k + 1, out, cur ++ [d], by omega, intNum, by rw [HSN.out], by simp; omega, HNW⟩
      case measure => simp [intOf]; omega
    | false =>
      have HNI := Lib.hid (show ∀ h : k < s.size, inWB s[k] = false from fun h => by have := HB.out; rw [dif_pos h] at this; exact this.symm)
      have HTR := Lib.hid (trim_c ⟨cur.toArray⟩ ⟨#[39]⟩ wc (by rw [mk_size]; omega) (by decide) (by decide))
      have HTO := Lib.hid (trim_ok cur)
      have HT2 := Lib.hid (show (⟨(Lib.trimS (⟨cur.toArray⟩ : ByteArray).data.toList (⟨#[39]⟩ : ByteArray).data.toList).toArray⟩ : ByteArray) = ⟨(Lib.trimS cur [39]).toArray⟩ from rfl)
      rw [HT2.out] at HTR
      clear HT2
      generalize (⟨(Lib.trimS cur [39]).toArray⟩ : ByteArray) = X at *
      have HFY := Lib.hid (@flW_yes cur)
      have HFN := Lib.hid (@flW_no cur)
      cases hw : wdOk cur with
      | true =>
        have HFL := Lib.hid (HFY.out hw)
        have hxe : X.toList.isEmpty = false := by have := HTO.out; rw [hw] at this; exact this
        have hol := Lib.hid (HW.out.at_ hle).2.2
        obtain ⟨q, hq2⟩ : ∃ q, out.length = q := ⟨_, rfl⟩
        have HQ := Lib.hid hq2
        have hql : q ≤ 100000000 := by have := hol.out; omega
        clear hw hol hq2 HFY HFN HTO
        go_upto_region 12 with (first | (go_at_call 92; refine HTR.out.mono ?_; rintro e w2 ⟨rfl, hb2⟩) | fail)
        have HG2 := Lib.hid (HW.out.bo.below hb2)
        have hz2 := HG2.out.size
        clear hb2
        generalize hZ : (⟨cur.toArray⟩ : ByteArray) = Z at *
        have HZ := Lib.hid hZ
        clear hZ
        go_wp2_with (at_builtin; (refine wpList_pushS1 rfl _ _ _ rfl w.heap.size w.heap.size 9 i0 _ Tryz.underlying69 hi0 hz0 (by assumption) (by assumption) rfl _ u3 out q HQ.out rfl (HG2.out.own.alloc _) Z w2.heap.size _ _ (heap_alloc_new w2 _) rfl (by omega) (by simp; omega) ?_); intro g7 cap7 w7 hown7 hg7 hat7 hlt7)
        go_roundw
        case rel => exact ⟨k + 1, out ++ flW cur, [], by omega, intNum, rfl, by simp, HW.out.flush hle HNI.out (by rw [HFL.out]; exact (HG2.out.alloc (.cells #[.string Z] 9)).more hown7 hg7 rfl hat7)⟩
        case measure => simp [intOf]; omega
      | false =>
        have HFL := Lib.hid (HFN.out hw)
        have hxe : X.toList.isEmpty = true := by have := HTO.out; rw [hw] at this; exact this
        clear hw HFY HFN HTO
        go_wp2_with (first | (go_at_call 92; refine HTR.out.mono ?_; rintro e w2 ⟨rfl, hb2⟩) | fail)
        go_roundw
        case rel => exact ⟨k + 1, out ++ flW cur, [], by omega, intNum, rfl, by simp, HW.out.flush hle HNI.out (by rw [HFL.out, List.append_nil]; exact HW.out.bo.below hb2)⟩
        case measure => simp [intOf]; omega
end Go.Proofs.YtlfnmmnbfoimeaaGreatDoor

/- The reference's counts and matches, walked. -/
namespace Go.Proofs.YtlfnmmnbfoimeaaGreatDoor
set_option linter.unusedVariables false
open Go.RowKit

def zerosT : ByteArray := ⟨#[122, 101, 114, 111, 32, 111, 110, 101, 32, 116, 119, 111, 32, 116, 104, 114, 101, 101, 32, 102, 111, 117, 114, 32, 102, 105, 118, 101, 32, 115, 105, 120, 32, 115, 101, 118, 101, 110, 32, 101, 105, 103, 104, 116, 32, 110, 105, 110, 101, 32, 116, 101, 110, 32, 101, 108, 101, 118, 101, 110, 32, 116, 119, 101, 108, 118, 101]⟩
theorem zerosT_words : wordsB zerosT = zeroNs := by decide +kernel
theorem zerosT_pr : ∀ x ∈ zerosT.data.toList, prB x = true := by decide +kernel
theorem zeros_c (w : World) (hsp : SpLaid w) : Calls Tryz.prog 91 #[.string zerosT] w fun e w' => ∃ v, e = .returned v ∧ Below w.heap.size w w' ∧ Own strR w' w.heap.size w.heap.size 9 zeroNs v := by
  rw [← zerosT_words]
  exact fields_c zerosT w (by decide) zerosT_pr hsp
theorem idxZ_lt {w : ByteArray} {k : Nat} (h : idxZ w = some k) : k < 13 := (List.findIdx?_eq_some_iff_getElem.1 h).1
theorem atoi_ne {s : ByteArray} {n : Int} (h : Lib.atoiAll s.data.toList = .ok n) : 0 < s.size := by
  by_cases h0 : 0 < s.size
  · exact h0
  · have : s.data.toList = [] := List.length_eq_zero_iff.1 (by rw [lenB]; omega)
    rw [this] at h; cases h
set_option maxRecDepth 100000 in
set_option maxHeartbeats 4000000 in
theorem rCounted_c (s : ByteArray) (w : World) (hs : s.size ≤ 1000000) (hE : ErrsLaid w) (hS : SpLaid w) : Calls Tryz.prog 71 #[.string s] w fun e w' => e = .returned (.int .i64 (cntW s)) ∧ Below w.heap.size w w' := by
  have HE := Lib.hid hE
  have HZ := Lib.hid (show Calls Tryz.prog 91 #[.string ⟨#[122, 101, 114, 111, 32, 111, 110, 101, 32, 116, 119, 111, 32, 116, 104, 114, 101, 101, 32, 102, 111, 117, 114, 32, 102, 105, 118, 101, 32, 115, 105, 120, 32, 115, 101, 118, 101, 110, 32, 101, 105, 103, 104, 116, 32, 110, 105, 110, 101, 32, 116, 101, 110, 32, 101, 108, 101, 118, 101, 110, 32, 116, 119, 101, 108, 118, 101]⟩] w fun e w' => ∃ v, e = .returned v ∧ Below w.heap.size w w' ∧ Own strR w' w.heap.size w.heap.size 9 zeroNs v from zeros_c w hS)
  clear hE hS
  go_enter Tryz.func71, Tryz.ntmps71
  go_wp2_with fail
  refine HZ.out.mono ?_
  rintro e w1 ⟨v, rfl, hb1, hown⟩
  have HI := Lib.hid (show Calls Tryz.prog 107 #[v, .string s] w1 fun e w' => e = .returned (.int .i64 (idxV (idxZ s))) ∧ w1 = w' from idxStr_c zeroNs s v (fun _ => True) w1 (hown.sli (fun _ _ _ => trivial) (fun _ _ => trivial)))
  have HB := Lib.hid hb1
  have HE1 := Lib.hid (HE.out.below hb1 (Nat.le_refl _))
  clear hb1 hown HZ
  by_cases hk : ∃ k, idxZ s = some (k + 1)
  · obtain ⟨k, hk⟩ := hk
    have HR := Lib.hid (idxZ_yes hk (by omega))
    have hlt := idxZ_lt hk
    rw [hk] at HI
    clear hk
    rw [show idxV (some (k + 1)) = ((k + 1 : Nat) : Int) from rfl] at HI
    have hpos : (0 : Int) < ((k + 1 : Nat) : Int) := by omega
    go_wp2_with fail
    refine HI.out.mono ?_
    rintro e w' ⟨rfl, rfl⟩
    go_wp2
    go_ret
    exact ⟨by rw [HR.out]; rfl, HB.out⟩
  have hz : idxZ s = none ∨ idxZ s = some 0 := by
    cases h : idxZ s with
    | none => exact .inl rfl
    | some j =>
      cases j with
      | zero => exact .inr rfl
      | succ j => exact absurd ⟨j, h⟩ hk
  have HC := Lib.hid (idxZ_no hz)
  have hiz : idxV (idxZ s) ≤ 0 := by
    rcases hz with h | h <;> rw [h]
    · show (-1 : Int) ≤ 0; omega
    · show ((0 : Nat) : Int) ≤ 0; omega
  clear hk hz
  generalize idxV (idxZ s) = ix at *
  have hni : ¬ (0 : Int) < ix := by omega
  go_wp2_with fail
  refine HI.out.mono ?_
  rintro e w' ⟨rfl, rfl⟩
  clear HI
  go_wp2_with fail
  refine (atoi_o s w1 (by omega) HE1.out).mono ?_
  rintro e w2 ⟨n, ev, hn, hA, rfl, hb2⟩
  have HB2 := Lib.hid (HB.out.trans (hb2.mono HB.out.size))
  clear hb2 HB
  rcases hA with ⟨hok, rfl⟩ | ⟨hbad, t, N, rfl⟩
  · have hp := atoi_ne hok
    have h0 := byt0_get hp
    by_cases h3 : 3 < s.size
    · have HR := Lib.hid (HC.out.trans (nmV_bad (.inr (.inl h3))))
      have h3' : (3 : Int) < (s.size : Int) := by omega
      clear hok
      go_wp2
      go_ret
      exact ⟨by rw [HR.out]; rfl, HB2.out⟩
    have h3' : ¬ (3 : Int) < (s.size : Int) := by omega
    by_cases h4 : s[0].toNat < 49
    · have HR := Lib.hid (HC.out.trans (nmV_bad (.inr (.inr (.inl (by rw [h0]; exact h4))))))
      clear hok
      go_wp2
      go_ret
      exact ⟨by rw [HR.out]; rfl, HB2.out⟩
    by_cases h5 : 57 < s[0].toNat
    · have HR := Lib.hid (HC.out.trans (nmV_bad (.inr (.inr (.inr (by rw [h0]; exact h5))))))
      clear hok
      go_wp2
      go_ret
      exact ⟨by rw [HR.out]; rfl, HB2.out⟩
    have HR := Lib.hid (HC.out.trans (nmV_ok hok (by rw [h0]; omega) (by rw [h0]; omega) (by omega)))
    clear hok
    go_wp2
    go_ret
    exact ⟨by rw [HR.out]; rfl, HB2.out⟩
  · have HR := Lib.hid (HC.out.trans (nmV_bad (.inl hbad)))
    clear hbad
    go_wp2
    go_ret
    exact ⟨by rw [HR.out]; rfl, HB2.out⟩
theorem fitT_q {s w : ByteArray} (h : s.toList = [63]) : fitT s w = true := if_pos h
theorem fitT_h {s w : ByteArray} (h1 : ¬ s.toList = [63]) (h : s.toList = [35]) : fitT s w = decide (0 < cntW w) := by unfold fitT; rw [if_neg h1, if_pos h]
theorem fitT_s {s w : ByteArray} (h1 : ¬ s.toList = [63]) (h2 : ¬ s.toList = [35]) (h : Lib.hasSuffix s.data.toList [42] = true) : fitT s w = Lib.hasPrefix w.data.toList (cutStar s).data.toList := by unfold fitT; rw [if_neg h1, if_neg h2, if_pos h]
theorem fitT_w {s w : ByteArray} (h1 : ¬ s.toList = [63]) (h2 : ¬ s.toList = [35]) (h : ¬ Lib.hasSuffix s.data.toList [42] = true) : fitT s w = (words s 124).any fun y => decide (y = w) := by unfold fitT; rw [if_neg h1, if_neg h2, if_neg h]
set_option maxRecDepth 100000 in
set_option maxHeartbeats 4000000 in
theorem fits_c (s t : ByteArray) (w : World) (hs : s.size ≤ 1000000) (ht : t.size ≤ 1000000) (hE : ErrsLaid w) (hS : SpLaid w) (hm : MaxLaid w) : Calls Tryz.prog 70 #[.string s, .string t] w fun e w' => e = .returned (.bool (fitT s t)) ∧ Below w.heap.size w w' := by
  have HSU := Lib.hid (fun W => Tryz.strings_HasSuffix s ⟨#[42]⟩ W (by omega))
  by_cases h1 : s.toList = [63]
  · have HR := Lib.hid (fitT_q (w := t) h1)
    have hb : (s.toList == [63]) = true := beq_iff_eq.2 h1
    clear h1
    go_enter Tryz.func70, Tryz.ntmps70
    go_wp2_with (first | fail)
    go_ret
    exact ⟨ret_bool HR.out.symm, Below.refl _ _⟩
  have hb1 : (s.toList == [63]) = false := beq_eq_false_iff_ne.2 h1
  by_cases h2 : s.toList = [35]
  · have HR := Lib.hid (fitT_h (w := t) h1 h2)
    have hb : (s.toList == [35]) = true := beq_iff_eq.2 h2
    have HC := Lib.hid (rCounted_c t w ht hE hS)
    clear h1 h2
    go_enter Tryz.func70, Tryz.ntmps70
    go_wp2_with fail
    refine HC.out.mono ?_
    rintro e w1 ⟨rfl, hb1⟩
    by_cases hp : 0 < cntW t
    all_goals
      generalize cntW t = n at *
      go_wp2
      go_ret
      exact ⟨ret_bool (by rw [HR.out]; first | done | exact (decide_eq_true hp).symm | exact (decide_eq_false hp).symm), hb1⟩
  have hb2 : (s.toList == [35]) = false := beq_eq_false_iff_ne.2 h2
  cases hsu : Lib.hasSuffix s.data.toList (⟨#[42]⟩ : ByteArray).data.toList with
  | true =>
    have HR := Lib.hid (fitT_s (w := t) h1 h2 hsu)
    have hz := starSz hsu
    have h3 : ((s.size : Int) - 1).toNat = s.size - 1 := by omega
    have h5 : (s.size : Int) - 1 ≤ s.size := by omega
    have h6 : (0 : Int) ≤ (s.size : Int) - 1 := by omega
    have HP := Lib.hid (fun W => show Calls Tryz.prog 79 #[.string t, .string (s.extract 0 (s.size - 1))] W (fun e w' => e = .returned (.bool (Lib.hasPrefix t.data.toList (cutStar s).data.toList)) ∧ w' = W) from Tryz.strings_HasPrefix t (s.extract 0 (s.size - 1)) W)
    clear h1 h2
    generalize Lib.hasPrefix t.data.toList (cutStar s).data.toList = q at *
    go_enter Tryz.func70, Tryz.ntmps70
    go_wp2_with (first | (go_at_call 58; with_reducible refine (HSU.out _).mono ?_; rintro e w' ⟨rfl, rfl⟩; rw [hsu]) | (go_at_call 79; with_reducible refine (HP.out _).mono ?_; rintro e w3 ⟨rfl, rfl⟩) | fail)
    go_ret
    exact ⟨ret_bool HR.out.symm, Below.refl _ _⟩
  | false =>
  have HR := Lib.hid (fitT_w (w := t) h1 h2 (fun h => by rw [show Lib.hasSuffix s.data.toList [42] = false from hsu] at h; cases h))
  have HWS := Lib.hid (words_c s 124 w (by omega) hm)
  clear h1 h2 hm
  go_enter Tryz.func70, Tryz.ntmps70
  go_wp2_with (first | (go_at_call 58; with_reducible refine (HSU.out _).mono ?_; rintro e w' ⟨rfl, rfl⟩; rw [hsu]) | fail)
  refine HWS.out.mono ?_
  rintro e w1 ⟨rfl, hw1, hb1, hz1⟩
  have HCT := Lib.hid (contains_c (words s 124) t _ _ w1 hw1)
  have HB := Lib.hid hb1
  clear hw1 hb1 hz1 hsu HSU HWS
  generalize (words s 124).any (fun y => decide (y = t)) = q at *
  generalize (words s 124).length = L at *
  go_wp2_with fail
  refine HCT.out.mono ?_
  rintro e w' ⟨rfl, rfl⟩
  go_wp2
  go_ret
  exact ⟨ret_bool HR.out.symm, HB.out⟩
end Go.Proofs.YtlfnmmnbfoimeaaGreatDoor

