/- Texts packed: RtT, RlB, ScW, WdX, FndW, FdS, FdW, FdX, RpW, RqW, ScZ. -/
import Derived.Test.YtkhegeobdcemkaaGreatDoorSe09
import Derived.Test.YtkhegeobdcemkaaGreatDoorSe33
import Derived.Test.YtkhegeobdcemkaaGreatDoorSe32
import Derived.Test.YtkhegeobdcemkaaGreatDoorSe01
import Derived.Test.YtkhegeobdcemkaaGreatDoorSe18
import Derived.Deep.DeepCutAuto
import Derived.Test.YtkhegeobdcemkaaGreatDoorSe06
import Derived.Test.YtkhegeobdcemkaaGreatDoorSe02
import Derived.Test.YtkhegeobdcemkaaGreatDoorSe16
import Derived.Test.YtkhegeobdcemkaaGreatDoorSe21
import Derived.Test.YtkhegeobdcemkaaGreatDoorSe29
/- A script's text, read, is the script. No program in sight. -/
namespace Go.Proofs.YtkhegeobdcemkaaGreatDoor
set_option linter.unusedVariables false
open Go.RowKit

/-! Nothing in a line is a line feed. -/
/-! Line by line. -/
end Go.Proofs.YtkhegeobdcemkaaGreatDoor

/- The reference's lines of a script, walked. -/
namespace Go.Proofs.YtkhegeobdcemkaaGreatDoor
set_option linter.unusedVariables false
open Go.RowKit Go.Sort

/-- The list of texts so far, and the blocks beside it. -/
abbrev LnG (w : World) (l : List ByteArray) (v : Value) (P : List (Nat × Array Value × TypeId)) (wx : World) : Prop := BO strR 9 w l v P wx
end Go.Proofs.YtkhegeobdcemkaaGreatDoor

/- The small script that the laws read and write. -/
namespace Go.Proofs.YtkhegeobdcemkaaGreatDoor
set_option linter.unusedVariables false
open Go.RowKit Go.Sort

def smallT : ByteArray := ⟨#[116, 105, 116, 108, 101, 58, 32, 84, 10, 10, 35, 32, 73, 78, 84, 46, 32, 72, 65, 76, 76, 32, 45, 32, 68, 65, 89, 10, 10, 82, 97, 105, 110, 46, 10]⟩
def smallX : Script := ⟨⟨#[84]⟩, [⟨⟨#[]⟩, 1, ⟨#[72, 65, 76, 76]⟩, 1, [⟨1, ⟨#[82, 97, 105, 110, 46]⟩⟩]⟩]⟩
theorem single_fst {l : List (Scene × Value)} {x : Scene} (h : l.map (·.1) = [x]) : ∃ y : Scene × Value, l = [y] ∧ y.1 = x := by
  cases l with
  | nil => cases h
  | cons a r =>
    cases r with
    | nil =>
      injection h with h1 _
      exact ⟨a, rfl, h1⟩
    | cons b r => injection h with _ h2; cases h2
theorem small_read : readS smallT = (smallX, 0, 0) := by kernel_rfl
theorem small_tx : txV smallX = (smallT, 0) := by kernel_rfl
set_option maxRecDepth 100000 in
set_option maxHeartbeats 4000000 in
theorem scripts_c (w : World) (hm : MaxLaid w) : Calls Tryz.prog 12 #[] w fun e w' => e = .returned (.bool true) ∧ Below w.heap.size w w' := by
  have HRD := Lib.hid (Read_c smallT w (by decide +kernel) hm)
  have HM := Lib.hid hm
  clear hm
  have HST := Lib.hid (show (smallT.toList == smallT.toList) = true from beq_self_eq_true _)
  have HTE := Lib.hid (show smallT = ⟨#[116, 105, 116, 108, 101, 58, 32, 84, 10, 10, 35, 32, 73, 78, 84, 46, 32, 72, 65, 76, 76, 32, 45, 32, 68, 65, 89, 10, 10, 82, 97, 105, 110, 46, 10]⟩ from rfl)
  rw [HTE.out] at HRD
  go_enter Tryz.func12, Tryz.ntmps12
  go_wp2_with fail
  refine HRD.out.mono ?_
  rintro e w1 ⟨l, v, rfl, hl, hs, hp, hb⟩
  rw [← HTE.out, small_read] at hl ⊢
  obtain ⟨y, rfl, hy⟩ : ∃ y : Scene × Value, l = [y] ∧ y.1 = ⟨⟨#[]⟩, 1, ⟨#[72, 65, 76, 76]⟩, 1, [⟨1, ⟨#[82, 97, 105, 110, 46]⟩⟩]⟩ := single_fst hl
  have hsc : ScL w1 (fun q => w.heap.size ≤ q ∧ q < w1.heap.size) ⟨#[84]⟩ [y] v := ⟨hs, hp, fun q hq => hq.2, by decide, by simp, fun z hz => by
    rw [List.mem_singleton] at hz
    subst hz
    rw [hy]
    exact ⟨by decide, by decide, by decide, fun p hp => by
      rw [List.mem_singleton] at hp
      subst hp
      show (⟨#[82, 97, 105, 110, 46]⟩ : ByteArray).size ≤ 1000000
      decide⟩⟩
  obtain ⟨A, c, hv, _, _⟩ := hs.form
  subst hv
  obtain ⟨b, off, hA, hfb, c0, c1, c2, c3, c4⟩ := scAt hs 0 (by simp)
  subst hA
  obtain ⟨A4, cc4, h4, _, _⟩ := (hp y (by simp)).form
  rw [show ([y] : List (Scene × Value))[0] = y from rfl, h4, show y.1.paras.length = 1 by rw [hy]; rfl] at c4
  have HB1 := Lib.hid (hb.alloc hb.size (.cells #[.string ⟨#[84]⟩, .slice (some ⟨b, off, none⟩) 1 c] 28))
  have hbe := (Below.refl w1.heap.size w1).alloc (Nat.le_refl _) (.cells #[.string ⟨#[84]⟩, .slice (some ⟨b, off, none⟩) 1 c] 28)
  have HTX := Lib.hid (Text_c ⟨#[84]⟩ [y] (.slice (some ⟨b, off, none⟩) 1 c) (w1.alloc (.cells #[.string ⟨#[84]⟩, .slice (some ⟨b, off, none⟩) 1 c] 28)) (hsc.below hbe) (max_below HM.out HB1.out (Nat.le_refl _)))
  have HV := Lib.hid (show txV ⟨⟨#[84]⟩, [y].map (·.1)⟩ = (smallT, 0) by rw [show ([y].map (·.1) : List Scene) = smallX.scenes from by show [y.1] = _; rw [hy]; rfl]; exact small_tx)
  have hbb : b < w1.heap.size := hfb.2
  have HY := Lib.hid (fun (X : World) (hx : Below (w1.alloc (.cells #[.string ⟨#[84]⟩, .slice (some ⟨b, off, none⟩) 1 c] 28)).heap.size (w1.alloc (.cells #[.string ⟨#[84]⟩, .slice (some ⟨b, off, none⟩) 1 c] 28)) X) => show X.cell? ⟨w1.heap.size, 1, none⟩ = some (.slice (some ⟨b, off, none⟩) 1 c) ∧ X.cell? ⟨b, off + 4, none⟩ = some (.slice A4 1 cc4) by
    obtain ⟨yy, _⟩ := str_cells ((hx.block w1.heap.size (by simp)).trans (heap_alloc_new w1 _))
    refine ⟨yy 1, ?_⟩
    rw [hx.cell (p := ⟨b, off + 4, none⟩) (by simp; omega), World.cell?_alloc_lt w1 _ ⟨b, off + 4, none⟩ hbb]
    simpa using c4)
  clear hl hy hsc hs hp c0 c1 c2 c3 c4 h4 hb hbe
  go_wp2_with fail
  refine HTX.out.mono ?_
  rintro e w3 ⟨rfl, hb3⟩
  rw [HV.out]
  obtain ⟨z1, z4⟩ := HY.out w3 hb3
  have HB3 := Lib.hid (HB1.out.trans (hb3.mono HB1.out.size))
  have hs1 := HST.out
  rw [HTE.out] at hs1 ⊢
  clear hb3
  go_wp2
  go_ret
  exact ⟨rfl, HB3.out⟩
end Go.Proofs.YtkhegeobdcemkaaGreatDoor

/- R.WordsOf, walked. -/
namespace Go.Proofs.YtkhegeobdcemkaaGreatDoor
set_option linter.unusedVariables false
open Go.RowKit

theorem q39 (c : UInt8) : (c == 39) = decide (c.toNat = 39) := by
  have hh : ∀ c : UInt8, decide ((c == 39) = decide (c.toNat = 39)) = true := u8_eq (q := fun _ => true) (by decide +kernel)
  simpa using hh c
set_option maxHeartbeats 1600000 in
theorem inWord_c (c : UInt8) (w : World) : Calls Tryz.prog 110 #[.int .u8 c.toNat] w fun e w' => e = .returned (.bool (inWB c)) ∧ w = w' := by
  have hu : c.toNat < 256 := c.toNat_lt
  have HV := Lib.hid (show inWB c = ((((decide (65 ≤ c.toNat) && decide (c.toNat ≤ 90)) || (decide (97 ≤ c.toNat) && decide (c.toNat ≤ 122))) || (decide (48 ≤ c.toNat) && decide (c.toNat ≤ 57))) || decide (c.toNat = 39)) by unfold inWB; rw [q39]; rfl)
  rcases (show (97 ≤ c.toNat ∧ c.toNat ≤ 122) ∨ (65 ≤ c.toNat ∧ c.toNat ≤ 90) ∨ (48 ≤ c.toNat ∧ c.toNat ≤ 57) ∨ c.toNat < 48 ∨ (57 < c.toNat ∧ c.toNat < 65) ∨ (90 < c.toNat ∧ c.toNat < 97) ∨ 122 < c.toNat by omega) with ⟨h1, h2⟩ | ⟨h1, h2⟩ | ⟨h1, h2⟩ | h1 | ⟨h1, h2⟩ | ⟨h1, h2⟩ | h1
  all_goals
    generalize inWB c = b at *
    generalize c.toNat = n at *
    go_enter Tryz.func110, Tryz.ntmps110
    go_wp2
    go_ret
    exact ⟨ret_bool (by rw [HV.out, Bool.eq_iff_iff]; simp; omega), rfl⟩
theorem enc_one {c : UInt8} (h : c.toNat < 128) : Utf8.encode (c.toNat : Int) = ⟨#[c]⟩ := by
  have hh : ∀ c : UInt8, (!decide (c.toNat < 128) || decide (Utf8.encode (c.toNat : Int) = ⟨#[c]⟩)) = true := u8_eq (q := fun _ => true) (by decide +kernel)
  have := hh c
  rw [decide_eq_true h] at this
  simpa using this
theorem inWB_ascii {c : UInt8} (h : inWB c = true) : (loC c).toNat < 128 := by
  have hh : ∀ c : UInt8, (!inWB c || decide ((loC c).toNat < 128)) = true := u8_eq (q := fun _ => true) (by decide +kernel)
  have := hh c
  rw [h] at this
  simpa using this
theorem trim_ok (cur : List UInt8) : (⟨(Lib.trimS cur [39]).toArray⟩ : ByteArray).toList.isEmpty = !wdOk cur := by
  rw [toList_mk, Bool.eq_iff_iff, List.isEmpty_iff, trimS_nil]
  unfold wdOk
  rw [Bool.not_eq_true', ← Bool.not_eq_true, List.any_eq_true, List.all_eq_true]
  constructor
  · rintro h ⟨x, hx, h2⟩
    have := h x hx
    simp at this h2
    exact h2 this
  · intro h x hx
    by_cases e : x = 39
    · subst e; rfl
    · exact absurd ⟨x, hx, by simpa using e⟩ h
theorem snoc_str (cur : List UInt8) (c : UInt8) : (⟨cur.toArray⟩ : ByteArray) ++ ⟨#[c]⟩ = ⟨(cur ++ [c]).toArray⟩ := by
  apply ByteArray.ext
  simp [ByteArray.data_append]
structure WdO (s : ByteArray) (w : World) (k : Nat) (out : List ByteArray) (cur : List UInt8) (v : Value) (wr : World) : Prop where
  bo : LnG w out v [] wr
  at_ : k ≤ s.size → WdI s k out cur
  end_ : k = s.size + 1 → out = wordsT s
theorem WdO.flush {s : ByteArray} {w w' : World} {k : Nat} {out : List ByteArray} {cur : List UInt8} {v v' : Value} {wr : World} (h : WdO s w k out cur v wr) (hk : k ≤ s.size) (hc : ∀ h : k < s.size, inWB s[k] = false) (hb : LnG w (out ++ flW cur) v' [] w') : WdO s w (k + 1) (out ++ flW cur) [] v' w' :=
  ⟨hb, fun h2 => (h.at_ hk).out_ (by omega) (hc (by omega)), fun h2 => (h.at_ hk).end_ (by omega)⟩
theorem WdO.word {s : ByteArray} {w : World} {k : Nat} {out : List ByteArray} {cur : List UInt8} {v : Value} {wr : World} (h : WdO s w k out cur v wr) (hk : k < s.size) (hc : inWB s[k] = true) : WdO s w (k + 1) out (cur ++ [loC s[k]]) v wr :=
  ⟨h.bo, fun h2 => (h.at_ (by omega)).in_ hk hc, fun h2 => by omega⟩
set_option maxRecDepth 100000 in
set_option maxHeartbeats 800000 in
theorem WordsOf_c (s : ByteArray) (w : World) (hs : s.size ≤ 100000000) :
    Calls Tryz.prog 50 #[.string s] w fun e w' => ∃ v, e = .returned v ∧ Own strR w' w.heap.size w.heap.size 9 (wordsT s) v ∧ Below w.heap.size w w' := by
  obtain ⟨i0, hi0, hz0, hz1, hz2⟩ := info_parts (show (Tryz.prog.info? 9).map (fun i => (i.zero, i.size, i.bytes)) = some (some (.string ⟨#[]⟩), 1, 16) by kernel_rfl)
  have H0 := Lib.hid (show WdO s w 0 [] [] (.slice none 0 0) w from ⟨BO.start w, fun _ => WdI.start s, fun h => by omega⟩)
  have he : (⟨#[]⟩ : ByteArray) = ⟨([] : List UInt8).toArray⟩ := rfl
  go_enter Tryz.func50, Tryz.ntmps50
  go_upto_region 3 with (fail)
  go_wp2
  go_loopw [3, 4, 5] (fun v wd i wr => ∃ (k : Nat) (out : List ByteArray) (cur : List UInt8), k ≤ s.size + 1 ∧ i = .int .i64 k ∧ wd = .string ⟨cur.toArray⟩ ∧ cur.length ≤ k ∧ Hid (WdO s w k out cur v wr)) (fun _ _ i _ => s.size + 1 - (intOf i).toNat)
  case atStart => exact ⟨0, [], [], Nat.zero_le _, rfl, rfl, Nat.zero_le _, H0⟩
  case round =>
    clear H0 he
    obtain ⟨k, out, cur, hk, rfl, rfl, hm, HW⟩ := hrel
    by_cases hle : k ≤ s.size
    case neg =>
      have HE := Lib.hid (HW.out.end_ (by omega))
      have hle2 : (s.size : Int) < k := by omega
      clear hle
      go_wp2
      go_ret
      exact ⟨_, rfl, by rw [← HE.out]; exact HW.out.bo.own, HW.out.bo.bel⟩
    have hle2 : (k : Int) ≤ s.size := by omega
    have hbs := HW.out.bo.size
    obtain ⟨b, hb⟩ : ∃ b : Bool, b = if h : k < s.size then inWB s[k] else false := ⟨_, rfl⟩
    have HB := Lib.hid hb
    go_upto_region 6 with (fail)
    go_cut [22] (fun x wx => x = .bool b ∧ wx = wr)
    case first =>
      by_cases hks : k < s.size
      · have HI := Lib.hid (inWord_c s[k] wr)
        rw [dif_pos hks] at hb
        have HBB := Lib.hid hb
        clear hb
        go_wp2_with (first | (go_at_call 110; refine HI.out.mono ?_; rintro e w' ⟨rfl, rfl⟩) | fail)
        go_meet
        exact ⟨by rw [HBB.out], rfl⟩
      · rw [dif_neg hks] at hb
        subst hb
        go_wp2
        go_meet
        exact ⟨rfl, rfl⟩
    case rest =>
    obtain ⟨rfl, rfl⟩ := hcut
    clear hb
    cases b with
    | true =>
      have hks : k < s.size := by
        apply Classical.byContradiction
        intro hn
        have := HB.out
        rw [dif_neg hn] at this
        cases this
      have HIN := Lib.hid (show inWB s[k] = true by have := HB.out; rw [dif_pos hks] at this; exact this.symm)
      have hcu : s[k].toNat < 256 := s[k].toNat_lt
      have hasc := inWB_ascii HIN.out
      have HNW := Lib.hid (HW.out.word hks HIN.out)
      go_upto_region 8 with (fail)
      generalize s[k] = c at *
      have HCP := Lib.hid (show capB c = (decide (65 ≤ c.toNat) && decide (c.toNat ≤ 90)) from rfl)
      go_cut [31] (fun x wx => x = .bool (capB c) ∧ wx = wc)
      case first =>
        rcases (show c.toNat < 65 ∨ (65 ≤ c.toNat ∧ c.toNat ≤ 90) ∨ (65 ≤ c.toNat ∧ 90 < c.toNat) by omega) with h1 | ⟨h1, h2⟩ | ⟨h1, h2⟩
        all_goals
          go_wp2
          go_meet
          exact ⟨congrArg Value.bool (by rw [HCP.out, Bool.eq_iff_iff]; simp; omega), rfl⟩
      case rest =>
      obtain ⟨rfl, rfl⟩ := hcut
      go_upto_if 31 with (fail)
      go_cut [6] (fun x wx => x = .int .u8 ((loC c).toNat : Int) ∧ wx = wc)
      case first =>
        cases hcp : capB c with
        | true =>
          have hcb : c.toNat ≤ 90 := by simp [capB] at hcp; omega
          have HLC := Lib.hid (show (loC c).toNat = c.toNat + 32 by rw [loC_nat, if_pos hcp])
          have hwu : IntKind.u8.wrap ((c.toNat : Int) + 32) = (c.toNat : Int) + 32 := by rw [IntKind.wrap_u8]; omega
          clear hcp
          go_wp2
          go_meet
          exact ⟨by rw [HLC.out]; simp, rfl⟩
        | false =>
          have HLC := Lib.hid (show (loC c).toNat = c.toNat by rw [loC_nat, if_neg (by rw [hcp]; decide)])
          clear hcp
          go_wp2
          go_meet
          exact ⟨by rw [HLC.out], rfl⟩
      case rest =>
      obtain ⟨rfl, rfl⟩ := hcut
      have HEN := Lib.hid (enc_one hasc)
      generalize loC c = d at *
      have hcv : ∀ W, (convert 21 9 (.int .i32 (d.toNat : Int))).run Tryz.prog W = .ok (.string ⟨#[d]⟩) W := fun W => by
        rw [run_convert_int_string W _ _ _ _ (by kernel_rfl) Tryz.underlying9, HEN.out]
      have HSN := Lib.hid (snoc_str cur d)
      have hdu : d.toNat < 128 := hasc
      clear hasc hcu
      go_wp2
      go_roundw
      case rel => exact ⟨k + 1, out, cur ++ [d], by omega, intNum, by rw [HSN.out], by simp; omega, HNW⟩
      case measure => simp [intOf]; omega
    | false =>
      have HNI := Lib.hid (show ∀ h : k < s.size, inWB s[k] = false from fun h => by have := HB.out; rw [dif_pos h] at this; exact this.symm)
      have HTR := Lib.hid (trim_c ⟨cur.toArray⟩ ⟨#[39]⟩ wc (by rw [mk_size]; omega) (by decide) (by decide))
      have HTO := Lib.hid (trim_ok cur)
      have HT2 := Lib.hid (show (⟨(Lib.trimS (⟨cur.toArray⟩ : ByteArray).data.toList (⟨#[39]⟩ : ByteArray).data.toList).toArray⟩ : ByteArray) = ⟨(Lib.trimS cur [39]).toArray⟩ from rfl)
      rw [HT2.out] at HTR
      clear HT2
      generalize (⟨(Lib.trimS cur [39]).toArray⟩ : ByteArray) = X at *
      have HFY := Lib.hid (@flW_yes cur)
      have HFN := Lib.hid (@flW_no cur)
      cases hw : wdOk cur with
      | true =>
        have HFL := Lib.hid (HFY.out hw)
        have hxe : X.toList.isEmpty = false := by have := HTO.out; rw [hw] at this; exact this
        have hol := Lib.hid (HW.out.at_ hle).2.2
        obtain ⟨q, hq2⟩ : ∃ q, out.length = q := ⟨_, rfl⟩
        have HQ := Lib.hid hq2
        have hql : q ≤ 100000000 := by have := hol.out; omega
        clear hw hol hq2 HFY HFN HTO
        go_upto_region 12 with (first | (go_at_call 111; refine HTR.out.mono ?_; rintro e w2 ⟨rfl, hb2⟩) | fail)
        have HG2 := Lib.hid (HW.out.bo.below hb2)
        have hz2 := HG2.out.size
        clear hb2
        generalize hZ : (⟨cur.toArray⟩ : ByteArray) = Z at *
        have HZ := Lib.hid hZ
        clear hZ
        go_wp2_with (at_builtin; (refine wpList_pushS1 rfl _ _ _ rfl w.heap.size w.heap.size 9 i0 _ Tryz.underlying61 hi0 hz0 (by assumption) (by assumption) rfl _ u3 out q HQ.out rfl (HG2.out.own.alloc _) Z w2.heap.size _ _ (heap_alloc_new w2 _) rfl (by omega) (by simp; omega) ?_); intro g7 cap7 w7 hown7 hg7 hat7 hlt7)
        go_roundw
        case rel => exact ⟨k + 1, out ++ flW cur, [], by omega, intNum, rfl, by simp, HW.out.flush hle HNI.out (by rw [HFL.out]; exact (HG2.out.alloc (.cells #[.string Z] 9)).more hown7 hg7 rfl hat7)⟩
        case measure => simp [intOf]; omega
      | false =>
        have HFL := Lib.hid (HFN.out hw)
        have hxe : X.toList.isEmpty = true := by have := HTO.out; rw [hw] at this; exact this
        clear hw HFY HFN HTO
        go_wp2_with (first | (go_at_call 111; refine HTR.out.mono ?_; rintro e w2 ⟨rfl, hb2⟩) | fail)
        go_roundw
        case rel => exact ⟨k + 1, out ++ flW cur, [], by omega, intNum, rfl, by simp, HW.out.flush hle HNI.out (by rw [HFL.out, List.append_nil]; exact HW.out.bo.below hb2)⟩
        case measure => simp [intOf]; omega
end Go.Proofs.YtkhegeobdcemkaaGreatDoor

/- script.found, walked. -/
namespace Go.Proofs.YtkhegeobdcemkaaGreatDoor
set_option linter.unusedVariables false
open Go.RowKit Go.Sort

end Go.Proofs.YtkhegeobdcemkaaGreatDoor

/- Where words follow one another in a script, in plain words. No program in sight. -/
namespace Go.Proofs.YtkhegeobdcemkaaGreatDoor
set_option linter.unusedVariables false
open Go.RowKit

end Go.Proofs.YtkhegeobdcemkaaGreatDoor

/- script.Find and R.FindOf, walked. -/
namespace Go.Proofs.YtkhegeobdcemkaaGreatDoor
set_option linter.unusedVariables false
open Go.RowKit Go.Sort

/-- What scenes must stay within for a search. -/
def FdB (xs : List Scene) : Prop := xs.length ≤ 1000 ∧ ∀ x ∈ xs, x.paras.length ≤ 100000 ∧ ∀ p ∈ x.paras, p.text.size ≤ 20000
end Go.Proofs.YtkhegeobdcemkaaGreatDoor

/- script.Find, walked. -/
namespace Go.Proofs.YtkhegeobdcemkaaGreatDoor
set_option linter.unusedVariables false
open Go.RowKit Go.Sort

end Go.Proofs.YtkhegeobdcemkaaGreatDoor

/- script.replaced, walked. -/
namespace Go.Proofs.YtkhegeobdcemkaaGreatDoor
set_option linter.unusedVariables false
open Go.RowKit Go.Sort

set_option maxHeartbeats 1600000 in
/-- The closure: whether the byte at a place belongs to a word. -/
theorem part1_c (s : ByteArray) (B : Nat) (j : Int) (w : World) (hs : s.size ≤ 1000000) (hc : w.cell? ⟨B, 0, none⟩ = some (.string s)) :
    Calls Tryz.prog 115 #[.int .i64 j, .pointer (some ⟨B, 0, none⟩)] w fun e w' => e = .returned (.bool (inI s j)) ∧ w = w' := by
  by_cases h0 : 0 ≤ j
  · obtain ⟨n, rfl⟩ := Int.eq_ofNat_of_zero_le h0
    by_cases h1 : n < s.size
    · have HR := Lib.hid (show inI s (n : Int) = ((capB s[n] || lowB s[n]) || digB s[n] || (s[n] == 39)) by
        unfold inI
        rw [decide_eq_true h0, Bool.true_and, show ((n : Int)).toNat = n from rfl, inAt_some h1]
        rfl)
      have hi : (n : Int) < (s.size : Int) := by omega
      have HL := Lib.hid (isLetter_c s[n] w)
      have HD := Lib.hid (isDigit_c s[n] w)
      have h39 : ((s[n].toNat : Int) == 39) = (s[n] == 39) := by
        rw [q39]
        by_cases e : s[n].toNat = 39
        · rw [decide_eq_true e, e]; rfl
        · rw [decide_eq_false e]
          exact beq_eq_false_iff_ne.2 (by omega)
      generalize (capB s[n] || lowB s[n]) = b1 at *
      generalize digB s[n] = b2 at *
      generalize (s[n] == 39) = b3 at *
      go_enter Tryz.func115, Tryz.ntmps115
      go_wp2_with fail
      refine HL.out.mono ?_
      rintro e w1 ⟨rfl, rfl⟩
      cases b1 with
      | true =>
        go_wp2
        go_ret
        exact ⟨by rw [HR.out]; rfl, rfl⟩
      | false =>
        go_wp2_with fail
        refine HD.out.mono ?_
        rintro e w1 ⟨rfl, rfl⟩
        cases b2 with
        | true =>
          go_wp2
          go_ret
          exact ⟨by rw [HR.out]; rfl, rfl⟩
        | false =>
          cases b3 with
          | true =>
            go_wp2
            go_ret
            exact ⟨by rw [HR.out]; rfl, rfl⟩
          | false =>
            go_wp2
            go_ret
            exact ⟨by rw [HR.out]; rfl, rfl⟩
    · have HR := Lib.hid (show inI s (n : Int) = false by
        unfold inI
        rw [show ((n : Int)).toNat = n from rfl, inAt_none (by omega), Bool.and_false])
      have hi : ¬ (n : Int) < (s.size : Int) := by omega
      go_enter Tryz.func115, Tryz.ntmps115
      go_wp2
      go_ret
      exact ⟨by rw [HR.out]; rfl, rfl⟩
  · have HR := Lib.hid (show inI s j = false by
      unfold inI
      rw [decide_eq_false h0, Bool.false_and])
    go_enter Tryz.func115, Tryz.ntmps115
    go_wp2
    go_ret
    exact ⟨by rw [HR.out]; rfl, rfl⟩
set_option maxRecDepth 100000 in
set_option maxHeartbeats 1600000 in
theorem replaced_c (s fr tn : ByteArray) (w : World) (hs : s.size ≤ 20000) (hf : 0 < fr.size) (hf2 : fr.size ≤ 1000) (ht : tn.size ≤ 1000) :
    Calls Tryz.prog 58 #[.string s, .string fr, .string tn] w fun e w' => e = .returned (.string (repS s fr tn)) ∧ Below w.heap.size w w' := by
  have hG := Bld.new (w.alloc (.cells #[.string s] 9))
  rw [show (w.alloc (.cells #[.string s] 9)).heap.size = w.heap.size + 1 by simp] at hG
  have HB := Lib.hid (((Below.refl w.heap.size w).alloc (Nat.le_refl _) (.cells #[.string s] 9)).alloc (by simp) (.cells #[.pointer none, .slice none 0 0] 148))
  have hx : ((w.alloc (.cells #[.string s] 9)).alloc (.cells #[.pointer none, .slice none 0 0] 148)).heap[w.heap.size]? = some (.cells #[.string s] 9 (0, 0)) := (Below.heap_alloc _ _ _ (by simp)).trans (heap_alloc_new w _)
  obtain ⟨gx, _⟩ := str_cells hx
  have hc : ((w.alloc (.cells #[.string s] 9)).alloc (.cells #[.pointer none, .slice none 0 0] 148)).cell? ⟨w.heap.size, 0, none⟩ = some (.string s) := gx 0
  have eg : ∀ args W, (callFunc 115 args).run Tryz.prog W = .ok (.enter 115 args) W := fun _ _ => by kernel_rfl
  have HC := Lib.hid hc
  have HGB := Lib.hid hG
  clear hx gx hG
  go_enter Tryz.func58, Tryz.ntmps58
  go_upto_region 3 with (fail)
  generalize hW : (w.alloc (.cells #[.string s] 9)).alloc (.cells #[.pointer none, .slice none 0 0] 148) = w1 at *
  clear hW hc
  have HI := Lib.hid (RepI.start s fr tn)
  go_wp2
  go_loopw [9] (fun i wr => ∃ (k : Nat) (acc : List UInt8), i = .int .i64 k ∧ k ≤ s.size ∧ Hid (RepI s fr tn k acc) ∧ Hid (Bld wr (w.heap.size + 1) acc) ∧ Hid (Below w.heap.size w wr) ∧ Hid (wr.cell? ⟨w.heap.size, 0, none⟩ = some (.string s))) (fun i _ => s.size - (intOf i).toNat)
  case atStart => exact ⟨0, [], rfl, Nat.zero_le _, HI, HGB, HB, HC⟩
  case round =>
    clear HI HGB HB HC
    obtain ⟨k, acc, rfl, hk, HI, HGB, HB, HC⟩ := hrel
    have x0 := HC.out
    have hal := HI.out.2.2
    have hka : k * (1 + tn.size) ≤ 20000 * 1001 := Nat.mul_le_mul (by omega) (by omega)
    have hKE := fun (W : World) (h : Below (w.heap.size + 1) wr W) => show W.cell? ⟨w.heap.size, 0, none⟩ = some (.string s) from (h.cell (p := ⟨w.heap.size, 0, none⟩) (by dsimp only; omega)).trans x0
    have HKE := Lib.hid hKE
    clear hKE
    by_cases hlt : k < s.size
    · have hkI : (k : Int) < (s.size : Int) := by omega
      have ew : IntKind.i64.wrap ((k : Int) - 1) = (k : Int) - 1 := IntWalk.i64_in _ (by omega)
      have ew2 : IntKind.i64.wrap ((k : Int) + (fr.size : Int)) = (k : Int) + (fr.size : Int) := IntWalk.i64_in _ (by omega)
      have ew3 : IntKind.i64.wrap ((k : Int) + 1) = (k : Int) + 1 := IntWalk.i64_in _ (by omega)
      have HP := Lib.hid (show Calls Tryz.prog 116 #[.string (s.extract k s.size), .string fr] wr (fun e w' => e = .returned (.bool (preB s fr k)) ∧ w' = wr) from Tryz.strings_HasPrefix (s.extract k s.size) fr wr)
      have HC1 := Lib.hid (part1_c s w.heap.size ((k : Int) - 1) wr (by omega) x0)
      have HC2 := Lib.hid (part1_c s w.heap.size ((k : Int) + (fr.size : Int)) wr (by omega) x0)
      have HAL := Lib.hid (alone_p (s := s) (fr := fr) (i := k))
      go_upto_region 5 with (fail)
      go_cut [35] (fun v wx => v = .bool (aloneB s.data.toList fr.data.toList k) ∧ wx = wr)
      case first =>
        go_wp2_with fail
        refine HP.out.mono ?_
        rintro e w2 ⟨rfl, rfl⟩
        generalize preB s fr k = p1 at *
        cases p1 with
        | false =>
          go_wp2
          go_meet
          exact ⟨by rw [HAL.out]; rfl, rfl⟩
        | true =>
          go_wp2_with fail
          refine HC1.out.mono ?_
          rintro e w2 ⟨rfl, rfl⟩
          generalize inI s ((k : Int) - 1) = p2 at *
          cases p2 with
          | true =>
            go_wp2
            go_meet
            exact ⟨by rw [HAL.out]; rfl, rfl⟩
          | false =>
            go_wp2_with fail
            refine HC2.out.mono ?_
            rintro e w2 ⟨rfl, rfl⟩
            generalize inI s ((k : Int) + (fr.size : Int)) = p3 at *
            cases p3 with
            | true =>
              go_wp2
              go_meet
              exact ⟨by rw [HAL.out]; rfl, rfl⟩
            | false =>
              go_wp2
              go_meet
              exact ⟨by rw [HAL.out]; rfl, rfl⟩
      case rest =>
      obtain ⟨rfl, rfl⟩ := hcut
      cases hal2 : aloneB s.data.toList fr.data.toList k with
      | true =>
        have HN := Lib.hid (HI.out.yes hlt hal2 hf)
        have HWR := Lib.hid (write_c (w.heap.size + 1) acc tn wc HGB.out (by omega))
        clear hal2 HAL HC1 HC2 HP
        go_wp2_with fail
        refine HWR.out.mono ?_
        rintro e w2 ⟨rfl, hb2, hw2⟩
        have HB2 := Lib.hid hb2
        have HBE := Lib.hid (HB.out.trans (hw2.mono (by omega)))
        have HC2 := Lib.hid (HKE.out w2 hw2)
        clear hb2 hw2
        go_wp2
        go_roundw
        case rel => exact ⟨k + fr.size, acc ++ tn.data.toList, by rw [Int.natCast_add], HN.out.2.1, HN, HB2, HBE, HC2⟩
        case measure => simp [intOf]; have := HN.out.2.1; omega
      | false =>
        have HN := Lib.hid (HI.out.no hlt hal2)
        have HWR := Lib.hid (writeB_c (w.heap.size + 1) acc s[k] wc HGB.out (by omega))
        clear hal2 HAL HC1 HC2 HP
        go_wp2_with fail
        refine HWR.out.mono ?_
        rintro e w2 ⟨rfl, hb2, hw2⟩
        have HB2 := Lib.hid hb2
        have HBE := Lib.hid (HB.out.trans (hw2.mono (by omega)))
        have HC2 := Lib.hid (HKE.out w2 hw2)
        clear hb2 hw2
        go_wp2
        go_roundw
        case rel => exact ⟨k + 1, acc ++ [s[k]], intNum, HN.out.2.1, HN, HB2, HBE, HC2⟩
        case measure => simp [intOf]; omega
    · have HD := Lib.hid (HI.out.done hlt)
      have HT := Lib.hid (text_c (w.heap.size + 1) acc wr HGB.out)
      have hkI : ¬ (k : Int) < (s.size : Int) := by omega
      go_wp2_with fail
      refine HT.out.mono ?_
      rintro e w2 ⟨rfl, hb2⟩
      have HE := Lib.hid (HB.out.trans (hb2.mono (by omega)))
      clear hb2
      go_wp2
      go_ret
      exact ⟨by rw [HD.out]; rfl, HE.out⟩
end Go.Proofs.YtkhegeobdcemkaaGreatDoor

/- R.swapped, walked. -/
namespace Go.Proofs.YtkhegeobdcemkaaGreatDoor
set_option linter.unusedVariables false
open Go.RowKit Go.Sort

theorem appBytes (a b : ByteArray) : (a ++ b).data.toList = a.data.toList ++ b.data.toList := by simp
theorem extOne {s : ByteArray} {k : Nat} (h : k < s.size) : (s.extract k (k + 1)).data.toList = [s[k]] := by
  have hl : k < s.data.toList.length := by simpa using h
  rw [ByteArray.data_extract, Array.toList_extract]
  simp only [List.extract_eq_take_drop]
  rw [show k + 1 - k = 1 by omega, List.drop_eq_getElem_cons hl, List.take_succ_cons, List.take_zero]
  rfl
set_option maxRecDepth 100000 in
set_option maxHeartbeats 1600000 in
theorem swapped_c (s fr tn : ByteArray) (w : World) (hs : s.size ≤ 20000) (hf : 0 < fr.size) (hf2 : fr.size ≤ 1000) (ht : tn.size ≤ 1000) :
    Calls Tryz.prog 64 #[.string s, .string fr, .string tn] w fun e w' => e = .returned (.string (repS s fr tn)) ∧ w = w' := by
  have HI := Lib.hid (show RepI s fr tn 0 (⟨#[]⟩ : ByteArray).data.toList from RepI.start s fr tn)
  go_enter Tryz.func64, Tryz.ntmps64
  go_wp2
  go_loopw [7, 8] (fun o i wr => ∃ (k : Nat) (acc : ByteArray), i = .int .i64 k ∧ o = .string acc ∧ k ≤ s.size ∧ Hid (RepI s fr tn k acc.data.toList) ∧ w = wr) (fun _ i _ => s.size - (intOf i).toNat)
  case atStart => exact ⟨0, ⟨#[]⟩, rfl, rfl, Nat.zero_le _, HI, rfl⟩
  case round =>
    clear HI
    obtain ⟨k, acc, rfl, rfl, hk, HI, rfl⟩ := hrel
    by_cases hlt : k < s.size
    · have hkI : (k : Int) < (s.size : Int) := by omega
      have ew : IntKind.i64.wrap ((k : Int) - 1) = (k : Int) - 1 := IntWalk.i64_in _ (by omega)
      have ew2 : IntKind.i64.wrap ((k : Int) + (fr.size : Int)) = (k : Int) + (fr.size : Int) := IntWalk.i64_in _ (by omega)
      have ew3 : IntKind.i64.wrap ((k : Int) + 1) = (k : Int) + 1 := IntWalk.i64_in _ (by omega)
      have HP := Lib.hid (show Calls Tryz.prog 116 #[.string (s.extract k s.size), .string fr] w (fun e w' => e = .returned (.bool (preB s fr k)) ∧ w' = w) from Tryz.strings_HasPrefix (s.extract k s.size) fr w)
      have HAL := Lib.hid (alone_p (s := s) (fr := fr) (i := k))
      go_upto_region 5 with (fail)
      go_cut [10] (fun v wx => v = .bool (aloneB s.data.toList fr.data.toList k) ∧ wx = w)
      case first =>
        generalize preB s fr k = p1 at *
        cases p1 with
        | false =>
          go_wp2_with fail
          refine HP.out.mono ?_
          rintro e w2 ⟨rfl, rfl⟩
          go_wp2
          go_meet
          exact ⟨by rw [HAL.out]; rfl, rfl⟩
        | true =>
          obtain ⟨p2, hp2⟩ : ∃ p2, inI s ((k : Int) - 1) = p2 := ⟨_, rfl⟩
          rw [hp2] at HAL
          have HQ2 := Lib.hid hp2
          clear hp2
          by_cases h0 : k = 0
          · obtain rfl : p2 = false := by rw [← HQ2.out, h0]; rfl
            have hk0 : ((k : Int) == 0) = true := beq_iff_eq.2 (by omega)
            by_cases he : s.size ≤ k + fr.size
            · have hp3 : inI s ((k : Int) + (fr.size : Int)) = false := by
                unfold inI
                rw [show ((k : Int) + (fr.size : Int)).toNat = k + fr.size by omega, inAt_none he, Bool.and_false]
              rw [hp3] at HAL
              have heI : (s.size : Int) ≤ (k : Int) + (fr.size : Int) := by omega
              clear hp3 h0 he
              go_wp2_with fail
              refine HP.out.mono ?_
              rintro e w2 ⟨rfl, rfl⟩
              go_wp2
              go_meet
              exact ⟨by rw [HAL.out]; rfl, rfl⟩
            · have hel : k + fr.size < s.size := by omega
              have hp3 : inI s ((k : Int) + (fr.size : Int)) = inWB s[k + fr.size] := by
                unfold inI
                rw [show ((k : Int) + (fr.size : Int)).toNat = k + fr.size by omega, inAt_some hel, decide_eq_true (by omega), Bool.true_and]
              rw [hp3] at HAL
              have heI : ¬ (s.size : Int) ≤ (k : Int) + (fr.size : Int) := by omega
              have heJ : (k : Int) + (fr.size : Int) < (s.size : Int) := by omega
              have he0 : (0 : Int) ≤ (k : Int) + (fr.size : Int) := by omega
              have heN : ((k : Int) + (fr.size : Int)).toNat = k + fr.size := by omega
              have HW := Lib.hid (inWord_c s[k + fr.size] w)
              clear hp3 h0 he
              go_wp2_with fail
              refine HP.out.mono ?_
              rintro e w2 ⟨rfl, rfl⟩
              go_wp2_with fail
              refine HW.out.mono ?_
              rintro e w2 ⟨rfl, rfl⟩
              generalize inWB s[k + fr.size] = p3 at *
              cases p3 with
              | true =>
                go_wp2
                go_meet
                exact ⟨by rw [HAL.out]; exact congrArg Value.bool (decide_eq_false (by omega)), rfl⟩
              | false =>
                go_wp2
                go_meet
                exact ⟨by rw [HAL.out]; rfl, rfl⟩
          · have hk0 : ((k : Int) == 0) = false := beq_eq_false_iff_ne.2 (by omega)
            have hkl : k - 1 < s.size := by omega
            have hkJ : (k : Int) - 1 < (s.size : Int) := by omega
            have hkP : (0 : Int) ≤ (k : Int) - 1 := by omega
            have hkN : ((k : Int) - 1).toNat = k - 1 := by omega
            have hq2 : p2 = inWB s[k - 1] := by
              rw [← HQ2.out]
              unfold inI
              rw [hkN, inAt_some hkl, decide_eq_true hkP, Bool.true_and]
            have HW1 := Lib.hid (show Calls Tryz.prog 110 #[.int .u8 (s[k - 1]).toNat] w (fun e w' => e = .returned (.bool p2) ∧ w = w') by rw [hq2]; exact inWord_c s[k - 1] w)
            clear HQ2 hq2 h0
            by_cases he : s.size ≤ k + fr.size
            · have hp3 : inI s ((k : Int) + (fr.size : Int)) = false := by
                unfold inI
                rw [show ((k : Int) + (fr.size : Int)).toNat = k + fr.size by omega, inAt_none he, Bool.and_false]
              rw [hp3] at HAL
              have heI : (s.size : Int) ≤ (k : Int) + (fr.size : Int) := by omega
              clear hp3 he
              go_wp2_with fail
              refine HP.out.mono ?_
              rintro e w2 ⟨rfl, rfl⟩
              go_wp2_with fail
              refine HW1.out.mono ?_
              rintro e w2 ⟨rfl, rfl⟩
              cases p2 with
              | true =>
                go_wp2
                go_meet
                exact ⟨by rw [HAL.out]; rfl, rfl⟩
              | false =>
                go_wp2
                go_meet
                exact ⟨by rw [HAL.out]; rfl, rfl⟩
            · have hel : k + fr.size < s.size := by omega
              have hp3 : inI s ((k : Int) + (fr.size : Int)) = inWB s[k + fr.size] := by
                unfold inI
                rw [show ((k : Int) + (fr.size : Int)).toNat = k + fr.size by omega, inAt_some hel, decide_eq_true (by omega), Bool.true_and]
              rw [hp3] at HAL
              have heI : ¬ (s.size : Int) ≤ (k : Int) + (fr.size : Int) := by omega
              have heJ : (k : Int) + (fr.size : Int) < (s.size : Int) := by omega
              have he0 : (0 : Int) ≤ (k : Int) + (fr.size : Int) := by omega
              have heN : ((k : Int) + (fr.size : Int)).toNat = k + fr.size := by omega
              have HW := Lib.hid (inWord_c s[k + fr.size] w)
              clear hp3 he
              go_wp2_with fail
              refine HP.out.mono ?_
              rintro e w2 ⟨rfl, rfl⟩
              go_wp2_with fail
              refine HW1.out.mono ?_
              rintro e w2 ⟨rfl, rfl⟩
              cases p2 with
              | true =>
                go_wp2
                go_meet
                exact ⟨by rw [HAL.out]; rfl, rfl⟩
              | false =>
                go_wp2_with fail
                refine HW.out.mono ?_
                rintro e w2 ⟨rfl, rfl⟩
                generalize inWB s[k + fr.size] = p3 at *
                cases p3 with
                | true =>
                  go_wp2
                  go_meet
                  exact ⟨by rw [HAL.out]; exact congrArg Value.bool (decide_eq_false (by omega)), rfl⟩
                | false =>
                  go_wp2
                  go_meet
                  exact ⟨by rw [HAL.out]; rfl, rfl⟩
      case rest =>
      obtain ⟨rfl, rfl⟩ := hcut
      have hal := HI.out.2.2
      have hka : k * (1 + tn.size) ≤ 20000 * 1001 := Nat.mul_le_mul (by omega) (by omega)
      have hacc : acc.size ≤ 20020000 := by
        have h1 : acc.data.toList.length = acc.size := by simp
        omega
      have hcat : ¬ 9223372036854775807 < acc.size + tn.size := by omega
      have hex : (s.extract k (k + 1)).size = 1 := by rw [ByteArray.size_extract]; omega
      have hcat2 : ¬ 9223372036854775807 < acc.size + (s.extract k (k + 1)).size := by omega
      clear hal hka
      cases hal2 : aloneB s.data.toList fr.data.toList k with
      | true =>
        have HN := Lib.hid (HI.out.yes hlt hal2 hf)
        clear hal2 HAL HP
        go_wp2
        go_roundw
        case rel => exact ⟨k + fr.size, acc ++ tn, by rw [Int.natCast_add], rfl, HN.out.2.1, by rw [appBytes]; exact HN, by first | trivial | rfl⟩
        case measure => simp [intOf]; have := HN.out.2.1; omega
      | false =>
        have HN := Lib.hid (HI.out.no hlt hal2)
        have HX := Lib.hid (extOne hlt)
        have hk1 : (k : Int) + 1 ≤ (s.size : Int) := by omega
        clear hal2 HAL HP
        go_wp2
        go_roundw
        case rel => exact ⟨k + 1, acc ++ s.extract k (k + 1), intNum, rfl, hlt, by rw [appBytes, HX.out]; exact HN, by first | trivial | rfl⟩
        case measure => simp [intOf]; omega
    · have HD := Lib.hid (HI.out.done hlt)
      have hkI : ¬ (k : Int) < (s.size : Int) := by omega
      go_wp2
      go_ret
      exact ⟨by rw [HD.out]; rfl, rfl⟩
end Go.Proofs.YtkhegeobdcemkaaGreatDoor

/- Bounds of the generator's scripts; the form of a slice that a call has made. -/
namespace Go.Proofs.YtkhegeobdcemkaaGreatDoor
set_option linter.unusedVariables false
open Go.RowKit Go.Sort

theorem Sct.fdb {W0 wx : World} {E : Nat → Prop} {t : ByteArray} {l : List (Scene × Value)} {v : Value} (h : Sct W0 E 10010 91 t l v wx) : FdB (l.map (·.1)) := by
  refine ⟨by rw [List.length_map]; have := h.len; omega, fun x hx => ?_⟩
  obtain ⟨y, hy, rfl⟩ := List.mem_map.1 hx
  obtain ⟨_, _, h3, h4⟩ := h.bd y hy
  exact ⟨by omega, fun p hp => by have := h4 p hp; omega⟩
end Go.Proofs.YtkhegeobdcemkaaGreatDoor

