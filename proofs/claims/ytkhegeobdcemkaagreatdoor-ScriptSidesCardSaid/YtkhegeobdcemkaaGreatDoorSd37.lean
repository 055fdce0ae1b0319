/- Texts packed: RtT, RlB, ScW, WdX, FndW, FdS, FdW, FdX, ScZ. -/
import Derived.Test.YtkhegeobdcemkaaGreatDoorSd11
import Derived.Test.YtkhegeobdcemkaaGreatDoorSd36
import Derived.Test.YtkhegeobdcemkaaGreatDoorSd35
import Derived.Test.YtkhegeobdcemkaaGreatDoorSd01
import Derived.Test.YtkhegeobdcemkaaGreatDoorSd20
import Derived.Deep.DeepCutAuto
import Derived.Test.YtkhegeobdcemkaaGreatDoorSd07
import Derived.Test.YtkhegeobdcemkaaGreatDoorSd02
import Derived.Test.YtkhegeobdcemkaaGreatDoorSd18
import Derived.Test.YtkhegeobdcemkaaGreatDoorSd23
import Derived.Test.YtkhegeobdcemkaaGreatDoorSd31
/- A script's text, read, is the script. No program in sight. -/
namespace Go.Proofs.YtkhegeobdcemkaaGreatDoor
set_option linter.unusedVariables false
open Go.RowKit

/-! Nothing in a line is a line feed. -/
/-! Line by line. -/
end Go.Proofs.YtkhegeobdcemkaaGreatDoor

/- The reference's lines of a script, walked. -/
namespace Go.Proofs.YtkhegeobdcemkaaGreatDoor
set_option linter.unusedVariables false
open Go.RowKit Go.Sort

/-- The list of texts so far, and the blocks beside it. -/
abbrev LnG (w : World) (l : List ByteArray) (v : Value) (P : List (Nat × Array Value × TypeId)) (wx : World) : Prop := BO strR 9 w l v P wx
end Go.Proofs.YtkhegeobdcemkaaGreatDoor

/- The small script that the laws read and write. -/
namespace Go.Proofs.YtkhegeobdcemkaaGreatDoor
set_option linter.unusedVariables false
open Go.RowKit Go.Sort

def smallT : ByteArray := ⟨#[116, 105, 116, 108, 101, 58, 32, 84, 10, 10, 35, 32, 73, 78, 84, 46, 32, 72, 65, 76, 76, 32, 45, 32, 68, 65, 89, 10, 10, 82, 97, 105, 110, 46, 10]⟩
def smallX : Script := ⟨⟨#[84]⟩, [⟨⟨#[]⟩, 1, ⟨#[72, 65, 76, 76]⟩, 1, [⟨1, ⟨#[82, 97, 105, 110, 46]⟩⟩]⟩]⟩
theorem single_fst {l : List (Scene × Value)} {x : Scene} (h : l.map (·.1) = [x]) : ∃ y : Scene × Value, l = [y] ∧ y.1 = x := by
  cases l with
  | nil => cases h
  | cons a r =>
    cases r with
    | nil =>
      injection h with h1 _
      exact ⟨a, rfl, h1⟩
    | cons b r => injection h with _ h2; cases h2
theorem small_read : readS smallT = (smallX, 0, 0) := by kernel_rfl
theorem small_tx : txV smallX = (smallT, 0) := by kernel_rfl
set_option maxRecDepth 100000 in
set_option maxHeartbeats 4000000 in
theorem scripts_c (w : World) (hm : MaxLaid w) : Calls Tryz.prog 12 #[] w fun e w' => e = .returned (.bool true) ∧ Below w.heap.size w w' := by
  have HRD := Lib.hid (Read_c smallT w (by decide +kernel) hm)
  have HM := Lib.hid hm
  clear hm
  have HST := Lib.hid (show (smallT.toList == smallT.toList) = true from beq_self_eq_true _)
  have HTE := Lib.hid (show smallT = ⟨#[116, 105, 116, 108, 101, 58, 32, 84, 10, 10, 35, 32, 73, 78, 84, 46, 32, 72, 65, 76, 76, 32, 45, 32, 68, 65, 89, 10, 10, 82, 97, 105, 110, 46, 10]⟩ from rfl)
  rw [HTE.out] at HRD
  go_enter Tryz.func12, Tryz.ntmps12
  go_wp2_with fail
  refine HRD.out.mono ?_
  rintro e w1 ⟨l, v, rfl, hl, hs, hp, hb⟩
  rw [← HTE.out, small_read] at hl ⊢
  obtain ⟨y, rfl, hy⟩ : ∃ y : Scene × Value, l = [y] ∧ y.1 = ⟨⟨#[]⟩, 1, ⟨#[72, 65, 76, 76]⟩, 1, [⟨1, ⟨#[82, 97, 105, 110, 46]⟩⟩]⟩ := single_fst hl
  have hsc : ScL w1 (fun q => w.heap.size ≤ q ∧ q < w1.heap.size) ⟨#[84]⟩ [y] v := ⟨hs, hp, fun q hq => hq.2, by decide, by simp, fun z hz => by
    rw [List.mem_singleton] at hz
    subst hz
    rw [hy]
    exact ⟨by decide, by decide, by decide, fun p hp => by
      rw [List.mem_singleton] at hp
      subst hp
      show (⟨#[82, 97, 105, 110, 46]⟩ : ByteArray).size ≤ 1000000
      decide⟩⟩
  obtain ⟨A, c, hv, _, _⟩ := hs.form
  subst hv
  obtain ⟨b, off, hA, hfb, c0, c1, c2, c3, c4⟩ := scAt hs 0 (by simp)
  subst hA
  obtain ⟨A4, cc4, h4, _, _⟩ := (hp y (by simp)).form
  rw [show ([y] : List (Scene × Value))[0] = y from rfl, h4, show y.1.paras.length = 1 by rw [hy]; rfl] at c4
  have HB1 := Lib.hid (hb.alloc hb.size (.cells #[.string ⟨#[84]⟩, .slice (some ⟨b, off, none⟩) 1 c] 28))
  have hbe := (Below.refl w1.heap.size w1).alloc (Nat.le_refl _) (.cells #[.string ⟨#[84]⟩, .slice (some ⟨b, off, none⟩) 1 c] 28)
  have HTX := Lib.hid (Text_c ⟨#[84]⟩ [y] (.slice (some ⟨b, off, none⟩) 1 c) (w1.alloc (.cells #[.string ⟨#[84]⟩, .slice (some ⟨b, off, none⟩) 1 c] 28)) (hsc.below hbe) (max_below HM.out HB1.out (Nat.le_refl _)))
  have HV := Lib.hid (show txV ⟨⟨#[84]⟩, [y].map (·.1)⟩ = (smallT, 0) by rw [show ([y].map (·.1) : List Scene) = smallX.scenes from by show [y.1] = _; rw [hy]; rfl]; exact small_tx)
  have hbb : b < w1.heap.size := hfb.2
  have HY := Lib.hid (fun (X : World) (hx : Below (w1.alloc (.cells #[.string ⟨#[84]⟩, .slice (some ⟨b, off, none⟩) 1 c] 28)).heap.size (w1.alloc (.cells #[.string ⟨#[84]⟩, .slice (some ⟨b, off, none⟩) 1 c] 28)) X) => show X.cell? ⟨w1.heap.size, 1, none⟩ = some (.slice (some ⟨b, off, none⟩) 1 c) ∧ X.cell? ⟨b, off + 4, none⟩ = some (.slice A4 1 cc4) by
    obtain ⟨yy, _⟩ := str_cells ((hx.block w1.heap.size (by simp)).trans (heap_alloc_new w1 _))
    refine ⟨yy 1, ?_⟩
    rw [hx.cell (p := ⟨b, off + 4, none⟩) (by simp; omega), World.cell?_alloc_lt w1 _ ⟨b, off + 4, none⟩ hbb]
    simpa using c4)
  clear hl hy hsc hs hp c0 c1 c2 c3 c4 h4 hb hbe
  go_wp2_with fail
  refine HTX.out.mono ?_
  rintro e w3 ⟨rfl, hb3⟩
  rw [HV.out]
  obtain ⟨z1, z4⟩ := HY.out w3 hb3
  have HB3 := Lib.hid (HB1.out.trans (hb3.mono HB1.out.size))
  have hs1 := HST.out
  rw [HTE.out] at hs1 ⊢
  clear hb3
  go_wp2
  go_ret
  exact ⟨rfl, HB3.out⟩
end Go.Proofs.YtkhegeobdcemkaaGreatDoor

/- R.WordsOf, walked. -/
namespace Go.Proofs.YtkhegeobdcemkaaGreatDoor
set_option linter.unusedVariables false
open Go.RowKit

theorem q39 (c : UInt8) : (c == 39) = decide (c.toNat = 39) := by
  have hh : ∀ c : UInt8, decide ((c == 39) = decide (c.toNat = 39)) = true := u8_eq (q := fun _ => true) (by decide +kernel)
  simpa using hh c
set_option maxHeartbeats 1600000 in
theorem inWord_c (c : UInt8) (w : World) : Calls Tryz.prog 110 #[.int .u8 c.toNat] w fun e w' => e = .returned (.bool (inWB c)) ∧ w = w' := by
  have hu : c.toNat < 256 := c.toNat_lt
  have HV := Lib.hid (show inWB c = ((((decide (65 ≤ c.toNat) && decide (c.toNat ≤ 90)) || (decide (97 ≤ c.toNat) && decide (c.toNat ≤ 122))) || (decide (48 ≤ c.toNat) && decide (c.toNat ≤ 57))) || decide (c.toNat = 39)) by unfold inWB; rw [q39]; rfl)
  rcases (show (97 ≤ c.toNat ∧ c.toNat ≤ 122) ∨ (65 ≤ c.toNat ∧ c.toNat ≤ 90) ∨ (48 ≤ c.toNat ∧ c.toNat ≤ 57) ∨ c.toNat < 48 ∨ (57 < c.toNat ∧ c.toNat < 65) ∨ (90 < c.toNat ∧ c.toNat < 97) ∨ 122 < c.toNat by omega) with ⟨h1, h2⟩ | ⟨h1, h2⟩ | ⟨h1, h2⟩ | h1 | ⟨h1, h2⟩ | ⟨h1, h2⟩ | h1
  all_goals
    generalize inWB c = b at *
    generalize c.toNat = n at *
    go_enter Tryz.func110, Tryz.ntmps110
    go_wp2
    go_ret
    exact ⟨ret_bool (by rw [HV.out, Bool.eq_iff_iff]; simp; omega), rfl⟩
theorem enc_one {c : UInt8} (h : c.toNat < 128) : Utf8.encode (c.toNat : Int) = ⟨#[c]⟩ := by
  have hh : ∀ c : UInt8, (!decide (c.toNat < 128) || decide (Utf8.encode (c.toNat : Int) = ⟨#[c]⟩)) = true := u8_eq (q := fun _ => true) (by decide +kernel)
  have := hh c
  rw [decide_eq_true h] at this
  simpa using this
theorem inWB_ascii {c : UInt8} (h : inWB c = true) : (loC c).toNat < 128 := by
  have hh : ∀ c : UInt8, (!inWB c || decide ((loC c).toNat < 128)) = true := u8_eq (q := fun _ => true) (by decide +kernel)
  have := hh c
  rw [h] at this
  simpa using this
theorem trim_ok (cur : List UInt8) : (⟨(Lib.trimS cur [39]).toArray⟩ : ByteArray).toList.isEmpty = !wdOk cur := by
  rw [toList_mk, Bool.eq_iff_iff, List.isEmpty_iff, trimS_nil]
  unfold wdOk
  rw [Bool.not_eq_true', ← Bool.not_eq_true, List.any_eq_true, List.all_eq_true]
  constructor
  · rintro h ⟨x, hx, h2⟩
    have := h x hx
    simp at this h2
    exact h2 this
  · intro h x hx
    by_cases e : x = 39
    · subst e; rfl
    · exact absurd ⟨x, hx, by simpa using e⟩ h
theorem snoc_str (cur : List UInt8) (c : UInt8) : (⟨cur.toArray⟩ : ByteArray) ++ ⟨#[c]⟩ = ⟨(cur ++ [c]).toArray⟩ := by
  apply ByteArray.ext
  simp [ByteArray.data_append]
structure WdO (s : ByteArray) (w : World) (k : Nat) (out : List ByteArray) (cur : List UInt8) (v : Value) (wr : World) : Prop where
  bo : LnG w out v [] wr
  at_ : k ≤ s.size → WdI s k out cur
  end_ : k = s.size + 1 → out = wordsT s
theorem WdO.flush {s : ByteArray} {w w' : World} {k : Nat} {out : List ByteArray} {cur : List UInt8} {v v' : Value} {wr : World} (h : WdO s w k out cur v wr) (hk : k ≤ s.size) (hc : ∀ h : k < s.size, inWB s[k] = false) (hb : LnG w (out ++ flW cur) v' [] w') : WdO s w (k + 1) (out ++ flW cur) [] v' w' :=
  ⟨hb, fun h2 => (h.at_ hk).out_ (by omega) (hc (by omega)), fun h2 => (h.at_ hk).end_ (by omega)⟩
theorem WdO.word {s : ByteArray} {w : World} {k : Nat} {out : List ByteArray} {cur : List UInt8} {v : Value} {wr : World} (h : WdO s w k out cur v wr) (hk : k < s.size) (hc : inWB s[k] = true) : WdO s w (k + 1) out (cur ++ [loC s[k]]) v wr :=
  ⟨h.bo, fun h2 => (h.at_ (by omega)).in_ hk hc, fun h2 => by omega⟩
set_option maxRecDepth 100000 in
set_option maxHeartbeats 800000 in
theorem WordsOf_c (s : ByteArray) (w : World) (hs : s.size ≤ 100000000) :
    Calls Tryz.prog 50 #[.string s] w fun e w' => ∃ v, e = .returned v ∧ Own strR w' w.heap.size w.heap.size 9 (wordsT s) v ∧ Below w.heap.size w w' := by
  obtain ⟨i0, hi0, hz0, hz1, hz2⟩ := info_parts (show (Tryz.prog.info? 9).map (fun i => (i.zero, i.size, i.bytes)) = some (some (.string ⟨#[]⟩), 1, 16) by kernel_rfl)
  have H0 := Lib.hid (show WdO s w 0 [] [] (.slice none 0 0) w from ⟨BO.start w, fun _ => WdI.start s, fun h => by omega⟩)
  have he : (⟨#[]⟩ : ByteArray) = ⟨([] : List UInt8).toArray⟩ := rfl
  go_enter Tryz.func50, Tryz.ntmps50
  go_upto_region 3 with (fail)
  go_wp2
  go_loopw [3, 4, 5] (fun v wd i wr => ∃ (k : Nat) (out : List ByteArray) (cur : List UInt8), k ≤ s.size + 1 ∧ i = .int .i64 k ∧ wd = .string ⟨cur.toArray⟩ ∧ cur.length ≤ k ∧ Hid (WdO s w k out cur v wr)) (fun _ _ i _ => s.size + 1 - (intOf i).toNat)
  case atStart => exact ⟨0, [], [], Nat.zero_le _, rfl, rfl, Nat.zero_le _, H0⟩
  case round =>
    clear H0 he
    obtain ⟨k, out, cur, hk, rfl, rfl, hm, HW⟩ := hrel
    by_cases hle : k ≤ s.size
    case neg =>
      have HE := Lib.hid (HW.out.end_ (by omega))
      have hle2 : (s.size : Int) < k := by omega
      clear hle
      go_wp2
      go_ret
      exact ⟨_, rfl, by rw [← HE.out]; exact HW.out.bo.own, HW.out.bo.bel⟩
    have hle2 : (k : Int) ≤ s.size := by omega
    have hbs := HW.out.bo.size
    obtain ⟨b, hb⟩ : ∃ b : Bool, b = if h : k < s.size then inWB s[k] else false := ⟨_, rfl⟩
    have HB := Lib.hid hb
    go_upto_region 6 with (fail)
    go_cut [22] (fun x wx => x = .bool b ∧ wx = wr)
    case first =>
      by_cases hks : k < s.size
      · have HI := Lib.hid (inWord_c s[k] wr)
        rw [dif_pos hks] at hb
        have HBB := Lib.hid hb
        clear hb
        go_wp2_with (first | (go_at_call 110; refine HI.out.mono ?_; rintro e w' ⟨rfl, rfl⟩) | fail)
        go_meet
        exact ⟨by rw [HBB.out], rfl⟩
      · rw [dif_neg hks] at hb
        subst hb
        go_wp2
        go_meet
        exact ⟨rfl, rfl⟩
    case rest =>
    obtain ⟨rfl, rfl⟩ := hcut
    clear hb
    cases b with
    | true =>
      have hks : k < s.size := by
        apply Classical.byContradiction
        intro hn
        have := HB.out
        rw [dif_neg hn] at this
        cases this
      have HIN := Lib.hid (show inWB s[k] = true by have := HB.out; rw [dif_pos hks] at this; exact this.symm)
      have hcu : s[k].toNat < 256 := s[k].toNat_lt
      have hasc := inWB_ascii HIN.out
      have HNW := Lib.hid (HW.out.word hks HIN.out)
      go_upto_region 8 with (fail)
      generalize s[k] = c at *
      have HCP := Lib.hid (show capB c = (decide (65 ≤ c.toNat) && decide (c.toNat ≤ 90)) from rfl)
      go_cut [31] (fun x wx => x = .bool (capB c) ∧ wx = wc)
      case first =>
        rcases (show c.toNat < 65 ∨ (65 ≤ c.toNat ∧ c.toNat ≤ 90) ∨ (65 ≤ c.toNat ∧ 90 < c.toNat) by omega) with h1 | ⟨h1, h2⟩ | ⟨h1, h2⟩
        all_goals
          go_wp2
          go_meet
          exact ⟨congrArg Value.bool (by rw [HCP.out, Bool.eq_iff_iff]; simp; omega), rfl⟩
      case rest =>
      obtain ⟨rfl, rfl⟩ := hcut
      go_upto_if 31 with (fail)
      go_cut [6] (fun x wx => x = .int .u8 ((loC c).toNat : Int) ∧ wx = wc)
      case first =>
        cases hcp : capB c with
        | true =>
          have hcb : c.toNat ≤ 90 := by simp [capB] at hcp; omega
          have HLC := Lib.hid (show (loC c).toNat = c.toNat + 32 by rw [loC_nat, if_pos hcp])
          have hwu : IntKind.u8.wrap ((c.toNat : Int) + 32) = (c.toNat : Int) + 32 := by rw [IntKind.wrap_u8]; omega
          clear hcp
          go_wp2
          go_meet
          exact ⟨by rw [HLC.out]; simp, rfl⟩
        | false =>
          have HLC := Lib.hid (show (loC c).toNat = c.toNat by rw [loC_nat, if_neg (by rw [hcp]; decide)])
          clear hcp
          go_wp2
          go_meet
          exact ⟨by rw [HLC.out], rfl⟩
      case rest =>
      obtain ⟨rfl, rfl⟩ := hcut
      have HEN := Lib.hid (enc_one hasc)
      generalize loC c = d at *
      have hcv : ∀ W, (convert 21 9 (.int .i32 (d.toNat : Int))).run Tryz.prog W = .ok (.string ⟨#[d]⟩) W := fun W => by
        rw [run_convert_int_string W _ _ _ _ (by kernel_rfl) Tryz.underlying9, HEN.out]
      have HSN := Lib.hid (snoc_str cur d)
      have hdu : d.toNat < 128 := hasc
      clear hasc hcu
      go_wp2
      go_roundw
      case rel => exact ⟨k + 1, out, cur ++ [d], by omega, intNum, by rw [HSN.out], by simp; omega, HNW⟩
      case measure => simp [intOf]; omega
    | false =>
      have HNI := Lib.hid (show ∀ h : k < s.size, inWB s[k] = false from fun h => by have := HB.out; rw [dif_pos h] at this; exact this.symm)
      have HTR := Lib.hid (trim_c ⟨cur.toArray⟩ ⟨#[39]⟩ wc (by rw [mk_size]; omega) (by decide) (by decide))
      have HTO := Lib.hid (trim_ok cur)
      have HT2 := Lib.hid (show (⟨(Lib.trimS (⟨cur.toArray⟩ : ByteArray).data.toList (⟨#[39]⟩ : ByteArray).data.toList).toArray⟩ : ByteArray) = ⟨(Lib.trimS cur [39]).toArray⟩ from rfl)
      rw [HT2.out] at HTR
      clear HT2
      generalize (⟨(Lib.trimS cur [39]).toArray⟩ : ByteArray) = X at *
      have HFY := Lib.hid (@flW_yes cur)
      have HFN := Lib.hid (@flW_no cur)
      cases hw : wdOk cur with
      | true =>
        have HFL := Lib.hid (HFY.out hw)
        have hxe : X.toList.isEmpty = false := by have := HTO.out; rw [hw] at this; exact this
        have hol := Lib.hid (HW.out.at_ hle).2.2
        obtain ⟨q, hq2⟩ : ∃ q, out.length = q := ⟨_, rfl⟩
        have HQ := Lib.hid hq2
        have hql : q ≤ 100000000 := by have := hol.out; omega
        clear hw hol hq2 HFY HFN HTO
        go_upto_region 12 with (first | (go_at_call 111; refine HTR.out.mono ?_; rintro e w2 ⟨rfl, hb2⟩) | fail)
        have HG2 := Lib.hid (HW.out.bo.below hb2)
        have hz2 := HG2.out.size
        clear hb2
        generalize hZ : (⟨cur.toArray⟩ : ByteArray) = Z at *
        have HZ := Lib.hid hZ
        clear hZ
        go_wp2_with (at_builtin; (refine wpList_pushS1 rfl _ _ _ rfl w.heap.size w.heap.size 9 i0 _ Tryz.underlying61 hi0 hz0 (by assumption) (by assumption) rfl _ u3 out q HQ.out rfl (HG2.out.own.alloc _) Z w2.heap.size _ _ (heap_alloc_new w2 _) rfl (by omega) (by simp; omega) ?_); intro g7 cap7 w7 hown7 hg7 hat7 hlt7)
        go_roundw
        case rel => exact ⟨k + 1, out ++ flW cur, [], by omega, intNum, rfl, by simp, HW.out.flush hle HNI.out (by rw [HFL.out]; exact (HG2.out.alloc (.cells #[.string Z] 9)).more hown7 hg7 rfl hat7)⟩
        case measure => simp [intOf]; omega
      | false =>
        have HFL := Lib.hid (HFN.out hw)
        have hxe : X.toList.isEmpty = true := by have := HTO.out; rw [hw] at this; exact this
        clear hw HFY HFN HTO
        go_wp2_with (first | (go_at_call 111; refine HTR.out.mono ?_; rintro e w2 ⟨rfl, hb2⟩) | fail)
        go_roundw
        case rel => exact ⟨k + 1, out ++ flW cur, [], by omega, intNum, rfl, by simp, HW.out.flush hle HNI.out (by rw [HFL.out, List.append_nil]; exact HW.out.bo.below hb2)⟩
        case measure => simp [intOf]; omega
end Go.Proofs.YtkhegeobdcemkaaGreatDoor

/- script.found, walked. -/
namespace Go.Proofs.YtkhegeobdcemkaaGreatDoor
set_option linter.unusedVariables false
open Go.RowKit Go.Sort

def fndI (ws sm : List ByteArray) : List Int := (fndL ws sm).map fun (i : Nat) => (i : Int)
def fndK (ws sm : List ByteArray) (k : Nat) : List Int := ((List.range k).filter (fun i => decide ((ws.drop i).take sm.length = sm))).map fun (i : Nat) => (i : Int)
theorem fndK_next (ws sm : List ByteArray) (k : Nat) : fndK ws sm (k + 1) = fndK ws sm k ++ (if (ws.drop k).take sm.length = sm then [(k : Int)] else []) := by
  unfold fndK
  rw [fnd_next, List.map_append]
  split <;> rfl
theorem fndK_len (ws sm : List ByteArray) (k : Nat) : (fndK ws sm k).length ≤ k := by
  unfold fndK
  rw [List.length_map]
  exact Nat.le_trans (List.length_filter_le _ _) (by simp)
set_option maxRecDepth 100000 in
set_option maxHeartbeats 800000 in
theorem found_c {F : Nat → Prop} (ws sm : List ByteArray) (v1 v2 : Value) (w : World) (h1 : Sli strR w F ws v1) (h2 : Sli strR w F sm v2) (hF : ∀ b, F b → b < w.heap.size) (hl1 : ws.length ≤ 200000000) (hl2 : sm.length ≤ 200000000) (h0 : 0 < sm.length) :
    Calls Tryz.prog 121 #[v1, v2] w fun e w' => ∃ v, e = .returned v ∧ Own intR w' w.heap.size w.heap.size 3 (fndI ws sm) v ∧ Below w.heap.size w w' := by
  obtain ⟨i0, hi0, hz0, hz1, hz2⟩ := info_parts (show (Tryz.prog.info? 3).map (fun i => (i.zero, i.size, i.bytes)) = some (some (.int .i64 0), 1, 8) by kernel_rfl)
  obtain ⟨A1, c1, rfl, hlc1, hc1⟩ := h1.form
  obtain ⟨A2, c2, rfl, hlc2, hc2⟩ := h2.form
  have H1 := Lib.hid h1
  have H2 := Lib.hid h2
  have HF := Lib.hid hF
  obtain ⟨n, hn⟩ : ∃ n, ws.length = n := ⟨_, rfl⟩
  obtain ⟨m, hm⟩ : ∃ m, sm.length = m := ⟨_, rfl⟩
  have HN := Lib.hid hn
  have HM := Lib.hid hm
  rw [hn] at H1 hlc1 hl1 ⊢
  rw [hm] at H2 hlc2 hl2 h0 ⊢
  have H0 := Lib.hid (BO.start (R := intR) (e := 3) w)
  clear h1 h2 hF hn hm
  go_enter Tryz.func121, Tryz.ntmps121
  go_wp2
  go_loopw [5, 6] (fun v i wr => ∃ k : Nat, k ≤ n + 1 ∧ (k = 0 ∨ k + m ≤ n + 1) ∧ i = .int .i64 k ∧ Hid (BO intR 3 w (fndK ws sm k) v [] wr)) (fun _ i _ => n + 1 - (intOf i).toNat)
  case atStart => exact ⟨0, Nat.zero_le _, .inl rfl, rfl, H0⟩
  case round =>
    clear H0
    obtain ⟨k, hk, hkm, rfl, HG⟩ := hrel
    have ew : IntKind.i64.wrap ((k : Int) + (m : Int)) = (k : Int) + (m : Int) := IntWalk.i64_in _ (by omega)
    by_cases hlt : k + m ≤ n
    · have hkw : k < ws.length := by rw [HN.out]; omega
      obtain ⟨b, off, rfl, hfb, _⟩ := strAt H1.out k hkw
      have hi : (k : Int) + (m : Int) ≤ n := by omega
      have hi1 : (k : Int) + (m : Int) ≤ c1 := by omega
      have hi2 : ((k : Int) + (m : Int)).toNat = k + m := by omega
      have hle : k ≤ k + m := by omega
      have hzz := HG.out.size
      have hsub := ((H1.out.below HG.out.bel HF.out).drop_ k (by omega) (n - k) (c1 - k) (by rw [HN.out]) rfl).take_ m (by rw [List.length_drop, HN.out]; omega)
      rw [show off + k * strR.n = off + k from congrArg (off + ·) (Nat.mul_one k)] at hsub
      have HE := Lib.hid (eqStr_c ((ws.drop k).take m) sm _ _ F wr hsub (H2.out.below HG.out.bel HF.out) (fun q hq => Nat.lt_of_lt_of_le (HF.out q hq) hzz))
      have HNX := Lib.hid (fndK_next ws sm k)
      rw [HM.out] at HNX
      obtain ⟨q, hq⟩ : ∃ q, (fndK ws sm k).length = q := ⟨_, rfl⟩
      have hql : q ≤ 200000001 := by have := fndK_len ws sm k; omega
      have HQ := Lib.hid hq
      clear hsub hq
      generalize fndK ws sm k = cur at *
      by_cases heq : (ws.drop k).take m = sm
      · rw [decide_eq_true heq] at HE
        have HN2 := Lib.hid (HNX.out.trans (by rw [if_pos heq]))
        clear heq HNX
        go_upto_region 6 with (first | (go_at_call 31; refine HE.out.mono ?_; rintro e w2 ⟨rfl, hb2⟩) | fail)
        have HG2 := Lib.hid (HG.out.below hb2)
        have hz2 := HG2.out.size
        clear hb2 HG
        go_wp2_with (at_builtin; (refine wpList_pushI rfl _ _ _ rfl w.heap.size w.heap.size 3 i0 _ 8 Tryz.underlying22 hi0 hz0 (by assumption) (by assumption) rfl _ u5 cur rfl (HG2.out.own.alloc _) [(k : Int)] (by simp) w2.heap.size _ _ (heap_alloc_new w2 _) rfl (by rw [HQ.out]; simp [maxLen]; omega) (by rw [HQ.out]; simp; omega) (by simp; omega) ?_); intro g7 cap7 w7 hown7 hg7 hat7 hlt7)
        go_roundw
        case rel => exact ⟨k + 1, by omega, .inr (by omega), intNum, by rw [HN2.out]; exact Lib.hid ((HG2.out.alloc (.cells #[.int .i64 (k : Int)] 3)).more hown7 hg7 rfl hat7)⟩
        case measure => simp [intOf]; omega
      · rw [decide_eq_false heq] at HE
        have HN2 := Lib.hid (HNX.out.trans (by rw [if_neg heq]))
        rw [List.append_nil] at HN2
        clear heq HNX
        go_wp2_with (first | (go_at_call 31; refine HE.out.mono ?_; rintro e w2 ⟨rfl, hb2⟩) | fail)
        go_roundw
        case rel => exact ⟨k + 1, by omega, .inr (by omega), intNum, by rw [HN2.out]; exact Lib.hid (HG.out.below hb2)⟩
        case measure => simp [intOf]; omega
    · have hi : (n : Int) < (k : Int) + (m : Int) := by omega
      have HE := Lib.hid (show fndK ws sm k = fndI ws sm by
        unfold fndI fndL
        rw [HN.out, HM.out, show n + 1 - m = k by omega]
        unfold fndK
        rw [HM.out])
      clear hlt
      go_wp2
      go_ret
      exact ⟨_, rfl, by rw [← HE.out]; exact HG.out.own, HG.out.bel⟩
set_option maxRecDepth 100000 in
set_option maxHeartbeats 800000 in
theorem beginnings_c {F : Nat → Prop} (ws sm : List ByteArray) (v1 v2 : Value) (w : World) (h1 : Sli strR w F ws v1) (h2 : Sli strR w F sm v2) (hF : ∀ b, F b → b < w.heap.size) (hl1 : ws.length ≤ 200000000) (hl2 : sm.length ≤ 200000000) (h0 : 0 < sm.length) :
    Calls Tryz.prog 74 #[v1, v2] w fun e w' => ∃ v, e = .returned v ∧ Own intR w' w.heap.size w.heap.size 3 (fndI ws sm) v ∧ Below w.heap.size w w' := by
  obtain ⟨i0, hi0, hz0, hz1, hz2⟩ := info_parts (show (Tryz.prog.info? 3).map (fun i => (i.zero, i.size, i.bytes)) = some (some (.int .i64 0), 1, 8) by kernel_rfl)
  obtain ⟨A1, c1, rfl, hlc1, hc1⟩ := h1.form
  obtain ⟨A2, c2, rfl, hlc2, hc2⟩ := h2.form
  have H1 := Lib.hid h1
  have H2 := Lib.hid h2
  have HF := Lib.hid hF
  obtain ⟨n, hn⟩ : ∃ n, ws.length = n := ⟨_, rfl⟩
  obtain ⟨m, hm⟩ : ∃ m, sm.length = m := ⟨_, rfl⟩
  have HN := Lib.hid hn
  have HM := Lib.hid hm
  rw [hn] at H1 hlc1 hl1 ⊢
  rw [hm] at H2 hlc2 hl2 h0 ⊢
  have H0 := Lib.hid (BO.start (R := intR) (e := 3) w)
  clear h1 h2 hF hn hm
  go_enter Tryz.func74, Tryz.ntmps74
  go_wp2
  go_loopw [5, 6] (fun v i wr => ∃ k : Nat, k ≤ n + 1 ∧ (k = 0 ∨ k + m ≤ n + 1) ∧ i = .int .i64 k ∧ Hid (BO intR 3 w (fndK ws sm k) v [] wr)) (fun _ i _ => n + 1 - (intOf i).toNat)
  case atStart => exact ⟨0, Nat.zero_le _, .inl rfl, rfl, H0⟩
  case round =>
    clear H0
    obtain ⟨k, hk, hkm, rfl, HG⟩ := hrel
    have ew : IntKind.i64.wrap ((k : Int) + (m : Int)) = (k : Int) + (m : Int) := IntWalk.i64_in _ (by omega)
    by_cases hlt : k + m ≤ n
    · have hkw : k < ws.length := by rw [HN.out]; omega
      obtain ⟨b, off, rfl, hfb, _⟩ := strAt H1.out k hkw
      have hi : (k : Int) + (m : Int) ≤ n := by omega
      have hi1 : (k : Int) + (m : Int) ≤ c1 := by omega
      have hi2 : ((k : Int) + (m : Int)).toNat = k + m := by omega
      have hle : k ≤ k + m := by omega
      have hzz := HG.out.size
      have hsub := ((H1.out.below HG.out.bel HF.out).drop_ k (by omega) (n - k) (c1 - k) (by rw [HN.out]) rfl).take_ m (by rw [List.length_drop, HN.out]; omega)
      rw [show off + k * strR.n = off + k from congrArg (off + ·) (Nat.mul_one k)] at hsub
      have HE := Lib.hid (eqStr_c ((ws.drop k).take m) sm _ _ F wr hsub (H2.out.below HG.out.bel HF.out) (fun q hq => Nat.lt_of_lt_of_le (HF.out q hq) hzz))
      have HNX := Lib.hid (fndK_next ws sm k)
      rw [HM.out] at HNX
      obtain ⟨q, hq⟩ : ∃ q, (fndK ws sm k).length = q := ⟨_, rfl⟩
      have hql : q ≤ 200000001 := by have := fndK_len ws sm k; omega
      have HQ := Lib.hid hq
      clear hsub hq
      generalize fndK ws sm k = cur at *
      by_cases heq : (ws.drop k).take m = sm
      · rw [decide_eq_true heq] at HE
        have HN2 := Lib.hid (HNX.out.trans (by rw [if_pos heq]))
        clear heq HNX
        go_upto_region 6 with (first | (go_at_call 31; refine HE.out.mono ?_; rintro e w2 ⟨rfl, hb2⟩) | fail)
        have HG2 := Lib.hid (HG.out.below hb2)
        have hz2 := HG2.out.size
        clear hb2 HG
        go_wp2_with (at_builtin; (refine wpList_pushI rfl _ _ _ rfl w.heap.size w.heap.size 3 i0 _ 8 Tryz.underlying22 hi0 hz0 (by assumption) (by assumption) rfl _ u5 cur rfl (HG2.out.own.alloc _) [(k : Int)] (by simp) w2.heap.size _ _ (heap_alloc_new w2 _) rfl (by rw [HQ.out]; simp [maxLen]; omega) (by rw [HQ.out]; simp; omega) (by simp; omega) ?_); intro g7 cap7 w7 hown7 hg7 hat7 hlt7)
        go_roundw
        case rel => exact ⟨k + 1, by omega, .inr (by omega), intNum, by rw [HN2.out]; exact Lib.hid ((HG2.out.alloc (.cells #[.int .i64 (k : Int)] 3)).more hown7 hg7 rfl hat7)⟩
        case measure => simp [intOf]; omega
      · rw [decide_eq_false heq] at HE
        have HN2 := Lib.hid (HNX.out.trans (by rw [if_neg heq]))
        rw [List.append_nil] at HN2
        clear heq HNX
        go_wp2_with (first | (go_at_call 31; refine HE.out.mono ?_; rintro e w2 ⟨rfl, hb2⟩) | fail)
        go_roundw
        case rel => exact ⟨k + 1, by omega, .inr (by omega), intNum, by rw [HN2.out]; exact Lib.hid (HG.out.below hb2)⟩
        case measure => simp [intOf]; omega
    · have hi : (n : Int) < (k : Int) + (m : Int) := by omega
      have HE := Lib.hid (show fndK ws sm k = fndI ws sm by
        unfold fndI fndL
        rw [HN.out, HM.out, show n + 1 - m = k by omega]
        unfold fndK
        rw [HM.out])
      clear hlt
      go_wp2
      go_ret
      exact ⟨_, rfl, by rw [← HE.out]; exact HG.out.own, HG.out.bel⟩
end Go.Proofs.YtkhegeobdcemkaaGreatDoor

/- Where words follow one another in a script, in plain words. No program in sight. -/
namespace Go.Proofs.YtkhegeobdcemkaaGreatDoor
set_option linter.unusedVariables false
open Go.RowKit

end Go.Proofs.YtkhegeobdcemkaaGreatDoor

/- script.Find and R.FindOf, walked. -/
namespace Go.Proofs.YtkhegeobdcemkaaGreatDoor
set_option linter.unusedVariables false
open Go.RowKit Go.Sort

/-- What scenes must stay within for a search. -/
def FdB (xs : List Scene) : Prop := xs.length ≤ 1000 ∧ ∀ x ∈ xs, x.paras.length ≤ 100000 ∧ ∀ p ∈ x.paras, p.text.size ≤ 20000
end Go.Proofs.YtkhegeobdcemkaaGreatDoor

/- script.Find, walked. -/
namespace Go.Proofs.YtkhegeobdcemkaaGreatDoor
set_option linter.unusedVariables false
open Go.RowKit Go.Sort

end Go.Proofs.YtkhegeobdcemkaaGreatDoor

/- Bounds of the generator's scripts; the form of a slice that a call has made. -/
namespace Go.Proofs.YtkhegeobdcemkaaGreatDoor
set_option linter.unusedVariables false
open Go.RowKit Go.Sort

theorem Sct.fdb {W0 wx : World} {E : Nat → Prop} {t : ByteArray} {l : List (Scene × Value)} {v : Value} (h : Sct W0 E 10010 91 t l v wx) : FdB (l.map (·.1)) := by
  refine ⟨by rw [List.length_map]; have := h.len; omega, fun x hx => ?_⟩
  obtain ⟨y, hy, rfl⟩ := List.mem_map.1 hx
  obtain ⟨_, _, h3, h4⟩ := h.bd y hy
  exact ⟨by omega, fun p hp => by have := h4 p hp; omega⟩
end Go.Proofs.YtkhegeobdcemkaaGreatDoor

