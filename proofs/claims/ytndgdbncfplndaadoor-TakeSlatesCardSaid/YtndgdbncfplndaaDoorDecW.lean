/- Numerals read by the program and by the reference. -/
import Derived.Test.YtndgdbncfplndaaDoorRows
import Derived.Test.YtndgdbncfplndaaDoorAtoiW
import Derived.Test.YtndgdbncfplndaaDoorRefA
import Derived.Test.YtndgdbncfplndaaDoorDecS
import Derived.Test.YtndgdbncfplndaaDoorCutS
import Derived.Shelf.Strconv.Itoa3
namespace Go.Proofs.YtndgdbncfplndaaDoor
set_option linter.unusedVariables false
open Go.RowKit Go.Sort

/-- The table of powers of ten lies where it was laid. -/
def PowLaid (w : World) : Prop := Lib.TabIs Tryd.prog w "internal/strconv.uint64pow10" .u64 Lib.pow10Tab
theorem pow_below {w w' : World} {B : Nat} (h : PowLaid w) (hb : Below B w w') (hB : w.heap.size ≤ B) : PowLaid w' :=
  Joins.tab_stays (g := 0) (by kernel_rfl) h hb hB
theorem below_grow {w w' : World} {k : Nat} {os : Array Obj} (h : w' = grow (w.drewN k) os) : Below w.heap.size w w' := by
  subst h
  exact below_regrown w (w.drawn + k) os
theorem itoa_c (n : Int) (w : World) (hn : okI n) (hp : PowLaid w) : Calls Tryd.prog 74 #[.int .i64 n] w fun e w' => e = .returned (.string ⟨(Lib.itoa n).toArray⟩) ∧ Below w.heap.size w w' :=
  (Any.strconv_Itoa Tryd.laysM171 n hn.1 hn.2 w hp).mono fun _ _ ⟨he, k, os, hw⟩ => ⟨he, below_grow hw⟩

/-- strings.Trim at the figures: empty just where all bytes are figures. -/
def TrimF (s : ByteArray) (w : World) (e : Ending) (w' : World) : Prop := ∃ t : ByteArray, e = .returned (.string t) ∧ (allB figC s = true → t = ⟨#[]⟩) ∧ (allB figC s = false → t.toList.isEmpty = false) ∧ Below w.heap.size w w'
theorem figC_eq (s : ByteArray) : allB (([48, 49, 50, 51, 52, 53, 54, 55, 56, 57] : List UInt8).contains ·) s = allB figC s := allB_congr (by decide +kernel) s
theorem trimF_c (s : ByteArray) (w : World) (hs : s.size ≤ 140737488355328) : Calls Tryd.prog 100 #[.string s, .string ⟨#[48, 49, 50, 51, 52, 53, 54, 55, 56, 57]⟩] w (TrimF s w) := by
  refine (trim_c s _ w hs (by decide) (by decide)).mono ?_
  rintro e w' ⟨he, hb⟩
  refine ⟨_, he, fun h => ?_, fun h => ?_, hb⟩
  · rw [← figC_eq] at h
    rw [(trimS_nil _ _).2 h]
  · rw [toList_mk]
    rw [← figC_eq] at h
    cases hd : Lib.trimS s.data.toList (ByteArray.mk #[48, 49, 50, 51, 52, 53, 54, 55, 56, 57]).data.toList with
    | nil => have := (trimS_nil _ _).1 hd; rw [show s.data.toList.all _ = allB _ s from rfl] at this; rw [this] at h; cases h
    | cons y t => rfl

def decA (s : ByteArray) (most : Int) : Int := bif decB s most then decV s else 0
set_option maxRecDepth 100000 in
set_option maxHeartbeats 800000 in
theorem decimal_c (s : ByteArray) (most : Int) (w : World) (hs : s.size ≤ 140737488355328) (h0 : 1 ≤ most) (h1 : most ≤ 18) (hl : ErrsLaid w) :
    Calls Tryd.prog 78 #[.string s, .int .i64 most] w fun e w' => e = .returned (.tuple #[.int .i64 (decA s most), .bool (decB s most)]) ∧ Below w.heap.size w w' := by
  have HL := Lib.hid hl; clear hl
  by_cases c1 : s.size < 1
  · have HV := Lib.hid (show decB s most = false by simp [decB]; omega)
    have HA := Lib.hid (show decA s most = 0 by unfold decA; rw [HV.out]; rfl)
    go_enter Tryd.func78, Tryd.ntmps78
    go_wp2
    go_ret2
    exact ⟨by rw [HV.out, HA.out]; rfl, Below.refl _ _⟩
  · by_cases c2 : most < (s.size : Int)
    · have HV := Lib.hid (show decB s most = false by simp [decB]; omega)
      have HA := Lib.hid (show decA s most = 0 by unfold decA; rw [HV.out]; rfl)
      have c1' : 1 ≤ s.size := by omega
      go_enter Tryd.func78, Tryd.ntmps78
      go_wp2
      go_ret2
      exact ⟨by rw [HV.out, HA.out]; rfl, Below.refl _ _⟩
    · have hsz : 0 < s.size := by omega
      have c1' : 1 ≤ s.size := by omega
      have c2' : (s.size : Int) ≤ most := by omega
      have hu := s[0].toNat_lt
      have hhd : s.data.toList.head?.map (·.toNat) = some s[0].toNat := by
        rw [List.head?_eq_getElem?, List.getElem?_eq_getElem (by simpa using hsz)]; rfl
      have HH := Lib.hid hhd; clear hhd
      by_cases c3 : 1 < s.size ∧ s[0].toNat = 48
      · have HV := Lib.hid (show decB s most = false by
          unfold decB; rw [HH.out, c3.2]; simp; intros; omega)
        have HA := Lib.hid (show decA s most = 0 by unfold decA; rw [HV.out]; rfl)
        obtain ⟨c3, c4⟩ := c3
        have c4' : ((s[0].toNat : Int) == 48) = true := by rw [c4]; rfl
        clear c4
        go_enter Tryd.func78, Tryd.ntmps78
        go_wp2
        go_ret2
        exact ⟨by rw [HV.out, HA.out]; rfl, Below.refl _ _⟩
      · have HC := Lib.hid (show decB s most = allB figC s by
          unfold decB; rw [HH.out]; simp; intros; omega)
        have c4' : s.size ≤ 1 ∨ (1 < s.size ∧ ((s[0].toNat : Int) == 48) = false) := by
          by_cases h : 1 < s.size
          · right; exact ⟨h, by rw [beq_eq_false_iff_ne]; omega⟩
          · exact .inl (by omega)
        clear c3
        cases hf : allB figC s with
        | false =>
          have HF := Lib.hid hf
          have HV := Lib.hid (show decB s most = false by rw [HC.out, hf])
          have HA := Lib.hid (show decA s most = 0 by unfold decA; rw [HV.out]; rfl)
          clear hf
          rcases c4' with c4 | ⟨c40, c4⟩
          all_goals
            go_enter Tryd.func78, Tryd.ntmps78
            go_wp2_with fail
            refine (trimF_c s _ hs).mono ?_
            rintro e w' ⟨t, rfl, _, ht, hb⟩
            have ht' := ht HF.out
            clear ht
            go_wp2
            go_ret2
            exact ⟨by rw [HV.out, HA.out]; rfl, hb⟩
        | true =>
          have HF := Lib.hid hf
          have HV := Lib.hid (show decB s most = true by rw [HC.out, hf])
          have HA := Lib.hid (show decA s most = decV s by unfold decA; rw [HV.out]; rfl)
          have hlt : decV s < 10 ^ 18 := decV_lt (most := 18) (decB_iff.2 ⟨(decB_iff.1 HV.out).1, by omega⟩)
          have HN := Lib.hid (show Lib.atoiAll s.data.toList = .ok (decV s : Int) from atoi_digits (decB_iff.1 HV.out).1.1 (decB_iff.1 HV.out).1.2.1 (by unfold decV at hlt; omega))
          clear hf hlt
          rcases c4' with c4 | ⟨c40, c4⟩
          all_goals
            go_enter Tryd.func78, Tryd.ntmps78
            go_wp2_with fail
            refine (trimF_c s _ hs).mono ?_
            rintro e w' ⟨t, rfl, ht, _, hb⟩
            obtain rfl := ht HF.out
            clear ht
            have HB := Lib.hid hb; clear hb
            go_wp2_with fail
            refine (atoi_c s _ hs (HL.out.below HB.out (Nat.le_refl _))).mono ?_
            rintro e w2 ⟨n, ev, hP, rfl, hb2⟩
            obtain ⟨rfl, rfl⟩ : n = decV s ∧ ev = .nilIface := by
              rcases hP with ⟨h, he⟩ | ⟨h, _⟩
              · rw [HN.out] at h; injection h with h; exact ⟨h.symm, he⟩
              · exact absurd HN.out (h _)
            have HB2 := Lib.hid (HB.out.trans (hb2.mono HB.out.size))
            clear hP hb2
            go_wp2
            go_ret2
            exact ⟨by rw [HV.out, HA.out]; rfl, HB2.out⟩

/-- How the reference reads a number of at most so many digits. -/
def NumP (s : ByteArray) (most n : Int) (ok : Bool) : Prop :=
  (ok = true → Lib.itoa n = s.data.toList ∧ okI n ∧ ((Lib.trimPrefix s.data.toList [45]).length : Int) ≤ most) ∧ (ok = false → ∀ m, okI m → Lib.itoa m = s.data.toList → ¬ ((Lib.trimPrefix s.data.toList [45]).length : Int) ≤ most)
def NumR (s : ByteArray) (most : Int) (w : World) (e : Ending) (w' : World) : Prop := ∃ n ok, NumP s most n ok ∧ e = .returned (.tuple #[.int .i64 n, .bool ok]) ∧ Below w.heap.size w w'
theorem mk_size (l : List UInt8) : (⟨l.toArray⟩ : ByteArray).size = l.length := rfl
theorem trimPrefix_len (l p : List UInt8) : (Lib.trimPrefix l p).length ≤ l.length := by
  unfold Lib.trimPrefix; split
  · simp
  · exact Nat.le_refl _
theorem itoa_ok {s : ByteArray} {n m : Int} (h : Lib.atoiAll s.data.toList = .ok n) (hm : okI m) (e : Lib.itoa m = s.data.toList) : n = m := by
  rw [← e, atoi_itoa m hm] at h
  injection h with h; exact h.symm
set_option maxHeartbeats 800000 in
theorem number_c (s : ByteArray) (most : Int) (w : World) (hs : s.size ≤ 140737488355328) (h0 : 0 ≤ most) (h1 : most ≤ 1000) (hl : ErrsLaid w) (hp : PowLaid w) :
    Calls Tryd.prog 79 #[.string s, .int .i64 most] w (NumR s most w) := by
  have HP := Lib.hid hp; clear hp
  have HL := Lib.hid hl; clear hl
  go_enter Tryd.func79, Tryd.ntmps79
  go_wp2_with fail
  refine (atoi_c s _ hs HL.out).mono ?_
  rintro e w1 ⟨n, ev, hP, rfl, hb1⟩
  have HB1 := Lib.hid hb1; clear hb1
  rcases hP with ⟨ha, rfl⟩ | ⟨ha, t, N, rfl⟩
  · have hn := atoi_bd ha
    have HA := Lib.hid ha; clear ha
    go_wp2_with fail
    refine (itoa_c n _ hn (pow_below HP.out HB1.out (Nat.le_refl _))).mono ?_
    rintro e w2 ⟨rfl, hb2⟩
    have HB2 := Lib.hid (HB1.out.trans (hb2.mono HB1.out.size)); clear hb2
    by_cases he : Lib.itoa n = s.data.toList
    · have e1 : ((⟨(Lib.itoa n).toArray⟩ : ByteArray).toList == s.toList) = true := by rw [beqS, decide_eq_true_iff]; exact ba_ext (by simpa using he)
      have HE := Lib.hid he; clear he
      have hsz : ((Lib.trimPrefix s.data.toList [45]).length : Int) ≤ s.size := by
        have h2 := trimPrefix_len s.data.toList [45]
        have h3 : s.data.toList.length = s.size := by simp
        omega
      generalize (⟨(Lib.itoa n).toArray⟩ : ByteArray) = T1 at e1 ⊢
      go_wp2_with fail
      refine (Tryd.strings_TrimPrefix s ⟨#[45]⟩ _).mono ?_
      rintro e w' ⟨rfl, rfl⟩
      generalize hT : (⟨(Lib.trimPrefix s.data.toList (ByteArray.mk #[45]).data.toList).toArray⟩ : ByteArray) = T
      have hTl : ((Lib.trimPrefix s.data.toList [45]).length : Int) = (T.size : Int) := by rw [← hT, mk_size]
      have hTb : T.size ≤ 140737488355328 := by omega
      clear hT
      by_cases hm : (T.size : Int) ≤ most
      · have HV := Lib.hid (show NumP s most n true from ⟨fun _ => ⟨HE.out, hn, by omega⟩, fun h => by cases h⟩)
        have hd : decide ((T.size : Int) ≤ most) = true := decide_eq_true hm
        clear hTl hsz
        go_wp2
        go_ret2
        exact ⟨n, true, HV.out, rfl, HB2.out⟩
      · have HV := Lib.hid (show NumP s most n false from ⟨(fun h => by cases h), fun _ m hm' e => by omega⟩)
        have hd : decide ((T.size : Int) ≤ most) = false := decide_eq_false hm
        clear hTl hsz
        go_wp2
        go_ret2
        exact ⟨n, false, HV.out, rfl, HB2.out⟩
    · have e1 : ((⟨(Lib.itoa n).toArray⟩ : ByteArray).toList == s.toList) = false := by
        rw [beqS, decide_eq_false_iff_not]; intro h; exact he (congrArg (fun x : ByteArray => x.data.toList) h)
      have HV := Lib.hid (show NumP s most n false from ⟨(fun h => by cases h), fun _ m hm e => absurd (by rw [itoa_ok HA.out hm e]; exact e) he⟩)
      clear he
      generalize (⟨(Lib.itoa n).toArray⟩ : ByteArray) = T1 at e1 ⊢
      go_wp2
      go_ret2
      exact ⟨n, false, HV.out, rfl, HB2.out⟩
  · have HV := Lib.hid (show NumP s most n false from ⟨(fun h => by cases h), fun _ m hm e => absurd (by rw [← e]; exact atoi_itoa m hm) (ha m)⟩)
    clear ha
    go_wp2
    go_ret2
    exact ⟨n, false, HV.out, rfl, HB1.out⟩
end Go.Proofs.YtndgdbncfplndaaDoor
