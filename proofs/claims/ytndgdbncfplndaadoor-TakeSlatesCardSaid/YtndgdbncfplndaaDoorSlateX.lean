/- Slates read by the program and by the reference. -/
import Derived.Test.YtndgdbncfplndaaDoorRows
import Derived.Test.YtndgdbncfplndaaDoorNumO
namespace Go.Proofs.YtndgdbncfplndaaDoor
set_option linter.unusedVariables false
open Go.RowKit Go.Sort

theorem results_tmp4 {fn : Func} {t u v x : Tmp} (h : fn.results = #[.tmp t, .tmp u, .tmp v, .tmp x]) (tmps : Array Value) (P : Program) (w : World) :
    (results fn tmps).run P w = .ok (.tuple #[tmps.getD t undef, tmps.getD u undef, tmps.getD v undef, tmps.getD x undef]) w := by simp [results, h]
def sA (t : ByteArray) : ByteArray := cutA (cutA t 45) 47
def sB (t : ByteArray) : ByteArray := cutB (cutA t 45) 47
theorem sA_size (t : ByteArray) : (sA t).size ≤ t.size := Nat.le_trans (cutA_size _ _) (cutA_size _ _)
theorem sB_size (t : ByteArray) : (sB t).size ≤ t.size := Nat.le_trans (cutB_size _ _) (cutA_size _ _)
def ReadS (t : ByteArray) (w : World) (e : Ending) (w' : World) : Prop :=
  ∃ a b n ok, slP t a b n ok ∧ e = .returned (.tuple #[.string (bif ok then a else ⟨#[]⟩), .string (bif ok then b else ⟨#[]⟩), .int .i64 (bif ok then n else 0), .int .i64 (bif ok then 0 else 9)]) ∧ Below w.heap.size w w'

theorem slP_dec {t : ByteArray} {ok : Bool} (h : ok = true ↔ decB (cutB t 45) 2 = true ∧ slateE (sA t) (sB t) (decA (cutB t 45) 2) = 0 ∧ slateS (sA t) (sB t) (decA (cutB t 45) 2).toNat = t) : slP t (sA t) (sB t) (decA (cutB t 45) 2) ok := by
  have hdec : ∀ m : Nat, (⟨(Lib.decDigits m).toArray⟩ : ByteArray) = cutB t 45 → Lib.decDigits m = (cutB t 45).data.toList := fun m h => by rw [← h]
  refine slP_of (okn := decB (cutB t 45) 2) (fun h => ⟨?_, .inr trivial⟩) (fun h m h1 h2 he => ?_) (fun h m h1 h2 he => ?_) h
  · have := decB_dec h
    apply ba_ext
    show Lib.decDigits _ = _
    unfold decA; rw [h]; simpa using this
  · have h3 : (cutB t 45).size ≤ 2 := by rw [← he]; exact decDigits_small (by omega)
    have := (dec_decB (hdec m he) (show ((cutB t 45).size : Int) ≤ 2 by omega)).1
    rw [h] at this; cases this
  · have h3 : (cutB t 45).size ≤ 2 := by rw [← he]; exact decDigits_small (by omega)
    have := (dec_decB (hdec m he) (show ((cutB t 45).size : Int) ≤ 2 by omega)).2
    unfold decA; rw [h]; simp [this]

set_option maxRecDepth 100000 in
set_option maxHeartbeats 1000000 in
theorem ReadSlate_c (t : ByteArray) (w : World) (hs : t.size ≤ 140737488355328) (hl : ErrsLaid w) : Calls Tryd.prog 41 #[.string t] w (ReadS t w) := by
  have HL := Lib.hid hl; clear hl
  have hA := sA_size t
  have hB := sB_size t
  have hC := cutB_size t 45
  have hD := cutA_size t 45
  go_enter Tryd.func41, Tryd.ntmps41
  go_wp2_with fail
  refine (cut_c t 45 _ hs).mono ?_
  rintro e w' ⟨rfl, ⟨n1, rfl⟩⟩
  go_wp2_with fail
  refine (cut_c (cutA t 45) 47 _ (by omega)).mono ?_
  rintro e w' ⟨rfl, ⟨n2, rfl⟩⟩
  rw [show cutA (cutA t 45) 47 = sA t from rfl, show cutB (cutA t 45) 47 = sB t from rfl]
  go_wp2_with fail
  refine (decimal_c (cutB t 45) 2 _ (by omega) (by omega) (by omega) (by exact HL.out.keep (Nat.le_refl _) rfl rfl)).mono ?_
  rintro e w1 ⟨rfl, hb1⟩
  have HB1 := Lib.hid (show Below w.heap.size w w1 from (below_drewN (Below.refl _ _) (n1 + n2)).trans hb1); clear hb1
  obtain ⟨d, hd⟩ : ∃ d, decA (cutB t 45) 2 = d := ⟨_, rfl⟩
  obtain ⟨okd, hok⟩ : ∃ okd, decB (cutB t 45) 2 = okd := ⟨_, rfl⟩
  have HP := fun ok h => slP_dec (t := t) (ok := ok) h
  rw [hd, hok] at HP
  rw [hd, hok]
  obtain ⟨a, ha⟩ : ∃ a, sA t = a := ⟨_, rfl⟩
  obtain ⟨b, hb⟩ : ∃ b, sB t = b := ⟨_, rfl⟩
  rw [ha, hb] at HP
  rw [ha] at hA
  rw [hb] at hB
  rw [ha, hb]
  have HPP := Lib.hid HP
  clear HP hd hok ha hb
  have hD0 : d.natAbs ≤ d.natAbs := Nat.le_refl _
  go_wp2_with fail
  refine (Slate_c a b d _ (by omega) (by omega)).mono ?_
  rintro e w2 ⟨rfl, rfl⟩
  cases okd with
  | false =>
    have HV := Lib.hid (HPP.out false (by simp))
    go_wp2
    refine bodyPost_ret (results_tmp4 rfl _ _ _) rfl ?_
    exact ⟨a, b, d, false, HV.out, rfl, HB1.out⟩
  | true =>
    by_cases he : slateE a b d = 0
    · have HE := Lib.hid (show slateA a b d = slateS a b d.toNat from if_pos he)
      by_cases ht : slateS a b d.toNat = t
      · have HV := Lib.hid (HPP.out true ⟨fun _ => ⟨rfl, he, ht⟩, fun _ => rfl⟩)
        rw [he, HE.out, ht]
        clear he ht
        go_wp2
        refine bodyPost_ret (results_tmp4 rfl _ _ _) rfl ?_
        exact ⟨a, b, d, true, HV.out, rfl, HB1.out⟩
      · have HV := Lib.hid (HPP.out false ⟨(fun h => by cases h), fun h => absurd h.2.2 ht⟩)
        rw [he, HE.out]
        have e1 : ((slateS a b d.toNat).toList == t.toList) = false := by rw [beqS]; exact decide_eq_false ht
        have e2 : ((slateS a b d.toNat).toList != t.toList) = true := by rw [bne, e1]; rfl
        clear he ht
        generalize slateS a b d.toNat = z at *
        go_wp2
        refine bodyPost_ret (results_tmp4 rfl _ _ _) rfl ?_
        exact ⟨a, b, d, false, HV.out, rfl, HB1.out⟩
    · have HV := Lib.hid (HPP.out false ⟨(fun h => by cases h), fun h => absurd h.2.1 he⟩)
      have e1 : (slateE a b d == 0) = false := beq_eq_false_iff_ne.2 he
      have e2 : (slateE a b d != 0) = true := by rw [bne, e1]; rfl
      clear he
      generalize slateE a b d = z at *
      generalize slateA a b d = z2 at *
      go_wp2
      refine bodyPost_ret (results_tmp4 rfl _ _ _) rfl ?_
      exact ⟨a, b, d, false, HV.out, rfl, HB1.out⟩

/-- What the reference's number of two digits is worth in a slate. -/
theorem slP_num {t : ByteArray} {n : Int} {okn ok : Bool} (hn : NumP (cutB t 45) 2 n okn) (h : ok = true ↔ okn = true ∧ slateE (sA t) (sB t) n = 0 ∧ slateS (sA t) (sB t) n.toNat = t) : slP t (sA t) (sB t) n ok := by
  have hdec : ∀ m : Nat, (⟨(Lib.decDigits m).toArray⟩ : ByteArray) = cutB t 45 → Lib.itoa m = (cutB t 45).data.toList := fun m h => by rw [← h, itoa_nat]
  have hle : ∀ m : Nat, m ≤ 99 → (⟨(Lib.decDigits m).toArray⟩ : ByteArray) = cutB t 45 → ((Lib.trimPrefix (cutB t 45).data.toList [45]).length : Int) ≤ 2 := fun m hm he => by
    have h3 : (cutB t 45).size ≤ 2 := by rw [← he]; exact decDigits_small (by omega)
    have h2 := trimPrefix_len (cutB t 45).data.toList [45]
    have h4 : (cutB t 45).data.toList.length = (cutB t 45).size := by simp
    omega
  have hokm : ∀ m : Nat, m ≤ 99 → okI m := fun m hm => ⟨by omega, by omega⟩
  refine ⟨fun hh => (h.1 hh).2, fun hh a b m hm ht => ?_⟩
  obtain ⟨r1, r2, r3⟩ := slate_read hm
  rw [ht] at r1 r2 r3
  obtain ⟨_, _, m1, m2⟩ := slateE_ok hm
  cases hk : okn with
  | false => exact hn.2 hk _ (hokm m.toNat (by omega)) (hdec _ r1.symm) (hle _ (by omega) r1.symm)
  | true =>
    obtain ⟨e1, e2, _⟩ := hn.1 hk
    have e3 : n = (m.toNat : Int) := itoa_inj e2 (hokm m.toNat (by omega)) (by rw [e1, hdec _ r1.symm])
    have e' : n = m := by omega
    have := h.2 ⟨hk, by unfold sA sB; rw [r2, r3, e']; exact hm, by unfold sA sB; rw [r2, r3, e']; exact ht⟩
    rw [hh] at this; cases this

def FromS (t : ByteArray) (w : World) (e : Ending) (w' : World) : Prop :=
  ∃ a b n ok, slP t a b n ok ∧ e = .returned (.tuple #[.string a, .string b, .int .i64 n, .bool ok]) ∧ Below w.heap.size w w'
set_option maxRecDepth 100000 in
set_option maxHeartbeats 1000000 in
theorem SlateFrom_c (t : ByteArray) (w : World) (hs : t.size ≤ 140737488355328) (hl : ErrsLaid w) (hp : PowLaid w) : Calls Tryd.prog 42 #[.string t] w (FromS t w) := by
  have HL := Lib.hid hl; clear hl
  have HPW := Lib.hid hp; clear hp
  have hA := sA_size t
  have hB := sB_size t
  have hC := cutB_size t 45
  have hD := cutA_size t 45
  go_enter Tryd.func42, Tryd.ntmps42
  go_wp2_with fail
  refine (cut_c t 45 _ hs).mono ?_
  rintro e w' ⟨rfl, ⟨n1, rfl⟩⟩
  go_wp2_with fail
  refine (cut_c (cutA t 45) 47 _ (by omega)).mono ?_
  rintro e w' ⟨rfl, ⟨n2, rfl⟩⟩
  rw [show cutA (cutA t 45) 47 = sA t from rfl, show cutB (cutA t 45) 47 = sB t from rfl]
  go_wp2_with fail
  refine (number_c (cutB t 45) 2 _ (by omega) (by omega) (by omega) (by exact HL.out.keep (Nat.le_refl _) rfl rfl) (by exact pow_below HPW.out (below_drewN (Below.refl _ _) (n1 + n2)) (Nat.le_refl _))).mono ?_
  rintro e w1 ⟨d, okd, hnum, rfl, hb1⟩
  have HB1 := Lib.hid (show Below w.heap.size w w1 from (below_drewN (Below.refl _ _) (n1 + n2)).trans hb1); clear hb1
  have HP := fun ok h => slP_num (t := t) (ok := ok) hnum h
  obtain ⟨a, ha⟩ : ∃ a, sA t = a := ⟨_, rfl⟩
  obtain ⟨b, hb⟩ : ∃ b, sB t = b := ⟨_, rfl⟩
  rw [ha, hb] at HP
  rw [ha] at hA
  rw [hb] at hB
  rw [ha, hb]
  have HPP := Lib.hid HP
  clear HP ha hb hnum
  cases okd with
  | false =>
    have HV := Lib.hid (HPP.out false (by simp))
    go_wp2
    refine bodyPost_ret (results_tmp4 rfl _ _ _) rfl ?_
    exact ⟨a, b, d, false, HV.out, rfl, HB1.out⟩
  | true =>
    go_wp2_with fail
    refine (SlateFault_c a b d _ (by omega) (by omega)).mono ?_
    rintro e w2 ⟨rfl, hb2⟩
    have HB2 := Lib.hid (HB1.out.trans (hb2.mono HB1.out.size)); clear hb2
    by_cases he : slateE a b d = 0
    · obtain ⟨_, _, x1, x2⟩ := slateE_ok he
      obtain ⟨m, rfl⟩ := Int.eq_ofNat_of_zero_le (show 0 ≤ d by omega)
      rw [he]
      have HE := Lib.hid he; clear he
      go_wp2_with fail
      refine (SlateOf_c a b m _ (by omega) (by omega) (by omega)).mono ?_
      rintro e w3 ⟨rfl, rfl⟩
      by_cases ht : slateS a b m = t
      · have HV := Lib.hid (HPP.out true ⟨fun _ => ⟨(by first | rfl | trivial), HE.out, by simpa using ht⟩, fun _ => rfl⟩)
        rw [ht]
        clear ht
        go_wp2
        refine bodyPost_ret (results_tmp4 rfl _ _ _) rfl ?_
        exact ⟨a, b, _, true, HV.out, by simp, HB2.out⟩
      · have HV := Lib.hid (HPP.out false ⟨(fun h => by cases h), fun h => absurd (by simpa using h.2.2) ht⟩)
        have e1 : ((slateS a b m).toList == t.toList) = false := by rw [beqS]; exact decide_eq_false ht
        clear ht
        generalize slateS a b m = z at *
        go_wp2
        refine bodyPost_ret (results_tmp4 rfl _ _ _) rfl ?_
        exact ⟨a, b, _, false, HV.out, rfl, HB2.out⟩
    · have HV := Lib.hid (HPP.out false ⟨(fun h => by cases h), fun h => absurd h.2.1 he⟩)
      have e1 : (slateE a b d == 0) = false := beq_eq_false_iff_ne.2 he
      clear he
      generalize slateE a b d = z at *
      go_wp2
      refine bodyPost_ret (results_tmp4 rfl _ _ _) rfl ?_
      exact ⟨a, b, d, false, HV.out, rfl, HB2.out⟩
end Go.Proofs.YtndgdbncfplndaaDoor
