/- Texts packed: GrowT, NcA, NcB, NcC, WdW. -/
import Derived.Test.YtlmfpaincgkpeaaGreatDoorSc01
import Derived.Test.YtlmfpaincgkpeaaGreatDoorSc07
import Derived.Test.YtlmfpaincgkpeaaGreatDoorSc04
import Derived.Test.YtlmfpaincgkpeaaGreatDoorRows
import Derived.Test.YtlmfpaincgkpeaaGreatDoorSc02
import Derived.Test.YtlmfpaincgkpeaaGreatDoorSc03
import Derived.Deep.DeepCutAuto
/- Two flat lists of one's own under way, one of which may begin anew in its row. No program in sight. -/
namespace Go.Proofs.YtlmfpaincgkpeaaGreatDoor
set_option linter.unusedVariables false
open Go.RowKit

section
variable {α β : Type} {n k : Nat} {enc : α → List Value} {hn : ∀ x, (enc x).length = n} {encI : β → List Value} {hk : ∀ x, (encI x).length = k} {e eI : TypeId} {w wx wy : World} {l l' : List α} {v v' : Value} {m m' : List β} {u u' : Value}
end
end Go.Proofs.YtlmfpaincgkpeaaGreatDoor

/- The least capitals above others, in plain words. -/
namespace Go.Proofs.YtlmfpaincgkpeaaGreatDoor
set_option linter.unusedVariables false
open Go.RowKit Go.Sort

def lowL (n : Nat) : List UInt8 := List.replicate (n - 1) 65 ++ [66]
def capJ (t : List UInt8) : Nat → Option Nat
  | 0 => none
  | k + 1 => if (t.getD k 0).toNat < 90 then some k else capJ t k
/-- Up to j as in t, then one more, then A up to q, then as in t. -/
def stL (t : List UInt8) (j q : Nat) : List UInt8 := (List.range t.length).map fun i => if i < j then t.getD i 0 else if i = j then t.getD j 0 + 1 else if i < q then 65 else t.getD i 0
def abL (t : List UInt8) (k : Nat) : List UInt8 := (List.range t.length).map fun i => if i < k then t.getD i 0 else 65
def fixL (l : List UInt8) : List UInt8 := if l.getD (l.length - 1) 0 = 65 then l.set (l.length - 1) 66 else l
def sucL (t : List UInt8) : Option (List UInt8) := (capJ t t.length).map fun j => fixL (stL t j t.length)
def capL (s : List UInt8) (n : Nat) : Option (List UInt8) := if s.length < n then some (s ++ lowL (n - s.length)) else sucL (s.take n)
def bOf (o : Option (List UInt8)) : ByteArray := ⟨(o.getD []).toArray⟩
theorem stL_len (t : List UInt8) (j q : Nat) : (stL t j q).length = t.length := by simp [stL]
theorem abL_len (t : List UInt8) (k : Nat) : (abL t k).length = t.length := by simp [abL]
theorem stL_at (t : List UInt8) (j q i : Nat) : (stL t j q)[i]? = if i < t.length then some (if i < j then t.getD i 0 else if i = j then t.getD j 0 + 1 else if i < q then 65 else t.getD i 0) else none := by
  unfold stL
  rw [List.getElem?_map]
  by_cases h : i < t.length
  · rw [List.getElem?_range h, if_pos h]; rfl
  · rw [List.getElem?_eq_none (by simp; omega), if_neg h]; rfl
theorem abL_at (t : List UInt8) (k i : Nat) : (abL t k)[i]? = if i < t.length then some (if i < k then t.getD i 0 else 65) else none := by
  unfold abL
  rw [List.getElem?_map]
  by_cases h : i < t.length
  · rw [List.getElem?_range h, if_pos h]; rfl
  · rw [List.getElem?_eq_none (by simp; omega), if_neg h]; rfl
theorem lst_at (t : List UInt8) (i : Nat) : t[i]? = if i < t.length then some (t.getD i 0) else none := by
  by_cases h : i < t.length
  · rw [if_pos h, List.getD_eq_getElem?_getD, List.getElem?_eq_getElem h]; rfl
  · rw [if_neg h, List.getElem?_eq_none (by omega)]
theorem set_at (l : List UInt8) (k i : Nat) (c : UInt8) : (l.set k c)[i]? = if k = i then (if i < l.length then some c else none) else l[i]? := by
  rw [List.getElem?_set]
  split <;> rename_i h
  · subst h; rfl
  · rfl
theorem stL_one (t : List UInt8) (j : Nat) : t.set j (t.getD j 0 + 1) = stL t j (j + 1) := by
  apply List.ext_getElem?
  intro i
  rw [set_at, stL_at, lst_at]
  by_cases h : i < t.length <;> simp only [h, if_true, if_false]
  · by_cases e : j = i
    · subst e; simp
    · rw [if_neg e]
      by_cases h2 : i < j
      · rw [if_pos h2]
      · rw [if_neg h2, if_neg (by omega), if_neg (by omega)]
  · split <;> rfl
theorem stL_set (t : List UInt8) (j q : Nat) (hj : j < q) : (stL t j q).set q 65 = stL t j (q + 1) := by
  apply List.ext_getElem?
  intro i
  rw [set_at, stL_at, stL_at, stL_len]
  by_cases h : i < t.length <;> simp only [h, if_true, if_false]
  · by_cases e : q = i
    · subst e
      rw [if_pos rfl, if_neg (by omega), if_neg (by omega), if_pos (by omega)]
    · rw [if_neg e]
      by_cases h2 : i < j
      · rw [if_pos h2, if_pos h2]
      · rw [if_neg h2, if_neg h2]
        by_cases h3 : i = j
        · rw [if_pos h3, if_pos h3]
        · rw [if_neg h3, if_neg h3]
          by_cases h4 : i < q
          · rw [if_pos h4, if_pos (by omega)]
          · rw [if_neg h4, if_neg (by omega)]
  · split <;> rfl
theorem abL_all (t : List UInt8) : abL t t.length = t := by
  apply List.ext_getElem?
  intro i
  rw [abL_at, lst_at]
  by_cases h : i < t.length <;> simp only [h, if_true, if_false]
theorem abL_set (t : List UInt8) (k : Nat) : (abL t (k + 1)).set k 65 = abL t k := by
  apply List.ext_getElem?
  intro i
  rw [set_at, abL_at, abL_at, abL_len]
  by_cases h : i < t.length <;> simp only [h, if_true, if_false]
  · by_cases e : k = i
    · subst e; rw [if_pos rfl, if_neg (by omega)]
    · rw [if_neg e]
      by_cases h2 : i < k
      · rw [if_pos h2, if_pos (by omega)]
      · rw [if_neg h2, if_neg (by omega)]
  · split <;> rfl
theorem abL_end (t : List UInt8) (k : Nat) : (abL t (k + 1)).set k (t.getD k 0 + 1) = stL t k t.length := by
  apply List.ext_getElem?
  intro i
  rw [set_at, abL_at, stL_at, abL_len]
  by_cases h : i < t.length <;> simp only [h, if_true, if_false]
  · by_cases e : k = i
    · subst e; rw [if_pos rfl, if_neg (by omega), if_pos rfl]
    · rw [if_neg e]
      by_cases h2 : i < k
      · rw [if_pos h2, if_pos (by omega)]
      · rw [if_neg h2, if_neg (by omega), if_neg (by omega)]
  · split <;> rfl
theorem abL_get (t : List UInt8) (k i : Nat) (hi : i < k) : (abL t k).getD i 0 = t.getD i 0 := by
  rw [List.getD_eq_getElem?_getD, abL_at]
  by_cases h : i < t.length
  · rw [if_pos h, if_pos hi]; rfl
  · rw [if_neg h, List.getD_eq_getElem?_getD, List.getElem?_eq_none (by omega)]
end Go.Proofs.YtlmfpaincgkpeaaGreatDoor

/- R.nextCapitals and revise.above, walked: exact. -/
namespace Go.Proofs.YtlmfpaincgkpeaaGreatDoor
set_option linter.unusedVariables false
open Go.RowKit Go.Sort

theorem rep65 (c : Nat) : Lib.repeatL [65] c = List.replicate c 65 := by
  induction c with
  | zero => rfl
  | succ c ih => rw [Lib.repeatL, ih]; rfl
theorem low_text (c : Nat) : (⟨(Lib.repeatL (⟨#[65]⟩ : ByteArray).data.toList c).toArray⟩ ++ ⟨#[66]⟩ : ByteArray) = ⟨(lowL (c + 1)).toArray⟩ := by
  rw [show (⟨#[65]⟩ : ByteArray).data.toList = [65] from rfl, rep65]
  unfold lowL
  apply ByteArray.ext
  rw [ByteArray.data_append]
  apply Array.ext'
  rw [Array.toList_append]
  rfl
theorem cap_text (s : ByteArray) (l : List UInt8) : s ++ ⟨l.toArray⟩ = ⟨(s.data.toList ++ l).toArray⟩ := by
  apply ByteArray.ext
  rw [ByteArray.data_append]
  apply Array.ext'
  rw [Array.toList_append]
theorem bOf_some (l : List UInt8) : bOf (some l) = ⟨l.toArray⟩ := rfl
def LowP (n : Nat) (w : World) (e : Ending) (w' : World) : Prop := e = .returned (.string ⟨(lowL n).toArray⟩) ∧ Below w.heap.size w w'
set_option maxRecDepth 100000 in
set_option maxHeartbeats 2000000 in
theorem lowest_c (n : Nat) (w : World) (h1 : 1 ≤ n) (h5 : n ≤ 5) : Calls Tryz.prog 144 #[.int .i64 n] w (LowP n w) := by
  obtain ⟨c, rfl⟩ : ∃ c, n = c + 1 := ⟨n - 1, by omega⟩
  have e2 : ((c + 1 : Nat) : Int) - 1 = (c : Int) := by omega
  have HT := Lib.hid (low_text c)
  have HR := Lib.hid (Tryz.strings_Repeat ⟨#[65]⟩ c w (by omega) (by show 1 * c ≤ _; omega))
  have hYs : (⟨(Lib.repeatL (⟨#[65]⟩ : ByteArray).data.toList c).toArray⟩ : ByteArray).size = c := by show ((Lib.repeatL [65] _).toArray).size = c; rw [List.size_toArray, Lib.repeatL_length]; simp
  generalize (⟨(Lib.repeatL (⟨#[65]⟩ : ByteArray).data.toList c).toArray⟩ : ByteArray) = Y at *
  go_enter Tryz.func144, Tryz.ntmps144
  go_wp2_with fail
  refine HR.out.mono ?_
  rintro e w2 ⟨rfl, hb2⟩
  have HB := Lib.hid hb2
  clear hb2 HR
  go_wp2
  go_ret
  exact ⟨by rw [← HT.out]; rfl, HB.out⟩
def CapX (o : Option (List UInt8)) (w : World) (e : Ending) (w' : World) : Prop := e = .returned (.tuple #[.string (bOf o), .bool o.isSome]) ∧ Below w.heap.size w w'
set_option maxRecDepth 100000 in
set_option maxHeartbeats 4000000 in
theorem nextCapitals_x (s : ByteArray) (n : Nat) (w : World) (hs : s.size ≤ 10000) (h1 : 1 ≤ n) (h5 : n ≤ 5) : Calls Tryz.prog 49 #[.string s, .int .i64 n] w (CapX (capL s.data.toList n) w) := by
  have qc : ∀ (w : World) (s : ByteArray), (convert 9 129 (.string s)).run Tryz.prog w = .ok (.slice (some ⟨w.heap.size, 0, none⟩) s.size (grownCap w s.size 0 5)) (Lib.bytesWorld w 5 s) := fun w s => Lib.run_convert_string_bytes w _ _ _ s Tryz.underlying9 Tryz.underlying129 Tryz.underlying5
  by_cases hc : s.size < n
  · obtain ⟨c, hcd⟩ : ∃ c : Nat, c = n - s.size - 1 := ⟨_, rfl⟩
    have e1 : IntKind.i64.wrap (IntKind.i64.wrap ((n : Int) - (s.size : Int)) - 1) = (c : Int) := by
      rw [IntWalk.i64_in _ (show -9223372036854775808 ≤ (n : Int) - (s.size : Int) ∧ (n : Int) - (s.size : Int) ≤ 9223372036854775807 by omega), IntWalk.i64_in _ (by omega)]; omega
    have e2 : (n : Int) - (s.size : Int) - 1 = (c : Int) := by omega
    have HC := Lib.hid (show capL s.data.toList n = some (s.data.toList ++ lowL (c + 1)) by
      have hz : s.data.toList.length = s.size := by rw [Array.length_toList]; rfl
      unfold capL
      rw [if_pos (by rw [hz]; exact hc), hz, show n - s.size = c + 1 by omega])
    have HT := Lib.hid (low_text c)
    have HR := Lib.hid (Tryz.strings_Repeat ⟨#[65]⟩ c w (by omega) (by show 1 * c ≤ _; omega))
    have hc5 : c ≤ 5 := by omega
    have hYs : (⟨(Lib.repeatL (⟨#[65]⟩ : ByteArray).data.toList c).toArray⟩ : ByteArray).size = c := by show ((Lib.repeatL [65] _).toArray).size = c; rw [List.size_toArray, Lib.repeatL_length]; simp
    generalize (⟨(Lib.repeatL (⟨#[65]⟩ : ByteArray).data.toList c).toArray⟩ : ByteArray) = Y at *
    clear hcd
    go_enter Tryz.func49, Tryz.ntmps49
    go_wp2_with fail
    refine HR.out.mono ?_
    rintro e w2 ⟨rfl, hb2⟩
    have HB := Lib.hid hb2
    clear hb2 HR
    go_wp2
    go_ret2
    refine ⟨?_, HB.out⟩
    rw [HC.out, bOf_some, ← cap_text, ← HT.out, ← ByteArray.append_assoc]
    rfl
  · have hz : (s.extract 0 n).size = n := by rw [ByteArray.size_extract]; omega
    have hN : ¬ (s.size : Int) < n := by omega
    obtain ⟨t, ht⟩ : ∃ t, (s.extract 0 n).data.toList = t := ⟨_, rfl⟩
    have htl : t.length = n := by rw [← ht, Array.length_toList]; exact hz
    have HC := Lib.hid (show capL s.data.toList n = sucL t by
      have hz : s.data.toList.length = s.size := by rw [Array.length_toList]; rfl
      unfold capL
      rw [if_neg (by rw [hz]; exact hc), ← ht, extract_list', List.drop_zero, Nat.sub_zero])
    rw [HC.out]
    have H0 := ByX.start w w 5 (s.extract 0 n) (Below.refl _ _)
    rw [ht] at H0
    have H0 := Lib.hid H0
    have HTL := Lib.hid htl
    clear ht htl
    go_enter Tryz.func49, Tryz.ntmps49
    go_upto_region 4 with (fail)
    generalize Lib.bytesWorld w 5 (s.extract 0 n) = wB at *
    generalize grownCap w n 0 5 = cp
    go_wp2
    go_loopw [7] (fun i wr => ∃ k : Nat, k ≤ n ∧ i = .int .i64 ((k : Int) - 1) ∧ wr = wB ∧ Hid (capJ t n = capJ t k)) (fun i _ => (intOf i + 1).toNat)
    case atStart => exact ⟨n, Nat.le_refl _, rfl, rfl, Lib.hid rfl⟩
    case round =>
      obtain ⟨k, hk, rfl, rfl, HK⟩ := hrel
      by_cases hk0 : k = 0
      · subst hk0
        have HV := Lib.hid (show sucL t = none by unfold sucL; rw [HTL.out, HK.out]; rfl)
        have HNO := Lib.hid (fun w' (hb : Below w.heap.size w w') => show CapX (sucL t) w (.returned (.tuple #[.string ⟨#[]⟩, .bool false])) w' from ⟨by rw [HV.out]; rfl, hb⟩)
        go_wp2
        go_ret2
        exact HNO.out _ H0.out.2.1
      · obtain ⟨j, rfl⟩ : ∃ j, k = j + 1 := ⟨k - 1, by omega⟩
        have ej : ((j + 1 : Nat) : Int) - 1 = (j : Int) := by omega
        rw [ej]
        have hjl : j < t.length := by rw [HTL.out]; omega
        have hgd : t.getD j 0 = t[j] := by rw [List.getD_eq_getElem?_getD, List.getElem?_eq_getElem hjl]; rfl
        obtain ⟨hxc, hxf⟩ := H0.out.2.2 j _ (List.getElem?_eq_getElem hjl)
        rw [← hgd] at hxc
        obtain ⟨u, hu⟩ : ∃ u, t.getD j 0 = u := ⟨_, rfl⟩
        have HU := Lib.hid hu
        rw [hu] at hxc
        have hu2 := u.toNat_lt
        clear hgd hu
        by_cases hx : u.toNat < 90
        · have hxi : (u.toNat : Int) < 90 := by omega
          have ex : IntKind.u8.wrap ((u.toNat : Int) + 1) = ((u + 1).toNat : Int) := by
            have : (u + 1).toNat = u.toNat + 1 := by rw [UInt8.toNat_add]; show (u.toNat + 1) % 256 = _; omega
            rw [this]
            simp [IntKind.wrap, IntKind.bits]
            omega
          have HJ := Lib.hid (show sucL t = some (fixL (stL t j n)) by
            unfold sucL
            rw [HTL.out, HK.out, capJ, HU.out, if_pos hx]
            rfl)
          have H1 := H0.out.set j hjl (u + 1)
          rw [← HU.out, stL_one] at H1
          rw [HU.out] at H1
          have H1 := Lib.hid H1
          clear hjl
          have HYES := Lib.hid (fun w' (z : List UInt8) (hz : z = fixL (stL t j n)) (hb : Below w.heap.size w w') => show CapX (sucL t) w (.returned (.tuple #[.string ⟨z.toArray⟩, .bool true])) w' from ⟨by rw [HJ.out, hz]; rfl, hb⟩)
          have hjn : j < n := by omega
          go_wp2
          go_loopw [8] (fun i wx => ∃ q : Nat, j < q ∧ q ≤ n ∧ i = .int .i64 (q : Int) ∧ Hid (ByX w wx w.heap.size (stL t j q))) (fun i _ => n - (intOf i).toNat)
          case atStart => exact ⟨j + 1, by omega, by omega, by simp, H1⟩
          case round =>
            clear H1 hxc hxf
            obtain ⟨q, hjq, hq, rfl, HQ⟩ := hrel
            have hsl : (stL t j q).length = n := by rw [stL_len, HTL.out]
            by_cases hqn : q < n
            · obtain ⟨hyc, hyf⟩ := HQ.out.2.2 q _ (List.getElem?_eq_getElem (by rw [hsl]; exact hqn))
              have H2 := HQ.out.set q (by rw [hsl]; exact hqn) 65
              rw [stL_set t j q hjq] at H2
              have H2 := Lib.hid H2
              go_wp2
              go_roundw
              case rel => exact ⟨q + 1, by omega, by omega, intNum, H2⟩
              all_goals (try (simp [intOf] <;> omega))
            · have hqe : q = n := by omega
              subst hqe
              obtain ⟨m, rfl⟩ : ∃ m, q = m + 1 := ⟨q - 1, by omega⟩
              have em : ((m + 1 : Nat) : Int) - 1 = (m : Int) := by omega
              have hml : m < (stL t j (m + 1)).length := by rw [hsl]; omega
              obtain ⟨hyc, hyf⟩ := HQ.out.2.2 m _ (List.getElem?_eq_getElem hml)
              have hgd : (stL t j (m + 1)).getD m 0 = (stL t j (m + 1))[m] := by rw [List.getD_eq_getElem?_getD, List.getElem?_eq_getElem hml]; rfl
              rw [← hgd] at hyc
              obtain ⟨y, hy0⟩ : ∃ y, (stL t j (m + 1)).getD m 0 = y := ⟨_, rfl⟩
              rw [hy0] at hyc
              have HFX := Lib.hid (show fixL (stL t j (m + 1)) = if y = 65 then (stL t j (m + 1)).set m 66 else stL t j (m + 1) by
                unfold fixL
                rw [hsl, Nat.add_sub_cancel, hy0])
              clear hgd hy0
              by_cases hy : y = 65
              · subst hy
                have hyc' : wr.cell? ⟨w.heap.size, m, none⟩ = some (.int .u8 65) := hyc
                have H2 := Lib.hid (show ByX w (wr.setCell ⟨w.heap.size, m, none⟩ (.int .u8 66)) w.heap.size ((stL t j (m + 1)).set m 66) from HQ.out.set m hml 66)
                clear hyc
                have hcv := H2.out.str Tryz.prog 129 9 5 (m + 1) cp (by rw [List.length_set, hsl]) Tryz.underlying129 Tryz.underlying5 Tryz.underlying9
                have HZ := Lib.hid (HYES.out _ _ (by rw [HFX.out, if_pos rfl]) H2.out.2.1)
                clear hml HYES
                go_wp2
                go_ret2
                exact HZ.out
              · have hyi : ¬ (y.toNat : Int) = 65 := fun e => hy (by apply UInt8.toNat_inj.1; show y.toNat = 65; omega)
                have hyn : ¬ y.toNat = 65 := fun e => hyi (by omega)
                have hyq : ((y.toNat : Int) == 65) = false := beq_eq_false_iff_ne.2 hyi
                have hcv := HQ.out.str Tryz.prog 129 9 5 (m + 1) cp hsl Tryz.underlying129 Tryz.underlying5 Tryz.underlying9
                have HZ := Lib.hid (HYES.out _ _ (by rw [HFX.out, if_neg hy]) HQ.out.2.1)
                clear hml HYES
                go_wp2
                go_ret2
                exact HZ.out
        · have hxi : ¬ (u.toNat : Int) < 90 := by omega
          have HK2 := Lib.hid (show capJ t n = capJ t j by rw [HK.out, capJ, HU.out, if_neg hx])
          go_wp2
          go_roundw
          case rel => exact ⟨j, by omega, rfl, by trivial, HK2⟩
          all_goals (try (simp [intOf] <;> omega))
end Go.Proofs.YtlmfpaincgkpeaaGreatDoor

/- revise.above, walked: exact. -/
namespace Go.Proofs.YtlmfpaincgkpeaaGreatDoor
set_option linter.unusedVariables false
open Go.RowKit Go.Sort

def capsB (l : List UInt8) : Prop := ∀ u ∈ l, 65 ≤ u.toNat ∧ u.toNat ≤ 90
def TzP (z : ByteArray) (w : World) (e : Ending) (w' : World) : Prop := e = .returned (.string z) ∧ Below w.heap.size w w'
set_option maxRecDepth 100000 in
set_option maxHeartbeats 4000000 in
theorem above_c (s : ByteArray) (n : Nat) (w : World) (hs : s.size ≤ 10000) (h1 : 1 ≤ n) (h5 : n ≤ 5) (hcp : capsB s.data.toList) : Calls Tryz.prog 145 #[.string s, .int .i64 n] w (TzP (bOf (capL s.data.toList n)) w) := by
  have qc : ∀ (w : World) (s : ByteArray), (convert 9 129 (.string s)).run Tryz.prog w = .ok (.slice (some ⟨w.heap.size, 0, none⟩) s.size (grownCap w s.size 0 5)) (Lib.bytesWorld w 5 s) := fun w s => Lib.run_convert_string_bytes w _ _ _ s Tryz.underlying9 Tryz.underlying129 Tryz.underlying5
  by_cases hc : s.size < n
  · obtain ⟨c, hcd⟩ : ∃ c : Nat, n - s.size = c := ⟨_, rfl⟩
    have e2 : (n : Int) - (s.size : Int) = (c : Int) := by omega
    have HC := Lib.hid (show bOf (capL s.data.toList n) = s ++ ⟨(lowL c).toArray⟩ by
      have hz : s.data.toList.length = s.size := by rw [Array.length_toList]; rfl
      unfold capL
      rw [if_pos (by rw [hz]; exact hc), hz, hcd, bOf_some, cap_text])
    have HL := Lib.hid (lowest_c c w (by omega) (by omega))
    unfold LowP at HL
    have hYs : (⟨(lowL c).toArray⟩ : ByteArray).size ≤ 10 := by
      show (lowL c).toArray.size ≤ 10
      rw [List.size_toArray]
      simp [lowL]
      omega
    generalize (⟨(lowL c).toArray⟩ : ByteArray) = Y at *
    rw [HC.out]
    clear hcd
    go_enter Tryz.func145, Tryz.ntmps145
    go_wp2_with fail
    refine HL.out.mono ?_
    rintro e w2 ⟨rfl, hb2⟩
    have HB := Lib.hid hb2
    clear hb2 HL
    go_wp2
    go_ret
    exact ⟨rfl, HB.out⟩
  · have hz : (s.extract 0 n).size = n := by rw [ByteArray.size_extract]; omega
    have hN : ¬ (s.size : Int) < n := by omega
    obtain ⟨t, ht⟩ : ∃ t, (s.extract 0 n).data.toList = t := ⟨_, rfl⟩
    have htl : t.length = n := by rw [← ht, Array.length_toList]; exact hz
    have HC := Lib.hid (show capL s.data.toList n = sucL t by
      have hz : s.data.toList.length = s.size := by rw [Array.length_toList]; rfl
      unfold capL
      rw [if_neg (by rw [hz]; exact hc), ← ht, extract_list', List.drop_zero, Nat.sub_zero])
    have HCP := Lib.hid (show capsB t from fun u hu => hcp u (by
      rw [← ht, extract_list', List.drop_zero] at hu
      exact List.mem_of_mem_take hu))
    rw [HC.out]
    have H0 := ByX.start w w 5 (s.extract 0 n) (Below.refl _ _)
    rw [ht] at H0
    have hab := abL_all t
    rw [htl] at hab
    rw [← hab] at H0
    have H0 := Lib.hid H0
    have HTL := Lib.hid htl
    clear ht htl hab hcp
    go_enter Tryz.func145, Tryz.ntmps145
    go_upto_region 4 with (fail)
    generalize Lib.bytesWorld w 5 (s.extract 0 n) = wB at *
    generalize grownCap w n 0 5 = cp
    go_wp2
    go_loopw [6] (fun i wr => ∃ k : Nat, k ≤ n ∧ i = .int .i64 ((k : Int) - 1) ∧ Hid (ByX w wr w.heap.size (abL t k)) ∧ Hid (capJ t n = capJ t k)) (fun i _ => (intOf i + 1).toNat)
    case atStart => exact ⟨n, Nat.le_refl _, rfl, H0, Lib.hid rfl⟩
    case round =>
      clear H0
      obtain ⟨k, hk, rfl, HQ, HK⟩ := hrel
      by_cases hk0 : k = 0
      · subst hk0
        have HV := Lib.hid (show sucL t = none by unfold sucL; rw [HTL.out, HK.out]; rfl)
        have HNO := Lib.hid (fun w' (hb : Below w.heap.size w w') => show TzP (bOf (sucL t)) w (.returned (.string ⟨#[]⟩)) w' from ⟨by rw [HV.out]; rfl, hb⟩)
        go_wp2
        go_ret
        exact HNO.out _ HQ.out.2.1
      · obtain ⟨j, rfl⟩ : ∃ j, k = j + 1 := ⟨k - 1, by omega⟩
        have ej : ((j + 1 : Nat) : Int) - 1 = (j : Int) := by omega
        rw [ej]
        have hjl : j < t.length := by rw [HTL.out]; omega
        have hal : (abL t (j + 1)).length = n := by rw [abL_len, HTL.out]
        have hjl2 : j < (abL t (j + 1)).length := by rw [hal]; omega
        obtain ⟨hxc, hxf⟩ := HQ.out.2.2 j _ (List.getElem?_eq_getElem hjl2)
        have hgd : t.getD j 0 = (abL t (j + 1))[j] := by
          rw [← abL_get t (j + 1) j (by omega), List.getD_eq_getElem?_getD, List.getElem?_eq_getElem hjl2]; rfl
        rw [← hgd] at hxc
        obtain ⟨u, hu⟩ : ∃ u, t.getD j 0 = u := ⟨_, rfl⟩
        have HU := Lib.hid hu
        rw [hu] at hxc
        have hu9 : 65 ≤ u.toNat ∧ u.toNat ≤ 90 := HCP.out u (by rw [← hu, List.getD_eq_getElem?_getD, List.getElem?_eq_getElem hjl]; exact List.getElem_mem hjl)
        clear hgd hu
        have hjn : j < n := by omega
        by_cases hx : u.toNat < 90
        · have hxq : ((u.toNat : Int) == 90) = false := beq_eq_false_iff_ne.2 (by omega)
          have hxi : ¬ (u.toNat : Int) = 90 := by omega
          have eu : ((u + 1).toNat : Int) = (u.toNat : Int) + 1 := by
            have : (u + 1).toNat = u.toNat + 1 := by rw [UInt8.toNat_add]; show (u.toNat + 1) % 256 = _; omega
            rw [this]; omega
          have ex : IntKind.u8.wrap ((u.toNat : Int) + 1) = (u.toNat : Int) + 1 := by
            simp [IntKind.wrap, IntKind.bits]
            omega
          have HJ := Lib.hid (show sucL t = some (fixL (stL t j n)) by
            unfold sucL
            rw [HTL.out, HK.out, capJ, HU.out, if_pos hx]
            rfl)
          have H1 := HQ.out.set j hjl2 (u + 1)
          have hae := abL_end t j
          rw [HU.out, HTL.out] at hae
          rw [hae, eu] at H1
          have H1 := Lib.hid H1
          have HYES := Lib.hid (fun w' (z : List UInt8) (hz : z = fixL (stL t j n)) (hb : Below w.heap.size w w') => show TzP (bOf (sucL t)) w (.returned (.string ⟨z.toArray⟩)) w' from ⟨by rw [HJ.out, hz]; rfl, hb⟩)
          have hsl : (stL t j n).length = n := by rw [stL_len, HTL.out]
          clear hjl hjl2 hal hae eu
          go_upto_region 11 with (fail)
          generalize wr.setCell ⟨w.heap.size, j, none⟩ (.int .u8 ((u.toNat : Int) + 1)) = wx at *
          clear hxc hxf ex
          obtain ⟨m, rfl⟩ : ∃ m, n = m + 1 := ⟨n - 1, by omega⟩
          have em : ((m + 1 : Nat) : Int) - 1 = (m : Int) := by omega
          have hml : m < (stL t j (m + 1)).length := by rw [hsl]; omega
          obtain ⟨hyc, hyf⟩ := H1.out.2.2 m _ (List.getElem?_eq_getElem hml)
          have hgd : (stL t j (m + 1)).getD m 0 = (stL t j (m + 1))[m] := by rw [List.getD_eq_getElem?_getD, List.getElem?_eq_getElem hml]; rfl
          rw [← hgd] at hyc
          obtain ⟨y, hy0⟩ : ∃ y, (stL t j (m + 1)).getD m 0 = y := ⟨_, rfl⟩
          rw [hy0] at hyc
          have HFX := Lib.hid (show fixL (stL t j (m + 1)) = if y = 65 then (stL t j (m + 1)).set m 66 else stL t j (m + 1) by
            unfold fixL
            rw [hsl, Nat.add_sub_cancel, hy0])
          clear hgd hy0
          by_cases hy : y = 65
          · subst hy
            have hyc' : wx.cell? ⟨w.heap.size, m, none⟩ = some (.int .u8 65) := hyc
            have H2 := Lib.hid (show ByX w (wx.setCell ⟨w.heap.size, m, none⟩ (.int .u8 66)) w.heap.size ((stL t j (m + 1)).set m 66) from H1.out.set m hml 66)
            have hcv := H2.out.str Tryz.prog 129 9 5 (m + 1) cp (by rw [List.length_set, hsl]) Tryz.underlying129 Tryz.underlying5 Tryz.underlying9
            have HZ := Lib.hid (HYES.out _ _ (by rw [HFX.out, if_pos rfl]) H2.out.2.1)
            clear hml HYES hyc hsl
            go_wp2
            go_ret
            exact HZ.out
          · have hyi : ¬ (y.toNat : Int) = 65 := fun e => hy (by apply UInt8.toNat_inj.1; show y.toNat = 65; omega)
            have hyn : ¬ y.toNat = 65 := fun e => hyi (by omega)
            have hyq : ((y.toNat : Int) == 65) = false := beq_eq_false_iff_ne.2 hyi
            have hcv := H1.out.str Tryz.prog 129 9 5 (m + 1) cp hsl Tryz.underlying129 Tryz.underlying5 Tryz.underlying9
            have HZ := Lib.hid (HYES.out _ _ (by rw [HFX.out, if_neg hy]) H1.out.2.1)
            clear hml HYES hsl
            go_wp2
            go_ret
            exact HZ.out
        · have hu90 : u.toNat = 90 := by omega
          have hue : u = 90 := by apply UInt8.toNat_inj.1; show u.toNat = 90; omega
          subst hue
          have hxc' : wr.cell? ⟨w.heap.size, j, none⟩ = some (.int .u8 90) := hxc
          have HK2 := Lib.hid (show capJ t n = capJ t j by rw [HK.out, capJ, HU.out, if_neg hx])
          have H2 := HQ.out.set j hjl2 65
          rw [abL_set] at H2
          have H2 := Lib.hid H2
          clear hxc
          go_wp2
          go_roundw
          case rel => exact ⟨j, by omega, rfl, H2, HK2⟩
          all_goals (try (simp [intOf] <;> omega))
end Go.Proofs.YtlmfpaincgkpeaaGreatDoor

/- script.Words, walked. -/
namespace Go.Proofs.YtlmfpaincgkpeaaGreatDoor
set_option linter.unusedVariables false
open Go.RowKit

end Go.Proofs.YtlmfpaincgkpeaaGreatDoor

