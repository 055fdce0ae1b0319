/- Texts packed: NextB. -/
import Derived.Test.YtodlfdfkhdfblaaGreatDoorTn12
import Derived.Test.YtodlfdfkhdfblaaGreatDoorTn19
import Derived.Test.YtodlfdfkhdfblaaGreatDoorTn08
import Derived.Sort.Walk0
import Derived.RegionTactic
/- The next setup of a scene: the program's, walked. -/
namespace Go.Proofs.YtodlfdfkhdfblaaGreatDoor
set_option linter.unusedVariables false
open Go.RowKit

theorem ltI_le {c d : UInt8} (hc : setC c = true) (hd : setC d = true) : (c < d ↔ ltI c < ltI d) := by
  rw [(ltI_cmp hc hd).1]; exact UInt8.lt_iff_toNat_lt
/-- The program's order of setups is that of their places. -/
theorem suK_gt {a b : ByteArray} (ha : setupB a = true) (hb : setupB b = true) : (suK b < suK a ↔ b.size < a.size ∨ (a.size = b.size ∧ ¬ a.data.toList < b.data.toList ∧ ¬ a = b)) := by
  rcases setup_form ha with rfl | ⟨c, hc, rfl⟩ | ⟨c, d, hc, hd, rfl⟩ <;> rcases setup_form hb with rfl | ⟨x, hx, rfl⟩ | ⟨x, y, hx, hy, rfl⟩
  · simp [suK]
  · simp only [show suK ⟨#[x]⟩ = 1 + ltI x from rfl, show suK ⟨#[]⟩ = 0 from rfl, show (⟨#[x]⟩ : ByteArray).size = 1 from rfl, show (⟨#[]⟩ : ByteArray).size = 0 from rfl]; omega
  · simp only [show suK ⟨#[x, y]⟩ = 25 + 24 * ltI x + ltI y from rfl, show suK ⟨#[]⟩ = 0 from rfl, show (⟨#[x, y]⟩ : ByteArray).size = 2 from rfl, show (⟨#[]⟩ : ByteArray).size = 0 from rfl]; omega
  · simp only [show suK ⟨#[c]⟩ = 1 + ltI c from rfl, show suK ⟨#[]⟩ = 0 from rfl, show (⟨#[c]⟩ : ByteArray).size = 1 from rfl, show (⟨#[]⟩ : ByteArray).size = 0 from rfl]; omega
  · have h1 := ltI_le hc hx
    have h2 := (ltI_cmp hc hx).2
    simp only [show suK ⟨#[x]⟩ = 1 + ltI x from rfl, show suK ⟨#[c]⟩ = 1 + ltI c from rfl, show (⟨#[x]⟩ : ByteArray).size = 1 from rfl, show (⟨#[c]⟩ : ByteArray).size = 1 from rfl]
    rw [show ((⟨#[c]⟩ : ByteArray).data.toList < (⟨#[x]⟩ : ByteArray).data.toList) ↔ ltI c < ltI x by rw [← h1]; simp [List.cons_lt_cons_iff], show ((⟨#[c]⟩ : ByteArray) = ⟨#[x]⟩) ↔ ltI c = ltI x by rw [h2]; simp]
    simp only [true_and]
    omega
  · have := ltI_lt hc
    simp only [show suK ⟨#[x, y]⟩ = 25 + 24 * ltI x + ltI y from rfl, show suK ⟨#[c]⟩ = 1 + ltI c from rfl, show (⟨#[x, y]⟩ : ByteArray).size = 2 from rfl, show (⟨#[c]⟩ : ByteArray).size = 1 from rfl]; omega
  · simp only [show suK ⟨#[c, d]⟩ = 25 + 24 * ltI c + ltI d from rfl, show suK ⟨#[]⟩ = 0 from rfl, show (⟨#[c, d]⟩ : ByteArray).size = 2 from rfl, show (⟨#[]⟩ : ByteArray).size = 0 from rfl]; omega
  · have := ltI_lt hx
    simp only [show suK ⟨#[c, d]⟩ = 25 + 24 * ltI c + ltI d from rfl, show suK ⟨#[x]⟩ = 1 + ltI x from rfl, show (⟨#[c, d]⟩ : ByteArray).size = 2 from rfl, show (⟨#[x]⟩ : ByteArray).size = 1 from rfl]; omega
  · have h1 := ltI_le hc hx
    have h2 := (ltI_cmp hc hx).2
    have h3 := ltI_le hd hy
    have h4 := (ltI_cmp hd hy).2
    have l1 := ltI_lt hc; have l2 := ltI_lt hd; have l3 := ltI_lt hx; have l4 := ltI_lt hy
    simp only [show suK ⟨#[x, y]⟩ = 25 + 24 * ltI x + ltI y from rfl, show suK ⟨#[c, d]⟩ = 25 + 24 * ltI c + ltI d from rfl, show (⟨#[x, y]⟩ : ByteArray).size = 2 from rfl, show (⟨#[c, d]⟩ : ByteArray).size = 2 from rfl]
    rw [show ((⟨#[c, d]⟩ : ByteArray).data.toList < (⟨#[x, y]⟩ : ByteArray).data.toList) ↔ (ltI c < ltI x ∨ (ltI c = ltI x ∧ ltI d < ltI y)) by rw [← h1, ← h3, h2]; simp [List.cons_lt_cons_iff], show ((⟨#[c, d]⟩ : ByteArray) = ⟨#[x, y]⟩) ↔ (ltI c = ltI x ∧ ltI d = ltI y) by rw [h2, h4]; simp]
    simp only [true_and]
    omega
def nsV (num : Bool) (scene : ByteArray) (l : List Tk) : ByteArray := if num = true then nextS scene l else ⟨#[]⟩
def nsE (num : Bool) (scene : ByteArray) (l : List Tk) : Int := if num = true then nextSE scene l else 5
theorem ret_si {a a' : ByteArray} {b b' : Int} (h : a = a') (g : b = b') : Ending.returned (.tuple #[.string a, .int .i64 b]) = .returned (.tuple #[.string a', .int .i64 b']) := by rw [h, g]

set_option maxRecDepth 100000 in
set_option maxHeartbeats 4000000 in
theorem NextSetup_c {F : Nat → Prop} (tl : List (Tk × Value)) (tv : Value) (sc : ByteArray) (w : World) (ht : TkL w F tl tv) (h1 : sc.size ≤ 140737488355328) :
    Calls Tryz.prog 28 #[tv, .string sc] w fun e w' => e = .returned (.tuple #[.string (nsV (numB sc) sc (tl.map (·.1))), .int .i64 (nsE (numB sc) sc (tl.map (·.1)))]) ∧ Below w.heap.size w w' := by
  obtain ⟨A2, c2, rfl, hl2, hc2⟩ := ht.sli.form
  have HT := Lib.hid ht
  obtain ⟨L, hL⟩ : ∃ L, tl.length = L := ⟨_, rfl⟩
  have HL := Lib.hid hL
  have hLL : L ≤ 1000 := by rw [← hL]; exact ht.len
  rw [hL] at hl2 ⊢
  clear hL ht
  cases hn : numB sc with
  | false =>
    go_enter Tryz.func28, Tryz.ntmps28
    go_wp2_with fail
    refine (IsNumber_c sc _ h1).mono ?_
    rintro e w' ⟨rfl, rfl⟩
    rw [hn]
    go_wp2
    go_ret2
    exact ⟨ret_si rfl rfl, Below.refl _ _⟩
  | true =>
  go_enter Tryz.func28, Tryz.ntmps28
  go_wp2_with fail
  refine (IsNumber_c sc _ h1).mono ?_
  rintro e w' ⟨rfl, rfl⟩
  rw [hn]
  clear hn
  go_wp2
  go_loopw [6, 7, 17] (fun s b i wr => ∃ (k K : Nat) (la : ByteArray) (bb : Bool), k ≤ L ∧ i = .int .i64 k ∧ s = .string la ∧ b = .bool bb ∧ la.size ≤ 2 ∧ Hid (nextK sc ((tl.take k).map (·.1)) = K) ∧ Hid (setupB la = true) ∧ Hid (suK la = K - 1) ∧ Hid (bb = true ↔ 0 < K) ∧ Hid (Below w.heap.size w wr) ∧ w.heap.size ≤ wr.heap.size) (fun _ _ i _ => L - (intOf i).toNat)
  case atStart => exact ⟨0, 0, ⟨#[]⟩, false, Nat.zero_le _, rfl, rfl, rfl, by decide, rfl, (by decide : setupB ⟨#[]⟩ = true), rfl, by simp [Hid], Below.refl _ _, Nat.le_refl _⟩
  case round =>
    obtain ⟨k, K, la, bb, hk, rfl, rfl, rfl, hls, HK, HS, HU, HBB, HB, hzw⟩ := hrel
    by_cases hlt : k < L
    · obtain ⟨b5, off5, rfl, hfb5, t0, t1, t2, t3, t4, t5, t6, t7, t8⟩ := tkAt (HT.out.below HB.out).sli k (by rw [HL.out]; exact hlt)
      obtain ⟨A8, n8, c8, h8⟩ := HT.out.out _ (List.getElem_mem (show k < tl.length by rw [HL.out]; exact hlt))
      have hbd := (HT.out.bd _ (List.getElem_mem (show k < tl.length by rw [HL.out]; exact hlt))).1
      rw [h8] at t8
      have htk := List.take_succ_eq_append_getElem (show k < tl.length by rw [HL.out]; exact hlt)
      have hsn : (tl.take (k + 1)).map (·.1) = (tl.take k).map (·.1) ++ [(tl[k]'(by rw [HL.out]; exact hlt)).1] := by rw [htk, List.map_append]; rfl
      clear h8 htk
      generalize (tl[k]'(by rw [HL.out]; exact hlt)).1 = tk at *
      have HN := Lib.hid (show nextK sc ((tl.take (k + 1)).map (·.1)) = max K (if tk.scene = sc ∧ setupB tk.setup = true then suK tk.setup + 1 else 0) by rw [hsn, nextK_snoc, HK.out])
      have hb5 : b5 < wr.heap.size := Nat.lt_of_lt_of_le (HT.out.lt b5 hfb5) (by omega)
      have HB1 := Lib.hid (HB.out.alloc hzw (.cells #[.string tk.scene, .string tk.setup, .int .i64 tk.number, .string tk.roll, .string tk.sound, .int .i64 tk.tin, .int .i64 tk.tout, .bool tk.good, .slice A8 n8 c8] 52))
      have HIS := Lib.hid (fun W => isSetup_c tk.setup W (by omega))
      clear hsn HB
      by_cases q : tk.scene = sc ∧ setupB tk.setup = true
      · have q1' : (tk.scene.toList == sc.toList) = true := by rw [q.1]; exact beq_self_eq_true _
        have hsz := (setup_setC q.2).1
        have HGT := Lib.hid (suK_gt q.2 HS.out)
        have HN1 := Lib.hid (show nextK sc ((tl.take (k + 1)).map (·.1)) = max K (suK tk.setup + 1) by rw [HN.out, if_pos q])
        have HQ := Lib.hid q.2
        have q2 := q.2
        clear q HN
        by_cases hg : suK la < suK tk.setup
        · have HU2 := Lib.hid (show suK tk.setup = max K (suK tk.setup + 1) - 1 by have := HU.out; omega)
          have hgt := HGT.out.1 hg
          by_cases hsl : la.size < tk.setup.size
          · clear hgt HGT hg
            go_wp2_with (first | (go_at_call 70; refine (HIS.out _).mono ?_; rintro e w' ⟨rfl, rfl⟩; rw [q2]) | fail)
            go_roundw
            case rel => exact ⟨k + 1, _, tk.setup, true, by omega, intNum, rfl, rfl, hsz, HN1, HQ, HU2, by simp [Hid]; omega, HB1, by simp; omega⟩
            case measure => simp [intOf]; omega
          · obtain ⟨hs1, hs2, hs3⟩ : tk.setup.size = la.size ∧ ¬ tk.setup.data.toList < la.data.toList ∧ ¬ tk.setup = la := by
              rcases hgt with h | h
              · exact absurd h hsl
              · exact h
            have hbl : Op.bytesLess tk.setup.toList la.toList = false := by rw [bytesLess_eq, ByteArray.toList_eq, ByteArray.toList_eq]; exact decide_eq_false hs2
            have heq : (tk.setup.toList == la.toList) = false := by rw [beqS]; simp [hs3]
            clear hgt HGT hg hsl hs2 hs3
            go_wp2_with (first | (go_at_call 70; refine (HIS.out _).mono ?_; rintro e w' ⟨rfl, rfl⟩; rw [q2]) | fail)
            go_roundw
            case rel => exact ⟨k + 1, _, tk.setup, true, by omega, intNum, rfl, rfl, by omega, HN1, HQ, HU2, by simp [Hid]; omega, HB1, by simp; omega⟩
            case measure => simp [intOf]; omega
        · have HU2 := Lib.hid (show suK la = max K (suK tk.setup + 1) - 1 by have := HU.out; omega)
          have hnt := fun h => hg (HGT.out.2 h)
          rcases Nat.lt_trichotomy tk.setup.size la.size with h | h | h
          · have hz1 : ¬ la.size < tk.setup.size := by omega
            have hz2 : ((tk.setup.size : Int) == (la.size : Int)) = false := beq_eq_false_iff_ne.2 (by omega)
            have hz3 : tk.setup.size ≠ la.size := by omega
            clear hnt HGT hg
            go_wp2_with (first | (go_at_call 70; refine (HIS.out _).mono ?_; rintro e w' ⟨rfl, rfl⟩; rw [q2]) | fail)
            go_roundw
            case rel => exact ⟨k + 1, _, la, true, by omega, intNum, rfl, rfl, hls, HN1, HS, HU2, by simp [Hid]; omega, HB1, by simp; omega⟩
            case measure => simp [intOf]; omega
          · by_cases he : tk.setup = la
            · have heq : (tk.setup.toList == la.toList) = true := by rw [he]; exact beq_self_eq_true _
              have hbl : Op.bytesLess tk.setup.toList la.toList = false := by rw [he, bytesLess_eq]; exact decide_eq_false (List.lt_irrefl _)
              clear hnt HGT hg he
              go_wp2_with (first | (go_at_call 70; refine (HIS.out _).mono ?_; rintro e w' ⟨rfl, rfl⟩; rw [q2]) | fail)
              go_roundw
              case rel => exact ⟨k + 1, _, la, true, by omega, intNum, rfl, rfl, hls, HN1, HS, HU2, by simp [Hid]; omega, HB1, by simp; omega⟩
              case measure => simp [intOf]; omega
            · have hlt2 : tk.setup.data.toList < la.data.toList := by
                by_cases h2 : tk.setup.data.toList < la.data.toList
                · exact h2
                · exact absurd (.inr ⟨h, h2, he⟩) hnt
              have hbl : Op.bytesLess tk.setup.toList la.toList = true := by rw [bytesLess_eq, ByteArray.toList_eq, ByteArray.toList_eq]; exact decide_eq_true hlt2
              have heq : (tk.setup.toList == la.toList) = false := by rw [beqS]; simp [he]
              clear hnt HGT hg he hlt2
              go_wp2_with (first | (go_at_call 70; refine (HIS.out _).mono ?_; rintro e w' ⟨rfl, rfl⟩; rw [q2]) | fail)
              go_roundw
              case rel => exact ⟨k + 1, _, la, true, by omega, intNum, rfl, rfl, hls, HN1, HS, HU2, by simp [Hid]; omega, HB1, by simp; omega⟩
              case measure => simp [intOf]; omega
          · exact absurd (.inl h) hnt
      · have HN1 := Lib.hid (show nextK sc ((tl.take (k + 1)).map (·.1)) = K by rw [HN.out, if_neg q]; omega)
        by_cases q1 : tk.scene = sc
        · have q1' : (tk.scene.toList == sc.toList) = true := by rw [q1]; exact beq_self_eq_true _
          have q2 : setupB tk.setup = false := by
            cases h : setupB tk.setup with
            | false => rfl
            | true => exact absurd ⟨q1, h⟩ q
          clear q q1 HN
          go_wp2_with (first | (go_at_call 70; refine (HIS.out _).mono ?_; rintro e w' ⟨rfl, rfl⟩; rw [q2]) | fail)
          go_roundw
          case rel => exact ⟨k + 1, K, la, bb, by omega, intNum, rfl, rfl, hls, HN1, HS, HU, HBB, HB1, by simp; omega⟩
          case measure => simp [intOf]; omega
        · have q1' : (tk.scene.toList == sc.toList) = false := by rw [beqS]; simp [q1]
          clear q q1 HN
          go_wp2
          go_roundw
          case rel => exact ⟨k + 1, K, la, bb, by omega, intNum, rfl, rfl, hls, HN1, HS, HU, HBB, HB1, by simp; omega⟩
          case measure => simp [intOf]; omega
    · have HK2 := Lib.hid (show nextK sc (tl.map (·.1)) = K by
        have h := HK.out
        rw [List.take_of_length_le (by rw [HL.out]; omega)] at h
        exact h)
      cases bb with
      | false =>
        have hk0 : K = 0 := by
          have h := HBB.out
          simp at h
          omega
        have HV := Lib.hid (show nsV true sc (tl.map (·.1)) = ⟨#[]⟩ by rw [nsV, if_pos rfl, nextS, HK2.out, hk0]; rfl)
        have HE := Lib.hid (show nsE true sc (tl.map (·.1)) = 0 by rw [nsE, if_pos rfl, nextSE, HK2.out, hk0]; rfl)
        clear hk0
        go_wp2
        go_ret2
        exact ⟨ret_si HV.out.symm HE.out.symm, HB.out⟩
      | true =>
        have hkp : 0 < K := HBB.out.1 rfl
        have ha := aft_setup HS.out
        have hu1 : suK la + 1 = K := by have := HU.out; omega
        rw [hu1] at ha
        have HAC := Lib.hid (after_c la wr HS.out)
        by_cases h601 : K < 601
        · rw [if_pos h601] at ha
          have HV := Lib.hid (show nsV true sc (tl.map (·.1)) = (aft la.size la.data.toList).1 by rw [nsV, if_pos rfl, nextS, HK2.out, if_pos h601, ha])
          have HE := Lib.hid (show nsE true sc (tl.map (·.1)) = 0 by rw [nsE, if_pos rfl, nextSE, HK2.out, if_pos h601])
          have h2 : (aft la.size la.data.toList).2 = true := by rw [ha]
          clear ha hu1 h601 hkp
          go_wp2_with fail
          refine HAC.out.mono ?_
          rintro e w7 ⟨rfl, hb7⟩
          rw [h2]
          have HB7 := Lib.hid (HB.out.trans (hb7.mono (by omega)))
          clear h2 hb7
          go_wp2
          go_ret2
          exact ⟨ret_si HV.out.symm HE.out.symm, HB7.out⟩
        · rw [if_neg h601] at ha
          have HV := Lib.hid (show nsV true sc (tl.map (·.1)) = ⟨#[]⟩ by rw [nsV, if_pos rfl, nextS, HK2.out, if_neg h601])
          have HE := Lib.hid (show nsE true sc (tl.map (·.1)) = 11 by rw [nsE, if_pos rfl, nextSE, HK2.out, if_neg h601])
          have h2 : (aft la.size la.data.toList).2 = false := by rw [ha]
          clear ha hu1 h601 hkp
          go_wp2_with fail
          refine HAC.out.mono ?_
          rintro e w7 ⟨rfl, hb7⟩
          rw [h2]
          have HB7 := Lib.hid (HB.out.trans (hb7.mono (by omega)))
          clear h2 hb7
          go_wp2
          go_ret2
          exact ⟨ret_si HV.out.symm HE.out.symm, HB7.out⟩
end Go.Proofs.YtodlfdfkhdfblaaGreatDoor

