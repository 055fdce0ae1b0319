/- Texts packed: EvM. -/
import Derived.Test.YtnjbbkocobegiaaGreatDoorPe21
import Derived.Test.YtnjbbkocobegiaaGreatDoorPe01
/- The program's reader of events, walked. -/
namespace Go.Proofs.YtnjbbkocobegiaaGreatDoor
set_option linter.unusedVariables false
open Go.RowKit Go.Sort

section
variable {l : List Roll} {t : ByteArray}
theorem evParse_roll (h : ¬ rollsFault l = 0) : evParse l t = ⟨[], 0, rollsFault l⟩ := if_pos h
theorem evParse_long (h : rollsFault l = 0) (h1 : 200000 < t.size) : evParse l t = ⟨[], 0, 2⟩ := by
  unfold evParse; rw [if_neg (by rw [h]; simp), if_pos h1]
theorem evParse_mid (h : rollsFault l = 0) (h1 : ¬ 200000 < t.size) : evParse l t = match evsRead l (words t 10).dropLast 0 0 [] with
    | .inr i => ⟨[], i, 9⟩
    | .inl a => if ¬ (words t 10).getLastD ⟨#[]⟩ = ⟨#[]⟩ then ⟨[], (words t 10).length - 1, 9⟩ else if ¬ evErr l a = 0 then ⟨[], 0, evErr l a⟩ else ⟨a, 0, 0⟩ := by
  unfold evParse; rw [if_neg (by rw [h]; simp), if_neg h1]; rfl
end
theorem evsRead_step (l : List Roll) (L : List ByteArray) (k : Nat) (at_ : Int) (acc : List Ev) (hk : k < L.length) :
    evsRead l (L.drop k) k at_ acc = match evRead l L[k] ((k : Int) + 1) at_ with
      | none => .inr k
      | some x => evsRead l (L.drop (k + 1)) (k + 1) (at_ + (x.tout - x.tin)) (acc ++ [x]) := by
  rw [List.drop_eq_getElem_cons hk, evsRead]; rfl
theorem evsRead_end (l : List Roll) (L : List ByteArray) (k : Nat) (at_ : Int) (acc : List Ev) (hk : L.length ≤ k) : evsRead l (L.drop k) k at_ acc = .inl acc := by
  rw [List.drop_eq_nil_of_le hk, evsRead]
theorem getLast_at (L : List ByteArray) (n : Nat) (h : L.length = n + 1) : L.getLastD ⟨#[]⟩ = L[n]'(by omega) := by
  cases L with
  | nil => simp at h
  | cons a r =>
    simp only [List.getLastD_cons]
    rw [List.getLastD_eq_getLast?, List.getLast?_eq_getElem?]
    simp at h
    subst h
    cases r with
    | nil => rfl
    | cons b s => simp

/-- A text read: the events, the number of a wrong line, the error. -/
def ParP (l : List Roll) (t : ByteArray) (w : World) (e : Ending) (w' : World) : Prop :=
  ∃ v, e = .returned (.tuple #[v, .int .i64 (evParse l t).line, .int .i64 (evParse l t).err]) ∧ Sli evR w' (fun b => w.heap.size ≤ b ∧ b < w'.heap.size) (evParse l t).list v ∧ Below w.heap.size w w'
theorem ParP.no {l : List Roll} {t : ByteArray} {w w' : World} {e : Ending} {a b : Int} (h : evParse l t = ⟨[], a, b⟩) (he : e = .returned (.tuple #[.slice none 0 0, .int .i64 a, .int .i64 b])) (hb : Below w.heap.size w w') : ParP l t w e w' := by
  refine ⟨.slice none 0 0, ?_, ?_, hb⟩
  · rw [h]; exact he
  · rw [h]; exact Sli.nil_

theorem ParP.yes {l : List Roll} {t : ByteArray} {w w' : World} {e : Ending} {acc : List Ev} {v : Value} (h : evParse l t = ⟨acc, 0, 0⟩) (he : e = .returned (.tuple #[v, .int .i64 0, .int .i64 0])) (hs : Sli evR w' (fun b => w.heap.size ≤ b ∧ b < w'.heap.size) acc v) (hb : Below w.heap.size w w') : ParP l t w e w' := by
  refine ⟨v, ?_, ?_, hb⟩
  · rw [h]; exact he
  · rw [h]; exact hs
set_option maxRecDepth 100000 in
set_option maxHeartbeats 2000000 in
theorem ParseEvents_c (A : Option Addr) (l : List Roll) (c lo : Nat) (t : ByteArray) (w : World) (hr : Rs w lo w.heap.size 5 Roll.cells A l) (hlen : l.length ≤ 140737488355328) (hsz : ∀ r ∈ l, r.name.size ≤ 140737488355328) (hs : t.size ≤ 140737488355328) (hp : PowLaid w) (hm : MaxLaid w) :
    Calls Tryz.prog 24 #[.slice A l.length c, .string t] w (ParP l t w) := by
  have HR := Lib.hid hr; clear hr
  have HZ := Lib.hid hsz; clear hsz
  have HP := Lib.hid hp; clear hp
  have HM := Lib.hid hm; clear hm
  by_cases h0 : rollsFault l = 0
  case neg =>
    have HE := Lib.hid (evParse_roll (t := t) h0)
    have hne : (rollsFault l != 0) = true := by rw [bne_iff_ne]; exact h0
    go_enter Tryz.func24, Tryz.ntmps24
    go_wp2_with fail
    refine (CheckRolls_c A l c lo _ HR.out hlen HZ.out).mono ?_
    rintro e w1 ⟨rfl, hb1⟩
    have HB1 := Lib.hid hb1
    clear hb1 h0
    go_wp2
    go_ret3
    exact ParP.no HE.out rfl HB1.out
  have H0 := Lib.hid h0
  by_cases h1 : 200000 < t.size
  · have HE := Lib.hid (evParse_long h0 h1)
    go_enter Tryz.func24, Tryz.ntmps24
    go_wp2_with fail
    refine (CheckRolls_c A l c lo _ HR.out hlen HZ.out).mono ?_
    rintro e w1 ⟨rfl, hb1⟩
    rw [h0]
    have HB1 := Lib.hid hb1
    clear hb1 h0
    go_wp2
    go_ret3
    exact ParP.no HE.out rfl HB1.out
  have HE := evParse_mid h0 h1
  obtain ⟨i0, hi0, hz0, hz1, hz2⟩ := info_parts (show (Tryz.prog.info? 44).map (fun i => (i.zero, i.size, i.bytes)) = some (some (.agg #[.string ⟨#[]⟩, .int .i64 0, .int .i64 0]), 3, 32) by kernel_rfl)
  go_enter Tryz.func24, Tryz.ntmps24
  go_wp2_with fail
  refine (CheckRolls_c A l c lo _ HR.out hlen HZ.out).mono ?_
  rintro e w1 ⟨rfl, hb1⟩
  rw [h0]
  have hzz1 := hb1.size
  have HB1 := Lib.hid hb1
  clear hb1 h0
  go_wp2_with fail
  refine (words_c t 10 _ (by omega) (max_below HM.out HB1.out (Nat.le_refl _))).mono ?_
  rintro e w2 ⟨rfl, hw2, hb2, hzz2⟩
  have hwl := words_le t 10
  have hws : ∀ x ∈ words t 10, x.size ≤ t.size := fun x hx => words_size hx
  obtain ⟨n, hn⟩ : ∃ n, (words t 10).length = n + 1 := ⟨_, words_len t 10⟩
  have HWS := Lib.hid hws
  have HW2 := Lib.hid hw2
  have HB2 := Lib.hid (HB1.out.trans (hb2.mono hzz1))
  generalize hWW : words t 10 = W at *
  obtain ⟨last, hlast⟩ : ∃ s, W[n]'(by omega) = s := ⟨_, rfl⟩
  rw [List.dropLast_eq_take, getLast_at _ n hn, hlast] at HE
  have HL := Lib.hid (show W[n]? = some last by rw [List.getElem?_eq_getElem (by omega), hlast])
  clear hlast
  have HE2 := Lib.hid (show evParse l t = match evsRead l (W.take n) 0 0 [] with
    | .inr i => ⟨[], i, 9⟩
    | .inl a => if ¬ last = ⟨#[]⟩ then ⟨[], n, 9⟩ else if ¬ evErr l a = 0 then ⟨[], 0, evErr l a⟩ else ⟨a, 0, 0⟩ by
      have q1 : W.length - 1 = n := by omega
      have q2 : ((W.length : Int) - 1) = (n : Int) := by omega
      rw [HE, q1, q2])
  rw [hn] at hwl HW2 ⊢
  have HN := Lib.hid hn
  clear hws hw2 hb2 hn hWW HB1 HE
  have hn1 : (0 : Int) ≤ (n : Int) := by omega
  have hn2 : (n : Int) ≤ (n : Int) + 1 := by omega
  go_wp2
  go_loopw [8, 9, 34] (fun v at_ i wr => ∃ (k : Nat) (acc : List Ev) (a : Int), k ≤ n ∧ i = .int .i64 k ∧ at_ = .int .i64 a ∧ 0 ≤ a ∧ a ≤ 2592000 * (k : Int) ∧ acc.length = k ∧ w2.heap.size ≤ wr.heap.size ∧ Hid (Below w2.heap.size w2 wr) ∧ Hid (Own evR wr w2.heap.size w2.heap.size 44 acc v) ∧ Hid (evsRead l (W.take n) 0 0 [] = evsRead l ((W.take n).drop k) k a acc)) (fun _ _ i _ => n - (intOf i).toNat)
  case atStart => exact ⟨0, [], 0, by omega, rfl, rfl, by omega, by omega, rfl, Nat.le_refl _, Below.refl _ _, Own.nil_, by rw [List.drop_zero]; exact Lib.hid rfl⟩
  case round =>
    obtain ⟨k, acc, a, hk, rfl, rfl, ha0, ha1, hacc, hz, HB, HO, HV⟩ := hrel
    have HBW := Lib.hid (HB2.out.trans (HB.out.mono (by omega)))
    by_cases hlt : k < n
    · have hkW : k < W.length := by rw [HN.out]; omega
      have hkT : k < (W.take n).length := by rw [List.length_take]; omega
      have hc0 : wr.cell? ⟨w1.heap.size, k, none⟩ = some (.string W[k]) := (HB.out.cell (p := ⟨w1.heap.size, k, none⟩) (by show w1.heap.size < _; omega)).trans (strAtB HW2.out k hkW)
      have hst := evsRead_step l (W.take n) k a acc hkT
      rw [List.getElem_take] at hst
      have hws := HWS.out W[k] (List.getElem_mem hkW)
      have HST := Lib.hid (HV.out.trans hst)
      clear hst
      generalize W[k] = s at *
      have hcl := eventLine_c A l c lo s ((k : Int) + 1) a wr ((HR.out.below HBW.out (Nat.le_refl _)).more (Nat.le_refl _) HBW.out.size) hlen H0.out (by omega) (by omega) (by omega) ha0 (by omega) (pow_below HP.out HBW.out (Nat.le_refl _)) (max_below HM.out HBW.out (Nat.le_refl _))
      have HCL := Lib.hid hcl
      clear hcl
      go_wp2_with fail
      refine HCL.out.mono ?_
      rintro e w3 ⟨x, ok, rfl, hev, hb3⟩
      rw [show x.val = .agg #[.string x.roll, .int .i64 x.tin, .int .i64 x.tout] from rfl]
      have hz3 := hb3.size
      have HB3 := Lib.hid (HB.out.trans (hb3.mono hz))
      have HO3 := Lib.hid (HO.out.below hb3)
      have HBW3 := Lib.hid (HBW.out.trans (hb3.mono HBW.out.size))
      clear hb3
      cases ok with
      | false =>
        have HEE := Lib.hid (show evParse l t = ⟨[], k, 9⟩ by rw [HE2.out, HST.out, hev]; rfl)
        clear hev
        go_wp2
        go_ret3
        exact ParP.no HEE.out rfl (HBW3.out.alloc (by omega) _)
      | true =>
        obtain ⟨b1, b2, b3, b4⟩ := evRead_bd H0.out hev
        have HSS := Lib.hid (show evsRead l (W.take n) 0 0 [] = evsRead l ((W.take n).drop (k + 1)) (k + 1) (a + (x.tout - x.tin)) (acc ++ [x]) by rw [HST.out, hev]; rfl)
        have HVB := Lib.hid (fun g e => (HO3.out.block g e).1)
        clear hev
        go_wp2_with (at_builtin; (refine wpList_pushB (R := evR) rfl _ _ _ rfl w2.heap.size w2.heap.size 44 i0 _ 32 Tryz.underlying36 hi0 hz0 (by assumption) (by assumption) rfl (by decide) _ u8 acc rfl ((HO3.out.alloc _).alloc _) x _ rfl (oneC rfl) (w3.heap.size + 1) _ _ (by rw [show w3.heap.size + 1 = (w3.alloc _).heap.size by simp]; exact heap_alloc_new _ _) rfl (by simp [maxLen]; omega) (by omega) (by simp; omega) ?_); intro g cap w4 hown4 hg4 hat4 hlt4)
        have hz4 := hg4.size
        simp at hz4
        go_roundw
        case rel => exact ⟨k + 1, acc ++ [x], a + (x.tout - x.tin), by omega, intNum, rfl, by omega, by omega, by simp; omega, by omega, ((HB3.out.alloc (by omega) _).alloc (by simp; omega) _).grown hg4 (by simp; omega) HVB.out, by rw [hacc] at hown4; exact hown4, HSS.out⟩
        case measure => simp [intOf]; omega
    · have HEV := Lib.hid (show evsRead l (W.take n) 0 0 [] = .inl acc by rw [HV.out]; exact evsRead_end l _ k a acc (by rw [List.length_take]; omega))
      have hkn : k = n := by omega
      have hcl : wr.cell? ⟨w1.heap.size, n, none⟩ = some (.string last) := by
        rw [HB.out.cell (p := ⟨w1.heap.size, n, none⟩) (by show w1.heap.size < _; omega), strAtB HW2.out n (by rw [HN.out]; omega)]
        have := HL.out
        rw [List.getElem?_eq_getElem (by rw [HN.out]; omega)] at this
        injection this with this
        rw [this]
      have hn3 : (n : Int) < (n : Int) + 1 := by omega
      have HBW2 := Lib.hid (show evParse l t = if ¬ last = ⟨#[]⟩ then ⟨[], n, 9⟩ else if ¬ evErr l acc = 0 then ⟨[], 0, evErr l acc⟩ else ⟨acc, 0, 0⟩ by rw [HE2.out, HEV.out])
      clear hkn HV
      by_cases hl0 : last = ⟨#[]⟩
      case neg =>
        have HEE := Lib.hid (HBW2.out.trans (if_pos hl0))
        have hle : last.toList.isEmpty = false := by
          have : (last.toList == (⟨#[]⟩ : ByteArray).toList) = false := (beqS _ _).trans (decide_eq_false hl0)
          cases hq : last.toList with
          | nil => rw [hq, toList_mk] at this; simp at this
          | cons y r => rfl
        have hle2 : ¬ last.toList = [] := by intro h; rw [h] at hle; cases hle
        clear hl0
        go_wp2
        go_ret3
        exact ParP.no HEE.out rfl HBW.out
      subst hl0
      have HEE := Lib.hid (HBW2.out.trans (if_neg (by simp)))
      have hcl2 := eventsFault_c A l c lo acc u8 (fun b => w2.heap.size ≤ b ∧ b < wr.heap.size) wr ((HR.out.below HBW.out (Nat.le_refl _)).more (Nat.le_refl _) HBW.out.size) hlen H0.out (HO.out.sli (fun q h1 h2 => ⟨h1, h2⟩) (fun g hg => HO.out.block g hg)) (fun b h => h.2)
      have HCL := Lib.hid hcl2
      clear hcl2
      go_wp2_with fail
      refine HCL.out.mono ?_
      rintro e w3 ⟨rfl, hb3⟩
      have HB3 := Lib.hid (HBW.out.trans (hb3.mono HBW.out.size))
      have HO3 := Lib.hid (HO.out.below hb3)
      have hz3 := hb3.size
      clear hb3 HCL
      by_cases he0 : evErr l acc = 0
      · have HE5 := Lib.hid (HEE.out.trans (if_neg (by rw [he0]; simp)))
        rw [he0]
        clear he0
        go_wp2
        go_ret3
        exact ParP.yes HE5.out rfl (HO3.out.sli (fun q h1 h2 => ⟨by omega, h2⟩) (fun g hg => by have := HO3.out.block g hg; exact ⟨by omega, this.2⟩)) HB3.out
      · have HE5 := Lib.hid (HEE.out.trans (if_pos he0))
        have hne : (evErr l acc != 0) = true := by rw [bne_iff_ne]; exact he0
        clear he0
        go_wp2
        go_ret3
        exact ParP.no HE5.out rfl HB3.out
end Go.Proofs.YtnjbbkocobegiaaGreatDoor

