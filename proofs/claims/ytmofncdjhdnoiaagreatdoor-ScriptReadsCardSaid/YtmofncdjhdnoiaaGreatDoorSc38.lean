/- Texts packed: RtT, RlB, RgE, RlC, RgC, ScW. -/
import Derived.Test.YtmofncdjhdnoiaaGreatDoorSc13
import Derived.Test.YtmofncdjhdnoiaaGreatDoorSc37
import Derived.Test.YtmofncdjhdnoiaaGreatDoorSc36
import Derived.Test.YtmofncdjhdnoiaaGreatDoorSc01
import Derived.Test.YtmofncdjhdnoiaaGreatDoorSc22
import Derived.Deep.DeepCutAuto
import Derived.Test.YtmofncdjhdnoiaaGreatDoorSc33
import Derived.Test.YtmofncdjhdnoiaaGreatDoorSc02
import Derived.Test.YtmofncdjhdnoiaaGreatDoorSc34
import Derived.Test.YtmofncdjhdnoiaaGreatDoorSc31
/- A script's text, read, is the script. No program in sight. -/
namespace Go.Proofs.YtmofncdjhdnoiaaGreatDoor
set_option linter.unusedVariables false
open Go.RowKit

def joinL (l : List ByteArray) : List UInt8 := l.flatMap fun s => s.data.toList ++ [10]
theorem joinL_app (a b : List ByteArray) : joinL (a ++ b) = joinL a ++ joinL b := by unfold joinL; simp
theorem joinL_flat {α : Type} (f : α → List ByteArray) (l : List α) : joinL (l.flatMap f) = l.flatMap fun x => joinL (f x) := by
  induction l with
  | nil => rfl
  | cons a r ih => rw [List.flatMap_cons, List.flatMap_cons, joinL_app, ih]
/-- The lines of a script. -/
def paraLn (p : Para) : List ByteArray := (if p.kind = 1 ∨ p.kind = 5 ∨ p.kind = 2 then [⟨#[]⟩] else []) ++ [lineS p]
def sceneLn (x : Scene) : List ByteArray := [⟨#[]⟩, ⟨#[35, 32]⟩ ++ headS x] ++ x.paras.flatMap paraLn
def scriptLn (x : Script) : List ByteArray := (⟨#[116, 105, 116, 108, 101, 58, 32]⟩ ++ x.title) :: x.scenes.flatMap sceneLn
theorem join_para (p : Para) : joinL (paraLn p) = paraT p := by
  unfold paraLn paraT
  rw [joinL_app]
  split <;> simp [joinL]
theorem join_scene (x : Scene) : joinL (sceneLn x) = sceneT x := by
  unfold sceneLn sceneT
  rw [joinL_app, joinL_flat]
  simp only [join_para]
  simp [joinL]
theorem join_script (x : Script) : joinL (scriptLn x) = textT x := by
  unfold scriptLn textT
  rw [show (⟨#[116, 105, 116, 108, 101, 58, 32]⟩ ++ x.title) :: x.scenes.flatMap sceneLn = [⟨#[116, 105, 116, 108, 101, 58, 32]⟩ ++ x.title] ++ x.scenes.flatMap sceneLn from rfl, joinL_app, joinL_flat]
  simp only [join_scene]
  simp [joinL]

/-! Nothing in a line is a line feed. -/
/-! Line by line. -/
end Go.Proofs.YtmofncdjhdnoiaaGreatDoor

/- The reference's lines of a script, walked. -/
namespace Go.Proofs.YtmofncdjhdnoiaaGreatDoor
set_option linter.unusedVariables false
open Go.RowKit Go.Sort

def lnPre (t : ByteArray) (ls : List (Scene × Value)) (k : Nat) : List ByteArray := (⟨#[116, 105, 116, 108, 101, 58, 32]⟩ ++ t) :: (ls.take k).flatMap fun y => sceneLn y.1
theorem fm_next {α β : Type} (f : α → List β) (l : List α) (k : Nat) (hk : k < l.length) : (l.take (k + 1)).flatMap f = (l.take k).flatMap f ++ f l[k] := by
  rw [List.take_succ_eq_append_getElem hk, List.flatMap_append]
  simp
theorem paraLn_len (p : Para) : (paraLn p).length ≤ 2 := by unfold paraLn; split <;> simp
theorem paraLn_eq (p : Para) : paraLn p = (if nlB p = true then [⟨#[]⟩] else []) ++ [lineS p] := by
  unfold paraLn nlB
  by_cases h : p.kind = 1 ∨ p.kind = 5 ∨ p.kind = 2
  · rw [if_pos h, if_pos (decide_eq_true h)]
  · rw [if_neg h, if_neg (by simpa using h)]
theorem fm_len {α β : Type} (f : α → List β) (l : List α) (c : Nat) (h : ∀ x ∈ l, (f x).length ≤ c) : (l.flatMap f).length ≤ c * l.length := by
  induction l with
  | nil => simp
  | cons a r ih =>
    rw [List.flatMap_cons, List.length_append, List.length_cons, Nat.mul_add]
    have h1 := h a (by simp)
    have h2 := ih fun x hx => h x (by simp [hx])
    omega
theorem lnPre_len (t : ByteArray) (ls : List (Scene × Value)) (k M : Nat) (hp : ∀ y ∈ ls, y.1.paras.length ≤ M) : (lnPre t ls k).length ≤ 1 + (2 + 2 * M) * ls.length := by
  unfold lnPre
  rw [List.length_cons]
  have h := fm_len (fun y : Scene × Value => sceneLn y.1) (ls.take k) (2 + 2 * M) (fun y hy => by
    have h1 := fm_len paraLn y.1.paras 2 (fun p _ => paraLn_len p)
    have h2 := hp y (List.mem_of_mem_take hy)
    unfold sceneLn
    simp only [List.length_append, List.length_cons, List.length_nil]
    have : 2 * y.1.paras.length ≤ 2 * M := Nat.mul_le_mul_left _ h2
    omega)
  have h3 : (2 + 2 * M) * (ls.take k).length ≤ (2 + 2 * M) * ls.length := Nat.mul_le_mul_left _ (by rw [List.length_take]; omega)
  omega
/-- The list of texts so far, and the blocks beside it. -/
abbrev LnG (w : World) (l : List ByteArray) (v : Value) (P : List (Nat × Array Value × TypeId)) (wx : World) : Prop := BO strR 9 w l v P wx
def ScLnP (x : Script) (w : World) (e : Ending) (w' : World) : Prop := ∃ v', e = .returned v' ∧ Own strR w' w.heap.size w.heap.size 9 (scriptLn x) v' ∧ Below w.heap.size w w'
set_option maxRecDepth 100000 in
set_option maxHeartbeats 8000000 in
theorem ScriptLinesG_c {F : Nat → Prop} (t : ByteArray) (ls : List (Scene × Value)) (v : Value) (w : World) (h : ScL w F t ls v) (hwl : WrL ls) (hkd : ∀ y ∈ ls, ∀ p ∈ y.1.paras, 1 ≤ p.kind ∧ p.kind ≤ 5) (hn300 : ls.length ≤ 300) (hpn : ∀ y ∈ ls, y.1.paras.length ≤ 4000) (htl : t.size ≤ 1000) :
    Calls Tryz.prog 34 #[.agg #[.string t, v]] w (ScLnP ⟨t, ls.map (·.1)⟩ w) := by
  obtain ⟨A, c, rfl, hlc, hcm⟩ := h.sli.form
  have HWL := Lib.hid hwl
  have HK := Lib.hid (fun y (hy : y ∈ ls) p (hp : p ∈ y.1.paras) => And.intro (hwl.pa y hy p hp) (hkd y hy p hp))
  have HPN := Lib.hid hpn
  obtain ⟨L, hL⟩ : ∃ L, ls.length = L := ⟨_, rfl⟩
  have HL := Lib.hid hL
  have HLEN := Lib.hid (show ∀ k, (lnPre t ls k).length ≤ 2400601 from fun k => by
    have := lnPre_len t ls k 4000 HPN.out
    have h2 : (2 + 2 * 4000) * ls.length ≤ (2 + 2 * 4000) * 300 := Nat.mul_le_mul_left _ hn300
    omega)
  obtain ⟨i0, hi0, hz0, hz1, hz2⟩ := info_parts (show (Tryz.prog.info? 9).map (fun i => (i.zero, i.size, i.bytes)) = some (some (.string ⟨#[]⟩), 1, 16) by kernel_rfl)
  rw [hL] at h hlc hn300 ⊢
  have HH := Lib.hid h
  have HF := Lib.hid h.lt
  clear hwl hkd hpn h hL
  have z7 : (⟨#[116, 105, 116, 108, 101, 58, 32]⟩ : ByteArray).size = 7 := rfl
  go_enter Tryz.func34, Tryz.ntmps34
  go_upto_region 2 with (fail)
  have hG := ((BO.start (R := strR) (e := 9) w).new (xCs t (.slice A L c)) 28)
  generalize hW : w.alloc (.cells #[.string t, .slice A L c] 28) = wS
  rw [show w.alloc (.cells (xCs t (.slice A L c)) 28) = wS from hW] at hG
  have hlit := Own.lit1 wS 9 (⟨#[116, 105, 116, 108, 101, 58, 32]⟩ ++ t)
  have hG1 := hG.take ((Below.refl _ wS).alloc (Nat.le_refl _) _) hlit (Own.less (enc := fun s : ByteArray => [.string s]) (hn := fun _ => rfl) hlit hG.size)
  have hs0 : wS.heap.size = w.heap.size + 1 := by rw [← hW]; simp
  rw [hs0] at hG1
  clear hW hG hlit
  generalize hW2 : wS.alloc (.cells #[.string (⟨#[116, 105, 116, 108, 101, 58, 32]⟩ ++ t)] 9) = w1 at *
  obtain ⟨gx, _⟩ := hG1.cell (p := (w.heap.size, xCs t (.slice A L c), 28)) (by simp)
  have d1 : w1.cell? ⟨w.heap.size, 1, none⟩ = some (.slice A L c) := gx 1
  have G1 := Lib.hid (show LnG w (lnPre t ls 0) (.slice (some ⟨w.heap.size + 1, 0, none⟩) 1 1) [] w1 from hG1.less (by simp))
  clear hG1 gx hW2
  go_wp2
  go_loopw [3, 17] (fun v i wr => ∃ k : Nat, k ≤ L ∧ i = .int .i64 k ∧ Hid (LnG w (lnPre t ls k) v [] wr)) (fun _ i _ => L - (intOf i).toNat)
  case atStart => exact ⟨0, Nat.zero_le _, rfl, G1⟩
  case round =>
    clear G1 d1 hs0
    obtain ⟨k, hk, rfl, HG⟩ := hrel
    by_cases hlt : k < L
    · have hk2 : k < ls.length := by rw [HL.out]; exact hlt
      obtain ⟨b, off, rfl, hfb, c0, c1, c2, c3, c4⟩ := scAt (HH.out.below HG.out.bel).sli k hk2
      have hmem := List.getElem_mem hk2
      obtain ⟨A4, cc4, h4, _, _⟩ := (HH.out.par _ hmem).form
      have hpa := HH.out.par _ hmem
      obtain ⟨hq1, hq2, hq3, hq4⟩ := HH.out.bd _ hmem
      obtain ⟨hpt, htt⟩ := HWL.out.pt _ hmem
      have hkk := HK.out _ hmem
      have hpn := HPN.out _ hmem
      have HNX := Lib.hid (show lnPre t ls (k + 1) = lnPre t ls k ++ sceneLn (ls[k]'hk2).1 by
        unfold lnPre
        rw [fm_next (fun y : Scene × Value => sceneLn y.1) ls k hk2, List.cons_append])
      have hle := HLEN.out (k + 1)
      rw [HNX.out, List.length_append] at hle
      rw [h4] at c4 hpa
      have hbw : b < wr.heap.size := Nat.lt_of_lt_of_le (HH.out.lt b hfb) HG.out.size
      clear h4 hmem
      generalize (ls[k]'hk2).1 = x at *
      obtain ⟨m, hm⟩ : ∃ m, (lnPre t ls k).length = m := ⟨_, rfl⟩
      have HM := Lib.hid hm
      rw [hm] at hle
      have HLE := Lib.hid hle
      have hm9 : m ≤ 1000000000 := by omega
      generalize lnPre t ls k = pre at *
      have HPA := Lib.hid hpa
      have HKK := Lib.hid hkk
      have HQ4 := Lib.hid hq4
      have HB1 := Lib.hid (HG.out.new #[.string x.no, .int .i64 x.place, .string x.set, .int .i64 x.time, .slice A4 x.paras.length cc4] 53)
      clear hk2 hle hpa hkk hq4 hm HG
      go_upto_region 5 with (fail)
      generalize hW : wr.alloc (.cells #[.string x.no, .int .i64 x.place, .string x.set, .int .i64 x.time, .slice A4 x.paras.length cc4] 53) = w5 at *
      obtain ⟨gx, _⟩ := HB1.out.cell (p := (wr.heap.size, #[.string x.no, .int .i64 x.place, .string x.set, .int .i64 x.time, .slice A4 x.paras.length cc4], 53)) (by simp)
      have s0 : w5.cell? ⟨wr.heap.size, 0, none⟩ = some (.string x.no) := gx 0
      have s1 : w5.cell? ⟨wr.heap.size, 1, none⟩ = some (.int .i64 x.place) := gx 1
      have s2 : w5.cell? ⟨wr.heap.size, 2, none⟩ = some (.string x.set) := gx 2
      have s3 : w5.cell? ⟨wr.heap.size, 3, none⟩ = some (.int .i64 x.time) := gx 3
      have s4 : w5.cell? ⟨wr.heap.size, 4, none⟩ = some (.slice A4 x.paras.length cc4) := gx 4
      have HHD := Lib.hid (HeadingOf_c x A4 x.paras.length cc4 w5 hq1 hq2 hpt htt)
      have hhs := headS_sz x
      have HSL := Lib.hid (show sceneLn x = [⟨#[]⟩, ⟨#[35, 32]⟩ ++ headS x] ++ x.paras.flatMap paraLn from rfl)
      clear gx c0 c1 c2 c3 c4 hW
      go_wp2_with fail
      refine HHD.out.mono ?_
      rintro e w6 ⟨rfl, hb6⟩
      have HB6 := Lib.hid (HB1.out.below hb6)
      obtain ⟨hd, hhd⟩ : ∃ hd, headS x = hd := ⟨_, rfl⟩
      have HHE := Lib.hid hhd
      rw [hhd] at hhs HSL ⊢
      have z3 : (⟨#[35, 32]⟩ : ByteArray).size = 2 := rfl
      have hz6 := HB6.out.size
      clear hb6 HB1 HHD s0 s1 s2 s3 s4 hhd
      go_upto_region 6 with (at_builtin; (refine wpList_pushS2 rfl _ _ _ rfl w.heap.size w.heap.size 9 i0 _ Tryz.underlying59 hi0 hz0 (by assumption) (by assumption) rfl _ u3 pre m HM.out rfl (HB6.out.own.alloc _) ⟨#[]⟩ (⟨#[35, 32]⟩ ++ hd) w6.heap.size _ _ (heap_alloc_new w6 _) rfl hm9 (by simp; omega) ?_); intro g7 cap7 w7 hown7 hg7 hat7 hlt7)
      have HB7 := Lib.hid ((HB6.out.alloc (.cells #[.string ⟨#[]⟩, .string (⟨#[35, 32]⟩ ++ hd)] 9)).more hown7 hg7 rfl hat7)
      have c4' : w7.cell? ⟨wr.heap.size, 4, none⟩ = some (.slice A4 x.paras.length cc4) := (HB7.out.cell (p := (wr.heap.size, #[.string x.no, .int .i64 x.place, .string x.set, .int .i64 x.time, .slice A4 x.paras.length cc4], 53)) (by simp)).1 4
      have HB8 := Lib.hid (HB7.out.less (Q := []) (by simp))
      obtain ⟨M, hM⟩ : ∃ M, x.paras.length = M := ⟨_, rfl⟩
      have HMM := Lib.hid hM
      rw [hM] at c4' HPA hpn
      have HSN := Lib.hid (show (sceneLn x).length = 2 + (x.paras.flatMap paraLn).length by rw [HSL.out]; simp; omega)
      have HPR := Lib.hid (show pre ++ [⟨#[]⟩, ⟨#[35, 32]⟩ ++ hd] ++ x.paras.flatMap paraLn = lnPre t ls (k + 1) by rw [HNX.out, HSL.out, List.append_assoc])
      have HPL := Lib.hid (show (pre ++ [⟨#[]⟩, ⟨#[35, 32]⟩ ++ hd]).length = m + 2 by rw [List.length_append, HM.out]; rfl)
      clear hown7 hg7 hat7 HB6 HB7 hM hz6 z3 hhs
      generalize pre ++ [⟨#[]⟩, ⟨#[35, 32]⟩ ++ hd] = pr2 at *
      go_wp2
      go_loopw [3, 30] (fun v i wr => ∃ j : Nat, j ≤ M ∧ i = .int .i64 j ∧ Hid (LnG w (pr2 ++ (x.paras.take j).flatMap paraLn) v [] wr)) (fun _ i _ => M - (intOf i).toNat)
      case atStart => exact ⟨0, Nat.zero_le _, rfl, by rw [List.take_zero, List.flatMap_nil, List.append_nil]; exact HB8⟩
      case round =>
        clear HB8 c4'
        obtain ⟨j, hj, rfl, HG⟩ := hrel
        by_cases hlj : j < M
        · have hj2 : j < x.paras.length := by rw [HMM.out]; exact hlj
          obtain ⟨b', off', rfl, hfb', p0, p1⟩ := para_at (HPA.out.below HG.out.bel HF.out) j hj2
          have htx := HQ4.out _ (List.getElem_mem hj2)
          obtain ⟨htp, hk1, hk5⟩ := HKK.out _ (List.getElem_mem hj2)
          have hbw' : b' < wr.heap.size := by have := HF.out b' hfb'; have := HG.out.size; omega
          have HPX := Lib.hid (fm_next paraLn x.paras j hj2)
          have hpl := HLE.out
          rw [HSN.out] at hpl
          have hfl := fm_len paraLn (x.paras.take j) 2 (fun p _ => paraLn_len p)
          have hft : (x.paras.take j).length ≤ M := by rw [List.length_take, HMM.out]; omega
          have HLP := Lib.hid (paraLn_eq (x.paras[j]'hj2))
          obtain ⟨m2, hm2⟩ : ∃ m2, (pr2 ++ (x.paras.take j).flatMap paraLn).length = m2 := ⟨_, rfl⟩
          have hm29 : m2 ≤ 100000000 := by rw [← hm2, List.length_append, HPL.out]; omega
          have HM2 := Lib.hid hm2
          generalize x.paras[j]'hj2 = p at *
          have HAS := Lib.hid (show pr2 ++ ((x.paras.take j).flatMap paraLn ++ paraLn p) = pr2 ++ (x.paras.take j).flatMap paraLn ++ paraLn p from (List.append_assoc ..).symm)
          generalize pr2 ++ (x.paras.take j).flatMap paraLn = cur at *
          clear hj2 hpl hfl hft hm2
          have HB1 := Lib.hid (HG.out.new #[.int .i64 p.kind, .string p.text] 97)
          clear HG
          go_upto_region 9 with (fail)
          generalize hW : wr.alloc (.cells #[.int .i64 p.kind, .string p.text] 97) = w9 at *
          obtain ⟨gx, _⟩ := HB1.out.cell (p := (wr.heap.size, #[.int .i64 p.kind, .string p.text], 97)) (by simp)
          have d0 : w9.cell? ⟨wr.heap.size, 0, none⟩ = some (.int .i64 p.kind) := gx 0
          have d1 : w9.cell? ⟨wr.heap.size, 1, none⟩ = some (.string p.text) := gx 1
          have HPC := Lib.hid (paraLineR_c p w9 htp htx ⟨hk1, hk5⟩)
          clear gx hW p0 p1
          go_wp2_with fail
          refine HPC.out.mono ?_
          rintro e w10 ⟨rfl, hb10⟩
          have HB10 := Lib.hid ((HB1.out.below hb10).less (Q := []) (by simp))
          clear hb10 HB1 HPC d0 d1
          have hz10 := HB10.out.size
          generalize lineS p = ln at *
          obtain ⟨nb, hnb⟩ : ∃ nb, nlB p = nb := ⟨_, rfl⟩
          rw [hnb] at HLP ⊢
          clear hnb
          cases nb with
          | false =>
            have HNX2 := Lib.hid (show cur ++ [ln] = pr2 ++ (x.paras.take (j + 1)).flatMap paraLn by rw [HPX.out, HAS.out, HLP.out]; simp)
            go_wp2_with (at_builtin; (refine wpList_pushS1 rfl _ _ _ rfl w.heap.size w.heap.size 9 i0 _ Tryz.underlying59 hi0 hz0 (by assumption) (by assumption) rfl _ u3 cur m2 HM2.out rfl (HB10.out.own.alloc _) ln w10.heap.size _ _ (heap_alloc_new w10 _) rfl (by omega) (by simp; omega) ?_); intro g11 cap11 w11 hown11 hg11 hat11 hlt11)
            go_roundw
            case rel => exact ⟨j + 1, by omega, intNum, by rw [← HNX2.out]; exact Lib.hid ((HB10.out.alloc (.cells #[.string ln] 9)).more hown11 hg11 rfl hat11)⟩
            case measure => simp [intOf]; omega
          | true =>
            have HNX2 := Lib.hid (show cur ++ [⟨#[]⟩] ++ [ln] = pr2 ++ (x.paras.take (j + 1)).flatMap paraLn by rw [HPX.out, HAS.out, HLP.out]; simp)
            have HM3 := Lib.hid (show (cur ++ [(⟨#[]⟩ : ByteArray)]).length = m2 + 1 by rw [List.length_append, HM2.out]; rfl)
            go_upto_region 12 with (at_builtin; (refine wpList_pushS1 rfl _ _ _ rfl w.heap.size w.heap.size 9 i0 _ Tryz.underlying59 hi0 hz0 (by assumption) (by assumption) rfl _ u3 cur m2 HM2.out rfl (HB10.out.own.alloc _) ⟨#[]⟩ w10.heap.size _ _ (heap_alloc_new w10 _) rfl (by omega) (by simp; omega) ?_); intro g11 cap11 w11 hown11 hg11 hat11 hlt11)
            have HB11 := Lib.hid ((HB10.out.alloc (.cells #[.string ⟨#[]⟩] 9)).more hown11 hg11 rfl hat11)
            have hz11 := HB11.out.size
            clear hown11 hg11 hat11 HB10
            go_wp2_with (at_builtin; (refine wpList_pushS1 rfl _ _ _ rfl w.heap.size w.heap.size 9 i0 _ Tryz.underlying59 hi0 hz0 (by assumption) (by assumption) rfl _ (.slice (some ⟨g11, 0, none⟩) (m2 + 1) cap11) (cur ++ [⟨#[]⟩]) (m2 + 1) HM3.out rfl (HB11.out.own.alloc _) ln w11.heap.size _ _ (heap_alloc_new w11 _) rfl (by omega) (by simp; omega) ?_); intro g12 cap12 w12 hown12 hg12 hat12 hlt12)
            go_roundw
            case rel => exact ⟨j + 1, by omega, intNum, by rw [← HNX2.out]; exact Lib.hid ((HB11.out.alloc (.cells #[.string ln] 9)).more hown12 hg12 rfl hat12)⟩
            case measure => simp [intOf]; omega
        · have hjM : j = M := by omega
          have HE := Lib.hid (show LnG w (lnPre t ls (k + 1)) u3 [] wr by
            have h := HG.out
            rw [List.take_of_length_le (by rw [HMM.out]; omega), HPR.out] at h
            exact h)
          clear HG
          go_wp2
          go_roundw
          case rel => exact ⟨k + 1, by omega, intNum, HE⟩
          case measure => simp [intOf]; omega
    · have HE := Lib.hid (show LnG w (scriptLn ⟨t, ls.map (·.1)⟩) u3 [] wr by
        have h := HG.out
        have e : lnPre t ls k = scriptLn ⟨t, ls.map (·.1)⟩ := by
          unfold lnPre scriptLn
          rw [List.take_of_length_le (by rw [HL.out]; omega), List.flatMap_map]
        rw [e] at h
        exact h)
      clear HG
      go_wp2
      go_ret
      exact ⟨_, rfl, HE.out.own, HE.out.bel⟩
theorem ScriptLines_c {F : Nat → Prop} (t : ByteArray) (ls : List (Scene × Value)) (v : Value) (w : World) (h : ScL w F t ls v) (hok : OkX ⟨t, ls.map (·.1)⟩) :
    Calls Tryz.prog 34 #[.agg #[.string t, v]] w (ScLnP ⟨t, ls.map (·.1)⟩ w) :=
  ScriptLinesG_c t ls v w h (wrL_of hok) (fun y hy p hp =>
    have q := paraE_sz (parasE_ok _ _ (hok.sc y.1 (List.mem_map.2 ⟨y, hy, rfl⟩)).2.2.2.2 p hp)
    ⟨q.2.2.2.1, q.2.2.2.2⟩) (by have := hok.sn; simpa using this) (fun y hy => Nat.le_trans (par_le (List.mem_map.2 ⟨y, hy, rfl⟩)) hok.pn) (Nat.le_trans hok.t2 (by decide))
end Go.Proofs.YtmofncdjhdnoiaaGreatDoor

/- The generator's text of a script, often with changes, walked. -/
namespace Go.Proofs.YtmofncdjhdnoiaaGreatDoor
set_option linter.unusedVariables false
open Go.RowKit Go.Sort

theorem sz_line2 (p : Para) (h : p.text.size ≤ 10000) : (lineS p).size ≤ 11000 := by
  have z1 : (⟨#[64]⟩ : ByteArray).size = 1 := rfl
  have z3 : (⟨#[62, 32]⟩ : ByteArray).size = 2 := rfl
  have z4 : (⟨#[40]⟩ : ByteArray).size = 1 := rfl
  have z5 : (⟨#[41]⟩ : ByteArray).size = 1 := rfl
  have hesc : ∀ b : ByteArray, (escS p.text b).size ≤ 10001 := fun b => by
    have z : (⟨#[92]⟩ : ByteArray).size = 1 := rfl
    unfold escS
    split
    · omega
    · split
      · rw [ByteArray.size_append, z]; omega
      · omega
  unfold lineS
  split
  · rw [ByteArray.size_append, z1]; omega
  · split
    · rw [ByteArray.size_append, ByteArray.size_append, z4, z5]; omega
    · split
      · have := hesc ⟨#[40, 92]⟩; omega
      · split
        · rw [ByteArray.size_append, z3]; omega
        · have := hesc ⟨#[64, 62, 35, 92]⟩; omega
theorem scriptLn_sz {x : Script} (h : scriptBd x) : (scriptLn x).length ≤ 11000 ∧ 0 < (scriptLn x).length ∧ ∀ y ∈ scriptLn x, y.size ≤ 11000 := by
  obtain ⟨h1, h2, h3⟩ := h
  refine ⟨?_, by simp [scriptLn], fun y hy => ?_⟩
  · unfold scriptLn
    rw [List.length_cons]
    have h4 := fm_len sceneLn x.scenes 122 (fun s hs => by
      have q := fm_len paraLn s.paras 2 (fun p _ => paraLn_len p)
      have := (h3 s hs).2.2.2.2.2.2.1
      unfold sceneLn
      simp only [List.length_append, List.length_cons, List.length_nil]
      omega)
    have h5 : 122 * x.scenes.length ≤ 122 * 90 := Nat.mul_le_mul_left _ h2
    omega
  · unfold scriptLn at hy
    rcases List.mem_cons.1 hy with rfl | hy
    · rw [ByteArray.size_append]
      have : (⟨#[116, 105, 116, 108, 101, 58, 32]⟩ : ByteArray).size = 7 := rfl
      omega
    · obtain ⟨s, hs, hy⟩ := List.mem_flatMap.1 hy
      obtain ⟨b1, _, _, b4, _, _, b7, b8⟩ := h3 s hs
      unfold sceneLn at hy
      rcases List.mem_append.1 hy with hy | hy
      · simp only [List.mem_cons, List.not_mem_nil, or_false] at hy
        rcases hy with rfl | rfl
        · decide
        · rw [ByteArray.size_append]
          have := headS_sz s
          have : (⟨#[35, 32]⟩ : ByteArray).size = 2 := rfl
          omega
      · obtain ⟨p, hp, hy⟩ := List.mem_flatMap.1 hy
        have := sz_line2 p (b8 p hp).2.2.2
        unfold paraLn at hy
        rcases List.mem_append.1 hy with hy | hy
        · split at hy
          · rw [List.mem_singleton.1 hy]; decide
          · cases hy
        · rw [List.mem_singleton.1 hy]; exact this
/-- Another list of one's own, made behind all that was there, takes the list's place. -/
theorem GS.takeS {w wx wy : World} {sb : Nat} {l l' : List ByteArray} {v v' : Value} {n : Int} {P : List (Nat × Array Value × TypeId)} (h : GS strR 9 w sb l v P n wx) (hb : Below wx.heap.size wx wy) (hown : Own strR wy wx.heap.size wx.heap.size 9 l' v') : GS strR 9 w sb l' v' [] n wy :=
  ⟨(h.below hb).str, (h.below hb).gr, Own.less (enc := fun s : ByteArray => [.string s]) (hn := fun _ => rfl) hown h.size, h.lt, fun p hp => by cases hp⟩
/-- .. cut off behind its first k texts. -/
theorem GS.cutS {w wx : World} {sb : Nat} {l : List ByteArray} {g n0 c k : Nat} {n : Int} (h : GS strR 9 w sb l (.slice (some ⟨g, 0, none⟩) n0 c) [] n wx) (hk : k ≤ l.length) : GS strR 9 w sb (l.take k) (.slice (some ⟨g, 0, none⟩) k c) [] n wx := by
  obtain ⟨cur, hg, hb, h0, h1, h2, h3, h4⟩ := h.own.toCells
  have e : (l.take k).length = k := by rw [List.length_take]; omega
  have := Own.ofCells (base := w.heap.size) (lo := w.heap.size) (l := l.take k) hg hb (by omega) h2 h3 fun j x hx => h4 j x (by
    rw [List.getElem?_take] at hx
    split at hx
    · exact hx
    · cases hx)
  rw [e] at this
  exact ⟨h.str, h.gr, this, h.lt, fun p hp => by cases hp⟩
def insL : List ByteArray := [⟨#[]⟩, ⟨#[120]⟩, ⟨#[35, 32, 120]⟩, ⟨#[64, 97, 110, 110]⟩, ⟨#[62, 32]⟩, ⟨#[62, 120]⟩, ⟨#[92, 120]⟩, ⟨#[40, 120]⟩, ⟨#[35, 32, 73, 78, 84, 46, 32, 72, 65, 76, 76, 32, 45, 32, 68, 65, 89]⟩, ⟨#[116, 105, 116, 108, 101, 58, 32, 84]⟩]
set_option maxRecDepth 100000 in
set_option maxHeartbeats 8000000 in
theorem ScriptText_c (sb : Nat) (k0 : Int) (w : World) (hs : Str w sb k0) (hk0 : k0 ≤ 2900000000000000000) (hl : LaidS sb w) :
    Calls Tryz.prog 13 #[.pointer (some ⟨sb, 0, none⟩)] w (Took sb k0 400400 (isStr (fun x => x.size ≤ 400000000)) w) := by
  have G0 := Lib.hid (show GS strR 9 w sb [] (.slice none 0 0) [] k0 w from GS.start hs)
  have S0 := Lib.hid hs
  have HL := Lib.hid hl
  have hsb := hs.lt
  clear hs hl
  go_enter Tryz.func13, Tryz.ntmps13
  go_wp2_with fail
  refine (AnyRight_c sb k0 w S0.out (by omega) HL.out).mono ?_
  rintro e w1 ⟨v1, n1, rfl, ⟨x, ls, sv, rfl, hxl, hown, hinn, hbd⟩, hn1, hs1, hg1⟩
  have hz1 := hg1.size
  have hbl : ∀ y ∈ ls, sceneBd y.1 := fun y hy => hbd.2.2 _ (by rw [hxl]; exact List.mem_map.2 ⟨y, hy, rfl⟩)
  have hll : ls.length ≤ 90 := by have h := hbd.2.1; rw [hxl] at h; simpa using h
  have hscl : ScL w1 (fun q => q < w1.heap.size) x.title ls sv := ⟨hown.sli (fun q _ h => h) (fun g hg => (hown.block g hg).2), fun y hy => (hinn y hy).more fun q hq => hq.2.1, fun q h => h, Nat.le_trans hbd.1 (by decide), by omega,
    fun y hy => by obtain ⟨b1, _, _, b4, _, _, b7, b8⟩ := hbl y hy; exact ⟨by omega, by omega, by omega, fun p hp => by have := (b8 p hp).2.2.2; omega⟩⟩
  have hlines := ScriptLinesG_c x.title ls sv w1 hscl ⟨fun y hy => by obtain ⟨_, b2, b3, _, b5, b6, _⟩ := hbl y hy; exact ⟨⟨by omega, by omega⟩, ⟨by omega, by omega⟩⟩, fun y hy p hp => ((hbl y hy).2.2.2.2.2.2.2 p hp).2.2.1⟩ (fun y hy p hp => ⟨((hbl y hy).2.2.2.2.2.2.2 p hp).1, ((hbl y hy).2.2.2.2.2.2.2 p hp).2.1⟩) (by omega) (fun y hy => by have := (hbl y hy).2.2.2.2.2.2.1; omega) hbd.1
  have hxe : (⟨x.title, ls.map (·.1)⟩ : Script) = x := by rw [← hxl]
  rw [hxe] at hlines
  have HLN := Lib.hid hlines
  have HSZ := Lib.hid (scriptLn_sz hbd)
  have hG1 := G0.out.turn hg1 hs1
  have G1 := Lib.hid hG1
  clear hscl hlines hxe hbl hll hown hinn hbd hs1 hg1 hG1 hxl
  go_wp2_with fail
  refine HLN.out.mono ?_
  rintro e w2 ⟨v2, rfl, hown2, hb2⟩
  have G2 := Lib.hid (G1.out.takeS hb2 hown2)
  clear hb2 hown2 G1 HLN G0 S0 HL
  go_wp2_with fail
  refine (pickL w2 [0, 0, 1, 1, 2] _ _ _ _ rfl rfl (by decide) (by decide) G2.out.str (by omega)).mono ?_
  rintro e w3 ⟨v3, n3, rfl, ⟨y3, hy3, rfl⟩, hn3, hs3, hg3⟩
  have hyb : 0 ≤ y3 ∧ y3 ≤ 2 := by simp at hy3; omega
  obtain ⟨m, rfl⟩ := Int.eq_ofNat_of_zero_le hyb.1
  have hm2 : m ≤ 2 := by omega
  have G3 := Lib.hid ((G2.out.alloc _).turn hg3 hs3)
  clear hs3 hg3 hy3 hyb G2
  have HFIN := Lib.hid (show ∀ (W : World) (n : Int) (z : ByteArray) (l : List ByteArray) (v : Value), z.size ≤ 400000000 → n ≤ k0 + 400400 → GS strR 9 w sb l v [] n W → Took sb k0 400400 (isStr (fun x => x.size ≤ 400000000)) w (.returned (.string z)) W from fun W n z l v h1 h2 h3 => ⟨_, n, rfl, ⟨z, h1, rfl⟩, h2, h3.str, h3.gr⟩)
  go_wp2
  go_loopw [3, 12] (fun v i wr => ∃ (q : Nat) (l : List ByteArray) (n : Int), q ≤ m ∧ i = .int .i64 q ∧ n ≤ k0 + 400310 + 10 * (q : Int) ∧ Hid (0 < l.length ∧ l.length ≤ 11000 + q ∧ ∀ x ∈ l, x.size ≤ 11000 + 30 * q) ∧ Hid (GS strR 9 w sb l v [] n wr)) (fun _ i _ => m - (intOf i).toNat)
  case atStart => exact ⟨0, scriptLn x, n3, Nat.zero_le _, rfl, by omega, ⟨HSZ.out.2.1, HSZ.out.1, HSZ.out.2.2⟩, G3.out⟩
  case round =>
    clear G3 HSZ
    obtain ⟨q, l, n, hq, rfl, hn, HX, HG⟩ := hrel
    have hn0 := HG.out.str.nonneg
    obtain ⟨g, cap, rfl, hgb, hgw⟩ := Own.some_ (enc := fun s : ByteArray => [.string s]) (hn := fun _ => rfl) HG.out.own HX.out.1
    obtain ⟨L, hL⟩ : ∃ L, l.length = L := ⟨_, rfl⟩
    have HLL := Lib.hid hL
    have hL0 : 0 < L := by rw [← hL]; exact HX.out.1
    have hLm : L ≤ 11000 + q := by rw [← hL]; exact HX.out.2.1
    rw [hL] at HG ⊢
    clear hL
    by_cases hlt : q < m
    · go_wp2_with fail
      refine (next_c sb n L wr HG.out.str (by omega) (by omega) (by omega)).mono ?_
      rintro e w4 ⟨v4, n4, rfl, ⟨y4, hy40, hy41, rfl⟩, hn4, hs4, hg4⟩
      obtain ⟨k, rfl⟩ := Int.eq_ofNat_of_zero_le hy40
      have hkL : k < L := by omega
      have G4 := Lib.hid (HG.out.turn hg4 hs4)
      clear hs4 hg4 hy40 hy41 HG
      go_wp2_with fail
      refine (next_c sb n4 5 w4 G4.out.str (by omega) (by decide) (by decide)).mono ?_
      rintro e w5 ⟨v5, n5, rfl, ⟨y5, hy50, hy51, rfl⟩, hn5, hs5, hg5⟩
      have G5 := Lib.hid (G4.out.turn hg5 hs5)
      clear hs5 hg5 G4
      rcases (by omega : y5 = 0 ∨ y5 = 1 ∨ y5 = 2 ∨ y5 = 3 ∨ y5 = 4) with rfl | rfl | rfl | rfl | rfl
      · -- delete
        go_wp2_with fail
        refine (cloneS_c l _ w5 (by rw [← HLL.out]; exact (by have h := G5.out.own.sli (F := fun b => b < w5.heap.size) (fun b _ h => h) (fun g hg => (G5.out.own.block g hg).2); rw [← HLL.out] at h; exact h)) (by rw [HLL.out]; exact hL0) (by rw [HLL.out]; omega)).mono ?_
        rintro e w6 ⟨v6, rfl, hown6, hne6, hb6⟩
        rcases hown6.form with ⟨h, _⟩ | ⟨g6, c6, rfl, _, _, _, _⟩
        · exact absurd h hne6
        rw [HLL.out] at hown6 ⊢
        have G6 := Lib.hid (G5.out.takeS hb6 hown6)
        clear hown6 hne6 hb6 G5
        go_wp2_with fail
        refine (delS_c w.heap.size w.heap.size g6 L c6 k l w6 G6.out.own (by rw [HLL.out]; exact hkL)).mono ?_
        rintro e w7 ⟨rfl, hown7, hg7⟩
        have G7 := Lib.hid (G6.out.more hown7 hg7 rfl (.inl rfl))
        have HX7 := Lib.hid (show (l.take k ++ l.drop (k + 1)).length ≤ L ∧ ∀ x ∈ l.take k ++ l.drop (k + 1), x.size ≤ 11000 + 30 * q from ⟨by have := HLL.out; simp; omega, fun x hx => HX.out.2.2 x (by
          rcases List.mem_append.1 hx with h | h
          · exact List.mem_of_mem_take h
          · exact List.mem_of_mem_drop h)⟩)
        clear hown7 hg7 G6 HX
        generalize l.take k ++ l.drop (k + 1) = l7 at *
        by_cases h70 : l7.length = 0
        · rw [h70] at G7 ⊢
          go_wp2_with fail
          refine (oneL w7 [⟨#[]⟩, ⟨#[10]⟩] _ _ _ _ rfl rfl (by decide) (by decide) G7.out.str (by omega)).mono ?_
          rintro e wA ⟨vA, nA, rfl, ⟨xA, hxA, rfl⟩, hnA, hsA, hgA⟩
          have hxz : xA.size ≤ 10 := oneOf (by decide +kernel) hxA
          have GA := Lib.hid ((G7.out.alloc _).turn hgA hsA)
          clear hsA hgA hxA
          go_wp2
          go_ret
          exact HFIN.out _ nA xA _ _ (by omega) (by omega) GA.out
        · have h71 : ¬ (l7.length : Int) = 0 := by omega
          go_wp2
          go_roundw
          case rel => exact ⟨q + 1, l7, n5, by omega, intNum, by omega, ⟨by omega, by have := HX7.out.1; omega, fun x hx => by have := HX7.out.2 x hx; omega⟩, G7.out⟩
          case measure => simp [intOf]; omega
      · -- insert
        go_wp2_with fail
        refine (cloneS_c l _ w5 (by rw [← HLL.out]; exact (by have h := G5.out.own.sli (F := fun b => b < w5.heap.size) (fun b _ h => h) (fun g hg => (G5.out.own.block g hg).2); rw [← HLL.out] at h; exact h)) (by rw [HLL.out]; exact hL0) (by rw [HLL.out]; omega)).mono ?_
        rintro e w6 ⟨v6, rfl, hown6, hne6, hb6⟩
        rcases hown6.form with ⟨h, _⟩ | ⟨g6, c6, rfl, _, _, _, _⟩
        · exact absurd h hne6
        rw [HLL.out] at hown6 ⊢
        have G6 := Lib.hid (G5.out.takeS hb6 hown6)
        clear hown6 hne6 hb6 G5
        go_wp2_with fail
        refine (oneL w6 insL _ _ _ _ rfl rfl (by decide) (by decide) G6.out.str (by omega)).mono ?_
        rintro e w7 ⟨v7, n7, rfl, ⟨x7, hx7, rfl⟩, hn7, hs7, hg7⟩
        have hxz : x7.size ≤ 30 := oneOf (by decide +kernel) hx7
        have G7 := Lib.hid ((G6.out.alloc (.cells (insL.map Value.string).toArray 9)).turn hg7 hs7)
        have G8 := Lib.hid (G7.out.alloc (.cells #[.string x7] 9))
        have hg6w := (G7.out.own.block g6 rfl).2
        clear hs7 hg7 hx7 G6
        go_wp2_with fail
        refine (insS_c w.heap.size w.heap.size g6 L c6 k w7.heap.size x7 l _ G8.out.own (by rw [HLL.out]; exact hkL) (by rw [HLL.out]; omega) (heap_alloc_new w7 _) (by omega)).mono ?_
        rintro e w9 ⟨g9, c9, rfl, hown9, hg9, hat9⟩
        have G9 := Lib.hid (G8.out.more hown9 hg9 rfl hat9)
        have HX7 := Lib.hid (show (l.take k ++ x7 :: l.drop k).length ≤ L + 1 ∧ ∀ x ∈ l.take k ++ x7 :: l.drop k, x.size ≤ 11000 + 30 * q from ⟨by have := HLL.out; simp; omega, fun x hx => by
          rcases List.mem_append.1 hx with h | h
          · exact HX.out.2.2 x (List.mem_of_mem_take h)
          · rcases List.mem_cons.1 h with rfl | h
            · omega
            · exact HX.out.2.2 x (List.mem_of_mem_drop h)⟩)
        have h7p : 0 < (l.take k ++ x7 :: l.drop k).length := by rw [List.length_append, List.length_cons]; omega
        clear hown9 hg9 hat9 G7 G8 HX hg6w
        generalize l.take k ++ x7 :: l.drop k = l7 at *
        have h71 : ¬ (l7.length : Int) = 0 := by omega
        go_wp2
        go_roundw
        case rel => exact ⟨q + 1, l7, n7, by omega, intNum, by omega, ⟨by omega, by have := HX7.out.1; omega, fun x hx => by have := HX7.out.2 x hx; omega⟩, G9.out⟩
        case measure => simp [intOf]; omega
      · -- changed
        have hkl : k < l.length := by rw [HLL.out]; exact hkL
        obtain ⟨hck, hcf⟩ := Own.cellAt (enc := fun s : ByteArray => [.string s]) (hn := fun _ => rfl) G5.out.own k hkl 0 (by decide)
        have e0 : w5.cell? ⟨g, k, none⟩ = some (.string (l[k]'hkl)) := by simpa using hck
        have tz := HX.out.2.2 _ (List.getElem_mem hkl)
        clear hck hcf
        obtain ⟨t, ht⟩ : ∃ t, l[k]'hkl = t := ⟨_, rfl⟩
        have HT := Lib.hid ht
        rw [ht] at e0 tz
        clear ht
        go_wp2_with fail
        refine (Changed_c sb n5 t ⟨#[40, 64, 62, 35, 92, 32, 97, 65, 49]⟩ w5 G5.out.str (by omega) (by omega) (by decide)).mono ?_
        rintro e w6 ⟨v6, n6, rfl, ⟨x6, hx6, rfl⟩, hn6, hs6, hg6⟩
        have hz9 : (⟨#[40, 64, 62, 35, 92, 32, 97, 65, 49]⟩ : ByteArray).size = 9 := rfl
        rw [hz9] at hx6
        have G6 := Lib.hid (G5.out.turn hg6 hs6)
        clear hs6 hg6 G5 e0
        have hfk : w6.frozen? ⟨g, k, none⟩ = false := by
          have := (Own.cellAt (enc := fun s : ByteArray => [.string s]) (hn := fun _ => rfl) G6.out.own k hkl 0 (by decide)).2
          simpa using this
        have hck : w6.cell? ⟨g, k, none⟩ = some (.string t) := by
          have := (Own.cellAt (enc := fun s : ByteArray => [.string s]) (hn := fun _ => rfl) G6.out.own k hkl 0 (by decide)).1
          rw [HT.out] at this
          simpa using this
        have G7 := Lib.hid (show GS strR 9 w sb (l.modify k (fun _ => x6)) (.slice (some ⟨g, 0, none⟩) (l.modify k (fun _ => x6)).length cap) [] n6 (w6.setCell ⟨g, k, none⟩ (.string x6)) by
          have h := G6.out.modify (fun _ => x6) k 0 (.string x6) (fun _ => rfl) (by decide) hkl
          rw [List.length_modify, HLL.out]
          rw [Nat.mul_one, Nat.add_zero] at h
          exact h)
        have HX7 := Lib.hid (show (l.modify k (fun _ => x6)).length = L ∧ ∀ x ∈ l.modify k (fun _ => x6), x.size ≤ 11000 + 30 * q + 30 from ⟨by rw [List.length_modify]; exact HLL.out, fun x hx => by
          rcases mem_mod hx with h | ⟨_, _, rfl⟩
          · have := HX.out.2.2 x h; omega
          · omega⟩)
        go_upto_region 15 with (fail)
        generalize w6.setCell ⟨g, k, none⟩ (.string x6) = w7 at *
        clear hck hfk G6 HX
        generalize l.modify k (fun _ => x6) = l7 at *
        rw [HX7.out.1] at G7
        have h71 : ¬ (L : Int) = 0 := by omega
        go_wp2
        go_roundw
        case rel => exact ⟨q + 1, l7, n6, by omega, intNum, by omega, ⟨by have := HX7.out.1; omega, by have := HX7.out.1; omega, fun x hx => by have := HX7.out.2 x hx; omega⟩, G7.out⟩
        case measure => simp [intOf]; omega
      · -- added
        have hkl : k < l.length := by rw [HLL.out]; exact hkL
        obtain ⟨hck, hcf⟩ := Own.cellAt (enc := fun s : ByteArray => [.string s]) (hn := fun _ => rfl) G5.out.own k hkl 0 (by decide)
        have e0 : w5.cell? ⟨g, k, none⟩ = some (.string (l[k]'hkl)) := by simpa using hck
        have tz := HX.out.2.2 _ (List.getElem_mem hkl)
        clear hck hcf
        obtain ⟨t, ht⟩ : ∃ t, l[k]'hkl = t := ⟨_, rfl⟩
        have HT := Lib.hid ht
        rw [ht] at e0 tz
        clear ht
        have hgw5 := (G5.out.own.block g rfl).2
        go_upto_region 14 with (fail)
        obtain ⟨ι, ff, hne, hff, hfS⟩ := family (fun W => W.cell? ⟨g, k, none⟩ = some (.string t)) w5 e0
        have hneW : Nonempty World := ⟨w⟩
        have HX1 := Lib.hid e0
        have HFS := Lib.hid hfS
        have hone := oneL w5.drew [⟨#[32]⟩, ⟨#[41]⟩, ⟨#[120]⟩] _ 9 3 3 rfl rfl (by decide) (by decide) G5.out.str.drew (by omega)
        have HONE := Lib.hid hone
        have HCA := Lib.hid (show ((w5.alloc (.cells #[.string ⟨#[32]⟩, .string ⟨#[41]⟩, .string ⟨#[120]⟩] 9)).drew).cell? ⟨g, k, none⟩ = some (.string t) from (World.cell?_alloc_lt w5 _ ⟨g, k, none⟩ hgw5).trans e0)
        clear e0 hone hfS
        refine wp_region_segs2 [5, 6] [] [] [([0, 1, 2, 4], [3], 5), ([], [], 6), ([7, 8], [], 9)] (by kernel_rfl) (by kernel_rfl) (fun _ _ _ dd _ h => by cases dd <;> exact h) (fun W => ∃ p : ι, W = ff p) (HFS.out _ HX1.out) ?_
        refine wpSegs2_step (by simp only [pick, List.getElem?_cons_succ, List.getElem?_cons_zero]; rfl) (by simp only [pick, List.getElem?_cons_succ, List.getElem?_cons_zero]; rfl) rfl (fun K0 hK0 L0 hL0 => ?_)
        repeat (first | go_big_quiet_step (fail) | quiet_step (fail))
        refine wpQuiet_nil (hL0 _ ?_)
        repeat (first | go_big_quiet_step (fail) | quiet_step (fail))
        refine wpQuiet_nil ?_
        go_simp
        refine hK0 (fun W => ∃ p : ι, W = ff p) _ _ (fun _ h => h) (HFS.out _ HCA.out) ?_
        refine wpSegs2_step (by simp only [pick, List.getElem?_cons_succ, List.getElem?_cons_zero]; rfl) (by simp only [pick, List.getElem?_cons_succ, List.getElem?_cons_zero]; rfl) rfl (fun K1 hK1 L1 hL1 => ?_)
        repeat (first | go_big_quiet_step (fail) | quiet_step (fail))
        refine wpQuiet_nil (hL1 _ ?_)
        repeat (first | go_big_quiet_step (fail) | quiet_step (fail))
        refine wpQuiet_nil ?_
        go_simp
        refine HONE.out.mono ?_
        rintro e w6 ⟨v6, n6, rfl, ⟨x6, hx6, rfl⟩, hn6, hs6, hg6⟩
        have hxz : x6.size ≤ 2 := oneOf (by decide +kernel) hx6
        have G6 := Lib.hid ((G5.out.drew.alloc (.cells #[.string ⟨#[32]⟩, .string ⟨#[41]⟩, .string ⟨#[120]⟩] 9)).turn hg6 hs6)
        have esz : (t ++ x6 : ByteArray).size = t.size + x6.size := ByteArray.size_append
        have hfk : w6.frozen? ⟨g, k, none⟩ = false := by
          have := (Own.cellAt (enc := fun s : ByteArray => [.string s]) (hn := fun _ => rfl) G6.out.own k hkl 0 (by decide)).2
          simpa using this
        have hck : w6.cell? ⟨g, k, none⟩ = some (.string t) := by
          have := (Own.cellAt (enc := fun s : ByteArray => [.string s]) (hn := fun _ => rfl) G6.out.own k hkl 0 (by decide)).1
          rw [HT.out] at this
          simpa using this
        have G7 := Lib.hid (show GS strR 9 w sb (l.modify k (fun _ => (t ++ x6))) (.slice (some ⟨g, 0, none⟩) (l.modify k (fun _ => (t ++ x6))).length cap) [] n6 (w6.setCell ⟨g, k, none⟩ (.string (t ++ x6))) by
          have h := G6.out.modify (fun _ => (t ++ x6)) k 0 (.string (t ++ x6)) (fun _ => rfl) (by decide) hkl
          rw [List.length_modify, HLL.out]
          rw [Nat.mul_one, Nat.add_zero] at h
          exact h)
        have HX7 := Lib.hid (show (l.modify k (fun _ => (t ++ x6))).length = L ∧ ∀ x ∈ l.modify k (fun _ => (t ++ x6)), x.size ≤ 11000 + 30 * q + 30 from ⟨by rw [List.length_modify]; exact HLL.out, fun x hx => by
          rcases mem_mod hx with h | ⟨_, _, rfl⟩
          · have := HX.out.2.2 x h; omega
          · omega⟩)
        refine hK1 (fun W => ∃ p : ι, W = ff p) _ _ (fun _ h => h) (HFS.out _ hck) ?_
        clear hs6 hg6 hx6 hff HONE HCA HX1 G5
        refine wpSegs2_last (by simp only [pick, List.getElem?_cons_succ, List.getElem?_cons_zero]; rfl) (by simp only [pick, List.getElem?_cons_succ, List.getElem?_cons_zero]; rfl) rfl (by rfl) (fun K2 hK2 L2 hL2 => ?_)
        repeat (first | go_big_quiet_step (fail) | quiet_step (fail))
        refine wpQuiet_nil (hL2 _ ?_)
        repeat (first | go_big_quiet_step (fail) | quiet_step (fail))
        refine wpQuiet_nil ?_
        go_simp
        refine hK2 _ _ (wpSegs2_end ?_)
        go_upto_region 15 with (fail)
        generalize w6.setCell ⟨g, k, none⟩ (.string (t ++ x6)) = w7 at *
        clear hck hfk G6 HX
        generalize l.modify k (fun _ => t ++ x6) = l7 at *
        rw [HX7.out.1] at G7
        have h71 : ¬ (L : Int) = 0 := by omega
        go_wp2
        go_roundw
        case rel => exact ⟨q + 1, l7, n6, by omega, intNum, by omega, ⟨by have := HX7.out.1; omega, by have := HX7.out.1; omega, fun x hx => by have := HX7.out.2 x hx; omega⟩, G7.out⟩
        case measure => simp [intOf]; omega
      · -- cut
        have G7 := Lib.hid (show GS strR 9 w sb (l.take k) (.slice (some ⟨g, 0, none⟩) (l.take k).length cap) [] n5 w5 by
          have h := G5.out.cutS (k := k) (by rw [HLL.out]; omega)
          have e : (l.take k).length = k := by rw [List.length_take, HLL.out]; omega
          rw [e]
          exact h)
        have HX7 := Lib.hid (show (l.take k).length = k ∧ ∀ x ∈ l.take k, x.size ≤ 11000 + 30 * q from ⟨by rw [List.length_take, HLL.out]; omega, fun x hx => HX.out.2.2 x (List.mem_of_mem_take hx)⟩)
        have hcap : L ≤ cap ∧ cap ≤ 9223372036854775807 := by
          rcases G5.out.own.form with ⟨h, _⟩ | ⟨_, _, h, _, _, h1, h2⟩
          · cases h
          · injection h with _ e2 e3
            subst e3
            have := HLL.out
            omega
        clear G5 HX
        generalize l.take k = l7 at *
        rw [HX7.out.1] at G7
        have hk1 : (k : Int) ≤ (cap : Int) := by omega
        by_cases h70 : k = 0
        · subst h70
          go_wp2_with fail
          refine (oneL w5 [⟨#[]⟩, ⟨#[10]⟩] _ _ _ _ rfl rfl (by decide) (by decide) G7.out.str (by omega)).mono ?_
          rintro e wA ⟨vA, nA, rfl, ⟨xA, hxA, rfl⟩, hnA, hsA, hgA⟩
          have hxz : xA.size ≤ 10 := oneOf (by decide +kernel) hxA
          have GA := Lib.hid ((G7.out.alloc _).turn hgA hsA)
          clear hsA hgA hxA
          go_wp2
          go_ret
          exact HFIN.out _ nA xA _ _ (by omega) (by omega) GA.out
        · have h71 : ¬ (k : Int) = 0 := by omega
          go_wp2
          go_roundw
          case rel => exact ⟨q + 1, l7, n5, by omega, intNum, by omega, ⟨by have := HX7.out.1; omega, by have := HX7.out.1; omega, fun x hx => by have := HX7.out.2 x hx; omega⟩, G7.out⟩
          case measure => simp [intOf]; omega
    · have hqm : q = m := by omega
      have HJ := Lib.hid (show (⟨(Lib.join (l.map (·.data.toList)) (⟨#[10]⟩ : ByteArray).data.toList).toArray⟩ : ByteArray).size ≤ 300000000 from by
        have h := pat_join (⟨#[10]⟩ : ByteArray).data.toList 11060 l (fun x hx => by have := HX.out.2.2 x hx; omega)
        have e : (⟨#[10]⟩ : ByteArray).data.toList.length = 1 := rfl
        rw [e, HLL.out] at h
        have h2 : (11060 + 1) * L ≤ (11060 + 1) * 11002 := Nat.mul_le_mul_left _ (by omega)
        show (Lib.join _ _).toArray.size ≤ 300000000
        rw [List.size_toArray]
        omega)
      have HC := Lib.hid (joinX l ⟨#[10]⟩ (⟨(Lib.join (l.map (·.data.toList)) (⟨#[10]⟩ : ByteArray).data.toList).toArray⟩ : ByteArray) (.slice (some ⟨g, 0, none⟩) L cap) (fun b => b < wr.heap.size) wr rfl (by have := HJ.out; omega) (HG.out.own.sli (fun b _ h => h) (fun g hg => (HG.out.own.block g hg).2)) (fun b h => h) (by rw [HLL.out]; omega))
      generalize (⟨(Lib.join (l.map (·.data.toList)) (⟨#[10]⟩ : ByteArray).data.toList).toArray⟩ : ByteArray) = J at *
      go_wp2_with fail
      refine HC.out.mono ?_
      rintro e w4 ⟨rfl, hb4⟩
      have G4 := Lib.hid (HG.out.below hb4)
      clear hb4 HG HC
      go_wp2_with fail
      refine (flip_c sb n 8 w4 G4.out.str (by omega) (by decide) (by decide)).mono ?_
      rintro e w5 ⟨v5, n5, rfl, ⟨b5, rfl⟩, hn5, hs5, hg5⟩
      have G5 := Lib.hid (G4.out.turn hg5 hs5)
      clear hs5 hg5 G4
      have hJs := HJ.out
      have h10 : (⟨#[10]⟩ : ByteArray).size = 1 := rfl
      have hJa : (J ++ ⟨#[10]⟩ : ByteArray).size = J.size + 1 := ByteArray.size_append
      cases b5 with
      | true =>
        go_wp2
        go_ret
        exact HFIN.out _ n5 J _ _ (by omega) (by omega) G5.out
      | false =>
        go_wp2
        go_ret
        exact HFIN.out _ n5 (J ++ ⟨#[10]⟩) _ _ (by omega) (by omega) G5.out
end Go.Proofs.YtmofncdjhdnoiaaGreatDoor

/- The reference's text of a script, walked. -/
namespace Go.Proofs.YtmofncdjhdnoiaaGreatDoor
set_option linter.unusedVariables false
open Go.RowKit Go.Sort

theorem lines_text (x : Script) : linesL (scriptLn x) = textT x := by
  rw [← join_script]
  unfold joinL linesL
  rfl
end Go.Proofs.YtmofncdjhdnoiaaGreatDoor

/- The reference's reader of scripts, walked. -/
namespace Go.Proofs.YtmofncdjhdnoiaaGreatDoor
set_option linter.unusedVariables false
open Go.RowKit Go.Sort

theorem rg_scL {w wx : World} {R0 N m : Nat} {t : ByteArray} {l : List (Scene × Value)} {v : Value} {wh : Int} (h : RgG w R0 t l v wx) (hi : RdI N ⟨t, l.map (·.1), wh⟩) (hN : N ≤ 1000000) (hb : RdB m l) (hm : m ≤ 1000000) : ScL wx (fun q => w.heap.size ≤ q ∧ q < wx.heap.size) t l v := by
  refine ⟨h.bo.own.sliF fun g hg => h.bo.own.block g hg, fun y hy => ?_, fun q hq => hq.2, Nat.le_trans hi.ts hN, Nat.le_trans hb.1 hm, fun y hy => ?_⟩
  · obtain ⟨i, hi⟩ := List.mem_iff_getElem?.1 hy
    have hr := (h.row i y hi).1
    exact hr.sliF fun g hg => hr.block g hg
  · obtain ⟨h1, h2, h3⟩ := hi.sz _ (List.mem_map.2 ⟨y, hy, rfl⟩)
    exact ⟨Nat.le_trans h1 hN, Nat.le_trans h2 hN, Nat.le_trans (hb.2 y hy) hm, fun p hp => Nat.le_trans (h3 p hp) hN⟩
/-- Where the reading stands behind k lines; b is the last of them. -/
def RgI (Lm : List ByteArray) (k : Nat) (t : ByteArray) (l : List (Scene × Value)) (b : ByteArray) (g : Bool) : Prop := ∃ wh, ReI Lm k t l wh ∧ RdM ⟨t, l.map (·.1), wh⟩ (l.map (·.1)) b g
theorem RgI.group {Lm : List ByteArray} {k : Nat} {t : ByteArray} {l : List (Scene × Value)} {b : ByteArray} {g : Bool} (h : RgI Lm k t l b g) : g = true → 0 < l.length := fun hg => by
  obtain ⟨wh, _, _, hc⟩ := h
  have hne : ¬ l.map (·.1) = [] := by
    rcases hc with ⟨_, c2, _⟩ | ⟨_, c2, _⟩ | ⟨_, c2, _⟩ | ⟨_, c2, _⟩ | ⟨_, _, c3, _⟩
    · rw [hg] at c2; cases c2
    · rw [hg] at c2; cases c2
    · rw [hg] at c2; cases c2
    · rw [hg] at c2; cases c2
    · exact c3
  exact List.length_pos_iff.2 (fun e => hne (by rw [e]; rfl))
theorem RgI.first {Lm : List ByteArray} (hk : 0 < Lm.length) (hs : Lm[0].size ≤ 200000) (h : Lib.hasPrefix Lm[0].data.toList titL.data.toList = true) : RgI Lm 1 (Lm[0].extract 7 Lm[0].size) [] Lm[0] false :=
  ⟨0, ReI.yes hk hs h, rfl, .inl ⟨tit_size h, rfl, rfl, rfl⟩⟩
theorem RgI.next {Lm : List ByteArray} {k : Nat} {t : ByteArray} {l l' : List (Scene × Value)} {b : ByteArray} {g g' : Bool} (h : RgI Lm k t l b g) (hk1 : 1 ≤ k) (hk : k < Lm.length) (hs : Lm[k].size ≤ 200000) (ht : takenS (l.map (·.1)) Lm[k] b g = some (l'.map (·.1), g')) (hb : RdB (k + 1) l') : RgI Lm (k + 1) t l' Lm[k] g' := by
  obtain ⟨wh, hI, hM⟩ := h
  have h1 := taken_line Lm[k] hM
  rw [ht] at h1
  obtain ⟨r', he, hm, htl⟩ := h1
  have hsc : r'.scenes = l'.map (·.1) := hm.1
  have htl' : r'.title = t := htl
  have hn := hI.next hk1 hk hs he hsc hb
  rw [htl'] at hn
  refine ⟨r'.wh, hn, ?_⟩
  have er : r' = ⟨t, l'.map (·.1), r'.wh⟩ := by rw [← hsc, ← htl']
  rw [← er]
  exact hm
theorem RgI.stop {Lm : List ByteArray} {k : Nat} {t : ByteArray} {l : List (Scene × Value)} {b : ByteArray} {g : Bool} (h : RgI Lm k t l b g) (hk1 : 1 ≤ k) (hk : k < Lm.length) (ht : takenS (l.map (·.1)) Lm[k] b g = none) : firstR Lm = .inr k := by
  obtain ⟨wh, hI, hM⟩ := h
  have h1 := taken_line Lm[k] hM
  rw [ht] at h1
  exact hI.stop hk1 hk h1
set_option maxRecDepth 100000 in
set_option maxHeartbeats 16000000 in
theorem ScriptFrom_c (text : ByteArray) (w : World) (hs : text.size ≤ 4000000000) (hm : MaxLaid w) (hsp : SpLaid w) : Calls Tryz.prog 15 #[.string text] w (ReP text w) := by
  have HM := Lib.hid hm
  have HSPL := Lib.hid hsp
  have hb0 := (Below.refl w.heap.size w).alloc (Nat.le_refl _) (.cells #[.string ⟨#[]⟩, .slice none 0 0] 28)
  have hy0 := heap_alloc_new w (.cells #[.string ⟨#[]⟩, .slice none 0 0] 28)
  have hz0 : w.heap.size < (w.alloc (.cells #[.string ⟨#[]⟩, .slice none 0 0] 28)).heap.size := by simp
  clear hm hsp
  by_cases hl : 200000 < text.size
  · have HR := Lib.hid (show readS text = (zeroX, 0, 2) from if_pos hl)
    have hl' : (200000 : Int) < text.size := by omega
    have HB := Lib.hid hb0
    clear hl hb0 hy0 hz0
    go_enter Tryz.func15, Tryz.ntmps15
    go_wp2
    refine ⟨rfl, .tuple #[.agg #[.string ⟨#[]⟩, .slice none 0 0], .int .i64 ((0 : Nat) : Int), .int .i64 2], (by rw [results_cell_tmp2 rfl]; go_simp), ?_⟩
    refine ReP.err HR.out ?_
    repeat (first | exact HB.out | refine Below.setCell ?_ (by first | exact Nat.le_refl _ | (dsimp only; omega)) _)
  have hl' : (text.size : Int) ≤ 200000 := by omega
  go_enter Tryz.func15, Tryz.ntmps15
  go_upto_region 3 with (fail)
  generalize w.alloc (.cells #[.string ⟨#[]⟩, .slice none 0 0] 28) = w1 at *
  have HB1 := Lib.hid hb0
  have HY1 := Lib.hid hy0
  have hwl := words_len text 10
  have hwle := words_le text 10
  have HWS := Lib.hid (fun s (h : s ∈ words text 10) => words_size h)
  obtain ⟨W, hW⟩ : ∃ W, words text 10 = W := ⟨_, rfl⟩
  rw [hW] at hwl hwle
  have HWS2 := Lib.hid (fun s (h : s ∈ W) => HWS.out s (by rw [hW]; exact h))
  obtain ⟨M, hM⟩ : ∃ M, W.length = M + 1 := ⟨W.length - 1, by omega⟩
  have HRW2 := Lib.hid (fun k (h : firstR (W.take M) = .inr k) => readS_w hW hM hl h)
  have HRR2 := Lib.hid (fun s r (hs : W[M]? = some s) (h : firstR (W.take M) = .inl r) => readS_r hW hM hs hl h)
  have HWD := Lib.hid (words2_c w1 hW hM hs (max_below HM.out hb0 (Nat.le_refl _)))
  have HWL := Lib.hid hM
  have hM1 : M ≤ 200000 := by omega
  clear HWS hW hM hwl hwle hb0 hy0 hl
  go_wp2_with fail
  refine HWD.out.mono ?_
  rintro e w2 ⟨rfl, hsl, hb2, hz2e⟩
  have hz2 : w1.heap.size < w2.heap.size := by omega
  clear hz2e
  have HSL := Lib.hid hsl
  have HB2 := Lib.hid (HB1.out.trans (hb2.mono (by omega)))
  have HY2 := Lib.hid ((hb2.block w.heap.size (by omega)).trans HY1.out)
  clear hsl hb2 HWD HB1 HY1
  have ewM : IntKind.i64.wrap ((M : Int) + 1 - 1) = (M : Int) := by rw [show (M : Int) + 1 - 1 = M by omega]; exact IntWalk.i64_in _ (by omega)
  have ewM2 : IntKind.i64.wrap (M : Int) = (M : Int) := IntWalk.i64_in _ (by omega)
  go_upto_region 7 with (fail)
  have hG : RgG w2 w2.heap.size ⟨#[]⟩ [] (.slice none 0 0) (w2.alloc (.cells #[.string ⟨#[]⟩, .slice none 0 0] 28)) := (NS.start w2).new (xCs ⟨#[]⟩ (.slice none 0 0)) 28
  generalize w2.alloc (.cells #[.string ⟨#[]⟩, .slice none 0 0] 28) = w3 at *
  have HG := Lib.hid hG
  clear hG ewM ewM2
  have hR : w.heap.size < w2.heap.size := by omega
  have hW1 : w1.heap.size < w2.heap.size := by omega
  have hne1 : ¬ w2.heap.size = w.heap.size := by omega
  have hne2 : ¬ w.heap.size = w2.heap.size := by omega
  clear hz0 hz2
  obtain ⟨Lm, hLm⟩ : ∃ Lm, W.take M = Lm := ⟨_, rfl⟩
  have HLM := Lib.hid (show Lm.length = M by rw [← hLm, List.length_take, HWL.out]; omega)
  have HLK := Lib.hid (fun (k : Nat) (hk : k < W.length) (hk2 : k < Lm.length) => show Lm[k] = W[k] by subst hLm; rw [List.getElem_take])
  have HRW := Lib.hid (fun k (h : firstR Lm = .inr k) => HRW2.out k (by rw [hLm]; exact h))
  have HRR := Lib.hid (fun s r (hs : W[M]? = some s) (h : firstR Lm = .inl r) => HRR2.out s r hs (by rw [hLm]; exact h))
  have HRS := Lib.hid (fun (X : World) (hb : Below w2.heap.size w2 X) => show (X.cell? ⟨w.heap.size, 0, none⟩ = some (.string ⟨#[]⟩) ∧ X.cell? ⟨w.heap.size, 1, none⟩ = some (.slice none 0 0)) ∧ X.frozen? ⟨w.heap.size, 0, none⟩ = false ∧ X.frozen? ⟨w.heap.size, 1, none⟩ = false by
    obtain ⟨y, f⟩ := str_cells ((hb.block w.heap.size hR).trans HY2.out)
    exact ⟨⟨y 0, y 1⟩, f 0, f 1⟩)
  have HBE := Lib.hid (fun (X : World) (hb : Below w2.heap.size w2 X) => HB2.out.trans (hb.mono (Nat.le_of_lt hR)))
  have HMX := Lib.hid (fun (X : World) (hb : Below w2.heap.size w2 X) => show MaxLaid X ∧ SpLaid X from ⟨max_below HM.out (HBE.out X hb) (Nat.le_refl _), sp_below HSPL.out (HBE.out X hb) (Nat.le_refl _)⟩)
  clear HRW2 HRR2 hLm HY2 HB2 HM HSPL
  -- the first line
  have hW0 : 0 < W.length := by rw [HWL.out]; omega
  have c0 := strCell (HSL.out.below HG.out.bo.bel (fun q hq => by omega)) 0 hW0
  have hsz0 : W[0].size ≤ 200000 := by have := HWS2.out _ (List.getElem_mem hW0); omega
  have HFI := Lib.hid (fun (hM : 0 < M) => show ∃ hk : 0 < Lm.length, Lm[0] = W[0] from ⟨by rw [HLM.out]; exact hM, HLK.out 0 hW0 (by rw [HLM.out]; exact hM)⟩)
  have HW0 := Lib.hid (show W[0]? = some W[0] from List.getElem?_eq_getElem hW0)
  have HWA := Lib.hid (fun (k : Nat) (hk : k < M + 1) => show ∃ s, W[k]? = some s ∧ s.size ≤ 200000 ∧ ∀ X, Below w2.heap.size w2 X → X.cell? ⟨w1.heap.size, k, none⟩ = some (.string s) from by
    have hkW : k < W.length := by rw [HWL.out]; exact hk
    exact ⟨W[k], List.getElem?_eq_getElem hkW, by have := HWS2.out _ (List.getElem_mem hkW); omega, fun X hX => strCell (HSL.out.below hX (fun q hq => by omega)) k hkW⟩)
  generalize hs0 : W[0] = s0 at *
  have HCP := Lib.hid (Tryz.strings_CutPrefix s0 ⟨#[116, 105, 116, 108, 101, 58, 32]⟩ w3)
  have HPR := Lib.hid (@trimPre s0 ⟨#[116, 105, 116, 108, 101, 58, 32]⟩)
  have HPN := Lib.hid (@trimNo s0 ⟨#[116, 105, 116, 108, 101, 58, 32]⟩)
  have g0 := (HG.out.cell (p := (w2.heap.size, xCs ⟨#[]⟩ (.slice none 0 0), 28)) (by simp)).1
  have gf := (HG.out.cell (p := (w2.heap.size, xCs ⟨#[]⟩ (.slice none 0 0), 28)) (by simp)).2
  have r0 : w3.cell? ⟨w2.heap.size, 0, none⟩ = some (.string ⟨#[]⟩) := g0 0
  have rf0 : w3.frozen? ⟨w2.heap.size, 0, none⟩ = false := gf 0
  clear g0 gf hs0 hW0
  cases hp : Lib.hasPrefix s0.data.toList (⟨#[116, 105, 116, 108, 101, 58, 32]⟩ : ByteArray).data.toList with
  | false =>
    have HR := Lib.hid (show readS text = (zeroX, 0, 9) from by
      by_cases hM0 : 0 < M
      · obtain ⟨hk, e⟩ := HFI.out hM0
        exact HRW.out 0 (firstR_no hk (by rw [e]; exact hp))
      · have e : Lm = [] := List.eq_nil_of_length_eq_zero (by rw [HLM.out]; omega)
        have hM00 : M = 0 := by omega
        subst hM00
        exact (HRR.out s0 ⟨⟨#[]⟩, [], 0⟩ HW0.out (by rw [e]; rfl)).trans (if_pos (.inl rfl)))
    have HPE := Lib.hid (HPN.out hp)
    have HP := Lib.hid hp
    obtain ⟨⟨y0, y1⟩, f0, f1⟩ := HRS.out w3 HG.out.bo.bel
    have HBF := Lib.hid (HBE.out w3 HG.out.bo.bel)
    clear hp HPR HPN
    go_wp2_with (first | (go_at_call 45; refine HCP.out.mono ?_; rintro e w' ⟨rfl, rfl⟩; rw [HPE.out, HP.out]) | fail)
    refine ⟨rfl, .tuple #[.agg #[.string ⟨#[]⟩, .slice none 0 0], .int .i64 ((0 : Nat) : Int), .int .i64 9], (by rw [results_cell_tmp2 rfl]; go_simp), ?_⟩
    refine ReP.err HR.out ?_
    repeat (first | exact HBF.out | refine Below.setCell ?_ (by first | exact Nat.le_refl _ | (dsimp only; omega)) _)
  | true =>
    have HPE := Lib.hid (show (⟨(Lib.trimPrefix s0.data.toList (⟨#[116, 105, 116, 108, 101, 58, 32]⟩ : ByteArray).data.toList).toArray⟩ : ByteArray) = s0.extract 7 s0.size from HPR.out hp)
    have HSE := Lib.hid (show ¬ s0.size = 0 from tit_size hp)
    have HI1 := Lib.hid (fun (hM : 0 < M) => show RgI Lm 1 (s0.extract 7 s0.size) [] s0 false by
      obtain ⟨hk, e⟩ := HFI.out hM
      have h := RgI.first hk (by rw [e]; exact hsz0) (by rw [e]; exact hp)
      rw [e] at h
      exact h)
    have HP := Lib.hid hp
    have HG2 := Lib.hid (show RgG w2 w2.heap.size (s0.extract 7 s0.size) [] (.slice none 0 0) (w3.setCell ⟨w2.heap.size, 0, none⟩ (.string (s0.extract 7 s0.size))) from NS.set (i := 0) HG.out (.string (s0.extract 7 s0.size)) (fun p hp => by cases hp))
    clear hp HPR HPN HG HFI
    go_upto_region 8 with (first | (go_at_call 45; refine HCP.out.mono ?_; rintro e w' ⟨rfl, rfl⟩; rw [HPE.out, HP.out]) | fail)
    clear c0 r0 rf0 HCP hsz0
    generalize s0.extract 7 s0.size = t at *
    generalize w'.setCell ⟨w2.heap.size, 0, none⟩ (.string t) = w4 at *
    go_wp2
    go_loopw [9, 10] (fun gv iv wr => ∃ (k : Nat) (l : List (Scene × Value)) (v : Value) (b : ByteArray) (g : Bool), 1 ≤ k ∧ (k ≤ M ∨ M = 0 ∧ k = 1) ∧ iv = .int .i64 k ∧ gv = .bool g ∧ Hid (RgG w2 w2.heap.size t l v wr) ∧ Hid (0 < M → RgI Lm k t l b g ∧ ∃ j, j + 1 = k ∧ W[j]? = some b)) (fun _ iv _ => M - (intOf iv).toNat)
    case atStart => exact ⟨1, [], .slice none 0 0, s0, false, Nat.le_refl _, by omega, rfl, rfl, HG2.out, fun h => ⟨HI1.out h, 0, rfl, HW0.out⟩⟩
    case round =>
      clear HG2 HI1
      obtain ⟨k, l, v, b, g, hk1, hkM, rfl, rfl, HG, HI⟩ := hrel
      have HBW := Lib.hid HG.out.bo.bel
      obtain ⟨⟨yr0, yr1⟩, fr0, fr1⟩ := HRS.out wr HBW.out
      by_cases hlt : k < M
      · obtain ⟨hI, j, hjk, hjb⟩ := HI.out (by omega)
        obtain ⟨s, hsW, hsz, hsc⟩ := HWA.out k (by omega)
        obtain ⟨b2, hbW, hbz, hbc⟩ := HWA.out j (by omega)
        rw [hjb] at hbW
        injection hbW with hbW
        subst hbW
        have c1 := hsc wr HBW.out
        have c2 := hbc wr HBW.out
        have hkL : k < Lm.length := by rw [HLM.out]; exact hlt
        have hLS : Lm[k] = s := by
          have hkW : k < W.length := by rw [HWL.out]; omega
          rw [HLK.out k hkW hkL]
          have := hsW
          rw [List.getElem?_eq_getElem hkW] at this
          injection this
        have HTK := Lib.hid (taken_c w2 wr.drew w2.heap.size k t l v s b g HG.out.drew (by obtain ⟨wh, hR, _⟩ := hI; exact hR.2.1) (by omega) (by omega) hI.group (HMX.out wr.drew HBW.out.drew).1 (HMX.out wr.drew HBW.out.drew).2)
        have HNX := Lib.hid (fun (l' : List (Scene × Value)) (g' : Bool) (ht : takenS (l.map (·.1)) s b g = some (l'.map (·.1), g')) (hb : RdB (k + 1) l') => show RgI Lm (k + 1) t l' s g' from by
          have h := hI.next hk1 hkL (by rw [hLS]; exact hsz) (by rw [hLS]; exact ht) hb
          rw [hLS] at h
          exact h)
        have HST := Lib.hid (fun (ht : takenS (l.map (·.1)) s b g = none) => HRW.out k (hI.stop hk1 hkL (by rw [hLS]; exact ht)))
        have HSW := Lib.hid hsW
        have ewj : IntKind.i64.wrap ((k : Int) - 1) = (j : Int) := (IntWalk.i64_in _ (by omega)).trans (by omega)
        have HJK := Lib.hid hjk
        have hjM : (j : Int) < (M : Int) + 1 := by omega
        have hkM2 : (k : Int) < (M : Int) + 1 := by omega
        have hlt2 : (k : Int) < M := by omega
        have HSC := Lib.hid (And.intro hsc hbc)
        clear hI hjb hsW hsc hbc hLS hkL hjk
        go_upto_region 14 with (fail)
        obtain ⟨ι, ff, hne, hff, hfS⟩ := family (fun W => W.cell? ⟨w1.heap.size, k, none⟩ = some (.string s) ∧ W.cell? ⟨w1.heap.size, j, none⟩ = some (.string b)) wr ⟨c1, c2⟩
        have hneW : Nonempty World := ⟨w⟩
        have z0 := fun p => (hff p).1
        have z1 := fun p => (hff p).2
        have HFS := Lib.hid hfS
        have HZ := Lib.hid (And.intro c1 c2)
        clear hff hfS c1 c2
        refine wp_region_segs2 [10] [11, 12, 13, 14, 15] [] [([0, 1, 2, 4, 5, 6, 7, 9], [3, 8], 10)] (by kernel_rfl) (by kernel_rfl) (fun _ _ _ dd _ h => by cases dd <;> exact h) (fun W => ∃ p : ι, W = ff p) (HFS.out _ HZ.out) ?_
        refine wpSegs2_step (by simp only [pick, List.getElem?_cons_succ, List.getElem?_cons_zero]; rfl) (by simp only [pick, List.getElem?_cons_succ, List.getElem?_cons_zero]; rfl) rfl (fun K0 hK0 L0 hL0 => ?_)
        repeat (first | go_big_quiet_step (fail) | quiet_step (fail))
        refine wpQuiet_nil (hL0 _ ?_)
        repeat (first | go_big_quiet_step (fail) | quiet_step (fail))
        refine wpQuiet_nil ?_
        go_simp
        refine HTK.out.mono ?_
        intro e w5 he5
        rcases he5 with ⟨l', v', g', h1, rfl, h4, h5⟩ | ⟨g', h1, rfl, h3⟩
        · have HG5 := Lib.hid h5
          have HN := Lib.hid (HNX.out l' g' h1 h4)
          have HB5 := Lib.hid h5.bo.bel
          refine hK0 (fun W => ∃ p : ι, W = ff p) _ _ (fun _ h => h) (HFS.out _ ⟨HSC.out.1 _ HB5.out, HSC.out.2 _ HB5.out⟩) ?_
          clear h1 h4 h5 HTK HNX HST HG HI HBW
          refine wpSegs2_fin (by simp only [pick, List.getElem?_cons_succ, List.getElem?_cons_zero]; rfl) (by simp only [pick, List.getElem?_cons_succ, List.getElem?_cons_zero]; rfl) (fun L1 hL1 => ?_)
          repeat (first | go_big_quiet_step (fail) | quiet_step (fail))
          refine wpQuiet_nil (hL1 _ ?_)
          repeat (first | go_big_quiet_step (fail) | quiet_step (fail))
          refine wpQuiet_nil ?_
          clear z0 z1 hK0
          have ewk : IntKind.i64.wrap ((k : Int) + 1) = ((k + 1 : Nat) : Int) := (IntWalk.i64_in _ (by omega)).trans (by omega)
          go_wp2
          go_roundw
          case rel => exact ⟨k + 1, l', v', s, g', by omega, by omega, rfl, rfl, HG5.out, fun _ => ⟨HN.out, k, rfl, HSW.out⟩⟩
          case measure => simp [intOf]; omega
        · have HR := Lib.hid (HST.out h1)
          have HB5 := Lib.hid h3
          refine hK0 (fun W => ∃ p : ι, W = ff p) _ _ (fun _ h => h) (HFS.out _ ⟨HSC.out.1 _ HB5.out, HSC.out.2 _ HB5.out⟩) ?_
          obtain ⟨⟨ys0, ys1⟩, fs0, fs1⟩ := HRS.out w5 HB5.out
          have HBF := Lib.hid (HBE.out w5 HB5.out)
          clear h1 h3 HTK HNX HST HG HI HBW yr0 yr1 fr0 fr1
          refine wpSegs2_fin (by simp only [pick, List.getElem?_cons_succ, List.getElem?_cons_zero]; rfl) (by simp only [pick, List.getElem?_cons_succ, List.getElem?_cons_zero]; rfl) (fun L1 hL1 => ?_)
          repeat (first | go_big_quiet_step (fail) | quiet_step (fail))
          refine wpQuiet_nil (hL1 _ ?_)
          repeat (first | go_big_quiet_step (fail) | quiet_step (fail))
          refine wpQuiet_nil ?_
          clear z0 z1 hK0
          go_wp2
          refine ⟨rfl, .tuple #[.agg #[.string ⟨#[]⟩, .slice none 0 0], .int .i64 (k : Int), .int .i64 9], (by rw [results_cell_tmp2 rfl]; go_simp), ?_⟩
          refine ReP.err HR.out ?_
          repeat (first | exact HBF.out | refine Below.setCell ?_ (by first | exact Nat.le_refl _ | (dsimp only; omega)) _)
      · by_cases hM0 : M = 0
        · have hk0 : k = 1 := by omega
          subst hk0
          have HR := Lib.hid (show readS text = (zeroX, M, 9) from by
            have e : Lm = [] := List.eq_nil_of_length_eq_zero (by rw [HLM.out]; omega)
            have hs0 : W[M]? = some s0 := by rw [hM0]; exact HW0.out
            exact (HRR.out s0 ⟨⟨#[]⟩, [], 0⟩ hs0 (by rw [e]; rfl)).trans (if_pos (.inl hM0)))
          have c1 : wr.cell? ⟨w1.heap.size, M, none⟩ = some (.string s0) := by
            obtain ⟨s, hsW, _, hsc⟩ := HWA.out M (by omega)
            have e : s = s0 := by
              have h1 := HW0.out
              rw [hM0] at hsW
              rw [hsW] at h1
              injection h1
            rw [← e]; exact hsc wr HBW.out
          have hse := emp_no HSE.out
          have HBF := Lib.hid (HBE.out wr HBW.out)
          have hMM : (M : Int) < (M : Int) + 1 := by omega
          have hM1n : ¬ (1 : Int) < (M : Int) := by omega
          clear hM0 HI HRR HRW hlt hkM
          go_wp2
          refine ⟨rfl, .tuple #[.agg #[.string ⟨#[]⟩, .slice none 0 0], .int .i64 (M : Int), .int .i64 9], (by rw [results_cell_tmp2 rfl]; go_simp), ?_⟩
          refine ReP.err HR.out ?_
          repeat (first | exact HBF.out | refine Below.setCell ?_ (by first | exact Nat.le_refl _ | (dsimp only; omega)) _)
        · obtain rfl : k = M := by omega
          obtain ⟨hI, j, hjk, hjb⟩ := HI.out (by omega)
          obtain ⟨s, hsW, hsz, hsc⟩ := HWA.out k (by omega)
          obtain ⟨b2, hbW, hbz, hbc⟩ := HWA.out j (by omega)
          rw [hjb] at hbW
          injection hbW with hbW
          subst hbW
          have c1 := hsc wr HBW.out
          have c2 := hbc wr HBW.out
          obtain ⟨wh, hRI, hRM⟩ := hI
          have HV := HRR.out s _ hsW (hRI.end_ (by rw [HLM.out]; omega))
          have hbl := hRM.blank
          have HVE := Lib.hid (fun (h : ¬ s.size = 0 ∨ b.size = 0) => show readS text = (zeroX, k, 9) from HV.trans (if_pos (by
            rcases h with h | h
            · exact .inr (.inl h)
            · rcases hbl.1 h with h | h
              · exact .inr (.inr (.inl h))
              · exact .inr (.inr (.inr h)))))
          have HVN := Lib.hid (fun (h1 : s.size = 0) (h2 : ¬ b.size = 0) => HV.trans (if_neg (by
            rintro (h | h | h | h)
            · exact hM0 h
            · exact h h1
            · exact h2 (hbl.2 (.inl h))
            · exact h2 (hbl.2 (.inr h)))))
          have HRI := Lib.hid hRI
          have HBF := Lib.hid (HBE.out wr HBW.out)
          have ewj : IntKind.i64.wrap ((k : Int) - 1) = (j : Int) := (IntWalk.i64_in _ (by omega)).trans (by omega)
          have hjM : (j : Int) < (k : Int) + 1 := by omega
          have hMM : (k : Int) < (k : Int) + 1 := by omega
          have hM1n : ¬ (k : Int) < 1 := by omega
          clear hRI hRM HV hbl hjb hsW hsc hbc hjk HI HRR HRW HWA HLK hlt hkM
          by_cases hs0 : ¬ s.size = 0
          · have HR := Lib.hid (HVE.out (.inl hs0))
            have hse := emp_no hs0
            clear HVE HVN hs0
            go_wp2
            refine ⟨rfl, .tuple #[.agg #[.string ⟨#[]⟩, .slice none 0 0], .int .i64 (k : Int), .int .i64 9], (by rw [results_cell_tmp2 rfl]; go_simp), ?_⟩
            refine ReP.err HR.out ?_
            repeat (first | exact HBF.out | refine Below.setCell ?_ (by first | exact Nat.le_refl _ | (dsimp only; omega)) _)
          have hs1 : s.size = 0 := by omega
          have hse := emp_yes hs1
          by_cases hb0 : b.size = 0
          · have HR := Lib.hid (HVE.out (.inr hb0))
            have hbe := emp_yes hb0
            clear HVE HVN hs0 hs1 hb0
            go_wp2
            refine ⟨rfl, .tuple #[.agg #[.string ⟨#[]⟩, .slice none 0 0], .int .i64 (k : Int), .int .i64 9], (by rw [results_cell_tmp2 rfl]; go_simp), ?_⟩
            refine ReP.err HR.out ?_
            repeat (first | exact HBF.out | refine Below.setCell ?_ (by first | exact Nat.le_refl _ | (dsimp only; omega)) _)
          have hbe := emp_no hb0
          have HV2 := Lib.hid (show readS text = if ¬ chkE ⟨t, l.map (·.1)⟩ = 0 then (zeroX, 0, chkE ⟨t, l.map (·.1)⟩) else if ¬ textS ⟨t, l.map (·.1)⟩ = text then (zeroX, 0, 9) else (⟨t, l.map (·.1)⟩, 0, 0) from HVN.out hs1 hb0)
          clear HVE HVN hs0 hs1 hb0
          obtain ⟨A, c, hv, _, _⟩ := (HG.out.bo.own.sliF (F := fun _ => True) (fun _ _ => trivial)).form
          have hsc := rg_scL HG.out HRI.out.2.2 (by omega) HRI.out.2.1 (by omega)
          have HSC := Lib.hid hsc
          have hld := HMX.out wr HBW.out
          have HCK := Lib.hid (ScriptFault_c t l v wr hsc hld.2 hld.1)
          have g0 := (HG.out.cell (p := (w2.heap.size, xCs t v, 28)) (by simp)).1
          have r0 : wr.cell? ⟨w2.heap.size, 0, none⟩ = some (.string t) := g0 0
          have r1 : wr.cell? ⟨w2.heap.size, 1, none⟩ = some v := g0 1
          subst hv
          generalize l.length = L at *
          clear hsc HG hld g0
          go_wp2_with fail
          refine HCK.out.mono ?_
          rintro e w5 ⟨rfl, hb5⟩
          have HB5 := Lib.hid (HBW.out.trans (hb5.mono HBW.out.size))
          have HSC5 := Lib.hid (HSC.out.below hb5)
          have hwr : w2.heap.size < wr.heap.size := World.block_lt_of_cell? wr ⟨w2.heap.size, 0, none⟩ r0
          have s0 : w5.cell? ⟨w2.heap.size, 0, none⟩ = some (.string t) := (hb5.cell (p := ⟨w2.heap.size, 0, none⟩) hwr).trans r0
          have s1 : w5.cell? ⟨w2.heap.size, 1, none⟩ = some (.slice A L c) := (hb5.cell (p := ⟨w2.heap.size, 1, none⟩) hwr).trans r1
          have hw5 : w2.heap.size < w5.heap.size := Nat.lt_of_lt_of_le hwr hb5.size
          obtain ⟨⟨ys0, ys1⟩, fs0, fs1⟩ := HRS.out w5 HB5.out
          have HBF5 := Lib.hid (HBE.out w5 HB5.out)
          clear hb5 HCK yr0 yr1 fr0 fr1 r0 r1 HBF HSC HBW hwr c1 c2
          by_cases hc : chkE ⟨t, l.map (·.1)⟩ = 0
          · have HOK := Lib.hid (chkE_ok hc)
            have HLL := Lib.hid (textT_len HOK.out)
            have HWC := Lib.hid (ScriptLines_c t l (.slice A L c) w5 HSC5.out HOK.out)
            have HLT := lines_text ⟨t, l.map (·.1)⟩
            have HTS := Lib.hid (show textS ⟨t, l.map (·.1)⟩ = ⟨(linesL (scriptLn ⟨t, l.map (·.1)⟩)).toArray⟩ by rw [HLT]; rfl)
            have HLN := Lib.hid (show (linesL (scriptLn ⟨t, l.map (·.1)⟩)).length ≤ 140737488355328 by rw [HLT]; have := HLL.out; omega)
            have HV3 := Lib.hid (HV2.out.trans (if_neg (fun h => h hc)))
            rw [hc]
            clear hc HOK HLL HV2 HLT
            go_wp2_with fail
            refine HWC.out.mono ?_
            rintro e w6 ⟨v6, rfl, hown, hb6⟩
            have HB6 := Lib.hid (HB5.out.trans (hb6.mono HB5.out.size))
            have HSC6 := Lib.hid (HSC5.out.below hb6)
            have u0 : w6.cell? ⟨w2.heap.size, 0, none⟩ = some (.string t) := (hb6.cell (p := ⟨w2.heap.size, 0, none⟩) hw5).trans s0
            have u1 : w6.cell? ⟨w2.heap.size, 1, none⟩ = some (.slice A L c) := (hb6.cell (p := ⟨w2.heap.size, 1, none⟩) hw5).trans s1
            have HJ := Lib.hid (Joined_c _ v6 (fun q => q < w6.heap.size) w6 (Own.sliF (enc := fun s : ByteArray => [.string s]) (hn := fun _ => rfl) hown (fun g e => (hown.block g e).2)) (fun b h => h) HLN.out)
            have hw6 : w2.heap.size < w6.heap.size := Nat.lt_of_lt_of_le hw5 hb6.size
            clear hb6 HWC s0 s1 ys0 ys1 fs0 fs1 HBF5 HSC5 hw5 HB5 hown
            go_wp2_with fail
            refine HJ.out.mono ?_
            rintro e w7 ⟨rfl, hb7⟩
            rw [← HTS.out]
            have HB7 := Lib.hid (HB6.out.trans (hb7.mono HB6.out.size))
            have HSC7 := Lib.hid (HSC6.out.below hb7)
            have v0 : w7.cell? ⟨w2.heap.size, 0, none⟩ = some (.string t) := (hb7.cell (p := ⟨w2.heap.size, 0, none⟩) hw6).trans u0
            have v1 : w7.cell? ⟨w2.heap.size, 1, none⟩ = some (.slice A L c) := (hb7.cell (p := ⟨w2.heap.size, 1, none⟩) hw6).trans u1
            obtain ⟨⟨yt0, yt1⟩, ft0, ft1⟩ := HRS.out w7 HB7.out
            have HBF7 := Lib.hid (HBE.out w7 HB7.out)
            have hw7 : w2.heap.size ≤ w7.heap.size := HB7.out.size
            clear hb7 HJ u0 u1 HB6 HSC6 hw6 HLN HTS
            generalize textS ⟨t, l.map (·.1)⟩ = tx at *
            by_cases hx : tx = text
            · have HR := Lib.hid (HV3.out.trans (if_neg (fun h => h hx)))
              have hx1 : (tx.toList == text.toList) = true := by rw [beqS, decide_eq_true hx]
              have hx2 : (tx.toList != text.toList) = false := by rw [bne, hx1]; rfl
              clear hx HV3
              go_wp2
              refine ⟨rfl, .tuple #[.agg #[.string t, .slice A L c], .int .i64 ((0 : Nat) : Int), .int .i64 0], (by rw [results_cell_tmp2 rfl]; go_simp), ?_⟩
              refine ReP.ok HR.out HSC7.out (fun q hq => by have := hq.1; omega) ?_ (by simp [World.setCell]) (fun b hb hne => ?_)
              · repeat (first | exact HBF7.out | refine Below.setCell ?_ (by first | exact Nat.le_refl _ | (dsimp only; omega)) _)
              · exact (Below.heap_setCell _ _ _ _ hne).trans (Below.heap_setCell _ _ _ _ hne)
            · have HR := Lib.hid (HV3.out.trans (if_pos hx))
              have hx1 : (tx.toList == text.toList) = false := by rw [beqS, decide_eq_false hx]
              have hx2 : (tx.toList != text.toList) = true := by rw [bne, hx1]; rfl
              clear hx HV3
              go_wp2
              refine ⟨rfl, .tuple #[.agg #[.string ⟨#[]⟩, .slice none 0 0], .int .i64 ((0 : Nat) : Int), .int .i64 9], (by rw [results_cell_tmp2 rfl]; go_simp), ?_⟩
              refine ReP.err HR.out ?_
              repeat (first | exact HBF7.out | refine Below.setCell ?_ (by first | exact Nat.le_refl _ | (dsimp only; omega)) _)
          · have HR := Lib.hid (HV2.out.trans (if_pos hc))
            have hne : (chkE ⟨t, l.map (·.1)⟩ != 0) = true := by rw [bne_iff_ne]; exact hc
            clear HV2
            generalize chkE ⟨t, l.map (·.1)⟩ = ce at *
            clear hc
            go_wp2
            refine ⟨rfl, .tuple #[.agg #[.string ⟨#[]⟩, .slice none 0 0], .int .i64 ((0 : Nat) : Int), .int .i64 ce], (by rw [results_cell_tmp2 rfl]; go_simp), ?_⟩
            refine ReP.err HR.out ?_
            repeat (first | exact HBF5.out | refine Below.setCell ?_ (by first | exact Nat.le_refl _ | (dsimp only; omega)) _)
end Go.Proofs.YtmofncdjhdnoiaaGreatDoor

/- The small script that the laws read and write. -/
namespace Go.Proofs.YtmofncdjhdnoiaaGreatDoor
set_option linter.unusedVariables false
open Go.RowKit Go.Sort

def smallT : ByteArray := ⟨#[116, 105, 116, 108, 101, 58, 32, 84, 10, 10, 35, 32, 73, 78, 84, 46, 32, 72, 65, 76, 76, 32, 45, 32, 68, 65, 89, 10, 10, 82, 97, 105, 110, 46, 10]⟩
def smallX : Script := ⟨⟨#[84]⟩, [⟨⟨#[]⟩, 1, ⟨#[72, 65, 76, 76]⟩, 1, [⟨1, ⟨#[82, 97, 105, 110, 46]⟩⟩]⟩]⟩
theorem single_fst {l : List (Scene × Value)} {x : Scene} (h : l.map (·.1) = [x]) : ∃ y : Scene × Value, l = [y] ∧ y.1 = x := by
  cases l with
  | nil => cases h
  | cons a r =>
    cases r with
    | nil =>
      injection h with h1 _
      exact ⟨a, rfl, h1⟩
    | cons b r => injection h with _ h2; cases h2
theorem small_read : readS smallT = (smallX, 0, 0) := by kernel_rfl
theorem small_tx : txV smallX = (smallT, 0) := by kernel_rfl
set_option maxRecDepth 100000 in
set_option maxHeartbeats 4000000 in
theorem scripts_c (w : World) (hm : MaxLaid w) : Calls Tryz.prog 9 #[] w fun e w' => e = .returned (.bool true) ∧ Below w.heap.size w w' := by
  have HRD := Lib.hid (Read_c smallT w (by decide +kernel) hm)
  have HM := Lib.hid hm
  clear hm
  have HST := Lib.hid (show (smallT.toList == smallT.toList) = true from beq_self_eq_true _)
  have HTE := Lib.hid (show smallT = ⟨#[116, 105, 116, 108, 101, 58, 32, 84, 10, 10, 35, 32, 73, 78, 84, 46, 32, 72, 65, 76, 76, 32, 45, 32, 68, 65, 89, 10, 10, 82, 97, 105, 110, 46, 10]⟩ from rfl)
  rw [HTE.out] at HRD
  go_enter Tryz.func9, Tryz.ntmps9
  go_wp2_with fail
  refine HRD.out.mono ?_
  rintro e w1 ⟨l, v, rfl, hl, hs, hp, hb⟩
  rw [← HTE.out, small_read] at hl ⊢
  obtain ⟨y, rfl, hy⟩ : ∃ y : Scene × Value, l = [y] ∧ y.1 = ⟨⟨#[]⟩, 1, ⟨#[72, 65, 76, 76]⟩, 1, [⟨1, ⟨#[82, 97, 105, 110, 46]⟩⟩]⟩ := single_fst hl
  have hsc : ScL w1 (fun q => w.heap.size ≤ q ∧ q < w1.heap.size) ⟨#[84]⟩ [y] v := ⟨hs, hp, fun q hq => hq.2, by decide, by simp, fun z hz => by
    rw [List.mem_singleton] at hz
    subst hz
    rw [hy]
    exact ⟨by decide, by decide, by decide, fun p hp => by
      rw [List.mem_singleton] at hp
      subst hp
      show (⟨#[82, 97, 105, 110, 46]⟩ : ByteArray).size ≤ 1000000
      decide⟩⟩
  obtain ⟨A, c, hv, _, _⟩ := hs.form
  subst hv
  obtain ⟨b, off, hA, hfb, c0, c1, c2, c3, c4⟩ := scAt hs 0 (by simp)
  subst hA
  obtain ⟨A4, cc4, h4, _, _⟩ := (hp y (by simp)).form
  rw [show ([y] : List (Scene × Value))[0] = y from rfl, h4, show y.1.paras.length = 1 by rw [hy]; rfl] at c4
  have HB1 := Lib.hid (hb.alloc hb.size (.cells #[.string ⟨#[84]⟩, .slice (some ⟨b, off, none⟩) 1 c] 28))
  have hbe := (Below.refl w1.heap.size w1).alloc (Nat.le_refl _) (.cells #[.string ⟨#[84]⟩, .slice (some ⟨b, off, none⟩) 1 c] 28)
  have HTX := Lib.hid (Text_c ⟨#[84]⟩ [y] (.slice (some ⟨b, off, none⟩) 1 c) (w1.alloc (.cells #[.string ⟨#[84]⟩, .slice (some ⟨b, off, none⟩) 1 c] 28)) (hsc.below hbe) (max_below HM.out HB1.out (Nat.le_refl _)))
  have HV := Lib.hid (show txV ⟨⟨#[84]⟩, [y].map (·.1)⟩ = (smallT, 0) by rw [show ([y].map (·.1) : List Scene) = smallX.scenes from by show [y.1] = _; rw [hy]; rfl]; exact small_tx)
  have hbb : b < w1.heap.size := hfb.2
  have HY := Lib.hid (fun (X : World) (hx : Below (w1.alloc (.cells #[.string ⟨#[84]⟩, .slice (some ⟨b, off, none⟩) 1 c] 28)).heap.size (w1.alloc (.cells #[.string ⟨#[84]⟩, .slice (some ⟨b, off, none⟩) 1 c] 28)) X) => show X.cell? ⟨w1.heap.size, 1, none⟩ = some (.slice (some ⟨b, off, none⟩) 1 c) ∧ X.cell? ⟨b, off + 4, none⟩ = some (.slice A4 1 cc4) by
    obtain ⟨yy, _⟩ := str_cells ((hx.block w1.heap.size (by simp)).trans (heap_alloc_new w1 _))
    refine ⟨yy 1, ?_⟩
    rw [hx.cell (p := ⟨b, off + 4, none⟩) (by simp; omega), World.cell?_alloc_lt w1 _ ⟨b, off + 4, none⟩ hbb]
    simpa using c4)
  clear hl hy hsc hs hp c0 c1 c2 c3 c4 h4 hb hbe
  go_wp2_with fail
  refine HTX.out.mono ?_
  rintro e w3 ⟨rfl, hb3⟩
  rw [HV.out]
  obtain ⟨z1, z4⟩ := HY.out w3 hb3
  have HB3 := Lib.hid (HB1.out.trans (hb3.mono HB1.out.size))
  have hs1 := HST.out
  rw [HTE.out] at hs1 ⊢
  clear hb3
  go_wp2
  go_ret
  exact ⟨rfl, HB3.out⟩
end Go.Proofs.YtmofncdjhdnoiaaGreatDoor

