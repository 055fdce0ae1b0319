/- Texts packed: LkG, RowL, RepW, RepA, RepB, RepC, RepD, EdG, EdM, PatW, PotW. -/
import Derived.Test.YtnnnmbipmfopmaaGreatDoorSc41
import Derived.Test.YtnnnmbipmfopmaaGreatDoorSc33
import Derived.Test.YtnnnmbipmfopmaaGreatDoorSc01
/- The gate of the laws of drafts: a small script is locked, and a number found. -/
namespace Go.Proofs.YtnnnmbipmfopmaaGreatDoor
set_option linter.unusedVariables false
open Go.RowKit Go.Sort

def dX : Scene := ⟨⟨#[]⟩, 1, ⟨#[72, 65, 76, 76]⟩, 1, []⟩
def dY : Scene := ⟨⟨#[49]⟩, 1, ⟨#[72, 65, 76, 76]⟩, 1, []⟩
theorem dX_nbE : nbE [dX] = 0 := by rfl
theorem dX_nbS : nbS [dX] = [dY] := by kernel_rfl
theorem dX_chk : chkE ⟨⟨#[84]⟩, [dX]⟩ = 0 := by rfl
theorem dY_pg : (lkPg [dY]).length = 1 := by kernel_rfl
theorem dY_fr : lkFr [dY] = [⟨#[49]⟩] := by kernel_rfl
theorem dX_lock : lockE ⟨⟨#[84]⟩, [dX]⟩ = 0 := by
  unfold lockE
  rw [if_neg (by rw [dX_chk]; decide), if_neg (by show ¬ ¬ nbE [dX] = 0; rw [dX_nbE]; decide), if_neg (by show ¬ 999 < (lkPg (nbS [dX])).length; rw [dX_nbS, dY_pg]; decide)]
theorem dY_ok : LnOk dY := ⟨⟨.inr (by kernel_rfl), by decide, by decide, by kernel_rfl, by kernel_rfl⟩, by decide⟩
theorem lfAt {w : World} {F : Nat → Prop} {l : List LfT} {A : Option Addr} {n c : Nat} (h : Sli lfR w F l (.slice A n c)) (k : Nat) (hk : k < l.length) : ∃ b off, A = some ⟨b, off, none⟩ ∧ F b ∧ w.cell? ⟨b, off + k * 4, none⟩ = some (.string l[k].1) ∧ w.cell? ⟨b, off + k * 4 + 1, none⟩ = some (.int .i64 l[k].2.1) ∧ w.cell? ⟨b, off + k * 4 + 2, none⟩ = some (.string l[k].2.2.1) ∧ w.cell? ⟨b, off + k * 4 + 3, none⟩ = some l[k].2.2.2 := by
  obtain ⟨b, off, a, e, hb, hr, hc⟩ := h.at_ k hk
  have ha : a = lfC l[k] := hr
  subst ha
  exact ⟨b, off, e, hb, hc 0 _ rfl, hc 1 _ rfl, hc 2 _ rfl, hc 3 _ rfl⟩
set_option maxRecDepth 100000 in
set_option maxHeartbeats 8000000 in
theorem drafts_c (w : World) (hm : MaxLaid w) (he : ErrsLaid w) (hp : PowLaid w) : Calls Tryz.prog 12 #[] w fun e w' => e = .returned (.bool true) ∧ Below w.heap.size w w' := by
  have HB1 := Lib.hid ((Below.refl w.heap.size w).alloc (Nat.le_refl _) (.cells #[.string ⟨#[]⟩, .int .i64 1, .string ⟨#[72, 65, 76, 76]⟩, .int .i64 1, .slice none 0 0] 64))
  have hz1 : w.heap.size < (w.alloc (.cells #[.string ⟨#[]⟩, .int .i64 1, .string ⟨#[72, 65, 76, 76]⟩, .int .i64 1, .slice none 0 0] 64)).heap.size := by simp
  have HS := Lib.hid (show ScL (w.alloc (.cells #[.string ⟨#[]⟩, .int .i64 1, .string ⟨#[72, 65, 76, 76]⟩, .int .i64 1, .slice none 0 0] 64)) (fun q => q = w.heap.size) ⟨#[84]⟩ [(dX, .slice none 0 0)] (.slice (some ⟨w.heap.size, 0, none⟩) 1 1) from
    ⟨Sli.new (R := svR) (cs := [.string ⟨#[]⟩, .int .i64 1, .string ⟨#[72, 65, 76, 76]⟩, .int .i64 1, .slice none 0 0]) 64 1 (Lay.one (R := svR) (x := (dX, .slice none 0 0)) rfl) rfl (Nat.le_refl _) (by decide), fun y hy => by rw [List.mem_singleton.1 hy]; exact Sli.nil_, fun q hq => by rw [show q = _ from hq]; exact hz1, by decide, by decide, fun y hy => by
      rw [List.mem_singleton.1 hy]
      exact ⟨by decide, by decide, by decide, fun p hp => by cases hp⟩⟩)
  have HER := Lib.hid (fun (W : World) (hb : Below w.heap.size w W) => he.below hb (Nat.le_refl _))
  have HLK := Lib.hid (rvLock_c ⟨#[84]⟩ [(dX, .slice none 0 0)] (.slice (some ⟨w.heap.size, 0, none⟩) 1 1) _ HS.out (by decide) (max_below hm HB1.out (Nat.le_refl _)) (HER.out _ HB1.out) (pow_below hp HB1.out (Nat.le_refl _)) (fun _ _ => by
    show (∀ y ∈ nbS [dX], LnOk y ∧ y.paras.length ≤ 61) ∧ SortsK ((nbS [dX]).map (·.no)) _
    rw [dX_nbS]
    exact ⟨fun y hy => by rw [List.mem_singleton.1 hy]; exact ⟨dY_ok, by decide⟩, sorts1 _ _ (by decide)⟩))
  clear hm he hp HS
  go_enter Tryz.func12, Tryz.ntmps12
  go_upto_region 1 with (fail)
  go_wp2_with fail
  refine HLK.out.mono ?_
  rintro e w2 ⟨d, rfl, hb2, _, hd⟩
  obtain ⟨sc, vS, lv, Ps, rfl, hsc, hPs, hfl, hq1, _, _, hlv⟩ := hd dX_lock
  have HB2 := Lib.hid (HB1.out.trans (hb2.mono HB1.out.size))
  rw [show lockE ⟨⟨#[84]⟩, [((dX, .slice none 0 0) : Scene × Value)].map (·.1)⟩ = 0 from dX_lock]
  obtain ⟨A5, c5, e5, _, _⟩ := hq1.form
  subst e5
  have hP : Ps.length = 1 := by
    have h1 := congrArg List.length hPs
    rw [List.length_map] at h1
    rw [h1]
    show (lkPg (nbS [dX])).length = 1
    rw [dX_nbS]
    exact dY_pg
  have hfs : lkFr (nbS ([((dX, .slice none 0 0) : Scene × Value)].map (·.1))) = [⟨#[49]⟩] := by
    show lkFr (nbS [dX]) = _
    rw [dX_nbS]
    exact dY_fr
  rw [hfs, hP] at hlv
  obtain ⟨A6, c6, e6, _, _⟩ := hlv.form
  subst e6
  obtain ⟨b, off, e7, hb, _, _, q2, _⟩ := lfAt hlv 0 (by rw [lvs_len]; decide)
  subst e7
  have q2' : w2.cell? ⟨b, off + 2, none⟩ = some (.string ⟨#[49]⟩) := by
    have h1 : (lvs [⟨#[49]⟩] Ps 1)[0]'(by rw [lvs_len]; decide) = (itN 0, 1, ⟨#[49]⟩, ((Ps[0]?).map (·.2)).getD (.slice none 0 0)) := rfl
    rw [h1] at q2
    simpa using q2
  rw [lvs_len]
  unfold drC
  have HBW := Lib.hid (HB2.out.alloc HB2.out.size (.cells #[.int .i64 1, .string ⟨#[84]⟩, .slice A5 sc.length c5, .slice none 0 0, .slice (some ⟨b, off, none⟩) 1 c6] 59))
  have hq : Hid (∀ W, Below (w2.alloc (.cells #[.int .i64 1, .string ⟨#[84]⟩, .slice A5 sc.length c5, .slice none 0 0, .slice (some ⟨b, off, none⟩) 1 c6] 59)).heap.size (w2.alloc (.cells #[.int .i64 1, .string ⟨#[84]⟩, .slice A5 sc.length c5, .slice none 0 0, .slice (some ⟨b, off, none⟩) 1 c6] 59)) W → W.cell? ⟨w2.heap.size, 4, none⟩ = some (.slice (some ⟨b, off, none⟩) 1 c6) ∧ W.cell? ⟨b, off + 2, none⟩ = some (.string ⟨#[49]⟩)) := Lib.hid fun W hx => by
    obtain ⟨yy, _⟩ := str_cells ((hx.block w2.heap.size (by simp)).trans (heap_alloc_new w2 _))
    refine ⟨yy 4, ?_⟩
    rw [hx.cell (p := ⟨b, off + 2, none⟩) (by have := hb.2; simp; omega), World.cell?_alloc_lt w2 _ ⟨b, off + 2, none⟩ hb.2]
    exact q2'
  have HBT := Lib.hid (Between12_c (w2.alloc (.cells #[.int .i64 1, .string ⟨#[84]⟩, .slice A5 sc.length c5, .slice none 0 0, .slice (some ⟨b, off, none⟩) 1 c6] 59)) (HER.out _ HBW.out))
  clear q2 q2' hlv hq1 hfs hP hPs hfl hsc hd hb hb2 HLK
  go_upto_region 2 with (fail)
  generalize w2.alloc (.cells #[.int .i64 1, .string ⟨#[84]⟩, .slice A5 sc.length c5, .slice none 0 0, .slice (some ⟨b, off, none⟩) 1 c6] 59) = w3 at *
  go_wp2_with fail
  refine HBT.out.mono ?_
  rintro e w4 ⟨rfl, hb4⟩
  obtain ⟨z4, z2⟩ := hq.out w4 hb4
  have HB4 := Lib.hid (HBW.out.trans (hb4.mono HBW.out.size))
  clear hb4 HBT
  go_wp2
  go_ret
  exact ⟨rfl, HB4.out⟩
end Go.Proofs.YtnnnmbipmfopmaaGreatDoor

/- A row of texts of one's own told by the list of its cells; slices.Insert of several texts. -/
namespace Go.Proofs.YtnnnmbipmfopmaaGreatDoor
set_option linter.unusedVariables false
open Go.RowKit Go.Sort

theorem setCells_row {g : Nat} {t : TypeId} : ∀ (vs : List Value) (o : Nat) (w : World) (cur : Array Value), w.heap[g]? = some (.cells cur t (0, 0)) → o + vs.length ≤ cur.size → w.setCells g o vs = w.setRow g (cur.toList.take o ++ vs ++ cur.toList.drop (o + vs.length)).toArray
  | [], o, w, cur, hg, _ => by
    have e : (cur.toList.take o ++ [] ++ cur.toList.drop (o + ([] : List Value).length)).toArray = cur := by simp
    rw [e]
    exact (setRow_self w g cur t (0, 0) hg).symm
  | v :: r, o, w, cur, hg, h => by
    have ho : o < cur.toList.length := by simp at h ⊢; omega
    rw [World.setCells, setCell_eq_setRow w g o cur t (0, 0) v hg]
    have hg1 := setRow_heap w g cur (cur.setIfInBounds o v) t (0, 0) hg
    rw [setCells_row r (o + 1) _ _ hg1 (by simp at h ⊢; omega), setRow_setRow]
    have hA : (cur.toList.take o).length = o := by rw [List.length_take]; omega
    have e : (cur.setIfInBounds o v).toList = cur.toList.take o ++ v :: cur.toList.drop (o + 1) := by
      rw [Array.toList_setIfInBounds, List.set_eq_take_append_cons_drop, if_pos ho]
    rw [e]
    have e1 : (cur.toList.take o ++ v :: cur.toList.drop (o + 1)).take (o + 1) = cur.toList.take o ++ [v] := by
      rw [List.take_append, hA, List.take_of_length_le (by omega), show o + 1 - o = 1 by omega]
      rfl
    have e2 : (cur.toList.take o ++ v :: cur.toList.drop (o + 1)).drop (o + 1 + r.length) = cur.toList.drop (o + (v :: r).length) := by
      rw [List.drop_append, hA, List.drop_of_length_le (by omega), List.nil_append, show o + 1 + r.length - o = r.length + 1 by omega, List.drop_succ_cons, List.drop_drop]
      congr 1
      simp
      omega
    rw [e1, e2]
    congr 2
    simp
theorem takeApp {α : Type} {A B : List α} {p k : Nat} (h : A.length = p) : (A ++ B).take (p + k) = A ++ B.take k := by
  rw [List.take_append, h, List.take_of_length_le (by omega), show p + k - p = k by omega]
theorem dropApp {α : Type} {A B : List α} {p k : Nat} (h : A.length = p) : (A ++ B).drop (p + k) = B.drop k := by
  rw [List.drop_append, h, List.drop_of_length_le (by omega), show p + k - p = k by omega, List.nil_append]
theorem dropApp0 {α : Type} {A B : List α} {p : Nat} (h : A.length = p) : (A ++ B).drop p = B := by
  have := dropApp (B := B) (k := 0) h
  simpa using this
theorem takeApp0 {α : Type} {A B : List α} {p : Nat} (h : A.length = p) : (A ++ B).take p = A := by
  have := takeApp (B := B) (k := 0) h
  simpa using this
/-- The cells of a row: C, of which the first hold the texts l. -/
structure RowC (w : World) (g : Nat) (C : List Value) (l : List ByteArray) : Prop where
  heap : w.heap[g]? = some (.cells C.toArray 9 (0, 0))
  fits : l.length ≤ C.length
  at_ : C.take l.length = l.map .string
theorem Own.toRow {w : World} {base lo g n cap : Nat} {l : List ByteArray} (h : Own strR w base lo 9 l (.slice (some ⟨g, 0, none⟩) n cap)) : ∃ C, RowC w g C l ∧ C.length = cap ∧ base ≤ g ∧ l.length = n ∧ cap ≤ maxLen := by
  obtain ⟨cur, hg, hb, hn, h1, h2, h3, h4⟩ := h.toCells
  refine ⟨cur.toList, ⟨hg, by simp; omega, ?_⟩, by simpa using h3, hb, hn, h2⟩
  apply List.ext_getElem?
  intro k
  rw [List.getElem?_take, List.getElem?_map]
  by_cases hk : k < l.length
  · rw [if_pos hk, List.getElem?_eq_getElem hk, Array.getElem?_toList, ← (str_cells hg).1, h4 k _ (List.getElem?_eq_getElem hk)]
    rfl
  · rw [if_neg hk, List.getElem?_eq_none (by omega)]
    rfl
theorem Own.ofRow {w : World} {base lo g : Nat} {C : List Value} {l : List ByteArray} (h : RowC w g C l) (hb : base ≤ g) (hm : C.length ≤ maxLen) : Own strR w base lo 9 l (.slice (some ⟨g, 0, none⟩) l.length C.length) := by
  refine Own.ofCells h.heap hb h.fits hm (by simp) fun k x hx => ?_
  rw [(str_cells h.heap).1]
  have hk := (List.getElem?_eq_some_iff.1 hx).1
  have e : (C.take l.length)[k]? = some (.string x) := by rw [h.at_, List.getElem?_map, hx]; rfl
  rw [List.getElem?_take, if_pos hk] at e
  simpa using e
/-- Cells of a row: its texts. -/
theorem RowC.cell {w : World} {g : Nat} {C : List Value} {l : List ByteArray} (h : RowC w g C l) (k : Nat) : w.cell? ⟨g, k, none⟩ = C[k]? := by
  rw [(str_cells h.heap).1]
  simp
/-- A given row of texts in a block of its own, or none. -/
def RowX (w : World) (F : Nat → Prop) (l : List ByteArray) (v : Value) : Prop := (v = .slice none 0 0 ∧ l = []) ∨ ∃ g C, v = .slice (some ⟨g, 0, none⟩) l.length C.length ∧ F g ∧ RowC w g C l ∧ C.length ≤ maxLen
theorem RowX.keep {w w' : World} {F : Nat → Prop} {l : List ByteArray} {v : Value} (h : RowX w F l v) (hk : ∀ b, F b → w'.heap[b]? = w.heap[b]?) : RowX w' F l v := by
  rcases h with h | ⟨g, C, rfl, hg, hr, hm⟩
  · exact .inl h
  · exact .inr ⟨g, C, rfl, hg, ⟨(hk g hg).trans hr.heap, hr.fits, hr.at_⟩, hm⟩
theorem RowX.more {w : World} {F G : Nat → Prop} {l : List ByteArray} {v : Value} (h : RowX w F l v) (hk : ∀ b, F b → G b) : RowX w G l v := by
  rcases h with h | ⟨g, C, rfl, hg, hr⟩
  · exact .inl h
  · exact .inr ⟨g, C, rfl, hk g hg, hr⟩
theorem RowX.ofOwn {w : World} {base lo : Nat} {F : Nat → Prop} {l : List ByteArray} {v : Value} (h : Own strR w base lo 9 l v) (hF : ∀ q, v.ownBlock = some q → F q) : RowX w F l v := by
  rcases h.form with ⟨h1, h2⟩ | ⟨g, c, rfl, _⟩
  · exact .inl ⟨h1, h2⟩
  · obtain ⟨C, hr, hc, _, hn, hm⟩ := h.toRow
    exact .inr ⟨g, C, by rw [hc], hF g rfl, hr, by omega⟩
theorem RowX.sli {w : World} {F : Nat → Prop} {l : List ByteArray} {v : Value} (h : RowX w F l v) : Sli strR w F l v := by
  rcases h with ⟨rfl, rfl⟩ | ⟨g, C, rfl, hg, hr, hm⟩
  · exact sliEmp _ _ (by omega)
  · have := Own.ofRow (base := g) (lo := g) hr (Nat.le_refl _) hm
    exact Own.sliF (enc := fun s : ByteArray => [.string s]) (hn := fun _ => rfl) this (fun g' e => by
      injection e with e
      subst e
      exact hg)
theorem grown_setRow (w : World) (g : Nat) (X : Array Value) : w.grownBy (w.setRow g X) (some g) :=
  ⟨rfl, rfl, rfl, by simp, fun j _ hj => setRow_other w g j X (fun e => hj (by rw [e]))⟩
theorem grown_drew (w : World) (g : Nat) : w.grownBy w.drew (some g) := ⟨rfl, rfl, rfl, Nat.le_refl _, fun _ _ _ => rfl⟩
theorem map_len (l : List ByteArray) : (l.map Value.string).length = l.length := List.length_map ..
/-- slices.Insert of some texts before others. -/
theorem insL_c {F : Nat → Prop} (base lo g n cap i : Nat) (l ys : List ByteArray) (vv : Value) (w : World) (h : Own strR w base lo 9 l (.slice (some ⟨g, 0, none⟩) n cap)) (hi : i < l.length) (hl : l.length ≤ 1000000000) (hy : RowX w F ys vv) (hyl : ys.length ≤ 1000000) (h0 : 0 < ys.length) (hg : ¬ F g) :
    Calls Tryz.prog 27 #[.slice (some ⟨g, 0, none⟩) n cap, .int .i64 i, vv] w (InsS base lo g (l.take i ++ ys ++ l.drop i) w) := by
  obtain ⟨C, hr, rfl, hb, rfl, hm⟩ := h.toRow
  rcases hy with ⟨_, rfl⟩ | ⟨vb, D, rfl, hvF, hd, hdm⟩
  · cases h0
  have hvg : vb ≠ g := fun e => hg (e ▸ hvF)
  have hc63 : C.length ≤ 9223372036854775807 := by unfold maxLen at hm; omega
  have hcl := map_len l
  have hyl2 := map_len ys
  have hcat : ∀ k x, (l.map Value.string)[k]? = some x → C[k]? = some x := fun k x hx => by
    rw [← hr.at_, List.getElem?_take] at hx
    split at hx
    · exact hx
    · cases hx
  have hdat : ∀ k x, (ys.map Value.string)[k]? = some x → D[k]? = some x := fun k x hx => by
    rw [← hd.at_, List.getElem?_take] at hx
    split at hx
    · exact hx
    · cases hx
  have hcc : ∀ j v, (l.map Value.string)[j]? = some v → w.cell? ⟨g, 0 + j, none⟩ = some v := fun j v hj => by
    rw [Nat.zero_add, hr.cell]
    exact hcat j v hj
  have hvs : ∀ j v, (ys.map Value.string)[j]? = some v → w.cell? ⟨vb, 0 + j, none⟩ = some v := fun j v hj => by
    rw [Nat.zero_add, hd.cell]
    exact hdat j v hj
  have h1c : ∀ (z : List ByteArray), ∀ v ∈ z.map Value.string, v.oneCell' = true := fun z v hv => by
    obtain ⟨y, _, rfl⟩ := List.mem_map.1 hv
    rfl
  have hll : (l.take i ++ ys ++ l.drop i).length = l.length + ys.length := by simp; omega
  have hLi : ((l.map Value.string).take i).length = i := by rw [List.length_take]; omega
  have hCi : (C.take i).length = i := by rw [List.length_take]; have := hr.fits; omega
  have hCtk : C.take i = (l.map Value.string).take i := by
    rw [← hr.at_, List.take_take, Nat.min_eq_left (by omega)]
  have hdl : ((l.map Value.string).drop i).length = l.length - i := by rw [List.length_drop, hcl]
  by_cases hroom : l.length + ys.length ≤ C.length
  · refine (Any2.slices_Insert_string_shift inLays g 0 l.length C.length i vb 0 ys.length D.length (l.map .string) (ys.map Value.string) w hi h0 hroom hc63 hvg hcl hyl2 hcc
      (fun j hj => by rw [Nat.zero_add, hr.cell, List.getElem?_eq_getElem (by omega)]; rfl) (fun j _ => (str_cells hr.heap).2 _) hvs (h1c l) (h1c ys) 9 9 D.length C.length (by simp [World.shape?, hd.heap]) (by simp [World.shape?, hr.heap]) (by omega) ((str_cells hd.heap).2 _) ((str_cells hd.heap).2 _)).mono ?_
    rintro e w' ⟨rfl, rfl⟩
    have e1 := setCells_row ((l.map Value.string).drop i) (0 + (i + ys.length)) w.drew C.toArray hr.heap (by rw [hdl]; simp; omega)
    rw [e1]
    have hg1 := setRow_heap w.drew g C.toArray (C.toArray.toList.take (0 + (i + ys.length)) ++ (l.map Value.string).drop i ++ C.toArray.toList.drop (0 + (i + ys.length) + ((l.map Value.string).drop i).length)).toArray 9 (0, 0) hr.heap
    rw [setCells_row (ys.map Value.string) (0 + i) _ _ hg1 (by simp; omega), setRow_setRow]
    have hg2 := setRow_heap w.drew g C.toArray ((C.toArray.toList.take (0 + (i + ys.length)) ++ (l.map Value.string).drop i ++ C.toArray.toList.drop (0 + (i + ys.length) + ((l.map Value.string).drop i).length)).toArray.toList.take (0 + i) ++ ys.map Value.string ++ (C.toArray.toList.take (0 + (i + ys.length)) ++ (l.map Value.string).drop i ++ C.toArray.toList.drop (0 + (i + ys.length) + ((l.map Value.string).drop i).length)).toArray.toList.drop (0 + i + (ys.map Value.string).length)).toArray 9 (0, 0) hr.heap
    have hCm : (C.take (i + ys.length)).length = i + ys.length := by rw [List.length_take]; omega
    have eX : (C.toArray.toList.take (0 + (i + ys.length)) ++ (l.map Value.string).drop i ++ C.toArray.toList.drop (0 + (i + ys.length) + ((l.map Value.string).drop i).length)).toArray.toList.take (0 + i) ++ ys.map Value.string ++ (C.toArray.toList.take (0 + (i + ys.length)) ++ (l.map Value.string).drop i ++ C.toArray.toList.drop (0 + (i + ys.length) + ((l.map Value.string).drop i).length)).toArray.toList.drop (0 + i + (ys.map Value.string).length)
        = (l.map Value.string).take i ++ ys.map Value.string ++ (l.map Value.string).drop i ++ C.drop (l.length + ys.length) := by
      simp only [Nat.zero_add, List.toList_toArray]
      rw [hyl2, hdl, List.append_assoc (C.take _), List.take_append_of_le_length (by omega), List.take_take, Nat.min_eq_left (by omega), dropApp0 hCm, hCtk, show i + ys.length + (l.length - i) = l.length + ys.length by omega]
      simp
    rw [eX] at hg2
    rw [eX]
    have hown := Own.ofRow (base := base) (lo := lo) (g := g) (l := l.take i ++ ys ++ l.drop i) (C := (l.map Value.string).take i ++ ys.map Value.string ++ (l.map Value.string).drop i ++ C.drop (l.length + ys.length)) ⟨hg2, by simp <;> omega, by
      rw [takeApp0 (by simp <;> omega)]
      simp⟩ hb (by simp <;> omega)
    have hlen : ((l.map Value.string).take i ++ ys.map Value.string ++ (l.map Value.string).drop i ++ C.drop (l.length + ys.length)).length = C.length := by simp <;> omega
    rw [hlen] at hown
    exact ⟨g, C.length, by rw [hll], hown, gbTrans (grown_drew w g) (grown_setRow _ g _), .inl rfl⟩
  · have hgl := heap_lt hr.heap
    refine (Any2.slices_Insert_string_grow inLays g 0 l.length C.length i vb 0 ys.length D.length (l.map Value.string) (ys.map Value.string) w hi h0 hr.fits (by omega) (by omega) hcl hyl2 hcc hvs (h1c l) (h1c ys)).mono ?_
    rintro e w' ⟨rfl, rfl⟩
    obtain ⟨G, hG⟩ : ∃ G, grownCap w (l.length + ys.length) C.length (inRen.t 9) = G := ⟨_, rfl⟩
    have hGn : l.length + ys.length ≤ G := by rw [← hG]; exact grownCap_ge w _ _ _
    have hG63 : G ≤ maxLen := by rw [← hG]; exact grownCap_le_maxLen w _ _ _ (by unfold maxLen; omega)
    rw [hG]
    obtain ⟨Z, hZ⟩ : ∃ Z : List Value, (Builtin.zeroCells (Value.string ⟨#[]⟩).cells (l.length + ys.length - i) ++ Builtin.zeroCells (Value.string ⟨#[]⟩).cells (G - (l.length + ys.length))).toList = Z := ⟨_, rfl⟩
    have hZl : Z.length = G - i := by
      rw [← hZ]
      simp [Builtin.zeroCells, Value.cells]
      omega
    have eROW : ((l.map Value.string).take i).toArray ++ Builtin.zeroCells (Value.string ⟨#[]⟩).cells (l.length + ys.length - i) ++ Builtin.zeroCells (Value.string ⟨#[]⟩).cells (G - (l.length + ys.length)) = ((l.map Value.string).take i ++ Z).toArray := by
      rw [← hZ, Array.append_assoc]
      apply Array.toList_inj.1
      simp
    rw [eROW]
    have hN : ((w.alloc (.cells ((l.map Value.string).take i ++ Z).toArray (inRen.t 9))).drew).heap[w.heap.size]? = some (.cells ((l.map Value.string).take i ++ Z).toArray 9 (0, 0)) := heap_alloc_new w _
    have e1 := setCells_row (ys.map Value.string) i _ _ hN (by simp <;> omega)
    simp only [List.toList_toArray] at e1
    rw [takeApp0 hLi, hyl2, dropApp hLi] at e1
    rw [e1]
    obtain ⟨W1, hW1⟩ : ∃ W1, ((w.alloc (.cells ((l.map Value.string).take i ++ Z).toArray (inRen.t 9))).drew).setRow w.heap.size ((l.map Value.string).take i ++ ys.map Value.string ++ Z.drop ys.length).toArray = W1 := ⟨_, rfl⟩
    have hg1 : W1.drew.heap[w.heap.size]? = some (.cells ((l.map Value.string).take i ++ ys.map Value.string ++ Z.drop ys.length).toArray 9 (0, 0)) := by rw [← hW1]; exact setRow_heap _ _ _ _ _ _ hN
    have q1 : ∀ j, j < w.heap.size → W1.heap[j]? = w.heap[j]? := fun j hj => by
      rw [← hW1, setRow_other _ _ _ _ (by omega)]
      exact Below.heap_alloc w _ j hj
    have q2 : W1.heap.size = w.heap.size + 1 := by rw [← hW1]; simp
    have q3 : W1.os = w.os ∧ W1.tape = w.tape ∧ W1.output = w.output := by rw [← hW1]; exact ⟨rfl, rfl, rfl⟩
    rw [hW1]
    have hAm : ((l.map Value.string).take i ++ ys.map Value.string).length = i + ys.length := by rw [List.length_append, hLi, hyl2]
    have e2 := setCells_row ((l.map Value.string).drop i) (i + ys.length) _ _ hg1 (by simp <;> omega)
    simp only [List.toList_toArray] at e2
    rw [takeApp0 hAm, hdl, dropApp hAm, List.drop_drop] at e2
    rw [e2]
    have hg2 := setRow_heap W1.drew w.heap.size _ ((l.map Value.string).take i ++ ys.map Value.string ++ (l.map Value.string).drop i ++ Z.drop (ys.length + (l.length - i))).toArray 9 (0, 0) hg1
    have hXl : ((l.map Value.string).take i ++ ys.map Value.string ++ (l.map Value.string).drop i ++ Z.drop (ys.length + (l.length - i))).length = G := by simp <;> omega
    have hown := Own.ofRow (base := base) (lo := lo) (g := w.heap.size) (l := l.take i ++ ys ++ l.drop i) ⟨hg2, by rw [hXl, hll]; exact hGn, by
      rw [takeApp0 (by simp <;> omega)]
      simp⟩ (by omega) (by rw [hXl]; exact hG63)
    rw [hXl] at hown
    refine ⟨w.heap.size, G, by rw [hll], hown, ⟨q3.1, q3.2.1, q3.2.2, by simp; omega, fun j hj _ => ?_⟩, .inr rfl⟩
    rw [setRow_other _ _ _ _ (by omega)]
    exact q1 j hj
end Go.Proofs.YtnnnmbipmfopmaaGreatDoor

/- slices.Insert behind all, and the pieces of slices.Replace, of texts in a row of one's own. -/
namespace Go.Proofs.YtnnnmbipmfopmaaGreatDoor
set_option linter.unusedVariables false
open Go.RowKit Go.Sort

def RepS (base lo : Nat) (l : List ByteArray) (v0 : Value) (w : World) (e : Ending) (w' : World) : Prop := ∃ g' cap', e = .returned (.slice (some ⟨g', 0, none⟩) l.length cap') ∧ Own strR w' base lo 9 l (.slice (some ⟨g', 0, none⟩) l.length cap') ∧ w.grownBy w' v0.ownBlock ∧ (v0.ownBlock = some g' ∨ g' = w.heap.size)
theorem strOne (l : List ByteArray) : ∀ v ∈ l.map Value.string, v.oneCell' = true := fun v hv => by
  obtain ⟨y, _, rfl⟩ := List.mem_map.1 hv
  rfl
theorem strSize : (Tryz.prog.info? 9).map (·.size) = some 1 := by kernel_rfl
/-- Cells copied into a row. -/
theorem copyR {W : World} {g o : Nat} {X cs : List Value} {a : Addr} {sLen dLen : Nat} (hg : W.heap[g]? = some (.cells X.toArray 9 (0, 0))) (hn : cs.length = Nat.min sLen dLen) (hsrc : ∀ j v, cs[j]? = some v → W.cell? (a.add j) = some v) (hfit : o + cs.length ≤ X.length) (h1 : ∀ v ∈ cs, v.oneCell' = true) (ty : TypeId) (dc sc : Nat) :
    (Builtin.copy_ #[26, 26] ty #[.slice (some ⟨g, o, none⟩) dLen dc, .slice (some a) sLen sc]).run Tryz.prog W = .ok (goInt cs.length) (W.setRow g (X.take o ++ cs ++ X.drop (o + cs.length)).toArray) := by
  have := run_copy_row (P := Tryz.prog) W 26 26 ty 9 g o dLen dc a sLen sc X.toArray 9 cs Tryz.underlying26 strSize hg hn hsrc (by simpa using hfit) h1
  simpa using this
/-- Cells of a row cleared. -/
theorem clearR {W : World} {g o n : Nat} {X : List Value} (hg : W.heap[g]? = some (.cells X.toArray 9 (0, 0))) (hn : 0 < n) (hfit : o + n ≤ X.length) (ty : TypeId) (dc : Nat) :
    (Builtin.clear_ #[26] ty #[.slice (some ⟨g, o, none⟩) n dc]).run Tryz.prog W = .ok (.tuple #[]) (W.setRow g (X.take o ++ List.replicate n (Value.string ⟨#[]⟩) ++ X.drop (o + n)).toArray) := by
  have h := Lib.run_clear_slice W 26 9 ty (.string ⟨#[]⟩) Tryz.underlying26 Tryz.zeroValue9 rfl rfl g o n dc hn (fun j hj => by
    rw [(str_cells hg).1]
    simp only [List.getElem?_toArray]
    rw [List.getElem?_eq_getElem (by omega)]
    rfl) (fun j _ => (str_cells hg).2 _)
  rw [h, setCells_row _ _ _ _ hg (by simp <;> omega)]
  simp
theorem clearN {W : World} (A : Option Addr) (c : Nat) (ty : TypeId) : (Builtin.clear_ #[26] ty #[.slice A 0 c]).run Tryz.prog W = .ok (.tuple #[]) W := by
  have ht := run_underlying (P := Tryz.prog) Tryz.underlying26
  cases A with
  | none => simp [Builtin.clear_, ht]
  | some a => simp [Builtin.clear_, ht]
set_option maxRecDepth 100000 in
set_option maxHeartbeats 2000000 in
theorem insE_c {F : Nat → Prop} (base lo i : Nat) (l ys : List ByteArray) (vv : Value) (A : Option Addr) (n c : Nat) (w : World) (h : Own strR w base lo 9 l (.slice A n c)) (hi : i = l.length) (hl : l.length ≤ 1000000000) (hy : RowX w F ys vv) (hyl : ys.length ≤ 1000000) (h0 : 0 < ys.length) (hbs : base ≤ w.heap.size) :
    Calls Tryz.prog 27 #[.slice A n c, .int .i64 i, vv] w (RepS base lo (l ++ ys) (.slice A n c) w) := by
  obtain ⟨i0, hi0, hz0, hz1, hz2⟩ := info_parts (show (Tryz.prog.info? 9).map (fun i => (i.zero, i.size, i.bytes)) = some (some (.string ⟨#[]⟩), 1, 16) by kernel_rfl)
  have hsl := hy.sli
  rcases hy with ⟨_, rfl⟩ | ⟨vb, D, rfl, hvF, hd, hdm⟩
  · cases h0
  obtain ⟨dc, hdc⟩ : ∃ dc, D.length = dc := ⟨_, rfl⟩
  obtain ⟨m, hm⟩ : ∃ m, ys.length = m := ⟨_, rfl⟩
  rw [hdc, hm] at hsl
  rw [hdc, hm]
  rw [hm] at h0 hyl
  have HM := Lib.hid hm
  have HSL := Lib.hid hsl
  have hnl : n = l.length := by
    obtain ⟨k, h1 | ⟨g, h1⟩⟩ := own_nilForm h <;> cases h1 <;> rfl
  have hlc : n ≤ c ∧ c ≤ 9223372036854775807 := by
    obtain ⟨A', c', he, h1, h2⟩ := (h.sli (F := fun _ => True) (fun _ _ _ => trivial) (fun _ _ => trivial)).form
    cases he
    exact ⟨h1, h2⟩
  subst hi
  subst hnl
  obtain ⟨L, hL⟩ : ∃ L, l.length = L := ⟨_, rfl⟩
  rw [hL] at h hl hlc ⊢
  have HOW := Lib.hid h
  have HLL := Lib.hid hL
  have hfin : ∀ w' g7 cap7, Own strR w' base lo 9 (l ++ ys) (.slice (some ⟨g7, 0, none⟩) (L + m) cap7) → w.grownBy w' (Value.slice A L c).ownBlock → ((Value.slice A L c).ownBlock = some g7 ∨ g7 = w.heap.size) → RepS base lo (l ++ ys) (.slice A L c) w (.returned (.slice (some ⟨g7, 0, none⟩) (L + m) cap7)) w' := fun w' g7 cap7 h1 h2 h3 => by
    have e : (l ++ ys).length = L + m := by rw [List.length_append, HM.out, HLL.out]
    exact ⟨_, _, by rw [e], by rw [e]; exact h1, h2, h3⟩
  have HFIN := Lib.hid hfin
  clear h hL hsl hm hd hdm hdc hvF hfin
  have hm0 : ¬ (m : Int) = 0 := by omega
  have hm1 : ¬ m = 0 := by omega
  by_cases hcL : c = L
  · subst hcL
    go_enter Tryz.func27, Tryz.ntmps27
    go_upto_region 7 with (fail)
    have hll := HLL.out
    go_wp2_with (at_builtin; (refine wpList_appL (enc := fun s : ByteArray => [.string s]) (hn := fun _ => rfl) rfl _ _ _ rfl base lo 9 i0 _ 16 Tryz.underlying26 hi0 hz0 hz1 hz2 rfl (by decide) (fun x u hu => by simp at hu; subst hu; rfl) _ (.slice A c c) l rfl HOW.out ys _ m _ rfl HSL.out HM.out h0 (by unfold maxLen; omega) (by omega) hbs ?_); intro g7 cap7 w7 hown7 hg7 hat7 hlt7)
    go_ret
    rw [hll] at hown7
    exact HFIN.out _ _ _ hown7 hg7 hat7
  · skip
    go_enter Tryz.func27, Tryz.ntmps27
    go_upto_region 7 with (fail)
    have hll := HLL.out
    go_wp2_with (at_builtin; (refine wpList_appL (enc := fun s : ByteArray => [.string s]) (hn := fun _ => rfl) rfl _ _ _ rfl base lo 9 i0 _ 16 Tryz.underlying26 hi0 hz0 hz1 hz2 rfl (by decide) (fun x u hu => by simp at hu; subst hu; rfl) _ (.slice A L c) l rfl HOW.out ys _ m _ rfl HSL.out HM.out h0 (by unfold maxLen; omega) (by omega) hbs ?_); intro g7 cap7 w7 hown7 hg7 hat7 hlt7)
    go_ret
    rw [hll] at hown7
    exact HFIN.out _ _ _ hown7 hg7 hat7
end Go.Proofs.YtnnnmbipmfopmaaGreatDoor

/- slices.Replace of texts in a row of one's own: what is put in fits into the place of what goes. -/
namespace Go.Proofs.YtnnnmbipmfopmaaGreatDoor
set_option linter.unusedVariables false
open Go.RowKit Go.Sort

/-- A given row copied into a row of one's own. -/
theorem copyV {F : Nat → Prop} {ys : List ByteArray} {vv : Value} {W : World} (hy : RowX W F ys vv) : ∃ Av cv, vv = .slice Av ys.length cv ∧ ys.length ≤ cv ∧ cv ≤ 9223372036854775807 ∧ ∀ (g o : Nat) (X : List Value) (dLen : Nat), W.heap[g]? = some (.cells X.toArray 9 (0, 0)) → ys.length ≤ dLen → o + ys.length ≤ X.length →
    ∀ (ty : TypeId) (dc : Nat), (Builtin.copy_ #[26, 26] ty #[.slice (some ⟨g, o, none⟩) dLen dc, .slice Av ys.length cv]).run Tryz.prog W = .ok (goInt ys.length) (W.setRow g (X.take o ++ ys.map Value.string ++ X.drop (o + ys.length)).toArray) := by
  rcases hy with ⟨rfl, rfl⟩ | ⟨vb, D, rfl, _, hd, hdm⟩
  · refine ⟨none, 0, rfl, Nat.le_refl _, by decide, fun g o X dLen hg _ _ ty dc => ?_⟩
    have h := Go.run_copy_none (P := Tryz.prog) W 26 26 ty 9 (some ⟨g, o, none⟩) none dLen dc 0 0 Tryz.underlying26 strSize (by simp)
    have e : (X.take o ++ ([] : List ByteArray).map Value.string ++ X.drop (o + ([] : List ByteArray).length)).toArray = X.toArray := by simp
    rw [e, setRow_self W g _ _ _ hg]
    exact h
  · refine ⟨some ⟨vb, 0, none⟩, D.length, rfl, hd.fits, by unfold maxLen at hdm; omega, fun g o X dLen hg h1 h2 ty dc => ?_⟩
    have h := copyR (W := W) (g := g) (o := o) (X := X) (cs := ys.map Value.string) (a := ⟨vb, 0, none⟩) (sLen := ys.length) (dLen := dLen) hg (by rw [map_len]; simp only [Nat.min_def]; split <;> omega) (fun j v hj => by
      rw [addrAdd, Nat.zero_add, hd.cell]
      rw [← hd.at_, List.getElem?_take] at hj
      split at hj
      · exact hj
      · cases hj) (by rw [map_len]; exact h2) (strOne ys) ty dc D.length
    rw [map_len] at h
    exact h
set_option maxRecDepth 100000 in
set_option maxHeartbeats 4000000 in
theorem rplFit {F : Nat → Prop} (base lo g i j n m cp : Nat) (l ys : List ByteArray) (C : List Value) (vv : Value) (w : World) (hr : RowC w g C l) (hb : base ≤ g) (hmx : cp ≤ maxLen) (hn : l.length = n) (hm : ys.length = m) (hc : C.length = cp) (hij : i < j) (hjn : j < n) (hfit : i + m ≤ j) (hy : RowX w F ys vv) (hl : n ≤ 1000000000) :
    Calls Tryz.prog 23 #[.slice (some ⟨g, 0, none⟩) n cp, .int .i64 i, .int .i64 j, vv] w (RepS base lo (l.take i ++ (ys ++ l.drop j)) (.slice (some ⟨g, 0, none⟩) n cp) w) := by
  have hcp : cp ≤ 9223372036854775807 := by unfold maxLen at hmx; omega
  have hnc : n ≤ cp := by have := hr.fits; omega
  obtain ⟨Av, cv, rfl, hv1, hv2, hcpV⟩ := copyV (W := w.drew) (hy.keep (fun _ _ => rfl))
  rw [hm] at hcpV hv1 ⊢
  obtain ⟨tot, htot⟩ : ∃ tot, i + m + (n - j) = tot := ⟨_, rfl⟩
  have hcpA := fun ty dc => hcpV g i C (tot - i) hr.heap (by omega) (by omega) ty dc
  obtain ⟨X1, hX1⟩ : ∃ X1, C.take i ++ ys.map Value.string ++ C.drop (i + m) = X1 := ⟨_, rfl⟩
  rw [hX1] at hcpA
  have hX1l : X1.length = cp := by rw [← hX1]; simp; omega
  obtain ⟨W1, hW1⟩ : ∃ W1, w.drew.setRow g X1.toArray = W1 := ⟨_, rfl⟩
  have hg1 : W1.heap[g]? = some (.cells X1.toArray 9 (0, 0)) := by rw [← hW1]; exact setRow_heap _ _ _ _ _ _ hr.heap
  have hCi : (C.take i ++ ys.map Value.string).length = i + m := by simp; omega
  have hdl : ((l.map Value.string).drop j).length = n - j := by simp; omega
  -- what lies behind the cut is where it was
  have hget : ∀ k v, ((l.map Value.string).drop j)[k]? = some v → X1[j + k]? = some v := fun k v hk => by
    rw [← hX1, List.getElem?_append_right (by omega), List.getElem?_drop, hCi, show i + m + (j + k - (i + m)) = j + k by omega]
    rw [← hr.at_, List.getElem?_drop, List.getElem?_take] at hk
    split at hk
    · exact hk
    · cases hk
  have hcpB := fun ty dc sc => copyR (W := W1.drew) (g := g) (o := i + m) (X := X1) (cs := (l.map Value.string).drop j) (a := ⟨g, j, none⟩) (sLen := n - j) (dLen := tot - (i + m)) hg1 (by rw [hdl]; simp only [Nat.min_def]; split <;> omega) (fun k v hk => by
      rw [addrAdd, (str_cells (w := W1.drew) hg1).1]
      simpa using hget k v hk) (by omega) (fun v hv => strOne l v (List.mem_of_mem_drop hv)) ty dc sc
  rw [hdl, show i + m + (n - j) = tot from htot] at hcpB
  obtain ⟨X2, hX2⟩ : ∃ X2, X1.take (i + m) ++ (l.map Value.string).drop j ++ X1.drop tot = X2 := ⟨_, rfl⟩
  rw [hX2] at hcpB
  have hX2l : X2.length = cp := by rw [← hX2]; simp; omega
  have hX2t : X2.take tot = (l.map Value.string).take i ++ ys.map Value.string ++ (l.map Value.string).drop j := by
    rw [← hX2, ← hX1, takeApp0 hCi, takeApp0 (by rw [List.length_append, hCi, hdl]; exact htot)]
    rw [← hr.at_, List.take_take, Nat.min_eq_left (by omega)]
  obtain ⟨W2, hW2⟩ : ∃ W2, W1.drew.setRow g X2.toArray = W2 := ⟨_, rfl⟩
  have hg2 : W2.heap[g]? = some (.cells X2.toArray 9 (0, 0)) := by rw [← hW2]; exact setRow_heap _ _ _ _ _ _ hg1
  have hgw : w.grownBy W2 (some g) := by
    rw [← hW2, ← hW1]
    exact gbTrans (gbTrans (gbTrans (grown_drew w g) (grown_setRow _ g _)) (grown_drew _ g)) (grown_setRow _ g _)
  have hll : (l.take i ++ (ys ++ l.drop j)).length = tot := by simp; omega
  have HFIN := Lib.hid (fun (W : World) (X : List Value) (h1 : W.heap[g]? = some (.cells X.toArray 9 (0, 0))) (h2 : X.length = cp) (h3 : X.take tot = X2.take tot) (h4 : w.grownBy W (some g)) => show RepS base lo (l.take i ++ (ys ++ l.drop j)) (.slice (some ⟨g, 0, none⟩) n cp) w (.returned (.slice (some ⟨g, 0, none⟩) tot cp)) W from by
    refine ⟨g, cp, by rw [hll], ?_, h4, .inl rfl⟩
    have := Own.ofRow (base := base) (lo := lo) (w := W) (g := g) (C := X) (l := l.take i ++ (ys ++ l.drop j)) ⟨h1, by omega, by rw [hll, h3, hX2t]; simp⟩ hb (by omega)
    rw [h2] at this
    exact this)
  have HCL : Hid (tot < n → ∀ ty dc, (Builtin.clear_ #[26] ty #[.slice (some ⟨g, tot, none⟩) (n - tot) dc]).run Tryz.prog W2 = .ok (.tuple #[]) (W2.setRow g (X2.take tot ++ List.replicate (n - tot) (Value.string ⟨#[]⟩) ++ X2.drop n).toArray)) := Lib.hid (fun ht ty dc => by
    have := clearR (W := W2) (g := g) (o := tot) (n := n - tot) (X := X2) hg2 (by omega) (by omega) ty dc
    rw [show tot + (n - tot) = n by omega] at this
    exact this)
  have HG2 := Lib.hid hg2
  have HGW := Lib.hid hgw
  rw [hW1] at hcpA
  rw [hW2] at hcpB
  have HCB := Lib.hid hcpB
  have hij1 : ¬ (i : Int) = (j : Int) := by omega
  have hjn1 : ¬ (j : Int) = (n : Int) := by omega
  have htot1 : (i : Int) + (m : Int) + ((n - j : Nat) : Int) = (tot : Int) := by omega
  clear hr hy hcpV hcpB hX1 hg1 hW1 hg2 hW2 hX2t hX2 hget hgw hCi hdl hll hc hn hm hX1l
  go_enter Tryz.func23, Tryz.ntmps23
  go_upto_region 9 with (fail)
  go_region
  have htc : ¬ (cp : Int) < (tot : Int) := by omega
  have htc2 : tot ≤ cp := by omega
  have him : (i : Int) + (m : Int) ≤ (j : Int) := by omega
  have him2 : i + m ≤ tot := by omega
  have hit : i ≤ tot := by omega
  have hci : ¬ cp = i := by omega
  have hcj : ¬ cp = j := by omega
  have hcim : ¬ cp = i + m := by omega
  have mixed : Tryz.prog.follows .mixedOrders = true := by kernel_rfl
  have hw1 : IntKind.i64.wrap ((i : Int) + (m : Int)) = (i : Int) + (m : Int) := by rw [IntKind.wrap_i64]; omega
  have hb1 : (0 : Int) ≤ (i : Int) + (m : Int) := by omega
  have htn1 : ((i : Int) + (m : Int)).toNat = i + m := by omega
  have hb3 : (i : Int) + (m : Int) ≤ (tot : Int) := by omega
  have hjle : j ≤ n := by omega
  have hgj : (⟨g, 0, none⟩ : Addr).add j = ⟨g, j, none⟩ := by rw [addrAdd, Nat.zero_add]
  by_cases ht : tot < n
  · have hcl := HCL.out ht
    have hct : ¬ cp = tot := by omega
    have htn : tot ≤ n := by omega
    clear HCL
    have hcpB := HCB.out
    clear HCB
    go_wp2_with fail
    go_region_law_o (refine step_copy_runI rfl _ _ 26 26 rfl _ _ (by simp [Act.eval, Act.put]) (by simp [Act.eval, Act.put]) (hcpB _ _ _) ?_)
    go_wp2_with fail
    go_ret
    exact HFIN.out _ _ (setRow_heap _ _ _ _ _ _ HG2.out) (by simp <;> omega) (takeApp0 (by rw [List.length_take]; omega)) (gbTrans HGW.out (grown_setRow _ g _))
  · have htn : tot = n := by omega
    subst htn
    have hcl0 : ∀ A c ty, (Builtin.clear_ #[26] ty #[.slice A 0 c]).run Tryz.prog W2 = .ok (.tuple #[]) W2 := fun A c ty => clearN A c ty
    have hcpB := HCB.out
    clear HCB HCL
    by_cases hct : cp = tot
    · subst hct
      go_wp2_with fail
      go_region_law_o (refine step_copy_runI rfl _ _ 26 26 rfl _ _ (by simp [Act.eval, Act.put]) (by simp [Act.eval, Act.put]) (hcpB _ _ _) ?_)
      go_wp2_with fail
      go_ret
      exact HFIN.out _ _ HG2.out hX2l rfl HGW.out
    · go_wp2_with fail
      go_region_law_o (refine step_copy_runI rfl _ _ 26 26 rfl _ _ (by simp [Act.eval, Act.put]) (by simp [Act.eval, Act.put]) (hcpB _ _ _) ?_)
      go_wp2_with fail
      go_ret
      exact HFIN.out _ _ HG2.out hX2l rfl HGW.out
end Go.Proofs.YtnnnmbipmfopmaaGreatDoor

/- slices.Replace of texts in a row of one's own: what goes is the row's end. -/
namespace Go.Proofs.YtnnnmbipmfopmaaGreatDoor
set_option linter.unusedVariables false
open Go.RowKit Go.Sort

/-- A given row appended to the beginning of a row of one's own that has room. -/
theorem appV {F : Nat → Prop} {ys : List ByteArray} {vv : Value} {W : World} (hy : RowX W F ys vv) : ∃ Av cv, vv = .slice Av ys.length cv ∧ ys.length ≤ cv ∧ cv ≤ 9223372036854775807 ∧ ∀ (g i : Nat) (X : List Value), W.heap[g]? = some (.cells X.toArray 9 (0, 0)) → i + ys.length ≤ X.length →
    ∀ (ty : TypeId), (Builtin.append_ #[26, 26] ty #[.slice (some ⟨g, 0, none⟩) i X.length, .slice Av ys.length cv]).run Tryz.prog W = .ok (.slice (some ⟨g, 0, none⟩) (i + ys.length) X.length) (W.setRow g (X.take i ++ ys.map Value.string ++ X.drop (i + ys.length)).toArray) := by
  obtain ⟨i0, hi0, hz0, hz1, hz2⟩ := info_parts (show (Tryz.prog.info? 9).map (fun i => (i.zero, i.size, i.bytes)) = some (some (.string ⟨#[]⟩), 1, 16) by kernel_rfl)
  rcases hy with ⟨rfl, rfl⟩ | ⟨vb, D, rfl, _, hd, hdm⟩
  · refine ⟨none, 0, rfl, Nat.le_refl _, by decide, fun g i X hg h1 ty => ?_⟩
    have e : (X.take i ++ ([] : List ByteArray).map Value.string ++ X.drop (i + ([] : List ByteArray).length)).toArray = X.toArray := by simp
    rw [e, setRow_self W g _ _ _ hg]
    have hnc : i ≤ X.length := by simpa using h1
    simp [Builtin.append_, run_underlying (P := Tryz.prog) Tryz.underlying26, sizeOf, typeInfo, hi0, Builtin.lenOf, Builtin.firstCells, loadCells, loadCellsFrom, hnc, storeCells]
  · refine ⟨some ⟨vb, 0, none⟩, D.length, rfl, hd.fits, by unfold maxLen at hdm; omega, fun g i X hg h1 ty => ?_⟩
    have h := run_append_room (P := Tryz.prog) W 26 ty 9 i0 Tryz.underlying26 hi0 g i X.length X.toArray hg ⟨vb, 0, none⟩ ys.length D.length (ys.map Value.string) (by rw [map_len, hz1, Nat.mul_one]) (fun j v hj => by
      rw [addrAdd, Nat.zero_add, hd.cell]
      rw [← hd.at_, List.getElem?_take] at hj
      split at hj
      · exact hj
      · cases hj) (strOne ys) h1 (by rw [hz1, map_len]; simpa using h1)
    rw [hz1, Nat.mul_one, map_len] at h
    exact h
set_option maxRecDepth 100000 in
set_option maxHeartbeats 4000000 in
theorem rplEnd {F : Nat → Prop} (base lo g i n m cp : Nat) (l ys : List ByteArray) (C : List Value) (vv : Value) (w : World) (hr : RowC w g C l) (hb : base ≤ g) (hmx : cp ≤ maxLen) (hn : l.length = n) (hm : ys.length = m) (hc : C.length = cp) (hij : i < n) (hfit : i + m < n) (hy : RowX w F ys vv) (hl : n ≤ 1000000000) :
    Calls Tryz.prog 23 #[.slice (some ⟨g, 0, none⟩) n cp, .int .i64 i, .int .i64 n, vv] w (RepS base lo (l.take i ++ ys) (.slice (some ⟨g, 0, none⟩) n cp) w) := by
  have hcp : cp ≤ 9223372036854775807 := by unfold maxLen at hmx; omega
  have hnc : n ≤ cp := by have := hr.fits; omega
  obtain ⟨Av, cv, rfl, hv1, hv2, happ⟩ := appV hy
  rw [hm] at happ hv1 ⊢
  have hapA := fun ty => happ g i C hr.heap (by omega) ty
  obtain ⟨X1, hX1⟩ : ∃ X1, C.take i ++ ys.map Value.string ++ C.drop (i + m) = X1 := ⟨_, rfl⟩
  rw [hX1, hc] at hapA
  have hX1l : X1.length = cp := by rw [← hX1]; simp; omega
  obtain ⟨W1, hW1⟩ : ∃ W1, w.setRow g X1.toArray = W1 := ⟨_, rfl⟩
  rw [hW1] at hapA
  have hg1 : W1.heap[g]? = some (.cells X1.toArray 9 (0, 0)) := by rw [← hW1]; exact setRow_heap _ _ _ _ _ _ hr.heap
  have hgw : w.grownBy W1 (some g) := by rw [← hW1]; exact grown_setRow _ g _
  have hCi : (C.take i ++ ys.map Value.string).length = i + m := by simp; omega
  obtain ⟨tot, htot⟩ : ∃ tot, i + m = tot := ⟨_, rfl⟩
  rw [htot] at hapA
  have hll : (l.take i ++ ys).length = tot := by simp; omega
  have hXt : X1.take tot = (l.take i ++ ys).map Value.string := by
    rw [← hX1, takeApp0 (by rw [hCi]; exact htot), List.map_append, List.map_take, ← hr.at_, List.take_take, Nat.min_eq_left (by omega)]
  have HFIN := Lib.hid (fun (W : World) (X : List Value) (h1 : W.heap[g]? = some (.cells X.toArray 9 (0, 0))) (h2 : X.length = cp) (h3 : X.take tot = X1.take tot) (h4 : w.grownBy W (some g)) => show RepS base lo (l.take i ++ ys) (.slice (some ⟨g, 0, none⟩) n cp) w (.returned (.slice (some ⟨g, 0, none⟩) tot cp)) W from by
    refine ⟨g, cp, by rw [hll], ?_, h4, .inl rfl⟩
    have := Own.ofRow (base := base) (lo := lo) (w := W) (g := g) (C := X) (l := l.take i ++ ys) ⟨h1, by omega, by rw [hll, h3, hXt]⟩ hb (by omega)
    rw [h2] at this
    exact this)
  have hcl : ∀ ty dc, (Builtin.clear_ #[26] ty #[.slice (some ⟨g, tot, none⟩) (n - tot) dc]).run Tryz.prog W1 = .ok (.tuple #[]) (W1.setRow g (X1.take tot ++ List.replicate (n - tot) (Value.string ⟨#[]⟩) ++ X1.drop n).toArray) := fun ty dc => by
    have := clearR (W := W1) (g := g) (o := tot) (n := n - tot) (X := X1) hg1 (by omega) (by omega) ty dc
    rw [show tot + (n - tot) = n by omega] at this
    exact this
  have HG1 := Lib.hid hg1
  have HGW := Lib.hid hgw
  have HAP := Lib.hid hapA
  have htn : tot ≤ n := by omega
  have hct : ¬ cp = tot := by omega
  have hlt : (tot : Int) < (n : Int) := by omega
  have hin : ¬ (i : Int) = (n : Int) := by omega
  clear hr hy happ hapA hX1 hg1 hW1 hgw hCi hll hc hn hm hXt
  go_enter Tryz.func23, Tryz.ntmps23
  go_upto_region 5 with (fail)
  go_wp2_with (at_builtin; refine Lib.wpList_append_run _ rfl _ _ _ _ rfl _ _ rfl rfl _ _ (HAP.out _) ?_)
  go_ret
  exact HFIN.out _ _ (setRow_heap _ _ _ _ _ _ HG1.out) (by simp <;> omega) (takeApp0 (by rw [List.length_take]; omega)) (gbTrans HGW.out (grown_setRow _ g _))
set_option maxRecDepth 100000 in
set_option maxHeartbeats 4000000 in
theorem rplMore {F : Nat → Prop} (base lo g i n m cp : Nat) (l ys : List ByteArray) (C : List Value) (vv : Value) (w : World) (hr : RowC w g C l) (hb : base ≤ g) (hbs : base ≤ w.heap.size) (hmx : cp ≤ maxLen) (hn : l.length = n) (hm : ys.length = m) (hc : C.length = cp) (hij : i < n) (hfit : n ≤ i + m) (hy : RowX w F ys vv) (hl : n ≤ 1000000000) (hml : m ≤ 1000000) :
    Calls Tryz.prog 23 #[.slice (some ⟨g, 0, none⟩) n cp, .int .i64 i, .int .i64 n, vv] w (RepS base lo (l.take i ++ ys) (.slice (some ⟨g, 0, none⟩) n cp) w) := by
  obtain ⟨i0, hi0, hz0, hz1, hz2⟩ := info_parts (show (Tryz.prog.info? 9).map (fun i => (i.zero, i.size, i.bytes)) = some (some (.string ⟨#[]⟩), 1, 16) by kernel_rfl)
  have hcp : cp ≤ 9223372036854775807 := by unfold maxLen at hmx; omega
  have hnc : n ≤ cp := by have := hr.fits; omega
  have hs := hy.sli
  obtain ⟨Av, cv, rfl, hv1, hv2, _⟩ := appV hy
  rw [hm] at hs hv1 ⊢
  have hti : (l.take i).length = i := by simp; omega
  have hown := Own.ofRow (base := base) (lo := lo) (w := w) (g := g) (C := C) (l := l.take i) ⟨hr.heap, by rw [hti]; omega, by rw [hti, List.map_take, ← hr.at_, List.take_take, Nat.min_eq_left (by omega)]⟩ hb (by omega)
  rw [hti, hc] at hown
  have HOW := Lib.hid hown
  have HSL := Lib.hid hs
  have HM := Lib.hid hm
  have HTI := Lib.hid hti
  have HFIN := Lib.hid (fun (w' : World) (g7 cap7 : Nat) (h1 : Own strR w' base lo 9 (l.take i ++ ys) (.slice (some ⟨g7, 0, none⟩) (i + m) cap7)) (h2 : w.grownBy w' (some g)) (h3 : some g = some g7 ∨ g7 = w.heap.size) => show RepS base lo (l.take i ++ ys) (.slice (some ⟨g, 0, none⟩) n cp) w (.returned (.slice (some ⟨g7, 0, none⟩) (i + m) cap7)) w' from by
    have e : (l.take i ++ ys).length = i + m := by rw [List.length_append, hti, hm]
    exact ⟨_, _, by rw [e], by rw [e]; exact h1, h2, h3⟩)
  have hin : ¬ (i : Int) = (n : Int) := by omega
  have hlt : ¬ ((i + m : Nat) : Int) < (n : Int) := by omega
  have hm0 : 0 < m := by omega
  clear hr hy hs hown hc hn hm
  go_enter Tryz.func23, Tryz.ntmps23
  go_upto_region 5 with (fail)
  have hti := HTI.out
  go_wp2_with (at_builtin; (refine wpList_appL (enc := fun s : ByteArray => [.string s]) (hn := fun _ => rfl) rfl _ _ _ rfl base lo 9 i0 _ 16 Tryz.underlying26 hi0 hz0 hz1 hz2 rfl (by decide) (fun x u hu => by simp at hu; subst hu; rfl) _ (.slice (some ⟨g, 0, none⟩) i cp) (l.take i) rfl HOW.out ys _ m _ rfl HSL.out HM.out hm0 (by rw [hti]; unfold maxLen; omega) (by rw [hti]; omega) hbs ?_); intro g7 cap7 w7 hown7 hg7 hat7 hlt7; rw [hti] at hown7 ⊢)
  go_ret
  exact HFIN.out _ _ _ hown7 hg7 hat7
end Go.Proofs.YtnnnmbipmfopmaaGreatDoor

/- slices.Replace of texts in a row of one's own: more is put in than goes. -/
namespace Go.Proofs.YtnnnmbipmfopmaaGreatDoor
set_option linter.unusedVariables false
open Go.RowKit Go.Sort

set_option maxRecDepth 100000 in
set_option maxHeartbeats 4000000 in
theorem rplRoom {F : Nat → Prop} (base lo g i j n m cp : Nat) (l ys : List ByteArray) (C : List Value) (vv : Value) (w : World) (hr : RowC w g C l) (hb : base ≤ g) (hmx : cp ≤ maxLen) (hn : l.length = n) (hm : ys.length = m) (hc : C.length = cp) (hij : i < j) (hjn : j < n) (hfit : j < i + m) (hroom : i + m + (n - j) ≤ cp) (hy : RowX w F ys vv) (hgF : ¬ F g) (hl : n ≤ 1000000000) (hml : m ≤ 1000000) :
    Calls Tryz.prog 23 #[.slice (some ⟨g, 0, none⟩) n cp, .int .i64 i, .int .i64 j, vv] w (RepS base lo (l.take i ++ (ys ++ l.drop j)) (.slice (some ⟨g, 0, none⟩) n cp) w) := by
  have hcp : cp ≤ 9223372036854775807 := by unfold maxLen at hmx; omega
  have hnc : n ≤ cp := by have := hr.fits; omega
  rcases hy with ⟨_, rfl⟩ | ⟨vb, D, rfl, hvF, hd, hdm⟩
  · simp at hm; omega
  have hvg : g ≠ vb := fun e => hgF (e ▸ hvF)
  obtain ⟨cv, hcv⟩ : ∃ cv, D.length = cv := ⟨_, rfl⟩
  have hmv : m ≤ cv := by have := hd.fits; omega
  have hsa : w.shape? g = some (9, cp) := by simp [World.shape?, hr.heap, hc]
  have hsb : w.shape? vb = some (9, cv) := by simp [World.shape?, hd.heap, hcv]
  have hov : ∀ la ca, (callFunc 32 #[.slice (some ⟨g, i + m, none⟩) la ca, .slice (some ⟨vb, 0, none⟩) m cv]).run Tryz.prog w.drew = .ok (.value (.bool false)) w.drew := fun la ca => by
    change (callFunc (inRen.f 29) _).run Tryz.prog w.drew = _
    rw [run_callFunc_extern inLays.f29 (by kernel_rfl) (by kernel_rfl) (by kernel_rfl) (e := Extern.SlicesOverlaps.overlaps #[26, 26] #[4]) (by kernel_rfl),
      Lib.run_overlaps_apart w.drew 26 4 9 Tryz.underlying26 1 Tryz.sizeOf9 ⟨g, i + m, none⟩ ⟨vb, 0, none⟩ la ca m cv hvg 9 9 cp cv hsa hsb (by omega) ((str_cells (w := w.drew) hr.heap).2 _) ((str_cells (w := w.drew) hr.heap).2 _)]
    rfl
  rw [hm, hcv]
  obtain ⟨tot, htot⟩ : ∃ tot, i + m + (n - j) = tot := ⟨_, rfl⟩
  rw [htot] at hroom
  have hdl : ((l.map Value.string).drop j).length = n - j := by simp; omega
  have hcpB := fun ty dc sc => copyR (W := w.drew.drew) (g := g) (o := i + m) (X := C) (cs := (l.map Value.string).drop j) (a := ⟨g, j, none⟩) (sLen := n - j) (dLen := tot - (i + m)) hr.heap (by rw [hdl]; simp only [Nat.min_def]; split <;> omega) (fun k v hk => by
      rw [addrAdd]
      show w.cell? _ = _
      rw [hr.cell]
      rw [← hr.at_, List.getElem?_drop, List.getElem?_take] at hk
      split at hk
      · exact hk
      · cases hk) (by omega) (fun v hv => strOne l v (List.mem_of_mem_drop hv)) ty dc sc
  rw [hdl, htot] at hcpB
  obtain ⟨X1, hX1⟩ : ∃ X1, C.take (i + m) ++ (l.map Value.string).drop j ++ C.drop tot = X1 := ⟨_, rfl⟩
  rw [hX1] at hcpB
  have hX1l : X1.length = cp := by rw [← hX1]; simp; omega
  obtain ⟨W1, hW1⟩ : ∃ W1, w.drew.drew.setRow g X1.toArray = W1 := ⟨_, rfl⟩
  rw [hW1] at hcpB
  have hg1 : W1.heap[g]? = some (.cells X1.toArray 9 (0, 0)) := by rw [← hW1]; exact setRow_heap _ _ _ _ _ _ hr.heap
  have hvc : ∀ k v, (ys.map Value.string)[k]? = some v → W1.cell? ((⟨vb, 0, none⟩ : Addr).add k) = some v := fun k v hk => by
    rw [addrAdd, Nat.zero_add, ← hW1, cell_setRow_other _ _ _ _ (fun e => hvg e.symm)]
    show w.cell? _ = _
    rw [hd.cell]
    rw [← hd.at_, List.getElem?_take] at hk
    split at hk
    · exact hk
    · cases hk
  have hcpA := fun ty dc sc => copyR (W := W1) (g := g) (o := i) (X := X1) (cs := ys.map Value.string) (a := ⟨vb, 0, none⟩) (sLen := m) (dLen := tot - i) hg1 (by rw [map_len, hm]; simp only [Nat.min_def]; split <;> omega) hvc (by rw [map_len, hm]; omega) (strOne ys) ty dc sc
  rw [map_len, hm] at hcpA
  obtain ⟨X2, hX2⟩ : ∃ X2, X1.take i ++ ys.map Value.string ++ X1.drop (i + m) = X2 := ⟨_, rfl⟩
  rw [hX2] at hcpA
  have hX2l : X2.length = cp := by rw [← hX2]; simp; omega
  obtain ⟨W2, hW2⟩ : ∃ W2, W1.setRow g X2.toArray = W2 := ⟨_, rfl⟩
  rw [hW2] at hcpA
  have hg2 : W2.heap[g]? = some (.cells X2.toArray 9 (0, 0)) := by rw [← hW2]; exact setRow_heap _ _ _ _ _ _ hg1
  have hgw : w.grownBy W2 (some g) := by
    rw [← hW2, ← hW1]
    exact gbTrans (gbTrans (gbTrans (grown_drew w g) (grown_drew _ g)) (grown_setRow _ g _)) (grown_setRow _ g _)
  have hll : (l.take i ++ (ys ++ l.drop j)).length = tot := by simp; omega
  have hX2t : X2.take tot = (l.take i ++ (ys ++ l.drop j)).map Value.string := by
    have hA : (C.take (i + m)).length = i + m := by rw [List.length_take]; omega
    have hB : (X1.take i ++ ys.map Value.string).length = i + m := by simp; omega
    have e1 : X1.drop (i + m) = (l.map Value.string).drop j ++ C.drop tot := by rw [← hX1, List.append_assoc, dropApp0 hA]
    have e2 : X1.take i = (l.map Value.string).take i := by
      rw [← hX1, List.append_assoc, List.take_append_of_le_length (by omega), List.take_take, Nat.min_eq_left (by omega), ← hr.at_, List.take_take, Nat.min_eq_left (by omega)]
    have e3 : X2.take tot = X1.take i ++ ys.map Value.string ++ (X1.drop (i + m)).take (n - j) := by rw [← hX2, ← htot, takeApp hB]
    rw [e3, e1, e2, takeApp0 hdl]
    simp only [List.map_append, List.map_take, List.map_drop, List.append_assoc]
  have HFIN := Lib.hid (show RepS base lo (l.take i ++ (ys ++ l.drop j)) (.slice (some ⟨g, 0, none⟩) n cp) w (.returned (.slice (some ⟨g, 0, none⟩) tot cp)) W2 from by
    refine ⟨g, cp, by rw [hll], ?_, hgw, .inl rfl⟩
    have := Own.ofRow (base := base) (lo := lo) (w := W2) (g := g) (C := X2) (l := l.take i ++ (ys ++ l.drop j)) ⟨hg2, by omega, by rw [hll, hX2t]⟩ hb (by omega)
    rw [hX2l] at this
    exact this)
  have hij1 : ¬ (i : Int) = (j : Int) := by omega
  have hjn1 : ¬ (j : Int) = (n : Int) := by omega
  have htot1 : (i : Int) + (m : Int) + ((n - j : Nat) : Int) = (tot : Int) := by omega
  have htc : ¬ (cp : Int) < (tot : Int) := by omega
  have htc2 : tot ≤ cp := by omega
  have him : ¬ (i : Int) + (m : Int) ≤ (j : Int) := by omega
  have him2 : i + m ≤ tot := by omega
  have hit : i ≤ tot := by omega
  have hci : ¬ cp = i := by omega
  have hcj : ¬ cp = j := by omega
  have hcim : ¬ cp = i + m := by omega
  have mixed : Tryz.prog.follows .mixedOrders = true := by kernel_rfl
  have hw1 : IntKind.i64.wrap ((i : Int) + (m : Int)) = (i : Int) + (m : Int) := by rw [IntKind.wrap_i64]; omega
  have hb1 : (0 : Int) ≤ (i : Int) + (m : Int) := by omega
  have htn1 : ((i : Int) + (m : Int)).toNat = i + m := by omega
  have hb3 : (i : Int) + (m : Int) ≤ (tot : Int) := by omega
  have hjle : j ≤ n := by omega
  clear hr hX1 hg1 hW1 hg2 hW2 hX2t hX2 hgw hdl hll hc hn hm hX1l hX2l hd hvc hvF hdm hcv hsa hsb
  go_enter Tryz.func23, Tryz.ntmps23
  go_upto_region 9 with (fail)
  go_region
  go_wp2_with (simp only [hov])
  go_region_law_o (refine step_copy_runI rfl _ _ 26 26 rfl _ _ (by simp [Act.eval, Act.put]) (by simp [Act.eval, Act.put]) (hcpB _ _ _) ?_)
  go_wp2_with fail
  go_ret
  exact HFIN.out
set_option maxRecDepth 100000 in
set_option maxHeartbeats 4000000 in
theorem rplGrow {F : Nat → Prop} (base lo g i j n m cp : Nat) (l ys : List ByteArray) (C : List Value) (vv : Value) (w : World) (hr : RowC w g C l) (hbs : base ≤ w.heap.size) (hmx : cp ≤ maxLen) (hn : l.length = n) (hm : ys.length = m) (hc : C.length = cp) (hij : i < j) (hjn : j < n) (hroom : cp < i + m + (n - j)) (hy : RowX w F ys vv) (hl : n ≤ 1000000000) (hml : m ≤ 1000000) :
    Calls Tryz.prog 23 #[.slice (some ⟨g, 0, none⟩) n cp, .int .i64 i, .int .i64 j, vv] w (RepS base lo (l.take i ++ (ys ++ l.drop j)) (.slice (some ⟨g, 0, none⟩) n cp) w) := by
  obtain ⟨i0, hi0, hz0, hz1, hz2⟩ := info_parts (show (Tryz.prog.info? 9).map (fun i => (i.zero, i.size, i.bytes)) = some (some (.string ⟨#[]⟩), 1, 16) by kernel_rfl)
  have hcp : cp ≤ 9223372036854775807 := by unfold maxLen at hmx; omega
  have hnc : n ≤ cp := by have := hr.fits; omega
  have hgl := heap_lt hr.heap
  obtain ⟨tot, htot⟩ : ∃ tot, i + m + (n - j) = tot := ⟨_, rfl⟩
  rw [htot] at hroom
  have hold : (Builtin.firstCells i0.size i (.slice (some ⟨g, 0, none⟩) i cp)).run Tryz.prog w.drew.drew = .ok (C.take i).toArray w.drew.drew := by
    rw [hz1]
    exact run_firstCells_some w.drew.drew 1 i ⟨g, 0, none⟩ i cp (C.take i) (by rw [List.length_take]; omega) (fun k v hk => by
      rw [addrAdd, Nat.zero_add]
      show w.cell? _ = _
      rw [hr.cell]
      rw [List.getElem?_take] at hk
      split at hk
      · exact hk
      · cases hk)
  obtain ⟨G, hG⟩ : ∃ G, grownCap w.drew tot cp 9 = G := ⟨_, rfl⟩
  have hGn : tot ≤ G := by rw [← hG]; exact grownCap_ge _ _ _ _
  have hG63 : G ≤ maxLen := by rw [← hG]; exact grownCap_le_maxLen _ _ _ _ (by unfold maxLen; omega)
  have hG64 : G ≤ 9223372036854775807 := by unfold maxLen at hG63; omega
  obtain ⟨Z, hZ⟩ : ∃ Z : List Value, (Builtin.zeroCells (Value.string ⟨#[]⟩).cells (tot - i) ++ Builtin.zeroCells (Value.string ⟨#[]⟩).cells (G - tot)).toList = Z := ⟨_, rfl⟩
  have hZl : Z.length = G - i := by
    rw [← hZ]
    simp [Builtin.zeroCells, Value.cells]
    omega
  have eROW : (C.take i).toArray ++ Builtin.zeroCells (Value.string ⟨#[]⟩).cells (tot - i) ++ Builtin.zeroCells (Value.string ⟨#[]⟩).cells (G - tot) = (C.take i ++ Z).toArray := by
    rw [← hZ, Array.append_assoc]
    apply Array.toList_inj.1
    simp
  have hit : i ≤ tot := by omega
  have hsub : (tot : Int) - (i : Int) = ((tot - i : Nat) : Int) := by omega
  have hrz : ∀ ty, (Builtin.append_ #[26, 3] ty #[.slice (some ⟨g, 0, none⟩) i cp, .int .i64 ((tot : Int) - (i : Int))]).run Tryz.prog w.drew =
      .ok (.slice (some ⟨w.heap.size, 0, none⟩) tot G) (w.drew.drew.alloc (.cells (C.take i ++ Z).toArray 9)) := fun ty => by
    have h := Lib.run_append_grow_zeros w.drew 26 3 ty 9 i0 _ .i64 .i64 Tryz.underlying26 Tryz.underlying3 hi0 hz0 (some ⟨g, 0, none⟩) i cp (C.take i) hold (tot - i) (by omega) (by omega) (by omega) (by omega) (by rw [hz2]; omega) (by rw [hz2, show i + (tot - i) = tot by omega]; exact growslice_fits hroom (by omega))
    rw [show i + (tot - i) = tot by omega, hG, eROW] at h
    rw [hsub]
    exact h
  obtain ⟨gN, hgN⟩ : ∃ gN, w.heap.size = gN := ⟨_, rfl⟩
  rw [hgN] at hrz
  obtain ⟨W0, hW0⟩ : ∃ W0, w.drew.drew.alloc (.cells (C.take i ++ Z).toArray 9) = W0 := ⟨_, rfl⟩
  rw [hW0] at hrz
  have hg0 : W0.heap[gN]? = some (.cells (C.take i ++ Z).toArray 9 (0, 0)) := by rw [← hW0, ← hgN]; exact heap_alloc_new w.drew.drew _
  have hold0 : ∀ q, q < gN → W0.heap[q]? = w.heap[q]? := fun q hq => by rw [← hW0]; exact Below.heap_alloc w.drew.drew _ q (by rw [← hgN] at hq; exact hq)
  have hsz0 : W0.heap.size = gN + 1 := by rw [← hW0, ← hgN]; simp
  have hos0 : W0.os = w.os ∧ W0.tape = w.tape ∧ W0.output = w.output := by rw [← hW0]; exact ⟨rfl, rfl, rfl⟩
  have hRl : (C.take i ++ Z).length = G := by simp; omega
  have hy0 : RowX W0 (fun q => q < gN ∧ F q) ys vv := by
    rcases hy with h | ⟨vb, D, h1, hF, hd, hdm⟩
    · exact .inl h
    · have hlt := heap_lt hd.heap
      exact .inr ⟨vb, D, h1, ⟨by omega, hF⟩, ⟨(hold0 vb (by omega)).trans hd.heap, hd.fits, hd.at_⟩, hdm⟩
  obtain ⟨Av, cv, rfl, hv1, hv2, hcpV⟩ := copyV hy0
  rw [hm] at hcpV hv1 ⊢
  have hcpA := fun ty dc => hcpV gN i (C.take i ++ Z) (tot - i) hg0 (by omega) (by omega) ty dc
  have hCi : (C.take i).length = i := by rw [List.length_take]; omega
  rw [takeApp0 hCi, dropApp hCi] at hcpA
  obtain ⟨X1, hX1⟩ : ∃ X1, C.take i ++ ys.map Value.string ++ Z.drop m = X1 := ⟨_, rfl⟩
  rw [hX1] at hcpA
  have hX1l : X1.length = G := by rw [← hX1]; simp; omega
  obtain ⟨W1, hW1⟩ : ∃ W1, W0.setRow gN X1.toArray = W1 := ⟨_, rfl⟩
  rw [hW1] at hcpA
  have hg1 : W1.heap[gN]? = some (.cells X1.toArray 9 (0, 0)) := by rw [← hW1]; exact setRow_heap _ _ _ _ _ _ hg0
  have hdl : ((l.map Value.string).drop j).length = n - j := by simp; omega
  have hcpB := fun ty dc sc => copyR (W := W1.drew) (g := gN) (o := i + m) (X := X1) (cs := (l.map Value.string).drop j) (a := ⟨g, j, none⟩) (sLen := n - j) (dLen := tot - (i + m)) hg1 (by rw [hdl]; simp only [Nat.min_def]; split <;> omega) (fun k v hk => by
      rw [addrAdd]
      show W1.cell? _ = _
      rw [← hW1, cell_setRow_other _ _ _ _ (by show g ≠ gN; omega), (str_cells ((hold0 g (by omega)).trans hr.heap)).1]
      simp only [List.getElem?_toArray]
      rw [← hr.at_, List.getElem?_drop, List.getElem?_take] at hk
      split at hk
      · exact hk
      · cases hk) (by omega) (fun v hv => strOne l v (List.mem_of_mem_drop hv)) ty dc sc
  rw [hdl, htot] at hcpB
  obtain ⟨X2, hX2⟩ : ∃ X2, X1.take (i + m) ++ (l.map Value.string).drop j ++ X1.drop tot = X2 := ⟨_, rfl⟩
  rw [hX2] at hcpB
  have hX2l : X2.length = G := by rw [← hX2]; simp; omega
  obtain ⟨W2, hW2⟩ : ∃ W2, W1.drew.setRow gN X2.toArray = W2 := ⟨_, rfl⟩
  rw [hW2] at hcpB
  have hg2 : W2.heap[gN]? = some (.cells X2.toArray 9 (0, 0)) := by rw [← hW2]; exact setRow_heap _ _ _ _ _ _ hg1
  have hgw : w.grownBy W2 (some g) := by
    refine ⟨?_, ?_, ?_, ?_, fun q hq _ => ?_⟩
    · rw [← hW2, ← hW1]; exact hos0.1
    · rw [← hW2, ← hW1]; exact hos0.2.1
    · rw [← hW2, ← hW1]; exact hos0.2.2
    · rw [← hW2, ← hW1]
      simp
      omega
    · rw [← hW2, setRow_other _ _ _ _ (by omega)]
      show W1.heap[q]? = _
      rw [← hW1, setRow_other _ _ _ _ (by omega)]
      exact hold0 q (by omega)
  have hll : (l.take i ++ (ys ++ l.drop j)).length = tot := by simp; omega
  have hX2t : X2.take tot = (l.take i ++ (ys ++ l.drop j)).map Value.string := by
    have hA : (C.take i ++ ys.map Value.string).length = i + m := by simp; omega
    have e1 : X1.take (i + m) = C.take i ++ ys.map Value.string := by rw [← hX1, takeApp0 hA]
    have e3 : X2.take tot = X1.take (i + m) ++ (l.map Value.string).drop j := by
      rw [← hX2, takeApp0 (by rw [List.length_append, hdl, e1, hA]; exact htot)]
    rw [e3, e1]
    simp only [List.map_append, List.map_take, List.map_drop, List.append_assoc]
    rw [← hr.at_, List.take_take, Nat.min_eq_left (by omega)]
  have HFIN := Lib.hid (show RepS base lo (l.take i ++ (ys ++ l.drop j)) (.slice (some ⟨g, 0, none⟩) n cp) w (.returned (.slice (some ⟨gN, 0, none⟩) tot G)) W2 from by
    refine ⟨gN, G, by rw [hll], ?_, hgw, .inr hgN.symm⟩
    have := Own.ofRow (base := base) (lo := lo) (w := W2) (g := gN) (C := X2) (l := l.take i ++ (ys ++ l.drop j)) ⟨hg2, by omega, by rw [hll, hX2t]⟩ (by omega) (by omega)
    rw [hX2l] at this
    exact this)
  have HRZ := Lib.hid hrz
  have hij1 : ¬ (i : Int) = (j : Int) := by omega
  have hjn1 : ¬ (j : Int) = (n : Int) := by omega
  have htot1 : (i : Int) + (m : Int) + ((n - j : Nat) : Int) = (tot : Int) := by omega
  have htc : (cp : Int) < (tot : Int) := by omega
  have him2 : i + m ≤ tot := by omega
  have hci : ¬ cp = i := by omega
  have hcj : ¬ cp = j := by omega
  have hGi : ¬ G = i := by omega
  have hGim : ¬ G = i + m := by omega
  have mixed : Tryz.prog.follows .mixedOrders = true := by kernel_rfl
  have hw1 : IntKind.i64.wrap ((i : Int) + (m : Int)) = (i : Int) + (m : Int) := by rw [IntKind.wrap_i64]; omega
  have hb1 : (0 : Int) ≤ (i : Int) + (m : Int) := by omega
  have htn1 : ((i : Int) + (m : Int)).toNat = i + m := by omega
  have hb3 : (i : Int) + (m : Int) ≤ (tot : Int) := by omega
  have hjle : j ≤ n := by omega
  clear hr hX1 hg1 hW1 hg2 hW2 hX2t hX2 hgw hdl hll hc hn hm hX1l hX2l hrz hold hG hZ hZl eROW hW0 hg0 hold0 hsz0 hos0 hRl hy0 hy hcpV hCi hgN hsub hG63
  go_enter Tryz.func23, Tryz.ntmps23
  go_upto_region 9 with (fail)
  go_region
  go_upto_region 11 with (fail)
  go_wp2_with (at_builtin; refine Lib.wpList_append_run _ rfl _ _ _ _ rfl _ _ rfl rfl _ _ (HRZ.out _) ?_)
  go_region_law_o (refine step_copy_runI rfl _ _ 26 26 rfl _ _ (by simp [Act.eval, Act.put]) (by simp [Act.eval, Act.put]) (hcpB _ _ _) ?_)
  go_wp2_with fail
  go_ret
  exact HFIN.out
end Go.Proofs.YtnnnmbipmfopmaaGreatDoor

/- slices.Replace of texts in a row of one's own, whole. -/
namespace Go.Proofs.YtnnnmbipmfopmaaGreatDoor
set_option linter.unusedVariables false
open Go.RowKit Go.Sort

set_option maxRecDepth 100000 in
set_option maxHeartbeats 4000000 in
/-- Nothing goes: the call is slices.Insert. -/
theorem rplIns {F : Nat → Prop} (base lo i : Nat) (l ys : List ByteArray) (A : Option Addr) (n cp : Nat) (vv : Value) (w : World) (h : Own strR w base lo 9 l (.slice A n cp)) (hbs : base ≤ w.heap.size) (hn : l.length = n) (hin : i ≤ n) (hy : RowX w F ys vv) (h0 : 0 < ys.length) (hgF : ∀ g, (Value.slice A n cp).ownBlock = some g → ¬ F g) (hl : n ≤ 1000000000) (hml : ys.length ≤ 1000000) :
    Calls Tryz.prog 23 #[.slice A n cp, .int .i64 i, .int .i64 i, vv] w (RepS base lo (l.take i ++ (ys ++ l.drop i)) (.slice A n cp) w) := by
  have hlc : n ≤ cp ∧ cp ≤ 9223372036854775807 := by
    obtain ⟨A', c', he, h1, h2⟩ := (h.sli (F := fun _ => True) (fun _ _ _ => trivial) (fun _ _ => trivial)).form
    cases he
    exact ⟨by omega, h2⟩
  have HIN : Calls Tryz.prog 27 #[.slice A n cp, .int .i64 i, vv] w (RepS base lo (l.take i ++ (ys ++ l.drop i)) (.slice A n cp) w) := by
    by_cases hi : i = n
    · subst hi
      have e : l.take i ++ (ys ++ l.drop i) = l ++ ys := by rw [List.take_of_length_le (by omega), List.drop_of_length_le (by omega), List.append_nil]
      rw [e]
      exact insE_c base lo i l ys vv A i cp w h hn.symm (by omega) hy hml h0 hbs
    · obtain ⟨k, h1 | ⟨g, h1⟩⟩ := own_nilForm h
      · exfalso
        rcases h.form with ⟨e1, e2⟩ | ⟨g, c, e1, _⟩
        · rw [e2] at hn
          simp at hn
          omega
        · rw [e1] at h1
          cases h1
      · injection h1 with hA _ hc
        subst hA; subst hc
        skip
        have q := insL_c base lo g n cp i l ys vv w h (by omega) (by omega) hy hml h0 (hgF g rfl)
        refine q.mono ?_
        rintro e w' ⟨g', cap', he, ho, hg, hat⟩
        rw [List.append_assoc] at ho he
        exact ⟨g', cap', he, ho, hg, hat⟩
  generalize l.take i ++ (ys ++ l.drop i) = R at HIN ⊢
  obtain ⟨k, hk⟩ : ∃ k, R.length = k := ⟨_, rfl⟩
  unfold RepS at HIN ⊢
  rw [hk] at HIN ⊢
  have HIN := Lib.hid HIN
  have hcn : i ≤ cp := by omega
  clear hy hgF h h0 hk
  by_cases hci : cp = i
  · subst hci
    go_enter Tryz.func23, Tryz.ntmps23
    go_wp2_with fail
    refine HIN.out.mono ?_
    rintro e w' ⟨g', cap', rfl, hp⟩
    go_wp2
    go_ret
    exact ⟨g', cap', rfl, hp⟩
  · skip
    go_enter Tryz.func23, Tryz.ntmps23
    go_wp2_with fail
    refine HIN.out.mono ?_
    rintro e w' ⟨g', cap', rfl, hp⟩
    go_wp2
    go_ret
    exact ⟨g', cap', rfl, hp⟩
/-- slices.Replace. -/
theorem Replace_c {F : Nat → Prop} (base lo i j : Nat) (l ys : List ByteArray) (A : Option Addr) (n cp : Nat) (vv : Value) (w : World) (h : Own strR w base lo 9 l (.slice A n cp)) (hbs : base ≤ w.heap.size) (hn : l.length = n) (hij : i ≤ j) (hjn : j ≤ n) (hy : RowX w F ys vv) (h0 : i = j → 0 < ys.length) (hgF : ∀ g, (Value.slice A n cp).ownBlock = some g → ¬ F g) (hl : n ≤ 1000000000) (hml : ys.length ≤ 1000000) :
    Calls Tryz.prog 23 #[.slice A n cp, .int .i64 i, .int .i64 j, vv] w (RepS base lo (l.take i ++ (ys ++ l.drop j)) (.slice A n cp) w) := by
  by_cases he : i = j
  · subst he
    exact rplIns base lo i l ys A n cp vv w h hbs hn hjn hy (h0 rfl) hgF hl hml
  · obtain ⟨k, h1 | ⟨g, h1⟩⟩ := own_nilForm h
    · exfalso
      rcases h.form with ⟨e1, e2⟩ | ⟨g, c, e1, _⟩
      · rw [e2] at hn
        simp at hn
        omega
      · rw [e1] at h1
        cases h1
    · injection h1 with hA _ hc2
      subst hA; subst hc2
      obtain ⟨C, hr, hc, hb, _, hm⟩ := h.toRow
      by_cases hj : j = n
      · subst hj
        have e : l.take i ++ (ys ++ l.drop j) = l.take i ++ ys := by rw [List.drop_of_length_le (by omega), List.append_nil]
        rw [e]
        by_cases hf : i + ys.length < j
        · exact rplEnd base lo g i j ys.length cp l ys C vv w hr hb hm hn rfl hc (by omega) hf hy hl
        · exact rplMore base lo g i j ys.length cp l ys C vv w hr hb hbs hm hn rfl hc (by omega) (by omega) hy hl hml
      · by_cases hf : i + ys.length ≤ j
        · exact rplFit base lo g i j n ys.length cp l ys C vv w hr hb hm hn rfl hc (by omega) (by omega) hf hy hl
        · by_cases hroom : i + ys.length + (n - j) ≤ cp
          · exact rplRoom base lo g i j n ys.length cp l ys C vv w hr hb hm hn rfl hc (by omega) (by omega) (by omega) hroom hy (hgF g rfl) hl hml
          · exact rplGrow base lo g i j n ys.length cp l ys C vv w hr hbs hm hn rfl hc (by omega) (by omega) (by omega) hy hl hml
end Go.Proofs.YtnnnmbipmfopmaaGreatDoor

/- Lists of edits that a generator makes; their rows are told by their cells. -/
namespace Go.Proofs.YtnnnmbipmfopmaaGreatDoor
set_option linter.unusedVariables false
open Go.RowKit Go.Sort

theorem edFlat {w w' : World} {F : Nat → Prop} {x : Edt × Value} {cs : List Value} (h : edR.rel w F x cs) : edR.rel w' F x cs := h
theorem heap_setCell_ne {w : World} {b i q : Nat} {z : Value} (h : q ≠ b) : (w.setCell ⟨b, i, none⟩ z).heap[q]? = w.heap[q]? := by
  simp only [World.setCell, Array.getElem?_modify]
  rw [if_neg (fun e => h e.symm)]
structure EdG (w : World) (sb : Nat) (l : List (Edt × Value)) (v : Value) (P : List (Nat × Array Value × TypeId)) (n : Int) (wx : World) : Prop where
  gs : GS edR 50 w sb l v P n wx
  row : ∀ y ∈ l, RowX wx (InF w wx v P) y.1.add y.2
section
variable {w wx wy : World} {sb : Nat} {l : List (Edt × Value)} {v : Value} {P Q : List (Nat × Array Value × TypeId)} {n n' : Int}
theorem EdG.start (h : Str w sb n) : EdG w sb [] (.slice none 0 0) [] n w := ⟨GS.start h, fun x hx => by cases hx⟩
theorem rxTurn {k : List ByteArray} {u : Value} (h : RowX wx (InF w wx v P) k u) (hlt : sb < w.heap.size) (hg : wx.grownBy wy (some sb)) : RowX wy (InF w wy v P) k u :=
  (h.keep (fun q hq => hg.block q hq.2.1 (by have := hq.1; simp; omega))).more (fun q hq => ⟨hq.1, Nat.lt_of_lt_of_le hq.2.1 hg.size, hq.2.2⟩)
theorem EdG.turn (h : EdG w sb l v P n wx) (hg : wx.grownBy wy (some sb)) (hs : Str wy sb n') : EdG w sb l v P n' wy := ⟨h.gs.turn hg hs, fun x hx => rxTurn (h.row x hx) h.gs.lt hg⟩
theorem EdG.alloc (h : EdG w sb l v P n wx) (o : Obj) : EdG w sb l v P n (wx.alloc o) := h.turn (gAlloc (gRefl wx sb) o) (h.gs.str.alloc o)
theorem EdG.below (h : EdG w sb l v P n wx) (hb : Below wx.heap.size wx wy) : EdG w sb l v P n wy := h.turn (gBelow (gRefl wx sb) hb) (h.gs.str.below hb)
theorem EdG.drew (h : EdG w sb l v P n wx) : EdG w sb l v P n wx.drew := ⟨h.gs.drew, fun x hx => (h.row x hx).keep (fun _ _ => rfl)⟩
theorem rxNew {k : List ByteArray} {u : Value} (h : RowX wx (InF w wx v P) k u) (cs : Array Value) (T : TypeId) : RowX (wx.alloc (.cells cs T)) (InF w (wx.alloc (.cells cs T)) v ((wx.heap.size, cs, T) :: P)) k u :=
  (h.keep (fun q hq => Below.heap_alloc wx _ q hq.2.1)).more (fun q hq => ⟨hq.1, by have := hq.2.1; simp; omega, fun p hp => by
    rcases List.mem_cons.1 hp with rfl | hp
    · have := hq.2.1; dsimp only; omega
    · exact hq.2.2.1 p hp, hq.2.2.2⟩)
theorem EdG.new (h : EdG w sb l v P n wx) (cs : Array Value) (T : TypeId) : EdG w sb l v ((wx.heap.size, cs, T) :: P) n (wx.alloc (.cells cs T)) := ⟨h.gs.new cs T, fun x hx => rxNew (h.row x hx) cs T⟩
theorem rxSet {k : List ByteArray} {u z : Value} {b i : Nat} {cs : Array Value} {T : TypeId} (h : RowX wx (InF w wx v ((b, cs, T) :: P)) k u) : RowX (wx.setCell ⟨b, i, none⟩ z) (InF w (wx.setCell ⟨b, i, none⟩ z) v ((b, cs.setIfInBounds i z, T) :: P)) k u :=
  (h.keep (fun q hq => heap_setCell_ne (hq.2.2.1 (b, cs, T) (by simp)))).more (fun q hq => ⟨hq.1, by simpa [World.setCell] using hq.2.1, fun p hp => by
    rcases List.mem_cons.1 hp with rfl | hp
    · exact hq.2.2.1 (b, cs, T) (by simp)
    · exact hq.2.2.1 p (by simp [hp]), hq.2.2.2⟩)
theorem EdG.set {b i : Nat} {cs : Array Value} {T : TypeId} (h : EdG w sb l v ((b, cs, T) :: P) n wx) (u : Value) (hd : ∀ p ∈ P, p.1 ≠ b) : EdG w sb l v ((b, cs.setIfInBounds i u, T) :: P) n (wx.setCell ⟨b, i, none⟩ u) :=
  ⟨h.gs.set edFlat u hd, fun x hx => rxSet (h.row x hx)⟩
theorem EdG.less (h : EdG w sb l v P n wx) (hq : ∀ p ∈ Q, p ∈ P) : EdG w sb l v Q n wx := ⟨h.gs.less hq, fun x hx => (h.row x hx).more fun _ hF => hF.less hq⟩
theorem EdG.more {x' : Edt × Value} {v' : Value} {g : Nat} (h : EdG w sb l v P n wx) (hown : Own edR wy w.heap.size w.heap.size 50 (l ++ [x']) v') (hg : wx.grownBy wy v.ownBlock) (hv : v'.ownBlock = some g) (hat : v.ownBlock = some g ∨ g = wx.heap.size)
    (hi : RowX wx (InF w wx v P) x'.1.add x'.2) : EdG w sb (l ++ [x']) v' P n wy := by
  have key : ∀ (k : List ByteArray) u, RowX wx (InF w wx v P) k u → RowX wy (InF w wy v' P) k u := fun k u hs =>
    (hs.keep fun q hq => hg.block q hq.2.1 fun e => hq.2.2.2 e.symm).more fun q hq => ⟨hq.1, Nat.lt_of_lt_of_le hq.2.1 hg.size, hq.2.2.1, by
      rw [hv]
      intro e
      injection e with e
      rcases hat with hat | hat
      · exact hq.2.2.2 (by rw [hat, e])
      · have := hq.2.1; omega⟩
  exact ⟨h.gs.more hown hg hv hat, fun x hx => by
    rcases List.mem_append.1 hx with hx | hx
    · exact key _ _ (h.row x hx)
    · rw [List.mem_singleton] at hx; subst hx; exact key _ _ hi⟩
/-- A row that a call has just made lies apart from all that stood. -/
theorem EdG.fresh (h : EdG w sb l v P n wx) {k : List ByteArray} {u : Value} (hs : RowX wy (fun q => wx.heap.size ≤ q ∧ q < wy.heap.size) k u) : RowX wy (InF w wy v P) k u :=
  hs.more fun q hq => ⟨Nat.le_trans h.gs.size hq.1, hq.2, fun p hp => by have := h.gs.plt hp; omega, fun e => by have := (h.gs.own.block q e).2; omega⟩
end
/-- Edits in memory, to be read; their rows told by their cells. -/
structure EdX (w : World) (F : Nat → Prop) (l : List (Edt × Value)) (v : Value) : Prop where
  sli : Sli edR w F l v
  par : ∀ y ∈ l, RowX w F y.1.add y.2
end Go.Proofs.YtnnnmbipmfopmaaGreatDoor

/- The generator's edits, mostly right ones. -/
namespace Go.Proofs.YtnnnmbipmfopmaaGreatDoor
set_option linter.unusedVariables false
open Go.RowKit Go.Sort

def EdOk (n : Nat) (y : Edt) : Prop := -2 ≤ y.at_ ∧ y.at_ ≤ n + 40 ∧ -1 ≤ y.drop ∧ y.drop ≤ 2 ∧ y.add.length ≤ 2 ∧ ∀ x ∈ y.add, x.size ≤ 10
def isEdits (n : Nat) (w : World) (v : Value) (w' : World) : Prop := ∃ l : List (Edt × Value), Own edR w' w.heap.size w.heap.size 50 l v ∧ (∀ y ∈ l, RowX w' (fun q => w.heap.size ≤ q ∧ q < w'.heap.size) y.1.add y.2) ∧ l.length ≤ 3 ∧ ∀ y ∈ l, EdOk n y.1
def edA (a d : Int) (v : Value) : Array Value := #[.int .i64 a, .int .i64 d, v]
set_option maxRecDepth 100000 in
set_option maxHeartbeats 6000000 in
theorem Edits_s (sb : Nat) (k0 : Int) (n0 : Nat) (w : World) (hs : Str w sb k0) (hk0 : k0 ≤ 3900000000000000000) (hn0 : n0 ≤ 1000) :
    Calls Tryz.prog 6 #[.pointer (some ⟨sb, 0, none⟩), .int .i64 n0] w (Took sb k0 10000 (isEdits n0 w) w) := by
  obtain ⟨i0, hi0, hz0, hz1, hz2⟩ := info_parts (show (Tryz.prog.info? 50).map (fun i => (i.zero, i.size, i.bytes)) = some (some (.agg #[.int .i64 0, .int .i64 0, .slice none 0 0]), 3, 40) by kernel_rfl)
  have G0 := Lib.hid (EdG.start hs)
  clear hs
  go_enter Tryz.func6, Tryz.ntmps6
  go_wp2_with fail
  refine (next_c sb k0 4 w G0.out.gs.str (by omega) (by omega) (by omega)).mono ?_
  rintro e w2 ⟨v2, n2, rfl, ⟨y2, hy20, hy21, rfl⟩, hn2, hs2, hg2⟩
  obtain ⟨m, rfl⟩ := Int.eq_ofNat_of_zero_le hy20
  have hm3 : m ≤ 3 := by omega
  have G2 := Lib.hid (G0.out.turn hg2 hs2)
  clear hs2 hg2 G0
  go_wp2
  go_loopw [5, 6, 10] (fun v5 v6 i wr => ∃ (q : Nat) (l : List (Edt × Value)) (n at0 : Int), q ≤ m ∧ i = .int .i64 q ∧ v6 = .int .i64 at0 ∧ -2 ≤ at0 ∧ at0 ≤ n0 + 10 * q ∧ l.length = q ∧ n ≤ k0 + 2 + 2040 * q ∧ Hid (∀ y ∈ l, EdOk n0 y.1) ∧ Hid (EdG w sb l v5 [] n wr)) (fun _ _ i _ => m - (intOf i).toNat)
  case atStart => exact ⟨0, [], n2, 0, Nat.zero_le _, rfl, rfl, by omega, by omega, rfl, by omega, (fun x hx => by cases hx), G2⟩
  case round =>
    clear G2
    obtain ⟨q, l, n, at0, hq, rfl, rfl, ha1, ha2, hlq, hn, HX, HG⟩ := hrel
    have HLQ := Lib.hid hlq
    clear hlq
    by_cases hlt : q < m
    · go_wp2_with fail
      refine (next_c sb n 3 wr HG.out.gs.str (by omega) (by omega) (by omega)).mono ?_
      rintro e w3 ⟨v3, n3, rfl, ⟨x3, hx30, hx31, rfl⟩, hn3, hs3, hg3⟩
      have G3 := Lib.hid (HG.out.turn hg3 hs3)
      have ew1 : IntKind.i64.wrap (at0 + x3) = at0 + x3 := by rw [IntKind.wrap_i64]; omega
      clear hs3 hg3 HG
      go_wp2_with fail
      refine (next_c sb n3 3 w3 G3.out.gs.str (by omega) (by omega) (by omega)).mono ?_
      rintro e w4 ⟨v4, n4, rfl, ⟨x4, hx40, hx41, rfl⟩, hn4, hs4, hg4⟩
      have G4 := Lib.hid (G3.out.turn hg4 hs4)
      clear hs4 hg4 G3
      go_wp2_with fail
      refine (Lines_s sb n4 2 w4 G4.out.gs.str (by omega) (by omega)).mono ?_
      rintro e w5 ⟨v5, n5, rfl, ⟨a5, hown5, hl5, hz5⟩, hn5, hs5, hg5⟩
      have hR5 := RowX.ofOwn (F := fun q => w4.heap.size ≤ q ∧ q < w5.heap.size) hown5 (fun q e => hown5.block q e)
      obtain ⟨A5, c5, hv5, _, _⟩ := hR5.sli.form
      subst hv5
      have hU5 := rxNew (G4.out.fresh hR5) (edA (at0 + x3) x4 (.slice A5 a5.length c5)) 50
      have hG5 := (G4.out.turn hg5 hs5).new (edA (at0 + x3) x4 (.slice A5 a5.length c5)) 50
      clear hs5 hg5 G4 hR5 hown5
      go_upto_region 6 with (fail)
      generalize hW : w5.alloc (.cells #[.int .i64 (at0 + x3), .int .i64 x4, (.slice A5 a5.length c5)] 50) = wE
      have G5 := Lib.hid (show EdG w sb l u5 [(w5.heap.size, edA (at0 + x3) x4 (.slice A5 a5.length c5), 50)] n5 wE by rw [← hW]; exact hG5)
      have U5 := Lib.hid (show RowX wE (InF w wE u5 [(w5.heap.size, edA (at0 + x3) x4 (.slice A5 a5.length c5), 50)]) a5 (.slice A5 a5.length c5) by rw [← hW]; exact hU5)
      have HZ5 := Lib.hid hz5
      clear hG5 hU5 hW hz5
      generalize w5.heap.size = E0 at *
      go_wp2_with fail
      refine (flip_c sb n5 6 wE G5.out.gs.str (by omega) (by omega) (by omega)).mono ?_
      rintro e w6 ⟨v6, n6, rfl, ⟨b6, rfl⟩, hn6, hs6, hg6⟩
      have U6 := Lib.hid (rxTurn U5.out G5.out.gs.lt hg6)
      have G6 := Lib.hid (G5.out.turn hg6 hs6)
      clear hs6 hg6 G5 U5
      go_upto_if 22 with (fail)
      go_cut [] (fun wx => ∃ (a d : Int) (ys : List ByteArray) (vy : Value) (n' : Int), -2 ≤ a ∧ a ≤ n0 + 10 * (q : Int) + 2 ∧ -1 ≤ d ∧ d ≤ 2 ∧ -2 ≤ a + d ∧ ys.length ≤ 2 ∧ n' ≤ n + 2030 ∧ Hid (∀ x ∈ ys, x.size ≤ 10) ∧ Hid (EdG w sb l u5 [(E0, edA a d vy, 50)] n' wx) ∧ Hid (RowX wx (InF w wx u5 [(E0, edA a d vy, 50)]) ys vy))
      case first =>
        cases b6 with
        | false =>
          go_wp2
          go_meet
          exact ⟨at0 + x3, x4, a5, (.slice A5 a5.length c5), n6, by omega, by omega, by omega, by omega, by omega, hl5, by omega, HZ5, G6, U6⟩
        | true =>
          go_wp2_with fail
          refine (range_c sb n6 (-1) ((n0 : Int) + 1) w6 G6.out.gs.str (by omega) (by omega) (by omega) (by omega)).mono ?_
          rintro e w7 ⟨v7, n7, rfl, ⟨y7, ⟨hy1, hy2⟩, rfl⟩, hn7, hs7, hg7⟩
          have G7 := Lib.hid (G6.out.turn hg7 hs7)
          clear hs7 hg7 G6 U6
          go_wp2_with fail
          refine (range_c sb n7 (-1) 2 w7 G7.out.gs.str (by omega) (by omega) (by omega) (by omega)).mono ?_
          rintro e w8 ⟨v8, n8, rfl, ⟨y8, ⟨hy3, hy4⟩, rfl⟩, hn8, hs8, hg8⟩
          have G8 := Lib.hid (G7.out.turn hg8 hs8)
          clear hs8 hg8 G7
          go_wp2_with fail
          refine (Lines_s sb n8 1 w8 G8.out.gs.str (by omega) (by omega)).mono ?_
          rintro e w9 ⟨v9, n9, rfl, ⟨a9, hown9, hl9, hz9⟩, hn9, hs9, hg9⟩
          have hR9 := RowX.ofOwn (F := fun q => w8.heap.size ≤ q ∧ q < w9.heap.size) hown9 (fun q e => hown9.block q e)
          obtain ⟨A9, c9, hv9, _, _⟩ := hR9.sli.form
          subst hv9
          have hG9 := G8.out.turn hg9 hs9
          have hU9 := G8.out.fresh hR9
          have d9 := (hG9.gs.cell (p := (E0, edA (at0 + x3) x4 (.slice A5 a5.length c5), 50)) (by simp)).1
          have f9 := (hG9.gs.cell (p := (E0, edA (at0 + x3) x4 (.slice A5 a5.length c5), 50)) (by simp)).2
          have c90 : w9.cell? ⟨E0, 0, none⟩ = some (.int .i64 (at0 + x3)) := d9 0
          have c91 : w9.cell? ⟨E0, 1, none⟩ = some (.int .i64 x4) := d9 1
          have c92 : w9.cell? ⟨E0, 2, none⟩ = some (.slice A5 a5.length c5) := d9 2
          have f90 := f9 0
          have f91 := f9 1
          have f92 := f9 2
          have hGa := ((hG9.set (i := 0) (.int .i64 y7) (by simp)).set (i := 1) (.int .i64 y8) (by simp)).set (i := 2) (.slice A9 a9.length c9) (by simp)
          have hUa := rxSet (i := 2) (z := (.slice A9 a9.length c9)) (rxSet (i := 1) (z := .int .i64 y8) (rxSet (i := 0) (z := .int .i64 y7) hU9))
          have HGA := Lib.hid hGa
          have HUA := Lib.hid hUa
          clear hs9 hg9 G8 hR9 hown9 hG9 hU9 d9 f9 hGa hUa
          go_wp2
          go_meet
          exact ⟨y7, y8, a9, (.slice A9 a9.length c9), n9, by omega, by omega, by omega, by omega, by omega, by omega, by omega, Lib.hid hz9, HGA, HUA⟩
      case rest =>
        clear G6 U6 HZ5
        obtain ⟨a, d, ys, vy, n', ha3, ha4, hd1, hd2, had, hyl, hn', HZ, G, U⟩ := hcut
        obtain ⟨Ay, cy, hvy, _, _⟩ := U.out.sli.form
        subst hvy
        obtain ⟨my, hmy⟩ : ∃ my, ys.length = my := ⟨_, rfl⟩
        have HMY := Lib.hid hmy
        rw [hmy] at G U hyl
        clear hmy
        have e0 := (G.out.gs.cell (p := (E0, edA a d (.slice Ay my cy), 50)) (by simp)).1
        have e00 : wc.cell? ⟨E0, 0, none⟩ = some (.int .i64 a) := e0 0
        have e01 : wc.cell? ⟨E0, 1, none⟩ = some (.int .i64 d) := e0 1
        have e02 : wc.cell? ⟨E0, 2, none⟩ = some (.slice Ay my cy) := e0 2
        clear e0
        have hll := HLQ.out
        go_upto_region 9 with (at_builtin; (refine wpList_pushB (R := edR) rfl _ _ _ rfl w.heap.size w.heap.size 50 i0 _ 40 Tryz.underlying28 hi0 hz0 hz1 hz2 rfl (by decide) _ u5 l rfl (G.out.gs.own.alloc _) ((⟨a, d, ys⟩ : Edt), (.slice Ay my cy)) [.int .i64 a, .int .i64 d, (.slice Ay my cy)] rfl (by intro u hu; simp at hu; rcases hu with rfl | rfl | rfl <;> rfl) wc.heap.size _ _ (heap_alloc_new wc _) rfl (by simp [maxLen]; omega) (by omega) (by have := G.out.gs.size; simp; omega) ?_); intro g7 cap7 w7 hown7 hg7 hat7 hlt7)
        have UA := rxTurn U.out G.out.gs.lt (gAlloc (gRefl wc sb) (.cells #[.int .i64 a, .int .i64 d, .slice Ay my cy] 50))
        have G7 := Lib.hid ((G.out.alloc (.cells #[.int .i64 a, .int .i64 d, .slice Ay my cy] 50)).more hown7 hg7 rfl hat7 UA)
        have HX7 := Lib.hid (show ∀ y ∈ l ++ [((⟨a, d, ys⟩ : Edt), Value.slice Ay my cy)], EdOk n0 y.1 from fun y hy => by
          rcases List.mem_append.1 hy with hy | hy
          · exact HX.out y hy
          · rw [List.mem_singleton.1 hy]
            exact ⟨ha3, by show a ≤ _; omega, hd1, hd2, by show ys.length ≤ 2; rw [HMY.out]; exact hyl, HZ.out⟩)
        have HXC := Lib.hid (fun (wx : World) (n : Int) (h : EdG w sb (l ++ [((⟨a, d, ys⟩ : Edt), Value.slice Ay my cy)]) (.slice (some ⟨g7, 0, none⟩) (l.length + 1) cap7) [(E0, edA a d (.slice Ay my cy), 50)] n wx) => show wx.cell? ⟨E0, 0, none⟩ = some (.int .i64 a) ∧ wx.cell? ⟨E0, 1, none⟩ = some (.int .i64 d) from ⟨(h.gs.cell (p := (E0, edA a d (.slice Ay my cy), 50)) (by simp)).1 0, (h.gs.cell (p := (E0, edA a d (.slice Ay my cy), 50)) (by simp)).1 1⟩)
        clear hown7 hg7 hat7 hlt7 G U UA e00 e01 e02 HX HZ
        obtain ⟨ι, ff, hne, hff, hfS⟩ := family (fun W => W.cell? ⟨E0, 0, none⟩ = some (.int .i64 a) ∧ W.cell? ⟨E0, 1, none⟩ = some (.int .i64 d)) w7 (HXC.out _ _ G7.out)
        have hneW : Nonempty World := ⟨w7⟩
        have s0 := fun p => (hff p).1
        have s1 := fun p => (hff p).2
        have HFS := Lib.hid hfS
        have ew2 : IntKind.i64.wrap (a + d) = a + d := by rw [IntKind.wrap_i64]; omega
        clear hff hfS
        refine wp_region_segs2 [6] [7, 8] [] [([0, 2, 5], [1, 3, 4], 6)] (by kernel_rfl) (by kernel_rfl) (fun _ _ _ dd _ h => by cases dd <;> exact h) (fun W => ∃ p : ι, W = ff p) (HFS.out _ (HXC.out _ _ G7.out.drew)) ?_
        refine wpSegs2_step (by simp only [pick, List.getElem?_cons_succ, List.getElem?_cons_zero]; rfl) (by simp only [pick, List.getElem?_cons_succ, List.getElem?_cons_zero]; rfl) rfl (fun K0 hK0 L0 hL0 => ?_)
        repeat (first | go_big_quiet_step (fail) | quiet_step (fail))
        refine wpQuiet_nil (hL0 _ ?_)
        repeat (first | go_big_quiet_step (fail) | quiet_step (fail))
        refine wpQuiet_nil ?_
        go_simp
        refine (range_c sb n' 0 2 _ G7.out.drew.gs.str (by omega) (by omega) (by omega) (by omega)).mono ?_
        rintro e w8 ⟨v8, n8, rfl, ⟨y8, ⟨hy1, hy2⟩, rfl⟩, hn8, hs8, hg8⟩
        have G8 := Lib.hid (G7.out.drew.turn hg8 hs8)
        have ew3 : IntKind.i64.wrap (a + d + y8) = a + d + y8 := by rw [IntKind.wrap_i64]; omega
        refine hK0 (fun W => ∃ p : ι, W = ff p) _ _ (fun _ h => h) (HFS.out _ (HXC.out _ _ G8.out)) ?_
        clear hs8 hg8 G7
        refine wpSegs2_fin (by simp only [pick, List.getElem?_cons_succ, List.getElem?_cons_zero]; rfl) (by simp only [pick, List.getElem?_cons_succ, List.getElem?_cons_zero]; rfl) (fun L1 hL1 => ?_)
        repeat (first | go_big_quiet_step (fail) | quiet_step (fail))
        refine wpQuiet_nil (hL1 _ ?_)
        repeat (first | go_big_quiet_step (fail) | quiet_step (fail))
        refine wpQuiet_nil ?_
        rw [hll] at G8
        try go_wp2
        go_roundw
        case rel => exact ⟨q + 1, _, n8, a + d + y8, by omega, intNum, rfl, by omega, by omega, by rw [List.length_append, hll]; rfl, by omega, HX7, Lib.hid (G8.out.less (Q := []) (fun p hp => by cases hp))⟩
        case measure => simp [intOf]; omega
    · go_wp2
      go_ret
      exact ⟨_, n, rfl, ⟨l, HG.out.gs.own, fun y hy => (HG.out.row y hy).more fun q hq => ⟨hq.1, hq.2.1⟩, by rw [HLQ.out]; omega, HX.out⟩, by omega, HG.out.gs.str, HG.out.gs.gr⟩
end Go.Proofs.YtnnnmbipmfopmaaGreatDoor

/- revise.Patch, walked. -/
namespace Go.Proofs.YtnnnmbipmfopmaaGreatDoor
set_option linter.unusedVariables false
open Go.RowKit Go.Sort

def patE (a : List ByteArray) (l : List Edt) : Int := if 3000 < a.length then 2 else if edsE a.length none l = 0 then (if 3000 < (edF a 0 l).length then 2 else 0) else edsE a.length none l
def PatP (a : List ByteArray) (l : List Edt) (w : World) (e : Ending) (w' : World) : Prop := ∃ v, e = .returned (.tuple #[v, .int .i64 (patE a l)]) ∧ Below w.heap.size w w' ∧ Own strR w' w.heap.size w.heap.size 9 (if patE a l = 0 then edF a 0 l else []) v
theorem edAt3 {w : World} {F : Nat → Prop} {l : List (Edt × Value)} {A : Option Addr} {n c : Nat} (h : Sli edR w F l (.slice A n c)) (k : Nat) (hk : k < l.length) : ∃ b off, A = some ⟨b, off, none⟩ ∧ F b ∧ w.cell? ⟨b, off + k * 3, none⟩ = some (.int .i64 l[k].1.at_) ∧ w.cell? ⟨b, off + k * 3 + 1, none⟩ = some (.int .i64 l[k].1.drop) ∧ w.cell? ⟨b, off + k * 3 + 2, none⟩ = some l[k].2 := by
  obtain ⟨b, off, a, e, hb, hr, hc⟩ := h.at_ k hk
  have ha : a = [.int .i64 l[k].1.at_, .int .i64 l[k].1.drop, l[k].2] := hr
  subst ha
  exact ⟨b, off, e, hb, hc 0 _ rfl, hc 1 _ rfl, hc 2 _ rfl⟩
/-- Edits that are read, in later worlds. -/
theorem EdX.below {w w' : World} {F : Nat → Prop} {l : List (Edt × Value)} {v : Value} (h : EdX w F l v) (hb : Below w.heap.size w w') (hF : ∀ q, F q → q < w.heap.size) : EdX w' F l v :=
  ⟨h.sli.below hb hF, fun y hy => (h.par y hy).keep (fun q hq => hb.block q (hF q hq))⟩
/-- A list of texts of one's own beside private blocks: a whole list, an empty one too, is appended. -/
theorem wpList_appBO {ops : Array Oper} {rest : List Oper} {o : Oper} {a : Act} {Q : Exit → Act → World → Prop} (hgd : o.guard = none) (s x : Operand)
    (ho : o.op = .call { callee := .builtin .append, args := #[s, x], argTypes := #[26, 26] }) (i0 : TypeInfo) (hi0 : Tryz.prog.info? 9 = some i0) (hz0 : i0.zero = some (.string ⟨#[]⟩)) (hz1 : i0.size = 1) (hz2 : i0.bytes = 16)
    (w W : World) (v : Value) (l ys : List ByteArray) (P : List (Nat × Array Value × TypeId)) (hs : a.eval s = v) (G : BO strR 9 w l v P W) {F : Nat → Prop} (ad : Option Addr) (k c : Nat) (hx : a.eval x = .slice ad k c) (hy : Sli strR W F ys (.slice ad k c)) (hk : ys.length = k) (hb : l.length + k ≤ 100000)
    (h : ∀ v' W', BO strR 9 w (l ++ ys) v' P W' → wpList Tryz.prog ops Q rest (a.put o.dst v') W') : wpList Tryz.prog ops Q (o :: rest) a W := by
  by_cases h0 : k = 0
  · subst h0
    obtain rfl : ys = [] := List.length_eq_zero_iff.1 hk
    refine wpList_app0 hgd s x _ ho w.heap.size w.heap.size 9 i0 Tryz.underlying26 hi0 W v l hs G.own ad c hx (h v W ?_)
    rw [List.append_nil]
    exact G
  · refine wpList_appL (enc := fun s : ByteArray => [.string s]) (hn := fun _ => rfl) hgd s x _ ho w.heap.size w.heap.size 9 i0 _ 16 Tryz.underlying26 hi0 hz0 hz1 hz2 rfl (by decide) (fun x u hu => by simp at hu; subst hu; rfl) W v l hs G.own ys ad k c hx hy hk (by omega) (by unfold maxLen; omega) (by omega) G.bel.size ?_
    intro g cap w' hown hg hat _
    exact h _ _ (G.more hown hg rfl hat)
theorem drop_at {α : Type} {l : List α} {k : Nat} (h : k < l.length) : l.drop k = l[k] :: l.drop (k + 1) := List.drop_eq_getElem_cons h
set_option maxRecDepth 100000 in
set_option maxHeartbeats 16000000 in
theorem Patch_c {F : Nat → Prop} (a : List ByteArray) (l : List (Edt × Value)) (va vl : Value) (w : World) (ha : Sli strR w F a va) (hl : EdX w F l vl) (hF : ∀ q, F q → q < w.heap.size) (hna : a.length ≤ 5000) (hnl : l.length ≤ 10) (hadd : ∀ y ∈ l, y.1.add.length ≤ 2 ∧ -100000 ≤ y.1.at_ ∧ y.1.at_ ≤ 100000 ∧ -100000 ≤ y.1.drop ∧ y.1.drop ≤ 100000) :
    Calls Tryz.prog 10 #[va, vl] w (PatP a (l.map (·.1)) w) := by
  have H0 := Lib.hid (large_c a va w ha)
  obtain ⟨i0, hi0, hz0, hz1, hz2⟩ := info_parts (show (Tryz.prog.info? 9).map (fun i => (i.zero, i.size, i.bytes)) = some (some (.string ⟨#[]⟩), 1, 16) by kernel_rfl)
  obtain ⟨A0, c0, rfl, hl0, hc0⟩ := ha.form
  obtain ⟨A1, c1, rfl, hl1, hc1⟩ := hl.sli.form
  obtain ⟨n, hn⟩ : ∃ n, a.length = n := ⟨_, rfl⟩
  obtain ⟨m, hm⟩ : ∃ m, l.length = m := ⟨_, rfl⟩
  obtain ⟨ls, hls⟩ : ∃ ls, l.map (·.1) = ls := ⟨_, rfl⟩
  have HN := Lib.hid hn
  have HM := Lib.hid hm
  have HLS := Lib.hid hls
  have HAD := Lib.hid hadd
  have HS := Lib.hid (fun (W : World) (hw : Below w.heap.size w W) => And.intro (ha.below hw hF) (hl.below hw hF))
  have HF := Lib.hid hF
  rw [hls]
  rw [hn] at H0 HS hl0 hna ⊢
  rw [hm] at HS hl1 hnl ⊢
  clear ha hl hF hn hm hls hadd
  by_cases hbig : 3000 < n
  · have HE := Lib.hid (show patE a ls = 2 by unfold patE; rw [HN.out, if_pos hbig])
    rw [decide_eq_true hbig] at H0
    have HOUT := Lib.hid (show PatP a ls w (.returned (.tuple #[.slice none 0 0, .int .i64 2])) w from ⟨_, by rw [HE.out], Below.refl _ _, by rw [HE.out, if_neg (by decide)]; exact Own.nil_⟩)
    go_enter Tryz.func10, Tryz.ntmps10
    go_wp2_with fail
    refine H0.out.mono ?_
    rintro e w ⟨rfl, rfl⟩
    go_wp2
    go_ret2
    exact HOUT.out
  · have HE := Lib.hid (show ∀ x, edsE n none ls = x → x ≠ 0 → patE a ls = x from fun x hx h0 => by unfold patE; rw [HN.out, if_neg hbig, hx, if_neg h0])
    have HE2 := Lib.hid (show edsE n none ls = 0 → patE a ls = if 3000 < (edF a 0 ls).length then 2 else 0 from fun hx => by unfold patE; rw [HN.out, if_neg hbig, hx, if_pos rfl])
    rw [decide_eq_false hbig] at H0
    have E0 := Lib.hid (show BO strR 9 w [] (.slice none 0 0) [] w from BO.start w)
    have HOUT := Lib.hid (fun (x : Int) (W : World) (hx : edsE n none ls = x) (h0 : x ≠ 0) (hb : Below w.heap.size w W) => show PatP a ls w (.returned (.tuple #[.slice none 0 0, .int .i64 x])) W from by
      have hp := HE.out x hx h0
      exact ⟨_, by rw [hp], hb, by rw [hp, if_neg h0]; exact Own.nil_⟩)
    go_enter Tryz.func10, Tryz.ntmps10
    go_wp2_with fail
    refine H0.out.mono ?_
    rintro e w ⟨rfl, rfl⟩
    go_upto_region 6 with (fail)
    go_loopw [6, 7, 14] (fun s6 s7 s14 wr => ∃ (k p : Nat) (o : List ByteArray), k ≤ m ∧ s14 = .int .i64 k ∧ s7 = .int .i64 p ∧ p ≤ n ∧ (k = 0 → p = 0) ∧ o.length ≤ p + 2 * k ∧ Hid (edF a 0 ls = o ++ edF a p (ls.drop k)) ∧ Hid (edsE n none ls = edsE n (if k = 0 then none else some (p : Int)) (ls.drop k)) ∧ Hid (BO strR 9 w o s6 [] wr)) (fun _ _ s14 _ => m - (intOf s14).toNat)
    case atStart => exact ⟨0, 0, [], Nat.zero_le _, rfl, rfl, Nat.zero_le _, fun _ => rfl, Nat.zero_le _, Lib.hid rfl, Lib.hid rfl, E0⟩
    case round =>
      clear E0
      obtain ⟨k, p, o, hk, rfl, rfl, hp, hk0, hol, HF1, HE1, HG⟩ := hrel
      by_cases hlt : k < m
      · obtain ⟨y, hy⟩ : ∃ y, l[k]'(by rw [HM.out]; exact hlt) = y := ⟨_, rfl⟩
        have hym : y ∈ l := hy ▸ List.getElem_mem _
        obtain ⟨b, off, eA, hfb, c20, c21, c22⟩ := edAt3 (HS.out wr HG.out.bel).2.sli k (by rw [HM.out]; exact hlt)
        rw [hy] at c20 c21 c22
        have hyx := (HS.out wr HG.out.bel).2.par y hym
        have hya := HAD.out y hym
        have hdr : ls.drop k = y.1 :: ls.drop (k + 1) := by
          have hk2 : k < ls.length := by rw [← HLS.out, List.length_map, HM.out]; exact hlt
          rw [drop_at hk2]
          congr 1
          have : ls[k] = (l.map (·.1))[k]'(by rw [List.length_map, HM.out]; exact hlt) := by simp only [HLS.out]
          rw [this, List.getElem_map, hy]
        subst eA
        obtain ⟨⟨av, dv, ad⟩, vy⟩ := y
        dsimp only at c20 c21 c22 hyx hya hdr
        obtain ⟨Ay, cy, hvy, hcy, _⟩ := hyx.sli.form
        subst hvy
        obtain ⟨q, hq⟩ : ∃ q, ad.length = q := ⟨_, rfl⟩
        rw [hq] at c22 hyx hcy
        have HQ := Lib.hid hq
        have hq2 : q ≤ 2 := by rw [← hq]; exact hya.1
        obtain ⟨_, ha1, ha2, ha3, ha4⟩ := hya
        have HYW := Lib.hid (fun (W : World) (hw : Below w.heap.size w W) => show Sli strR W F ad (.slice Ay q cy) from by
          have e := ((HS.out W hw).2.par _ hym).sli
          dsimp only at e
          rw [hq] at e
          exact e)
        have HY := Lib.hid hyx.sli
        rw [hdr] at HF1 HE1
        have HG2 := Lib.hid (HG.out.new #[.int .i64 av, .int .i64 dv, .slice Ay q cy] 50)
        have HY2 := Lib.hid (HY.out.alloc (.cells #[.int .i64 av, .int .i64 dv, .slice Ay q cy] 50) (fun q hq => by have := HF.out q hq; have := HG.out.bel.size; omega))
        clear hyx hdr hq hy hym HY
        go_upto_region 8 with (fail)
        have eX : wr.heap.size < (wr.alloc (.cells #[.int .i64 av, .int .i64 dv, .slice Ay q cy] 50)).heap.size := by simp
        generalize wr.alloc (.cells #[.int .i64 av, .int .i64 dv, .slice Ay q cy] 50) = wE at *
        generalize wr.heap.size = X at *
        have HXC := Lib.hid (fun (W : World) (o' : List ByteArray) (v' : Value) (h : BO strR 9 w o' v' [(X, #[.int .i64 av, .int .i64 dv, .slice Ay q cy], 50)] W) => show W.cell? ⟨X, 0, none⟩ = some (.int .i64 av) ∧ W.cell? ⟨X, 1, none⟩ = some (.int .i64 dv) ∧ W.cell? ⟨X, 2, none⟩ = some (.slice Ay q cy) from ⟨(h.cell (p := (X, #[.int .i64 av, .int .i64 dv, .slice Ay q cy], 50)) (by simp)).1 0, (h.cell (p := (X, #[.int .i64 av, .int .i64 dv, .slice Ay q cy], 50)) (by simp)).1 1, (h.cell (p := (X, #[.int .i64 av, .int .i64 dv, .slice Ay q cy], 50)) (by simp)).1 2⟩)
        obtain ⟨e0, e1, e2⟩ := HXC.out wE o u6 HG2.out
        clear c20 c21 c22 HG eX
        have ew : IntKind.i64.wrap ((n : Int) - av) = (n : Int) - av := by rw [IntKind.wrap_i64]; omega
        by_cases f1 : av < 0
        · have ht : edtE n (if k = 0 then none else some (p : Int)) ⟨av, dv, ad⟩ = 1 := by unfold edtE; rw [if_pos (.inl f1)]
          have HR := Lib.hid (HOUT.out 1 wE (by rw [HE1.out]; unfold edsE; rw [ht, if_neg (by decide)]) (by decide) HG2.out.bel)
          clear ht
          go_wp2
          go_ret2
          exact HR.out
        by_cases f2 : (n : Int) < av
        · have ht : edtE n (if k = 0 then none else some (p : Int)) ⟨av, dv, ad⟩ = 1 := by unfold edtE; rw [if_pos (.inr (.inl f2))]
          have HR := Lib.hid (HOUT.out 1 wE (by rw [HE1.out]; unfold edsE; rw [ht, if_neg (by decide)]) (by decide) HG2.out.bel)
          clear ht
          go_wp2
          go_ret2
          exact HR.out
        by_cases f3 : dv < 0
        · have ht : edtE n (if k = 0 then none else some (p : Int)) ⟨av, dv, ad⟩ = 1 := by unfold edtE; rw [if_pos (.inr (.inr (.inl f3)))]
          have HR := Lib.hid (HOUT.out 1 wE (by rw [HE1.out]; unfold edsE; rw [ht, if_neg (by decide)]) (by decide) HG2.out.bel)
          clear ht
          go_wp2
          go_ret2
          exact HR.out
        by_cases f4 : (n : Int) - av < dv
        · have ht : edtE n (if k = 0 then none else some (p : Int)) ⟨av, dv, ad⟩ = 1 := by unfold edtE; rw [if_pos (.inr (.inr (.inr f4)))]
          have HR := Lib.hid (HOUT.out 1 wE (by rw [HE1.out]; unfold edsE; rw [ht, if_neg (by decide)]) (by decide) HG2.out.bel)
          clear ht
          go_wp2
          go_ret2
          exact HR.out
        have hE1 : ¬ (av < 0 ∨ (n : Int) < av ∨ dv < 0 ∨ (n : Int) - av < dv) := by omega
        by_cases f5 : 0 < k ∧ av ≤ (p : Int)
        · obtain ⟨f51, f52⟩ := f5
          have f53 : (0 : Int) < (k : Int) := by omega
          have ht : edtE n (if k = 0 then none else some (p : Int)) ⟨av, dv, ad⟩ = 7 := by unfold edtE; rw [if_neg hE1, if_neg (show ¬ k = 0 by omega), if_pos (show befE (some (p : Int)) av = true from decide_eq_true f52)]
          have HR := Lib.hid (HOUT.out 7 wE (by rw [HE1.out]; unfold edsE; rw [ht, if_neg (by decide)]) (by decide) HG2.out.bel)
          clear ht
          go_wp2
          go_ret2
          exact HR.out
        have hE2 : ¬ befE (if k = 0 then none else some (p : Int)) av = true := by
          by_cases h0 : k = 0
          · rw [if_pos h0]; exact Bool.false_ne_true
          · rw [if_neg h0]
            show ¬ decide (av ≤ (p : Int)) = true
            rw [decide_eq_true_eq]
            omega
        have hE5 : (0 < k → (p : Int) < av) := by omega
        by_cases f6 : dv = 0 ∧ q = 0
        · obtain ⟨f61, f62⟩ := f6
          have q0 : (q : Int) = 0 := by omega
          by_cases k0 : 0 < k
          · have f53 : (0 : Int) < (k : Int) := by omega
            have f54 : ¬ av ≤ (p : Int) := by omega
            have ht : edtE n (if k = 0 then none else some (p : Int)) ⟨av, dv, ad⟩ = 3 := by unfold edtE; rw [if_neg hE1, if_neg hE2, if_pos ⟨f61, List.length_eq_zero_iff.1 (by rw [HQ.out]; exact f62)⟩]
            have HR := Lib.hid (HOUT.out 3 wE (by rw [HE1.out]; unfold edsE; rw [ht, if_neg (by decide)]) (by decide) HG2.out.bel)
            clear ht
            go_wp2
            go_ret2
            exact HR.out
          · have f53 : ¬ (0 : Int) < (k : Int) := by omega
            have ht : edtE n (if k = 0 then none else some (p : Int)) ⟨av, dv, ad⟩ = 3 := by unfold edtE; rw [if_neg hE1, if_neg hE2, if_pos ⟨f61, List.length_eq_zero_iff.1 (by rw [HQ.out]; exact f62)⟩]
            have HR := Lib.hid (HOUT.out 3 wE (by rw [HE1.out]; unfold edsE; rw [ht, if_neg (by decide)]) (by decide) HG2.out.bel)
            clear ht
            go_wp2
            go_ret2
            exact HR.out
        have ht : edtE n (if k = 0 then none else some (p : Int)) ⟨av, dv, ad⟩ = 0 := by
          unfold edtE
          rw [if_neg hE1, if_neg hE2, if_neg (show ¬ (dv = 0 ∧ ad = []) from fun h => f6 ⟨h.1, by rw [← HQ.out, h.2]; rfl⟩)]
        have HE3 := Lib.hid (show edsE n none ls = edsE n (some (av + dv)) (ls.drop (k + 1)) by rw [HE1.out]; show (if _ then _ else _) = _; rw [if_pos ht])
        obtain ⟨x, rfl⟩ := Int.eq_ofNat_of_zero_le (show 0 ≤ av by omega)
        obtain ⟨d, rfl⟩ := Int.eq_ofNat_of_zero_le (show 0 ≤ dv by omega)
        have hpx : p ≤ x := by
          by_cases h0 : k = 0
          · have := hk0 h0; omega
          · have := hE5 (by omega); omega
        have hxn : x ≤ n := by omega
        have hxd : x + d ≤ n := by omega
        have HF3 := Lib.hid (show edF a 0 ls = (o ++ cutL a p x ++ ad) ++ edF a (x + d) (ls.drop (k + 1)) by
          rw [HF1.out]
          show o ++ (cutL a p ((x : Int)).toNat ++ ad ++ edF a ((x : Int) + (d : Int)).toNat (ls.drop (k + 1))) = _
          rw [show ((x : Int) + (d : Int)).toNat = x + d by omega, show ((x : Int)).toNat = x by omega]
          simp only [List.append_assoc])
        have hlx : (cutL a p x).length = x - p := cutL_len (by rw [HN.out]; exact hxn)
        have HSL := Lib.hid (cutSli2 (HS.out wE HG2.out.bel).1 hpx (by rw [HN.out]; exact hxn))
        have hpc : p ≤ c0 := by omega
        have hxc : x ≤ c0 := by omega
        have hqd : ¬ (d = 0 ∧ q = 0) := fun h => f6 ⟨by rw [h.1]; rfl, h.2⟩
        clear HE1 HF1 ht f6 hE1 hE2
        have HE4 := Lib.hid (show edsE n none ls = edsE n (if k + 1 = 0 then none else some ((x + d : Nat) : Int)) (ls.drop (k + 1)) by rw [HE3.out, if_neg (by omega)]; rfl)
        have HSL0 := HSL.out
        clear HSL
        by_cases k0 : 0 < k
        · have f53 : (0 : Int) < (k : Int) := by omega
          have f54 : ¬ (x : Int) ≤ (p : Int) := by have := hE5 k0; omega
          by_cases d0 : d = 0
          · have d00 : (d : Int) = 0 := by omega
            have q0 : ¬ (q : Int) = 0 := by omega
            by_cases hcc : c0 = p
            · exfalso
              have := hE5 k0
              omega
            · rw [if_neg hcc] at HSL0
              have HSL := Lib.hid HSL0
              clear HSL0
              go_wp2_with (at_builtin; first | ((refine wpList_appBO rfl _ _ rfl i0 hi0 hz0 hz1 hz2 w wE u6 o (cutL a p x) _ rfl HG2.out _ (x - p) (c0 - p) rfl HSL.out hlx (by omega) ?_); intro v7 w7 hG7; have G7 := Lib.hid hG7; obtain ⟨e70, e71, e72⟩ := HXC.out w7 _ _ hG7; clear hG7) | ((refine wpList_appBO rfl _ _ rfl i0 hi0 hz0 hz1 hz2 w w7 v7 (o ++ cutL a p x) ad _ rfl G7.out Ay q cy rfl (HYW.out w7 G7.out.bel) HQ.out (by rw [List.length_append, hlx]; omega) ?_); intro v8 w8 hG8; have G8 := Lib.hid hG8; obtain ⟨e80, e81, e82⟩ := HXC.out w8 _ _ hG8; clear hG8))
              try go_wp2
              go_roundw
              case rel => exact ⟨k + 1, x + d, o ++ cutL a p x ++ ad, by omega, intNum, by congr 1 <;> omega, by omega, by omega, by rw [List.length_append, List.length_append, hlx, HQ.out]; omega, HF3, HE4, Lib.hid (G8.out.less (Q := []) (fun p hp => by cases hp))⟩
              case measure => simp [intOf]; omega
          · have q0 : ¬ (d : Int) = 0 := by omega
            by_cases hcc : c0 = p
            · exfalso
              have := hE5 k0
              omega
            · rw [if_neg hcc] at HSL0
              have HSL := Lib.hid HSL0
              clear HSL0
              go_wp2_with (at_builtin; first | ((refine wpList_appBO rfl _ _ rfl i0 hi0 hz0 hz1 hz2 w wE u6 o (cutL a p x) _ rfl HG2.out _ (x - p) (c0 - p) rfl HSL.out hlx (by omega) ?_); intro v7 w7 hG7; have G7 := Lib.hid hG7; obtain ⟨e70, e71, e72⟩ := HXC.out w7 _ _ hG7; clear hG7) | ((refine wpList_appBO rfl _ _ rfl i0 hi0 hz0 hz1 hz2 w w7 v7 (o ++ cutL a p x) ad _ rfl G7.out Ay q cy rfl (HYW.out w7 G7.out.bel) HQ.out (by rw [List.length_append, hlx]; omega) ?_); intro v8 w8 hG8; have G8 := Lib.hid hG8; obtain ⟨e80, e81, e82⟩ := HXC.out w8 _ _ hG8; clear hG8))
              try go_wp2
              go_roundw
              case rel => exact ⟨k + 1, x + d, o ++ cutL a p x ++ ad, by omega, intNum, by congr 1 <;> omega, by omega, by omega, by rw [List.length_append, List.length_append, hlx, HQ.out]; omega, HF3, HE4, Lib.hid (G8.out.less (Q := []) (fun p hp => by cases hp))⟩
              case measure => simp [intOf]; omega
        · have f53 : ¬ (0 : Int) < (k : Int) := by omega
          by_cases d0 : d = 0
          · have d00 : (d : Int) = 0 := by omega
            have q0 : ¬ (q : Int) = 0 := by omega
            by_cases hcc : c0 = p
            · rw [if_pos hcc] at HSL0
              have hcc2 := eq_true hcc
              clear hcc
              have HSL := Lib.hid HSL0
              clear HSL0
              go_wp2_with (at_builtin; first | ((refine wpList_appBO rfl _ _ rfl i0 hi0 hz0 hz1 hz2 w wE u6 o (cutL a p x) _ rfl HG2.out _ (x - p) (c0 - p) rfl HSL.out hlx (by omega) ?_); intro v7 w7 hG7; have G7 := Lib.hid hG7; obtain ⟨e70, e71, e72⟩ := HXC.out w7 _ _ hG7; clear hG7) | ((refine wpList_appBO rfl _ _ rfl i0 hi0 hz0 hz1 hz2 w w7 v7 (o ++ cutL a p x) ad _ rfl G7.out Ay q cy rfl (HYW.out w7 G7.out.bel) HQ.out (by rw [List.length_append, hlx]; omega) ?_); intro v8 w8 hG8; have G8 := Lib.hid hG8; obtain ⟨e80, e81, e82⟩ := HXC.out w8 _ _ hG8; clear hG8))
              try go_wp2
              go_roundw
              case rel => exact ⟨k + 1, x + d, o ++ cutL a p x ++ ad, by omega, intNum, by congr 1 <;> omega, by omega, by omega, by rw [List.length_append, List.length_append, hlx, HQ.out]; omega, HF3, HE4, Lib.hid (G8.out.less (Q := []) (fun p hp => by cases hp))⟩
              case measure => simp [intOf]; omega
            · rw [if_neg hcc] at HSL0
              have HSL := Lib.hid HSL0
              clear HSL0
              go_wp2_with (at_builtin; first | ((refine wpList_appBO rfl _ _ rfl i0 hi0 hz0 hz1 hz2 w wE u6 o (cutL a p x) _ rfl HG2.out _ (x - p) (c0 - p) rfl HSL.out hlx (by omega) ?_); intro v7 w7 hG7; have G7 := Lib.hid hG7; obtain ⟨e70, e71, e72⟩ := HXC.out w7 _ _ hG7; clear hG7) | ((refine wpList_appBO rfl _ _ rfl i0 hi0 hz0 hz1 hz2 w w7 v7 (o ++ cutL a p x) ad _ rfl G7.out Ay q cy rfl (HYW.out w7 G7.out.bel) HQ.out (by rw [List.length_append, hlx]; omega) ?_); intro v8 w8 hG8; have G8 := Lib.hid hG8; obtain ⟨e80, e81, e82⟩ := HXC.out w8 _ _ hG8; clear hG8))
              try go_wp2
              go_roundw
              case rel => exact ⟨k + 1, x + d, o ++ cutL a p x ++ ad, by omega, intNum, by congr 1 <;> omega, by omega, by omega, by rw [List.length_append, List.length_append, hlx, HQ.out]; omega, HF3, HE4, Lib.hid (G8.out.less (Q := []) (fun p hp => by cases hp))⟩
              case measure => simp [intOf]; omega
          · have q0 : ¬ (d : Int) = 0 := by omega
            by_cases hcc : c0 = p
            · rw [if_pos hcc] at HSL0
              have hcc2 := eq_true hcc
              clear hcc
              have HSL := Lib.hid HSL0
              clear HSL0
              go_wp2_with (at_builtin; first | ((refine wpList_appBO rfl _ _ rfl i0 hi0 hz0 hz1 hz2 w wE u6 o (cutL a p x) _ rfl HG2.out _ (x - p) (c0 - p) rfl HSL.out hlx (by omega) ?_); intro v7 w7 hG7; have G7 := Lib.hid hG7; obtain ⟨e70, e71, e72⟩ := HXC.out w7 _ _ hG7; clear hG7) | ((refine wpList_appBO rfl _ _ rfl i0 hi0 hz0 hz1 hz2 w w7 v7 (o ++ cutL a p x) ad _ rfl G7.out Ay q cy rfl (HYW.out w7 G7.out.bel) HQ.out (by rw [List.length_append, hlx]; omega) ?_); intro v8 w8 hG8; have G8 := Lib.hid hG8; obtain ⟨e80, e81, e82⟩ := HXC.out w8 _ _ hG8; clear hG8))
              try go_wp2
              go_roundw
              case rel => exact ⟨k + 1, x + d, o ++ cutL a p x ++ ad, by omega, intNum, by congr 1 <;> omega, by omega, by omega, by rw [List.length_append, List.length_append, hlx, HQ.out]; omega, HF3, HE4, Lib.hid (G8.out.less (Q := []) (fun p hp => by cases hp))⟩
              case measure => simp [intOf]; omega
            · rw [if_neg hcc] at HSL0
              have HSL := Lib.hid HSL0
              clear HSL0
              go_wp2_with (at_builtin; first | ((refine wpList_appBO rfl _ _ rfl i0 hi0 hz0 hz1 hz2 w wE u6 o (cutL a p x) _ rfl HG2.out _ (x - p) (c0 - p) rfl HSL.out hlx (by omega) ?_); intro v7 w7 hG7; have G7 := Lib.hid hG7; obtain ⟨e70, e71, e72⟩ := HXC.out w7 _ _ hG7; clear hG7) | ((refine wpList_appBO rfl _ _ rfl i0 hi0 hz0 hz1 hz2 w w7 v7 (o ++ cutL a p x) ad _ rfl G7.out Ay q cy rfl (HYW.out w7 G7.out.bel) HQ.out (by rw [List.length_append, hlx]; omega) ?_); intro v8 w8 hG8; have G8 := Lib.hid hG8; obtain ⟨e80, e81, e82⟩ := HXC.out w8 _ _ hG8; clear hG8))
              try go_wp2
              go_roundw
              case rel => exact ⟨k + 1, x + d, o ++ cutL a p x ++ ad, by omega, intNum, by congr 1 <;> omega, by omega, by omega, by rw [List.length_append, List.length_append, hlx, HQ.out]; omega, HF3, HE4, Lib.hid (G8.out.less (Q := []) (fun p hp => by cases hp))⟩
              case measure => simp [intOf]; omega
      · have hkm : k = m := by omega
        subst hkm
        have hln : ls.drop k = [] := List.drop_of_length_le (by rw [← HLS.out, List.length_map, HM.out]; exact Nat.le_refl _)
        rw [hln] at HF1 HE1
        have HRS := Lib.hid (show edF a 0 ls = o ++ cutL a p n by
          rw [HF1.out]
          show o ++ a.drop p = _
          unfold cutL
          rw [List.take_of_length_le (by rw [List.length_drop, HN.out]; exact Nat.le_refl _)])
        have HP := Lib.hid (HE2.out HE1.out)
        have hlx : (cutL a p n).length = n - p := cutL_len (by rw [HN.out]; exact Nat.le_refl _)
        have HSL0 := cutSli2 (HS.out wr HG.out.bel).1 hp (by rw [HN.out]; exact Nat.le_refl _)
        have hpc : p ≤ c0 := by omega
        clear hln HF1 HE1
        by_cases hcc : c0 = p
        · rw [if_pos hcc] at HSL0
          have hcc2 := eq_true hcc
          clear hcc
          have HSL := Lib.hid HSL0
          clear HSL0
          go_upto_region 19 with (at_builtin; refine wpList_appBO rfl _ _ rfl i0 hi0 hz0 hz1 hz2 w wr u6 o (cutL a p n) _ rfl HG.out _ (n - p) (c0 - p) rfl HSL.out hlx (by omega) ?_; intro v7 w7 hG7; have G7 := Lib.hid hG7; clear hG7)
          have HLG := large_c (o ++ cutL a p n) v7 w7 (G7.out.own.sli (F := fun _ => True) (fun _ _ _ => trivial) (fun _ _ => trivial))
          by_cases hfb : 3000 < (o ++ cutL a p n).length
          · rw [decide_eq_true hfb] at HLG
            have HLG := Lib.hid HLG
            have HR := Lib.hid (show PatP a ls w (.returned (.tuple #[.slice none 0 0, .int .i64 2])) w7 from by
              have hp2 : patE a ls = 2 := by rw [HP.out, HRS.out, if_pos hfb]
              exact ⟨_, by rw [hp2], G7.out.bel, by rw [hp2, if_neg (by decide)]; exact Own.nil_⟩)
            clear hfb
            go_wp2_with fail
            refine HLG.out.mono ?_
            rintro e w7 ⟨rfl, rfl⟩
            go_wp2
            go_ret2
            exact HR.out
          · rw [decide_eq_false hfb] at HLG
            have HLG := Lib.hid HLG
            have HR := Lib.hid (show PatP a ls w (.returned (.tuple #[v7, .int .i64 0])) w7 from by
              have hp2 : patE a ls = 0 := by rw [HP.out, HRS.out, if_neg hfb]
              exact ⟨_, by rw [hp2], G7.out.bel, by rw [hp2, if_pos rfl, HRS.out]; exact G7.out.own⟩)
            clear hfb
            go_wp2_with fail
            refine HLG.out.mono ?_
            rintro e w7 ⟨rfl, rfl⟩
            go_wp2
            go_ret2
            exact HR.out
        · rw [if_neg hcc] at HSL0
          have HSL := Lib.hid HSL0
          clear HSL0
          go_upto_region 19 with (at_builtin; refine wpList_appBO rfl _ _ rfl i0 hi0 hz0 hz1 hz2 w wr u6 o (cutL a p n) _ rfl HG.out _ (n - p) (c0 - p) rfl HSL.out hlx (by omega) ?_; intro v7 w7 hG7; have G7 := Lib.hid hG7; clear hG7)
          have HLG := large_c (o ++ cutL a p n) v7 w7 (G7.out.own.sli (F := fun _ => True) (fun _ _ _ => trivial) (fun _ _ => trivial))
          by_cases hfb : 3000 < (o ++ cutL a p n).length
          · rw [decide_eq_true hfb] at HLG
            have HLG := Lib.hid HLG
            have HR := Lib.hid (show PatP a ls w (.returned (.tuple #[.slice none 0 0, .int .i64 2])) w7 from by
              have hp2 : patE a ls = 2 := by rw [HP.out, HRS.out, if_pos hfb]
              exact ⟨_, by rw [hp2], G7.out.bel, by rw [hp2, if_neg (by decide)]; exact Own.nil_⟩)
            clear hfb
            go_wp2_with fail
            refine HLG.out.mono ?_
            rintro e w7 ⟨rfl, rfl⟩
            go_wp2
            go_ret2
            exact HR.out
          · rw [decide_eq_false hfb] at HLG
            have HLG := Lib.hid HLG
            have HR := Lib.hid (show PatP a ls w (.returned (.tuple #[v7, .int .i64 0])) w7 from by
              have hp2 : patE a ls = 0 := by rw [HP.out, HRS.out, if_neg hfb]
              exact ⟨_, by rw [hp2], G7.out.bel, by rw [hp2, if_pos rfl, HRS.out]; exact G7.out.own⟩)
            clear hfb
            go_wp2_with fail
            refine HLG.out.mono ?_
            rintro e w7 ⟨rfl, rfl⟩
            go_wp2
            go_ret2
            exact HR.out
end Go.Proofs.YtnnnmbipmfopmaaGreatDoor

/- R.PatchOf, walked. -/
namespace Go.Proofs.YtnnnmbipmfopmaaGreatDoor
set_option linter.unusedVariables false
open Go.RowKit Go.Sort

theorem edsE_drop {n : Nat} : ∀ {l : List Edt} {p : Option Int} (i : Nat), edsE n p l = 0 → ∃ p', edsE n p' (l.drop i) = 0
  | _, p, 0, h => ⟨p, h⟩
  | [], p, i + 1, _ => ⟨p, rfl⟩
  | e :: l, p, i + 1, h => edsE_drop i (edsE_cons h).2
theorem edB_ge {a : List ByteArray} {l : List Edt} {p : Option Int} {e : Edt} (h : edsE a.length p (e :: l) = 0) : 0 ≤ e.at_ ∧ 0 ≤ e.drop ∧ (e.at_ + e.drop).toNat ≤ (edB a l).length ∧ ¬ (e.drop = 0 ∧ e.add = []) := by
  obtain ⟨he, hl⟩ := edsE_cons h
  obtain ⟨e0, e1, e2, _, e4⟩ := edtE_ok he
  refine ⟨e0, e1, ?_, e4⟩
  have ih := edB_eq (q := (e.at_ + e.drop).toNat) hl (fun x hx => by cases hx; omega) (fun hx => by cases hx) (by omega)
  rw [ih, List.length_append, List.length_take]
  omega
theorem rpl_len (o : List ByteArray) (e : Edt) (h1 : 0 ≤ e.drop) (h0 : 0 ≤ e.at_) (h : (e.at_ + e.drop).toNat ≤ o.length) : (rpl o e).length ≤ o.length + e.add.length := by
  unfold rpl
  simp only [List.length_append, List.length_take, List.length_drop]
  omega
/-- The end of an edit, if there is one before. -/
def prevE (ls : List Edt) (k : Nat) : Option Int := if k = 0 then none else (ls[k - 1]?).map fun e => e.at_ + e.drop
theorem prevE_succ {ls : List Edt} {k : Nat} {e : Edt} (h : ls[k]? = some e) : prevE ls (k + 1) = some (e.at_ + e.drop) := by
  unfold prevE
  rw [if_neg (by omega), show k + 1 - 1 = k by omega, h]
  rfl
set_option maxRecDepth 100000 in
set_option maxHeartbeats 16000000 in
theorem PatchOf_c {F : Nat → Prop} (a : List ByteArray) (l : List (Edt × Value)) (va vl : Value) (w : World) (ha : Sli strR w F a va) (hl : EdX w F l vl) (hF : ∀ q, F q → q < w.heap.size) (hna : a.length ≤ 5000) (hnl : l.length ≤ 10) (hadd : ∀ y ∈ l, y.1.add.length ≤ 2 ∧ -100000 ≤ y.1.at_ ∧ y.1.at_ ≤ 100000 ∧ -100000 ≤ y.1.drop ∧ y.1.drop ≤ 100000) :
    Calls Tryz.prog 11 #[va, vl] w (PatP a (l.map (·.1)) w) := by
  obtain ⟨A0, c0, rfl, hl0, hc0⟩ := ha.form
  obtain ⟨A1, c1, rfl, hl1, hc1⟩ := hl.sli.form
  obtain ⟨n, hn⟩ : ∃ n, a.length = n := ⟨_, rfl⟩
  obtain ⟨m, hm⟩ : ∃ m, l.length = m := ⟨_, rfl⟩
  obtain ⟨ls, hls⟩ : ∃ ls, l.map (·.1) = ls := ⟨_, rfl⟩
  have HN := Lib.hid hn
  have HM := Lib.hid hm
  have HLS := Lib.hid hls
  have HLM := Lib.hid (show ls.length = m by rw [← hls, List.length_map, hm])
  have HAT := Lib.hid (fun (k : Nat) (y : Edt × Value) (hk : l[k]? = some y) => show ls[k]? = some y.1 by rw [← hls, List.getElem?_map, hk]; rfl)
  have HAD := Lib.hid hadd
  have HS := Lib.hid (fun (W : World) (hw : Below w.heap.size w W) => And.intro (ha.below hw hF) (hl.below hw hF))
  have HF := Lib.hid hF
  have HCL := Lib.hid (fun (W : World) (hw : Below w.heap.size w W) => cloneAny_c a A0 a.length c0 W (ha.below hw hF) (by omega))
  rw [hls]
  rw [hn] at HS HCL hl0 hna ⊢
  rw [hm] at HS hl1 hnl ⊢
  clear ha hl hF hn hm hls hadd
  by_cases hbig : 3000 < n
  · have HE := Lib.hid (show patE a ls = 2 by unfold patE; rw [HN.out, if_pos hbig])
    have HOUT := Lib.hid (show PatP a ls w (.returned (.tuple #[.slice none 0 0, .int .i64 2])) w from ⟨_, by rw [HE.out], Below.refl _ _, by rw [HE.out, if_neg (by decide)]; exact Own.nil_⟩)
    have hbi : (3000 : Int) < (n : Int) := by omega
    go_enter Tryz.func11, Tryz.ntmps11
    go_wp2
    go_ret2
    exact HOUT.out
  · have HE := Lib.hid (show ∀ x, edsE n none ls = x → x ≠ 0 → patE a ls = x from fun x hx h0 => by unfold patE; rw [HN.out, if_neg hbig, hx, if_neg h0])
    have HE2 := Lib.hid (show edsE n none ls = 0 → patE a ls = if 3000 < (edF a 0 ls).length then 2 else 0 from fun hx => by unfold patE; rw [HN.out, if_neg hbig, hx, if_pos rfl])
    have HOUT := Lib.hid (fun (x : Int) (W : World) (hx : edsE n none ls = x) (h0 : x ≠ 0) (hb : Below w.heap.size w W) => show PatP a ls w (.returned (.tuple #[.slice none 0 0, .int .i64 x])) W from by
      have hp := HE.out x hx h0
      exact ⟨_, by rw [hp], hb, by rw [hp, if_neg h0]; exact Own.nil_⟩)
    have hbi : ¬ (3000 : Int) < (n : Int) := by omega
    go_enter Tryz.func11, Tryz.ntmps11
    go_upto_region 4 with (fail)
    go_loopw [15] (fun s15 wr => ∃ k : Nat, k ≤ m ∧ s15 = .int .i64 k ∧ Hid (edsE n none ls = edsE n (prevE ls k) (ls.drop k)) ∧ Hid (Below w.heap.size w wr)) (fun s15 _ => m - (intOf s15).toNat)
    case atStart => exact ⟨0, Nat.zero_le _, rfl, Lib.hid rfl, Lib.hid (Below.refl _ _)⟩
    case round =>
      obtain ⟨k, hk, rfl, HE1, HB⟩ := hrel
      by_cases hlt : k < m
      · obtain ⟨y, hy⟩ : ∃ y, l[k]'(by rw [HM.out]; exact hlt) = y := ⟨_, rfl⟩
        have hym : y ∈ l := hy ▸ List.getElem_mem _
        obtain ⟨b, off, eA, hfb, c20, c21, c22⟩ := edAt3 (HS.out wr HB.out).2.sli k (by rw [HM.out]; exact hlt)
        rw [hy] at c20 c21 c22
        have hyx := (HS.out wr HB.out).2.par y hym
        have hya := HAD.out y hym
        have hyk : ls[k]? = some y.1 := HAT.out k y (by rw [List.getElem?_eq_getElem (by rw [HM.out]; exact hlt), hy])
        have hdr : ls.drop k = y.1 :: ls.drop (k + 1) := by
          have hk2 : k < ls.length := by rw [HLM.out]; exact hlt
          rw [drop_at hk2]
          congr 1
          rw [List.getElem?_eq_getElem hk2] at hyk
          exact Option.some.inj hyk
        have HPV := Lib.hid (fun (h0 : 0 < k) => show ∃ z : Edt × Value, prevE ls k = some (z.1.at_ + z.1.drop) ∧ wr.cell? ⟨b, off + (k - 1) * 3, none⟩ = some (.int .i64 z.1.at_) ∧ wr.cell? ⟨b, off + (k - 1) * 3 + 1, none⟩ = some (.int .i64 z.1.drop) ∧ -100000 ≤ z.1.at_ ∧ z.1.at_ ≤ 100000 ∧ -100000 ≤ z.1.drop ∧ z.1.drop ≤ 100000 from by
          have hk1 : k - 1 < l.length := by rw [HM.out]; omega
          obtain ⟨b', off', eA', _, z0, z1, _⟩ := edAt3 (HS.out wr HB.out).2.sli (k - 1) hk1
          rw [eA] at eA'
          cases eA'
          have hz := (HAD.out _ (List.getElem_mem hk1)).2
          refine ⟨l[k - 1], ?_, z0, z1, hz⟩
          have := prevE_succ (HAT.out (k - 1) l[k - 1] (List.getElem?_eq_getElem hk1))
          rw [show k - 1 + 1 = k by omega] at this
          exact this)
        subst eA
        obtain ⟨⟨av, dv, ad⟩, vy⟩ := y
        dsimp only at c20 c21 c22 hyx hya hdr hyk
        obtain ⟨Ay, cy, hvy, hcy, _⟩ := hyx.sli.form
        subst hvy
        obtain ⟨q, hq⟩ : ∃ q, ad.length = q := ⟨_, rfl⟩
        rw [hq] at c22 hcy
        have HQ := Lib.hid hq
        obtain ⟨_, ha1, ha2, ha3, ha4⟩ := hya
        have hpe := prevE_succ hyk
        rw [hdr] at HE1
        have hne := heap_alloc_new wr (.cells #[.int .i64 av, .int .i64 dv, .slice Ay q cy] 50)
        have HB2 := Lib.hid (HB.out.alloc HB.out.size (.cells #[.int .i64 av, .int .i64 dv, .slice Ay q cy] 50))
        have hbl : b < wr.heap.size := by have := HF.out b hfb; have := HB.out.size; omega
        have HOL := Lib.hid (fun (o : Nat) (u : Value) (h : wr.cell? ⟨b, o, none⟩ = some u) => show (wr.alloc (.cells #[.int .i64 av, .int .i64 dv, .slice Ay q cy] 50)).cell? ⟨b, o, none⟩ = some u from (World.cell?_alloc_lt wr _ ⟨b, o, none⟩ hbl).trans h)
        have HPE := Lib.hid hpe
        clear hyx hdr hq hy hym hyk hpe hcy
        go_upto_region 6 with (fail)
        generalize wr.alloc (.cells #[.int .i64 av, .int .i64 dv, .slice Ay q cy] 50) = wE at *
        generalize wr.heap.size = X at *
        have e0 : wE.cell? ⟨X, 0, none⟩ = some (.int .i64 av) := (str_cells hne).1 0
        have e1 : wE.cell? ⟨X, 1, none⟩ = some (.int .i64 dv) := (str_cells hne).1 1
        have e2 : wE.cell? ⟨X, 2, none⟩ = some (.slice Ay q cy) := (str_cells hne).1 2
        clear c20 c21 c22 hne HB
        have ew : IntKind.i64.wrap ((n : Int) - av) = (n : Int) - av := by rw [IntKind.wrap_i64]; omega
        by_cases f1 : av < 0
        · have ht : edtE n (prevE ls k) ⟨av, dv, ad⟩ = 1 := by unfold edtE; rw [if_pos (.inl f1)]
          have HR := Lib.hid (HOUT.out 1 wE (by rw [HE1.out]; unfold edsE; rw [ht, if_neg (by decide)]) (by decide) HB2.out)
          clear ht
          go_wp2
          go_ret2
          exact HR.out
        by_cases f2 : (n : Int) < av
        · have ht : edtE n (prevE ls k) ⟨av, dv, ad⟩ = 1 := by unfold edtE; rw [if_pos (.inr (.inl f2))]
          have HR := Lib.hid (HOUT.out 1 wE (by rw [HE1.out]; unfold edsE; rw [ht, if_neg (by decide)]) (by decide) HB2.out)
          clear ht
          go_wp2
          go_ret2
          exact HR.out
        by_cases f3 : dv < 0
        · have ht : edtE n (prevE ls k) ⟨av, dv, ad⟩ = 1 := by unfold edtE; rw [if_pos (.inr (.inr (.inl f3)))]
          have HR := Lib.hid (HOUT.out 1 wE (by rw [HE1.out]; unfold edsE; rw [ht, if_neg (by decide)]) (by decide) HB2.out)
          clear ht
          go_wp2
          go_ret2
          exact HR.out
        by_cases f4 : (n : Int) - av < dv
        · have ht : edtE n (prevE ls k) ⟨av, dv, ad⟩ = 1 := by unfold edtE; rw [if_pos (.inr (.inr (.inr f4)))]
          have HR := Lib.hid (HOUT.out 1 wE (by rw [HE1.out]; unfold edsE; rw [ht, if_neg (by decide)]) (by decide) HB2.out)
          clear ht
          go_wp2
          go_ret2
          exact HR.out
        have hE1 : ¬ (av < 0 ∨ (n : Int) < av ∨ dv < 0 ∨ (n : Int) - av < dv) := by omega
        by_cases k0 : 0 < k
        · have f53 : (0 : Int) < (k : Int) := by omega
          obtain ⟨z, hz0, z0, z1, hz1, hz2, hz3, hz4⟩ := HPV.out k0
          have hz5 : IntKind.i64.wrap (z.1.at_ + z.1.drop) = z.1.at_ + z.1.drop := by rw [IntKind.wrap_i64]; omega
          have z0 := HOL.out _ _ z0
          have z1 := HOL.out _ _ z1
          have hk3 : IntKind.i64.wrap ((k : Int) - 1) = (k : Int) - 1 := by rw [IntKind.wrap_i64]; omega
          have hk4 : (0 : Int) ≤ (k : Int) - 1 := by omega
          have hk5 : (k : Int) - 1 < (m : Int) := by omega
          have hk6 : ((k : Int) - 1).toNat = k - 1 := by omega
          generalize z.1.at_ = za at *
          generalize z.1.drop = zd at *
          clear HPV HOL
          by_cases f5 : av ≤ za + zd
          · have ht : edtE n (prevE ls k) ⟨av, dv, ad⟩ = 7 := by unfold edtE; rw [if_neg hE1, hz0, if_pos (show befE (some (za + zd)) av = true from decide_eq_true f5)]
            have HR := Lib.hid (HOUT.out 7 wE.drew (by rw [HE1.out]; unfold edsE; rw [ht, if_neg (by decide)]) (by decide) HB2.out.drew)
            clear ht
            go_upto_region 8 with (fail)
            go_region
            go_wp2
            go_ret2
            exact HR.out
          have hE2 : ¬ befE (prevE ls k) av = true := by
            rw [hz0]
            show ¬ decide (av ≤ za + zd) = true
            rw [decide_eq_true_eq]
            exact f5
          by_cases f6 : dv = 0 ∧ q = 0
          · obtain ⟨f61, f62⟩ := f6
            have q0 : (q : Int) = 0 := by omega
            have ht : edtE n (prevE ls k) ⟨av, dv, ad⟩ = 3 := by unfold edtE; rw [if_neg hE1, if_neg hE2, if_pos ⟨f61, List.length_eq_zero_iff.1 (by rw [HQ.out]; exact f62)⟩]
            have HR := Lib.hid (HOUT.out 3 wE.drew (by rw [HE1.out]; unfold edsE; rw [ht, if_neg (by decide)]) (by decide) HB2.out.drew)
            clear ht
            go_upto_region 8 with (fail)
            go_region
            go_wp2
            go_ret2
            exact HR.out
          have ht : edtE n (prevE ls k) ⟨av, dv, ad⟩ = 0 := by
            unfold edtE
            rw [if_neg hE1, if_neg hE2, if_neg (show ¬ (dv = 0 ∧ ad = []) from fun h => f6 ⟨h.1, by rw [← HQ.out, h.2]; rfl⟩)]
          have HE3 := Lib.hid (show edsE n none ls = edsE n (prevE ls (k + 1)) (ls.drop (k + 1)) by rw [HE1.out, HPE.out]; show (if _ then _ else _) = _; rw [if_pos ht])
          clear ht hE1 hE2 HE1 HPE
          by_cases d0 : dv = 0
          · have q0 : ¬ (q : Int) = 0 := by omega
            clear f6
            go_upto_region 8 with (fail)
            go_region
            go_wp2
            go_roundw
            case rel => exact ⟨k + 1, by omega, intNum, HE3, Lib.hid HB2.out.drew⟩
            case measure => simp [intOf]; omega
          · clear f6
            go_upto_region 8 with (fail)
            go_region
            go_wp2
            go_roundw
            case rel => exact ⟨k + 1, by omega, intNum, HE3, Lib.hid HB2.out.drew⟩
            case measure => simp [intOf]; omega
        · have f53 : ¬ (0 : Int) < (k : Int) := by omega
          have hE2 : ¬ befE (prevE ls k) av = true := by
            obtain rfl : k = 0 := by omega
            exact Bool.false_ne_true
          clear HPV HOL
          by_cases f6 : dv = 0 ∧ q = 0
          · obtain ⟨f61, f62⟩ := f6
            have q0 : (q : Int) = 0 := by omega
            have ht : edtE n (prevE ls k) ⟨av, dv, ad⟩ = 3 := by unfold edtE; rw [if_neg hE1, if_neg hE2, if_pos ⟨f61, List.length_eq_zero_iff.1 (by rw [HQ.out]; exact f62)⟩]
            have HR := Lib.hid (HOUT.out 3 wE.drew (by rw [HE1.out]; unfold edsE; rw [ht, if_neg (by decide)]) (by decide) HB2.out.drew)
            clear ht
            go_upto_region 8 with (fail)
            go_region
            go_wp2
            go_ret2
            exact HR.out
          have ht : edtE n (prevE ls k) ⟨av, dv, ad⟩ = 0 := by
            unfold edtE
            rw [if_neg hE1, if_neg hE2, if_neg (show ¬ (dv = 0 ∧ ad = []) from fun h => f6 ⟨h.1, by rw [← HQ.out, h.2]; rfl⟩)]
          have HE3 := Lib.hid (show edsE n none ls = edsE n (prevE ls (k + 1)) (ls.drop (k + 1)) by rw [HE1.out, HPE.out]; show (if _ then _ else _) = _; rw [if_pos ht])
          clear ht hE1 hE2 HE1 HPE
          by_cases d0 : dv = 0
          · have q0 : ¬ (q : Int) = 0 := by omega
            clear f6
            go_upto_region 8 with (fail)
            go_region
            go_wp2
            go_roundw
            case rel => exact ⟨k + 1, by omega, intNum, HE3, Lib.hid HB2.out.drew⟩
            case measure => simp [intOf]; omega
          · clear f6
            go_upto_region 8 with (fail)
            go_region
            go_wp2
            go_roundw
            case rel => exact ⟨k + 1, by omega, intNum, HE3, Lib.hid HB2.out.drew⟩
            case measure => simp [intOf]; omega
      · have hkm : k = m := by omega
        subst hkm
        have hln : ls.drop k = [] := List.drop_of_length_le (by rw [HLM.out]; exact Nat.le_refl _)
        rw [hln] at HE1
        have hOK : edsE n none ls = 0 := HE1.out
        have HP := Lib.hid (HE2.out hOK)
        have HOK := Lib.hid (show edsE a.length none ls = 0 by rw [HN.out]; exact hOK)
        clear hln HE1 hOK HE2 HE
        have hwm : IntKind.i64.wrap ((k : Int) - 1) = (k : Int) - 1 := by rw [IntKind.wrap_i64]; omega
        go_wp2_with fail
        refine (HCL.out wr HB.out).mono ?_
        rintro e w3 ⟨v3, rfl, hown3, hb3⟩
        have E3 := Lib.hid (show BO strR 9 w (edB a (ls.drop k)) v3 [] w3 by
          rw [List.drop_of_length_le (by rw [HLM.out]; exact Nat.le_refl _)]
          exact ⟨HB.out.trans (hb3.mono HB.out.size), Own.less (enc := fun s : ByteArray => [.string s]) (hn := fun _ => rfl) hown3 HB.out.size, fun p hp => by cases hp⟩)
        have hl3 : (edB a (ls.drop k)).length ≤ n := by
          rw [List.drop_of_length_le (by rw [HLM.out]; exact Nat.le_refl _)]
          exact Nat.le_of_eq HN.out
        clear hown3 hb3 HB
        go_upto_region 15 with (fail)
        go_loopw [8, 9] (fun s8 s9 wr => ∃ t : Nat, t ≤ k ∧ s9 = .int .i64 ((t : Int) - 1) ∧ (edB a (ls.drop t)).length ≤ n + 2 * (k - t) ∧ Hid (BO strR 9 w (edB a (ls.drop t)) s8 [] wr)) (fun _ s9 _ => (intOf s9 + 1).toNat)
        case atStart => exact ⟨k, Nat.le_refl _, rfl, by omega, E3⟩
        case round =>
          clear E3 hl3
          obtain ⟨t, htk, rfl, hlen, HG⟩ := hrel
          obtain ⟨Av, cv, hu8, _, _⟩ := (HG.out.own.sli (F := fun _ => True) (fun _ _ _ => trivial) (fun _ _ => trivial)).form
          by_cases ht0 : 0 < t
          · obtain ⟨j, rfl⟩ : ∃ j, t = j + 1 := ⟨t - 1, by omega⟩
            have hj1 : (((j + 1 : Nat) : Int) - 1) = (j : Int) := by omega
            rw [hj1]
            obtain ⟨o, ho⟩ : ∃ o, edB a (ls.drop (j + 1)) = o := ⟨_, rfl⟩
            rw [ho] at HG hu8 hlen
            subst hu8
            obtain ⟨N, hN⟩ : ∃ N, o.length = N := ⟨_, rfl⟩
            rw [hN] at HG hlen ⊢
            have hjl : j < l.length := by rw [HM.out]; omega
            obtain ⟨y, hy⟩ : ∃ y, l[j] = y := ⟨_, rfl⟩
            have hym : y ∈ l := hy ▸ List.getElem_mem _
            obtain ⟨b, off, eA, hfb, c20, c21, c22⟩ := edAt3 (HS.out wr HG.out.bel).2.sli j hjl
            rw [hy] at c20 c21 c22
            have hyx := (HS.out wr HG.out.bel).2.par y hym
            have hya := HAD.out y hym
            have hdr : ls.drop j = y.1 :: ls.drop (j + 1) := by
              have hk2 : j < ls.length := by rw [HLM.out]; omega
              rw [drop_at hk2]
              congr 1
              have hyk := HAT.out j y (by rw [List.getElem?_eq_getElem hjl, hy])
              rw [List.getElem?_eq_getElem hk2] at hyk
              exact Option.some.inj hyk
            obtain ⟨p', hp'⟩ := edsE_drop j HOK.out
            rw [hdr] at hp'
            obtain ⟨g0, g1, g2, g3⟩ := edB_ge hp'
            rw [ho, hN] at g2
            have hrl := rpl_len o y.1 g1 g0 (by rw [hN]; exact g2)
            have HED := Lib.hid (show edB a (ls.drop j) = rpl o y.1 by rw [hdr]; show rpl (edB a (ls.drop (j + 1))) y.1 = _; rw [ho])
            have HCE := Lib.hid (fun (W : World) (hw : Below w.heap.size w W) => show W.cell? ⟨b, off + j * 3, none⟩ = some (.int .i64 y.1.at_) ∧ W.cell? ⟨b, off + j * 3 + 1, none⟩ = some (.int .i64 y.1.drop) ∧ W.cell? ⟨b, off + j * 3 + 2, none⟩ = some y.2 from by
              obtain ⟨b', off', eA', _, z0, z1, z2⟩ := edAt3 (HS.out W hw).2.sli j hjl
              rw [eA] at eA'
              cases eA'
              rw [hy] at z0 z1 z2
              exact ⟨z0, z1, z2⟩)
            subst eA
            obtain ⟨⟨av, dv, ad⟩, vy⟩ := y
            dsimp only at c20 c21 c22 hyx hya g0 g1 g2 g3 hrl HCE
            obtain ⟨Ay, cy, hvy, hcy, _⟩ := hyx.sli.form
            subst hvy
            obtain ⟨x, rfl⟩ := Int.eq_ofNat_of_zero_le g0
            obtain ⟨d, rfl⟩ := Int.eq_ofNat_of_zero_le g1
            have hxd : ((x : Int) + (d : Int)).toNat = x + d := by omega
            rw [hxd] at g2
            obtain ⟨_, ha1, ha2, ha3, ha4⟩ := hya
            have HRP := Replace_c (F := F) w.heap.size w.heap.size x (x + d) o ad Av N cv (.slice Ay ad.length cy) wr.drew HG.out.drew.own HG.out.bel.size hN (by omega) g2 (hyx.keep (fun _ _ => rfl)) (fun h => by
              apply Nat.pos_of_ne_zero
              intro h0
              exact g3 ⟨by omega, List.length_eq_zero_iff.1 h0⟩) (fun g hg hf => by have := (HG.out.own.block g hg).1; have := HF.out g hf; omega) (by omega) (by omega)
            rw [Int.natCast_add] at HRP
            unfold RepS at HRP
            have HR2 := Lib.hid (show rpl o ⟨(x : Int), (d : Int), ad⟩ = o.take x ++ (ad ++ o.drop (x + d)) by
              unfold rpl
              dsimp only
              rw [hxd, show ((x : Int)).toNat = x by omega, List.append_assoc])
            obtain ⟨R, hR⟩ : ∃ R, o.take x ++ (ad ++ o.drop (x + d)) = R := ⟨_, rfl⟩
            rw [hR] at HRP HR2
            obtain ⟨M, hM⟩ : ∃ M, R.length = M := ⟨_, rfl⟩
            rw [hM] at HRP
            obtain ⟨q, hq⟩ : ∃ q, ad.length = q := ⟨_, rfl⟩
            rw [hq] at HRP HCE c22
            have HRP := Lib.hid HRP
            have ew : IntKind.i64.wrap ((x : Int) + (d : Int)) = (x : Int) + (d : Int) := by rw [IntKind.wrap_i64]; omega
            have HML := Lib.hid (show R.length ≤ n + 2 * (k - j) by
              have : R.length = (rpl o ⟨(x : Int), (d : Int), ad⟩).length := by rw [HR2.out]
              omega)
            have HCX := Lib.hid (HCE.out wr HG.out.bel)
            obtain ⟨ι, ff, hne, hff, hfS⟩ := family (fun W => W.cell? ⟨b, off + j * 3, none⟩ = some (.int .i64 (x : Int)) ∧ W.cell? ⟨b, off + j * 3 + 1, none⟩ = some (.int .i64 (d : Int)) ∧ W.cell? ⟨b, off + j * 3 + 2, none⟩ = some (.slice Ay q cy)) wr HCX.out
            have hneW : Nonempty World := ⟨w⟩
            have s0 := fun p => (hff p).1
            have s1 := fun p => (hff p).2.1
            have s2 := fun p => (hff p).2.2
            have HFS := Lib.hid hfS
            have hjm : (j : Int) < (k : Int) := by omega
            have hjm2 : j < k := by omega
            clear hff hfS c20 c21 c22 hyx g3 hp' hrl hdr hym hy hR hM hq hN ho hj1
            go_upto_region 17 with (fail)
            refine wp_region_segs2 [22] [23] [] [([0, 1, 2, 3, 4, 6, 7, 8, 9, 11, 12, 13, 14, 17, 18, 19, 20], [5, 10, 15, 16, 21], 22)] (by kernel_rfl) (by kernel_rfl) (fun _ _ _ dd _ h => by cases dd <;> exact h) (fun W => ∃ p : ι, W = ff p) (HFS.out _ HCX.out) ?_
            refine wpSegs2_step (by simp only [pick, List.getElem?_cons_succ, List.getElem?_cons_zero]; rfl) (by simp only [pick, List.getElem?_cons_succ, List.getElem?_cons_zero]; rfl) rfl (fun K0 hK0 L0 hL0 => ?_)
            repeat (first | go_big_quiet_step (fail) | quiet_step (fail))
            refine wpQuiet_nil (hL0 _ ?_)
            repeat (first | go_big_quiet_step (fail) | quiet_step (fail))
            refine wpQuiet_nil ?_
            go_simp
            refine HRP.out.mono ?_
            rintro e w7 ⟨g', cap', rfl, hown7, hg7, hat7⟩
            have G7 := Lib.hid (HG.out.drew.more hown7 hg7 rfl hat7)
            refine hK0 (fun W => ∃ p : ι, W = ff p) _ _ (fun _ h => h) (HFS.out _ (HCE.out _ G7.out.bel)) ?_
            clear hown7 hg7 hat7 HG HRP s0 s1 s2 hK0
            refine wpSegs2_fin (by simp only [pick, List.getElem?_cons_succ, List.getElem?_cons_zero]; rfl) (by simp only [pick, List.getElem?_cons_succ, List.getElem?_cons_zero]; rfl) (fun L1 hL1 => ?_)
            repeat (first | go_big_quiet_step (fail) | quiet_step (fail))
            refine wpQuiet_nil (hL1 _ ?_)
            repeat (first | go_big_quiet_step (fail) | quiet_step (fail))
            refine wpQuiet_nil ?_
            have hwj : IntKind.i64.wrap ((j : Int) - 1) = (j : Int) - 1 := by rw [IntKind.wrap_i64]; omega
            go_wp2
            go_roundw
            case rel => exact ⟨j, by omega, rfl, by rw [HED.out, HR2.out]; exact HML.out, by rw [HED.out, HR2.out]; exact G7⟩
            case measure => simp [intOf]
          · obtain rfl : t = 0 := by omega
            have hED : edB a (ls.drop 0) = edF a 0 ls := edB_all HOK.out
            rw [hED] at HG hu8 hlen
            subst hu8
            by_cases hfb : 3000 < (edF a 0 ls).length
            · have HR := Lib.hid (show PatP a ls w (.returned (.tuple #[.slice none 0 0, .int .i64 2])) wr from by
                have hp2 : patE a ls = 2 := by rw [HP.out, if_pos hfb]
                exact ⟨_, by rw [hp2], HG.out.bel, by rw [hp2, if_neg (by decide)]; exact Own.nil_⟩)
              have hfi : (3000 : Int) < ((edF a 0 ls).length : Int) := by omega
              generalize (edF a 0 ls).length = N at *
              go_wp2
              go_ret2
              exact HR.out
            · have HR := Lib.hid (show PatP a ls w (.returned (.tuple #[.slice Av (edF a 0 ls).length cv, .int .i64 0])) wr from by
                have hp2 : patE a ls = 0 := by rw [HP.out, if_neg hfb]
                exact ⟨_, by rw [hp2], HG.out.bel, by rw [hp2, if_pos rfl]; exact HG.out.own⟩)
              have hfi : ¬ (3000 : Int) < ((edF a 0 ls).length : Int) := by omega
              generalize (edF a 0 ls).length = N at *
              go_wp2
              go_ret2
              exact HR.out
end Go.Proofs.YtnnnmbipmfopmaaGreatDoor

