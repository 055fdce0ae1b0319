/- Texts packed: GrowT, WdW. -/
import Derived.Test.YtlfnmmnbfoimeaaGreatDoorSc01
import Derived.Test.YtlfnmmnbfoimeaaGreatDoorSc07
import Derived.Test.YtlfnmmnbfoimeaaGreatDoorRows
import Derived.Test.YtlfnmmnbfoimeaaGreatDoorSc02
import Derived.Test.YtlfnmmnbfoimeaaGreatDoorSc04
import Derived.Deep.DeepCutAuto
/- Two flat lists of one's own under way, one of which may begin anew in its row. No program in sight. -/
namespace Go.Proofs.YtlfnmmnbfoimeaaGreatDoor
set_option linter.unusedVariables false
open Go.RowKit

def byR : Rep UInt8 := Rep.flat 1 (fun c => [.int .u8 c.toNat]) (fun _ => rfl)
structure B2 {α β : Type} (R : Rep α) (RI : Rep β) (e eI : TypeId) (w : World) (l : List α) (v : Value) (m : List β) (u : Value) (wx : World) : Prop where
  bel : Below w.heap.size w wx
  o1 : Own R wx w.heap.size w.heap.size e l v
  o2 : Own RI wx w.heap.size w.heap.size eI m u
  dis : Dis v u
section
variable {α β : Type} {n k : Nat} {enc : α → List Value} {hn : ∀ x, (enc x).length = n} {encI : β → List Value} {hk : ∀ x, (encI x).length = k} {e eI : TypeId} {w wx wy : World} {l l' : List α} {v v' : Value} {m m' : List β} {u u' : Value}
theorem B2.start (w : World) : B2 (Rep.flat n enc hn) (Rep.flat k encI hk) e eI w [] (.slice none 0 0) [] (.slice none 0 0) w := ⟨Below.refl _ _, Own.nil_, Own.nil_, Dis.nil_⟩
theorem B2.size (h : B2 (Rep.flat n enc hn) (Rep.flat k encI hk) e eI w l v m u wx) : w.heap.size ≤ wx.heap.size := h.bel.size
theorem B2.below (h : B2 (Rep.flat n enc hn) (Rep.flat k encI hk) e eI w l v m u wx) (hb : Below wx.heap.size wx wy) : B2 (Rep.flat n enc hn) (Rep.flat k encI hk) e eI w l v m u wy :=
  ⟨h.bel.trans (hb.mono h.size), h.o1.below hb, h.o2.below hb, h.dis⟩
theorem B2.alloc (h : B2 (Rep.flat n enc hn) (Rep.flat k encI hk) e eI w l v m u wx) (o : Obj) : B2 (Rep.flat n enc hn) (Rep.flat k encI hk) e eI w l v m u (wx.alloc o) := h.below ((Below.refl _ wx).alloc (Nat.le_refl _) o)
theorem B2.drew (h : B2 (Rep.flat n enc hn) (Rep.flat k encI hk) e eI w l v m u wx) : B2 (Rep.flat n enc hn) (Rep.flat k encI hk) e eI w l v m u wx.drew := ⟨⟨h.bel.os, h.bel.tape, h.bel.output, h.bel.size, h.bel.block⟩, h.o1.drew, h.o2.drew, h.dis⟩
/-- The first list has grown. -/
theorem B2.more1 {g : Nat} (h : B2 (Rep.flat n enc hn) (Rep.flat k encI hk) e eI w l v m u wx) (hown : Own (Rep.flat n enc hn) wy w.heap.size w.heap.size e l' v') (hg : wx.grownBy wy v.ownBlock) (hv : v'.ownBlock = some g) (hat : v.ownBlock = some g ∨ g = wx.heap.size) :
    B2 (Rep.flat n enc hn) (Rep.flat k encI hk) e eI w l' v' m u wy := by
  refine ⟨h.bel.grown hg h.size (fun q hq => (h.o1.block q hq).1), hown, h.o2.keepF (fun q hq => hg.block q (h.o2.block q hq).2 (fun e => h.dis q e.symm hq)) hg.size, fun q hq hq2 => ?_⟩
  rw [hv] at hq
  injection hq with hq
  subst hq
  rcases hat with hat | hat
  · exact h.dis g hat hq2
  · have := (h.o2.block g hq2).2; omega
theorem B2.more2 {g : Nat} (h : B2 (Rep.flat n enc hn) (Rep.flat k encI hk) e eI w l v m u wx) (hown : Own (Rep.flat k encI hk) wy w.heap.size w.heap.size eI m' u') (hg : wx.grownBy wy u.ownBlock) (hv : u'.ownBlock = some g) (hat : u.ownBlock = some g ∨ g = wx.heap.size) :
    B2 (Rep.flat n enc hn) (Rep.flat k encI hk) e eI w l v m' u' wy := by
  refine ⟨h.bel.grown hg h.size (fun q hq => (h.o2.block q hq).1), h.o1.keepF (fun q hq => hg.block q (h.o1.block q hq).2 (fun e => h.dis q hq e.symm)) hg.size, hown, fun q hq hq2 => ?_⟩
  rw [hv] at hq2
  injection hq2 with hq2
  subst hq2
  rcases hat with hat | hat
  · exact h.dis g hq hat
  · have := (h.o1.block g hq).2; omega
/-- The second list begins anew, in its row. -/
theorem Own.cut0 {g : Nat} {c j : Nat} (h : Own (Rep.flat k encI hk) wx w.heap.size w.heap.size eI m (.slice (some ⟨g, 0, none⟩) j c)) : Own (Rep.flat k encI hk) wx w.heap.size w.heap.size eI [] (.slice (some ⟨g, 0, none⟩) 0 c) := by
  obtain ⟨xs, ⟨h1, h2⟩, h3⟩ := h
  refine ⟨[], ⟨by simp, ?_⟩, Lay.nil_⟩
  rcases h2 with ⟨h2, _⟩ | ⟨g', cap, cur, h2, hb, hg, hc, hm, hs, _⟩
  · cases h2
  · injection h2 with h2 h4 h5
    injection h2 with h2
    injection h2 with h2
    subst h2; subst h4; subst h5
    exact .inr ⟨g, c, cur, rfl, hb, hg, Nat.zero_le _, hm, hs, by simp⟩
theorem B2.cut0 {g : Nat} {c j : Nat} (h : B2 (Rep.flat n enc hn) (Rep.flat k encI hk) e eI w l v m (.slice (some ⟨g, 0, none⟩) j c) wx) : B2 (Rep.flat n enc hn) (Rep.flat k encI hk) e eI w l v [] (.slice (some ⟨g, 0, none⟩) 0 c) wx :=
  ⟨h.bel, h.o1, h.o2.cut0, h.dis⟩
/-- An empty row of one's own for the second list. -/
theorem B2.made {c : Nat} (h : B2 (Rep.flat n enc hn) (Rep.flat k encI hk) e eI w l v m u wx) (cur : Array Value) (hm : c ≤ maxLen) (hs : cur.size = c * k) :
    B2 (Rep.flat n enc hn) (Rep.flat k encI hk) e eI w l v [] (.slice (some ⟨wx.heap.size, 0, none⟩) 0 c) (wx.alloc (.cells cur eI)) :=
  ⟨(h.alloc (.cells cur eI)).bel, h.o1.alloc _, ⟨[], wx.ownsRow_made cur c h.size hm hs, Lay.nil_⟩, fun q hq hq2 => by
    injection hq2 with hq2
    subst hq2
    exact absurd (show wx.heap.size < wx.heap.size from (h.o1.block _ hq).2) (Nat.lt_irrefl _)⟩
end
/-- Bytes of one's own, turned to a text. -/
theorem Own.bytesStr {w : World} {base lo : Nat} {e : TypeId} {l : List UInt8} {g m cap : Nat} (h : Own byR w base lo e l (.slice (some ⟨g, 0, none⟩) m cap)) (hm : l.length = m) (P : Program) (src dst eb : TypeId) (hs : P.underlying src = some (.slice eb)) (he : P.underlying eb = some (.int .u8)) (hd : P.underlying dst = some .string) :
    (convert src dst (.slice (some ⟨g, 0, none⟩) m cap)).run P w = .ok (.string ⟨l.toArray⟩) w := by
  subst hm
  rw [← strNums l]
  refine run_convert_bytes_arg w src eb hs he g 0 l.length cap _ (by simp) (fun i hi => ?_) dst hd
  have h2 := (Own.cellAt (n := 1) (enc := fun c : UInt8 => [.int .u8 c.toNat]) (hn := fun _ => rfl) h i hi 0 (by decide)).1
  rw [Nat.mul_one, Nat.add_zero] at h2
  rw [Nat.zero_add, h2, List.getD_eq_getElem?_getD, List.getElem?_map, List.getElem?_eq_getElem hi]
  rfl
/-- One byte more. -/
theorem wpList_pushY {P : Program} {ops : Array Oper} {rest : List Oper} {o : Oper} {a : Act} {Q : Exit → Act → World → Prop} (hgd : o.guard = none) (s x : Operand) (t : TypeId)
    (ho : o.op = .call { callee := .builtin .append, args := #[s, x], argTypes := #[t, t] })
    (base lo : Nat) (e : TypeId) (i : TypeInfo) (z : Value) (ht : P.underlying t = some (.slice e)) (hi : P.info? e = some i) (hz : i.zero = some z)
    (hsize : i.size = 1) (hby : i.bytes = 1) (hzs : z.cells.size = 1)
    (W : World) (v : Value) (l : List UInt8) (m : Nat) (hm : l.length = m) (hs : a.eval s = v) (hown : Own byR W base lo e l v) (y : UInt8)
    (B : Nat) (T : TypeId) (c : Nat) (hB : W.heap[B]? = some (.cells #[.int .u8 y.toNat] T (0, 0))) (hx : a.eval x = .slice (some ⟨B, 0, none⟩) 1 c) (hlen : m ≤ 1000000000) (hbase : base ≤ W.heap.size)
    (h : ∀ g cap w', Own byR w' base lo e (l ++ [y]) (.slice (some ⟨g, 0, none⟩) (m + 1) cap) → W.grownBy w' v.ownBlock → (v.ownBlock = some g ∨ g = W.heap.size) → g < w'.heap.size → wpList P ops Q rest (a.put o.dst (.slice (some ⟨g, 0, none⟩) (m + 1) cap)) w') :
    wpList P ops Q (o :: rest) a W := by
  subst hm
  exact wpList_pushB (R := byR) hgd s x t ho base lo e i z 1 ht hi hz hsize hby hzs (by decide) W v l hs hown y [.int .u8 y.toNat] rfl (oneC rfl) B T c hB hx (by simp [maxLen]; omega) (by omega) hbase h
end Go.Proofs.YtlfnmmnbfoimeaaGreatDoor

/- script.Words, walked. -/
namespace Go.Proofs.YtlfnmmnbfoimeaaGreatDoor
set_option linter.unusedVariables false
open Go.RowKit

set_option maxHeartbeats 400000 in
theorem isLetter_c (c : UInt8) (w : World) : Calls Tryz.prog 62 #[.int .u8 c.toNat] w fun e w' => e = .returned (.bool (capB c || lowB c)) ∧ w = w' := by
  have hu : c.toNat < 256 := c.toNat_lt
  have HC := Lib.hid (isCapital_c c w)
  cases hc : capB c with
  | true =>
    have HH := Lib.hid hc
    go_enter Tryz.func62, Tryz.ntmps62
    go_wp2_with (first | (go_at_call 64; refine HC.out.mono ?_; rintro e w' ⟨rfl, rfl⟩; rw [HH.out]) | fail)
    go_ret
    exact ⟨ret_bool (by simp), rfl⟩
  | false =>
    have HH := Lib.hid hc
    by_cases h : 97 ≤ c.toNat
    all_goals
      go_enter Tryz.func62, Tryz.ntmps62
      go_wp2_with (first | (go_at_call 64; refine HC.out.mono ?_; rintro e w' ⟨rfl, rfl⟩; rw [HH.out]) | fail)
      go_ret
      exact ⟨ret_bool (by first | (simp [lowB, h]; done) | (rw [Bool.eq_iff_iff]; simp [lowB]; omega)), rfl⟩
theorem loC_nat {c : UInt8} : (loC c).toNat = if capB c = true then c.toNat + 32 else c.toNat := by
  have hh : ∀ c : UInt8, decide ((loC c).toNat = if capB c = true then c.toNat + 32 else c.toNat) = true := u8_eq (q := fun _ => true) (by decide +kernel)
  simpa using hh c
theorem loC_quote : loC 39 = 39 := by decide
/-- Where the loop of Words stands. -/
structure WdL (s : ByteArray) (w : World) (k m : Nat) (out : List ByteArray) (cur : List UInt8) (v : Value) (g cap : Nat) (wr : World) : Prop where
  b2 : B2 strR byR 9 5 w out v cur (.slice (some ⟨g, 0, none⟩) m cap) wr
  len : cur.length = m
  at_ : k ≤ s.size → WdI s k out cur
  end_ : k = s.size + 1 → out = wordsT s
theorem WdL.flush {s : ByteArray} {w w' : World} {k m : Nat} {out : List ByteArray} {cur : List UInt8} {v v' : Value} {g cap : Nat} {wr : World} (h : WdL s w k m out cur v g cap wr) (hk : k ≤ s.size) (hc : ∀ h : k < s.size, inWB s[k] = false)
    (hb : B2 strR byR 9 5 w (out ++ flW cur) v' [] (.slice (some ⟨g, 0, none⟩) 0 cap) w') : WdL s w (k + 1) 0 (out ++ flW cur) [] v' g cap w' :=
  ⟨hb, rfl, fun h2 => (h.at_ hk).out_ (by omega) (hc (by omega)), fun h2 => (h.at_ hk).end_ (by omega)⟩
theorem WdL.word {s : ByteArray} {w w' : World} {k m g' cap' : Nat} {out : List ByteArray} {cur : List UInt8} {v : Value} {g cap : Nat} {wr : World} (h : WdL s w k m out cur v g cap wr) (hk : k < s.size) (hc : inWB s[k] = true)
    (hb : B2 strR byR 9 5 w out v (cur ++ [loC s[k]]) (.slice (some ⟨g', 0, none⟩) (m + 1) cap') w') : WdL s w (k + 1) (m + 1) out (cur ++ [loC s[k]]) v g' cap' w' :=
  ⟨hb, by rw [List.length_append, h.len]; rfl, fun h2 => (h.at_ (by omega)).in_ hk hc, fun h2 => by omega⟩
set_option maxRecDepth 100000 in
set_option maxHeartbeats 4000000 in
theorem Words_c (s : ByteArray) (w : World) (hs : s.size ≤ 100000000) :
    Calls Tryz.prog 27 #[.string s] w fun e w' => ∃ v, e = .returned v ∧ Own strR w' w.heap.size w.heap.size 9 (wordsT s) v ∧ Below w.heap.size w w' := by
  obtain ⟨i0, hi0, hz0, hz1, hz2⟩ := info_parts (show (Tryz.prog.info? 9).map (fun i => (i.zero, i.size, i.bytes)) = some (some (.string ⟨#[]⟩), 1, 16) by kernel_rfl)
  obtain ⟨i8, hi8, hz8, hz81, hz82⟩ := info_parts (show (Tryz.prog.info? 5).map (fun i => (i.zero, i.size, i.bytes)) = some (some (.int .u8 0), 1, 1) by kernel_rfl)
  go_enter Tryz.func27, Tryz.ntmps27
  go_upto_region 3 with (fail)
  have H0 := Lib.hid (show WdL s w 0 0 [] [] (.slice none 0 0) w.heap.size 0 (w.alloc (.cells #[] 5)) from
    ⟨(B2.start w).made (e := 9) (eI := 5) #[] (Nat.zero_le _) rfl, rfl, fun _ => WdI.start s, fun h => by omega⟩)
  generalize w.alloc (.cells #[] 5) = w1 at *
  obtain ⟨g0, hg0⟩ : ∃ g0, w.heap.size = g0 := ⟨_, rfl⟩
  have HG0 := Lib.hid hg0
  have H00 := Lib.hid (show WdL s w 0 0 [] [] (.slice none 0 0) g0 0 w1 by rw [← hg0]; exact H0.out)
  rw [hg0]
  clear hg0 H0
  have hwr : IntKind.i64.wrap ((s.size : Int) + 1) = (s.size : Int) + 1 := IntWalk.i64_in _ (by omega)
  go_wp2
  go_loopw [3, 4, 5, 12] (fun v bl u i wr => ∃ (k m : Nat) (out : List ByteArray) (cur : List UInt8) (g cap : Nat), k ≤ s.size + 1 ∧ i = .int .i64 k ∧ bl = .bool (wdOk cur) ∧ u = .slice (some ⟨g, 0, none⟩) m cap ∧ m ≤ k ∧ Hid (WdL s w k m out cur v g cap wr)) (fun _ _ _ i _ => s.size + 1 - (intOf i).toNat)
  case atStart => exact ⟨0, 0, [], [], g0, 0, Nat.zero_le _, rfl, rfl, rfl, Nat.zero_le _, H00⟩
  case round =>
    clear H00
    obtain ⟨k, m, out, cur, g, cap, hk, rfl, rfl, rfl, hm, HW⟩ := hrel
    by_cases hlt : k < s.size + 1
    case neg =>
      have HE := Lib.hid (HW.out.end_ (by omega))
      go_wp2
      go_ret
      exact ⟨_, rfl, by rw [← HE.out]; exact HW.out.b2.o1, HW.out.b2.bel⟩
    obtain ⟨c, hc⟩ : ∃ c : UInt8, c = if h : k < s.size then s[k] else 32 := ⟨_, rfl⟩
    have hcu : c.toNat < 256 := c.toNat_lt
    go_upto_if 18 with (fail)
    go_cut [7] (fun x wx => x = .int .u8 (c.toNat : Int) ∧ wx = wr)
    case first =>
      by_cases hk2 : k < s.size
      · rw [dif_pos hk2] at hc
        go_wp2
        go_meet
        exact ⟨by rw [hc], rfl⟩
      · rw [dif_neg hk2] at hc
        go_wp2
        go_meet
        exact ⟨by rw [hc]; rfl, rfl⟩
    case rest =>
    obtain ⟨rfl, rfl⟩ := hcut
    have HC := Lib.hid hc
    clear hc hlt
    have HLE := Lib.hid (isLetter_c c wc)
    have HDI := Lib.hid (isDigit_c c wc)
    have HCA := Lib.hid (isCapital_c c wc)
    have HAL := Lib.hid (show alnB c = ((capB c || lowB c) || digB c) from rfl)
    go_upto_region 12 with (fail)
    go_cut [30] (fun x wx => x = .bool (alnB c) ∧ wx = wc)
    case first =>
      cases hl : (capB c || lowB c) with
      | true =>
        rw [hl] at HLE HAL
        go_wp2_with (first | (go_at_call 62; refine HLE.out.mono ?_; rintro e w' ⟨rfl, rfl⟩) | fail)
        go_meet
        exact ⟨by rw [HAL.out]; rfl, rfl⟩
      | false =>
        rw [hl] at HLE HAL
        go_wp2_with (first | (go_at_call 62; refine HLE.out.mono ?_; rintro e w' ⟨rfl, rfl⟩) | (go_at_call 63; refine HDI.out.mono ?_; rintro e w' ⟨rfl, rfl⟩) | fail)
        go_meet
        exact ⟨by rw [HAL.out]; rfl, rfl⟩
    case rest =>
    obtain ⟨rfl, rfl⟩ := hcut
    clear HLE HDI HAL
    have hb1 := HW.out.b2.size
    have HM := Lib.hid HW.out.len
    cases ha : alnB c with
    | true =>
      have hks : k < s.size := by
        apply Classical.byContradiction
        intro hn
        have := HC.out
        rw [dif_neg hn] at this
        rw [this] at ha
        exact absurd ha (by decide)
      have HCK := Lib.hid (show c = s[k] from HC.out.trans (dif_pos hks))
      have HIN := Lib.hid (show inWB c = true by unfold inWB; rw [ha]; rfl)
      have HOK := Lib.hid (show wdOk (cur ++ [loC c]) = true by rw [wdOk_snoc, loC_aln ha]; simp)
      clear ha
      go_upto_if 38 with (first | (go_at_call 64; refine HCA.out.mono ?_; rintro e w' ⟨rfl, rfl⟩) | fail)
      go_cut [7] (fun x wx => x = .int .u8 ((loC c).toNat : Int) ∧ wx = wc)
      case first =>
        cases hcp : capB c with
        | true =>
          have hcb : c.toNat ≤ 90 := by simp [capB] at hcp; omega
          have HLC := Lib.hid (show (loC c).toNat = c.toNat + 32 by rw [loC_nat, if_pos hcp])
          have hwu : IntKind.u8.wrap ((c.toNat : Int) + 32) = (c.toNat : Int) + 32 := by rw [IntKind.wrap_u8]; omega
          clear hcp
          go_wp2
          go_meet
          exact ⟨by rw [HLC.out]; simp, rfl⟩
        | false =>
          have HLC := Lib.hid (show (loC c).toNat = c.toNat by rw [loC_nat, if_neg (by rw [hcp]; decide)])
          clear hcp
          go_wp2
          go_meet
          exact ⟨by rw [HLC.out], rfl⟩
      case rest =>
      obtain ⟨rfl, rfl⟩ := hcut
      go_wp2_with (at_builtin; (refine wpList_pushY rfl _ _ _ rfl w.heap.size w.heap.size 5 i8 _ Tryz.underlying106 hi8 hz8 (by assumption) (by assumption) rfl _ (.slice (some ⟨g, 0, none⟩) m cap) cur m HM.out rfl (HW.out.b2.o2.alloc _) (loC c) wc.heap.size _ _ (heap_alloc_new wc _) rfl (by omega) (by simp; omega) ?_); intro g7 cap7 w7 hown7 hg7 hat7 hlt7)
      go_roundw
      case rel => exact ⟨k + 1, m + 1, out, cur ++ [loC c], g7, cap7, by omega, intNum, by rw [HOK.out], rfl, by omega, by rw [HCK.out]; exact HW.out.word hks (by rw [← HCK.out]; exact HIN.out) (by rw [← HCK.out]; exact (HW.out.b2.alloc _).more2 hown7 hg7 rfl hat7)⟩
      case measure => simp [intOf]; omega
    | false =>
      by_cases h39 : c = 39
      · have hks : k < s.size := by
          apply Classical.byContradiction
          intro hn
          have := HC.out
          rw [dif_neg hn, h39] at this
          exact absurd this (by decide)
        have HCK := Lib.hid (show c = s[k] from HC.out.trans (dif_pos hks))
        have HIN := Lib.hid (show inWB c = true by unfold inWB; rw [h39]; rfl)
        have HLC := Lib.hid (show loC c = c by rw [h39]; rfl)
        have HOK := Lib.hid (show wdOk (cur ++ [loC c]) = wdOk cur by rw [wdOk_snoc, h39]; simp [loC_quote])
        have hq : ((c.toNat : Int) == 39) = true := by rw [h39]; rfl
        clear h39 ha
        go_wp2_with (at_builtin; (refine wpList_pushY rfl _ _ _ rfl w.heap.size w.heap.size 5 i8 _ Tryz.underlying106 hi8 hz8 (by assumption) (by assumption) rfl _ (.slice (some ⟨g, 0, none⟩) m cap) cur m HM.out rfl (HW.out.b2.o2.alloc _) c wc.heap.size _ _ (heap_alloc_new wc _) rfl (by omega) (by simp; omega) ?_); intro g7 cap7 w7 hown7 hg7 hat7 hlt7)
        go_roundw
        case rel => exact ⟨k + 1, m + 1, out, cur ++ [loC c], g7, cap7, by omega, intNum, by rw [HOK.out], rfl, by omega, by rw [HCK.out]; exact HW.out.word hks (by rw [← HCK.out]; exact HIN.out) (by rw [← HCK.out, HLC.out]; exact (HW.out.b2.alloc _).more2 hown7 hg7 rfl hat7)⟩
        case measure => simp [intOf]; omega
      · have HNI := Lib.hid (show ∀ h : k < s.size, inWB s[k] = false from fun h => by
          have e : c = s[k] := HC.out.trans (dif_pos h)
          unfold inWB
          rw [← e, ha]
          simpa using h39)
        have hq : ((c.toNat : Int) == 39) = false := by
          apply beq_eq_false_iff_ne.2
          intro h
          exact h39 (UInt8.toNat.inj (by show c.toNat = 39; omega))
        have hks : k ≤ s.size := by omega
        clear ha h39
        cases hw : wdOk cur with
        | true =>
          have HFL := Lib.hid (flW_yes hw)
          have hcv := HW.out.b2.o2.bytesStr HM.out Tryz.prog 106 9 5 Tryz.underlying106 Tryz.underlying5 Tryz.underlying9
          have hol := Lib.hid (HW.out.at_ hks).2.2
          obtain ⟨q, hq2⟩ : ∃ q, out.length = q := ⟨_, rfl⟩
          have HQ := Lib.hid hq2
          have hql : q ≤ 100000000 := by have := hol.out; omega
          clear hw hol hq2
          generalize (⟨cur.toArray⟩ : ByteArray) = Z at *
          go_wp2_with (at_builtin; (refine wpList_pushS1 rfl _ _ _ rfl w.heap.size w.heap.size 9 i0 _ Tryz.underlying69 hi0 hz0 (by assumption) (by assumption) rfl _ u3 out q HQ.out rfl (HW.out.b2.o1.alloc _) Z wc.heap.size _ _ (heap_alloc_new wc _) rfl (by omega) (by simp; omega) ?_); intro g7 cap7 w7 hown7 hg7 hat7 hlt7)
          have HB7 := Lib.hid ((HW.out.b2.alloc (.cells #[.string Z] 9)).more1 hown7 hg7 rfl hat7)
          go_region
          go_wp2
          go_roundw
          case rel => exact ⟨k + 1, 0, out ++ flW cur, [], g, cap, by omega, intNum, rfl, rfl, by omega, HW.out.flush hks HNI.out (by rw [HFL.out]; exact HB7.out.cut0.drew)⟩
          case measure => simp [intOf]; omega
        | false =>
          have HFL := Lib.hid (flW_no hw)
          clear hw
          go_wp2
          go_region
          go_wp2
          go_roundw
          case rel => exact ⟨k + 1, 0, out ++ flW cur, [], g, cap, by omega, intNum, rfl, rfl, by omega, HW.out.flush hks HNI.out (by rw [HFL.out, List.append_nil]; exact HW.out.b2.cut0.drew)⟩
          case measure => simp [intOf]; omega
end Go.Proofs.YtlfnmmnbfoimeaaGreatDoor

