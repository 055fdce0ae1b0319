/- Texts packed: TgJ. -/
import Derived.Test.YtlfnmmnbfoimeaaGreatDoorSc31
import Derived.Test.YtlfnmmnbfoimeaaGreatDoorSc13
import Derived.Test.YtlfnmmnbfoimeaaGreatDoorSc01
import Derived.Maps.OwnIn
/- Reading a pattern, walked. -/
namespace Go.Proofs.YtlfnmmnbfoimeaaGreatDoor
set_option linter.unusedVariables false
open Go.RowKit Go.Shelf
attribute [local go_sem] Oper.semAt_some

theorem results_cell2 {fn : Func} {p q : Tmp} {t1 t2 : TypeId} (h : fn.results = #[.cell p t1, .cell q t2]) (tmps : Array Value) (P : Program) (w : World) :
    (results fn tmps).run P w = ((asAddr (tmps.getD p undef)).run P w).andThen fun a w₁ => ((loadVar t1 a).run P w₁).andThen fun v w₂ => ((asAddr (tmps.getD q undef)).run P w₂).andThen fun b w₃ => ((loadVar t2 b).run P w₃).andThen fun u w₄ => .ok (.tuple #[v, u]) w₄ := by
  simp only [results, h]
  simp [Sem.run_bind, Result.andThen]
/-- The cells of a part in a new block. -/
theorem item_new (W : World) (T : TypeId) (a b c d : Value) :
    (W.alloc (.cells #[a, b, c, d] T)).cell? ⟨W.heap.size, 0, none⟩ = some a ∧ (W.alloc (.cells #[a, b, c, d] T)).cell? ⟨W.heap.size, 1, none⟩ = some b ∧ (W.alloc (.cells #[a, b, c, d] T)).cell? ⟨W.heap.size, 2, none⟩ = some c ∧ (W.alloc (.cells #[a, b, c, d] T)).cell? ⟨W.heap.size, 3, none⟩ = some d := by
  obtain ⟨h, _⟩ := str_cells (heap_alloc_new W (.cells #[a, b, c, d] T))
  exact ⟨h 0, h 1, h 2, h 3⟩
theorem cellPut {W : World} {b B i : Nat} {u : Value} (h : ¬ b = B) : (W.setCell ⟨B, 0, none⟩ u).cell? ⟨b, i, none⟩ = W.cell? ⟨b, i, none⟩ := cell_of_heap (Below.heap_setCell W ⟨B, 0, none⟩ u b h)
theorem cells_new (W : World) (T : TypeId) (cs : List Value) : ∀ j u, cs[j]? = some u → (W.alloc (.cells cs.toArray T)).cell? ((⟨W.heap.size, 0, none⟩ : Addr).add j) = some u := fun j u hj => World.news_of_block (heap_alloc_new W (.cells cs.toArray T)) j u (by simpa using hj)
theorem cells_newN (W : World) (T : TypeId) (cs : List Value) (N : Nat) (hN : W.heap.size = N) : ∀ j u, cs[j]? = some u → (W.alloc (.cells cs.toArray T)).cell? ((⟨N, 0, none⟩ : Addr).add j) = some u := by
  subst hN
  exact cells_new W T cs
theorem boxOff {W : World} {m B : Nat} {e : TypeId} {v : Value} {size k : Nat} {xs : List Value} (hrow : W.ownsRow m e size v k xs) (hB : B < m) : some B ≠ v.ownBlock := by
  intro ei
  have := (rowCells hrow ei.symm).1
  omega
theorem boxStay {W W' : World} {m B : Nat} {t e : TypeId} {u v : Value} {size k : Nat} {xs : List Value} {o : Obj} (h : Boxed W B t u) (hrow : W.ownsRow m e size v k xs) (hB : B < m) (hg : (W.alloc o).grownBy W' v.ownBlock) : Boxed W' B t u := (h.alloc o).kept hg (boxOff (hrow.alloc o) hB)
theorem pat_cells {W : World} {F : Nat → Prop} {lo : Nat} {v' v : Value} {l : List ByteArray} (h : Sli strR W F l v) (hF : ∀ b, F b → lo ≤ b ∧ v'.ownBlock ≠ some b) : Sli strR W (cellF W lo v') l v := by
  obtain ⟨A, c, e, h1, h2, h3⟩ := h
  refine ⟨A, c, e, h1, h2, fun h0 => ?_⟩
  obtain ⟨b, off, cs, ea, hb, hl, hc⟩ := h3 h0
  refine ⟨b, off, cs, ea, ⟨(hF b hb).1, (hF b hb).2, ?_⟩, ⟨hl.1, fun k x hx => hl.2 k x hx⟩, hc⟩
  have hlen : cs.length = l.length * 1 := hl.1
  have hcl := hc 0 _ (List.getElem?_eq_getElem (show 0 < cs.length by omega))
  unfold World.cell? at hcl
  split at hcl
  · rename_i o _ _ _ ho
    exact ⟨_, ho, rfl⟩
  · cases hcl
theorem pat_put {W : World} {n B : Nat} {v u vx : Value} {l : List ByteArray} (h : Sli strR W (cellF W n v) l vx) (hB : B < n) : Sli strR (W.setCell ⟨B, 0, none⟩ u) (cellF (W.setCell ⟨B, 0, none⟩ u) n v) l vx :=
  have hk : ∀ b, cellF W n v b → (W.setCell ⟨B, 0, none⟩ u).heap[b]? = W.heap[b]? := fun b hb => Below.heap_setCell W ⟨B, 0, none⟩ u b (fun e => by have := hb.1; rw [e] at this; exact absurd hB (Nat.not_lt.2 this))
  (h.keep hk).more fun b hb => hb.to (hk b hb) hb.2.1
theorem pat_alloc {W : World} {n : Nat} {v vx : Value} {l : List ByteArray} (h : Sli strR W (cellF W n v) l vx) (o : Obj) : Sli strR (W.alloc o) (cellF (W.alloc o) n v) l vx :=
  have hk : ∀ b, cellF W n v b → (W.alloc o).heap[b]? = W.heap[b]? := fun b hb => Below.heap_alloc W o b hb.lt
  (h.keep hk).more fun b hb => hb.to (hk b hb) hb.2.1
/-- Between two rounds. -/
def PatI (w : World) (pre : List ByteArray) (W : World) : Prop :=
  ∃ v, Boxed W w.heap.size 61 (.slice none 0 0) ∧ Boxed W (w.heap.size + 1) 4 (.bool false) ∧ Boxed W (w.heap.size + 2) 61 v ∧ Boxed W (w.heap.size + 3) 4 (.bool (pre.any itmW)) ∧
    PatR (w.heap.size + 7) 103 (pre.map fun s => (rdItm s).1) v W ∧ (∀ s ∈ pre, (rdItm s).2 = true) ∧ w.heap.size + 7 ≤ W.heap.size ∧ Below w.heap.size w W
/-- The loop's body has left. -/
def PatL (w : World) (p : ByteArray) (W : World) : Prop :=
  Boxed W w.heap.size 61 (.slice none 0 0) ∧ Boxed W (w.heap.size + 1) 4 (.bool false) ∧ patB p = false ∧ w.heap.size + 7 ≤ W.heap.size ∧ Below w.heap.size w W
theorem notRow {W : World} {b : Nat} {t : TypeId} {u : Value} {row : Option Nat} {B : Nat} (hb : Boxed W b t u) (hr : ∀ r, row = some r → B ≤ r ∧ ∃ o : Obj, W.heap[r]? = some o ∧ o.isCells = false) : some b ≠ row := fun e => by
  obtain ⟨_, o, ho, hn⟩ := hr _ e.symm
  rw [show W.heap[_]? = _ from hb] at ho; cases ho; cases hn
theorem patI_own (w : World) (B : Nat) (hB : w.heap.size ≤ B) : OwnFrom B (PatI w) := by
  rintro pre W W' row ⟨v, h0, h1, h2, h3, h4, h5, h6, h7⟩ hg hr
  exact ⟨v, h0.kept hg (notRow h0 hr), h1.kept hg (notRow h1 hr), h2.kept hg (notRow h2 hr), h3.kept hg (notRow h3 hr), h4.grown hg (fun b e => .inr (hr b e).2), h5, Nat.le_trans h6 hg.size, h7.grown hg h7.size (fun k e => Nat.le_trans hB (hr k e).1)⟩
theorem patL_own (w : World) (p : ByteArray) (B : Nat) (hB : w.heap.size ≤ B) : OwnFrom B (fun _ : Unit => PatL w p) := by
  rintro _ W W' row ⟨h0, h1, h2, h3, h4⟩ hg hr
  exact ⟨h0.kept hg (notRow h0 hr), h1.kept hg (notRow h1 hr), h2, Nat.le_trans h3 hg.size, h4.grown hg h4.size (fun k e => Nat.le_trans hB (hr k e).1)⟩
theorem patI_c (w : World) (pre : List ByteArray) (A B : World) (h : PatI w pre A) (hg : A.grownBy B (some (w.heap.size + 4))) : PatI w pre B := by
  obtain ⟨v, h0, h1, h2, h3, h4, h5, h6, h7⟩ := h
  have hne : ∀ {b}, b ≠ w.heap.size + 4 → some b ≠ some (w.heap.size + 4) := fun h e => h (Option.some.inj e)
  exact ⟨v, h0.kept hg (hne (by omega)), h1.kept hg (hne (by omega)), h2.kept hg (hne (by omega)), h3.kept hg (hne (by omega)), h4.grown hg (fun b e => by cases e; exact .inl (by omega)), h5, Nat.le_trans h6 hg.size, h7.grown hg h7.size (fun k e => by cases e; omega)⟩
/-- The boxes that the loop's body writes. -/
def patX (n : Nat) (k : Nat) : Prop := n ≤ k ∧ k < n + 4
theorem KeepM.bel {m : Nat} {X : Nat → Prop} {A W W' : World} (h : KeepM m X A W) (hb : Below W.heap.size W W') (hm : m ≤ W.heap.size) : KeepM m X A W' :=
  h.trans ⟨hb.os, hb.tape, hb.output, hb.size, fun k hk _ => hb.block k (by omega), ⟨hb.size, fun k o hk _ => (hb.block k (Array.getElem?_eq_some_iff.1 hk).1).trans hk⟩⟩
theorem patB_left {p x : ByteArray} {pre : List ByteArray} (h : (pre ++ [x]) <+: cutsB p 32) (hx : (rdItm x).2 = false) : patB p = false := by
  have hm : x ∈ partsP p := by rw [← parts_cuts]; exact h.subset (by simp)
  unfold patB
  have : ((partsP p).all fun s => (rdItm s).2) = false := by
    rw [List.all_eq_false]
    exact ⟨x, hm, by rw [hx]; simp⟩
  rw [this]; rfl
/-- The results stand in their boxes, and the loop's record goes. -/
theorem pat_fin {w W : World} {D : Nat} {u v : Value} {c b : Bool} {l : List Itm} (hD : w.heap.size + 7 ≤ D) (d0 : Boxed W w.heap.size 61 u) (d1 : Boxed W (w.heap.size + 1) 4 (.bool c)) (hR : PatR (w.heap.size + 7) 103 l v W) (hB : Below w.heap.size w W) (hK : W.heap[D]? = some (.deferred (some []))) :
    ((W.setCell ⟨w.heap.size, 0, none⟩ v).setCell ⟨w.heap.size + 1, 0, none⟩ (.bool b)).drew.heap[D]? = some (.deferred (some [])) ∧
    (((W.setCell ⟨w.heap.size, 0, none⟩ v).setCell ⟨w.heap.size + 1, 0, none⟩ (.bool b)).drew.putObj D (.deferred none)).cell? ⟨w.heap.size, 0, none⟩ = some v ∧
    (((W.setCell ⟨w.heap.size, 0, none⟩ v).setCell ⟨w.heap.size + 1, 0, none⟩ (.bool b)).drew.putObj D (.deferred none)).cell? ⟨w.heap.size + 1, 0, none⟩ = some (.bool b) ∧
    Below w.heap.size w (((W.setCell ⟨w.heap.size, 0, none⟩ v).setCell ⟨w.heap.size + 1, 0, none⟩ (.bool b)).drew.putObj D (.deferred none)) ∧
    PatR (w.heap.size + 7) 103 l v (((W.setCell ⟨w.heap.size, 0, none⟩ v).setCell ⟨w.heap.size + 1, 0, none⟩ (.bool b)).drew.putObj D (.deferred none)) := by
  have z0 := boxPut (B' := w.heap.size + 1) (x := .bool b) (d0.set v) (by omega)
  have z1 := (boxPut (B' := w.heap.size) (x := v) d1 (by omega)).set (.bool b)
  have hR2 := (hR.setBox (B := w.heap.size) v (by omega)).setBox (B := w.heap.size + 1) (.bool b) (by omega)
  have hB2 := (hB.setCell (p := ⟨w.heap.size, 0, none⟩) (Nat.le_refl _) v).setCell (p := ⟨w.heap.size + 1, 0, none⟩) (Nat.le_succ _) (.bool b)
  have hK2 : ((W.setCell ⟨w.heap.size, 0, none⟩ v).setCell ⟨w.heap.size + 1, 0, none⟩ (.bool b)).heap[D]? = some (.deferred (some [])) :=
    ((Below.heap_setCell _ _ _ D (by show ¬ D = w.heap.size + 1; omega)).trans (Below.heap_setCell _ _ _ D (by show ¬ D = w.heap.size; omega))).trans hK
  generalize (W.setCell ⟨w.heap.size, 0, none⟩ v).setCell ⟨w.heap.size + 1, 0, none⟩ (.bool b) = X at *
  have hR3 : PatR (w.heap.size + 7) 103 l v X.drew := hR2.grown (row := none) ⟨rfl, rfl, rfl, Nat.le_refl _, fun _ _ _ => rfl⟩ (fun b e => by cases e)
  have y0 : Boxed X.drew w.heap.size _ _ := z0
  have y1 : Boxed X.drew (w.heap.size + 1) _ _ := z1
  have hKd : X.drew.heap[D]? = some (.deferred (some [])) := hK2
  exact ⟨hKd, (y0.kept (grownBy_putObj' X.drew D _) (fun e => by cases e; omega)).cell, (y1.kept (grownBy_putObj' X.drew D _) (fun e => by cases e; omega)).cell,
    hB2.drew.trans (belowK_b (w := w) (Nat.le_refl _) X.drew D _ (.deferred none) (by omega) hKd rfl rfl),
    hR3.grown (grownBy_putObj' X.drew D _) (fun b e => by cases e; exact .inr ⟨_, hKd, rfl⟩)⟩
/-- What reading a pattern leaves. -/
def RdpP (p : ByteArray) (w : World) (e : Ending) (w' : World) : Prop :=
  ∃ v, e = .returned (.tuple #[v, .bool (patB p)]) ∧ Below w.heap.size w w' ∧ (patB p = true → Sli itmR w' (fun b => w.heap.size ≤ b ∧ b < w'.heap.size) ((partsP p).map fun s => (rdItm s).1) v)
set_option maxRecDepth 100000 in
set_option maxHeartbeats 4000000 in
theorem readPattern_c (p : ByteArray) (w : World) (hs : p.size ≤ 1000000) (hm : MaxLaid w) : Calls Tryz.prog 26 #[.string p] w (RdpP p w) := by
  obtain ⟨i0, hi0, hz0, hz1, hz2⟩ := info_parts (show (Tryz.prog.info? 103).map (fun i => (i.zero, i.size, i.bytes)) = some (some (.agg #[.bool false, .bool false, .bool false, .slice none 0 0]), 4, 32) by kernel_rfl)
  have HM := Lib.hid hm
  clear hm
  refine (callsIn_wide (n := 3)).1 ?_
  refine callsIn_of_wp_marks Tryz.func26 rfl trivial ?_ rfl
  simp only [Tryz.ntmps26, List.size_toArray, List.length_cons, List.length_nil, Nat.reduceAdd, Nat.reduceSub, Array.replicate_succ, Array.replicate_zero, List.push_toArray, List.append_toArray, List.nil_append, List.cons_append]
  gi_wp2_with (refine ⟨trivial, ?_⟩; gi_at_call 60; refine (callsIn_wide.2 (SplitSeq_c p ⟨#[32]⟩ _)).mono ?_; rintro e w' ⟨rfl, rfl⟩)
  have bA := Boxed.new w 61 (.slice none 0 0)
  have bB := Boxed.new (w.alloc (.cells #[.slice none 0 0] 61)) 4 (.bool false)
  have bO := Boxed.new ((w.alloc (.cells #[.slice none 0 0] 61)).alloc (.cells #[.bool false] 4)) 61 (.slice none 0 0)
  have bS := Boxed.new (((w.alloc (.cells #[.slice none 0 0] 61)).alloc (.cells #[.bool false] 4)).alloc (.cells #[.slice none 0 0] 61)) 4 (.bool false)
  simp only [World.size_alloc] at bB bO bS
  have bA := ((bA.alloc (.cells #[.bool false] 4)).alloc (.cells #[.slice none 0 0] 61)).alloc (.cells #[.bool false] 4)
  have bB := (bB.alloc (.cells #[.slice none 0 0] 61)).alloc (.cells #[.bool false] 4)
  have bO := bO.alloc (.cells #[.bool false] 4)
  have hB4 : Below w.heap.size w ((((w.alloc (.cells #[.slice none 0 0] 61)).alloc (.cells #[.bool false] 4)).alloc (.cells #[.slice none 0 0] 61)).alloc (.cells #[.bool false] 4)) := ((((Below.refl _ w).alloc (Nat.le_refl _) _).alloc (by simp) _).alloc (by simp; omega) _).alloc (by simp; omega) _
  have hz4 : ((((w.alloc (.cells #[.slice none 0 0] 61)).alloc (.cells #[.bool false] 4)).alloc (.cells #[.slice none 0 0] 61)).alloc (.cells #[.bool false] 4)).heap.size = w.heap.size + 4 := by simp
  generalize (((w.alloc (.cells #[.slice none 0 0] 61)).alloc (.cells #[.bool false] 4)).alloc (.cells #[.slice none 0 0] 61)).alloc (.cells #[.bool false] 4) = Wa at bA bB bO bS hB4 hz4 ⊢
  have hq := seqW_boxes p ⟨#[32]⟩ Wa
  have hqb := seqW_below p ⟨#[32]⟩ Wa
  have hqs := seqW_size p ⟨#[32]⟩ Wa
  rw [hz4] at hq hqb hqs
  have bA := boxBelow bA hqb (by omega)
  have bB := boxBelow bB hqb (by omega)
  have bO := boxBelow bO hqb (by omega)
  have bS := boxBelow bS hqb (by omega)
  have hB7 := hB4.trans (hqb.mono (by omega))
  clear hB4 hqb hz4
  generalize seqW p ⟨#[32]⟩ Wa = Wb at hq bA bB bO bS hB7 hqs ⊢
  have HLN := Lib.hid (show (partsP p).length ≤ p.size + 1 from words_le p 32)
  refine wpIn_seqL rfl (by decide) (gf := 140) (lb := #[.pointer (some ⟨w.heap.size + 4 + 1, 0, none⟩), .pointer (some ⟨w.heap.size + 4, 0, none⟩), .pointer (some ⟨w.heap.size + 4 + 2, 0, none⟩)]) rfl trivial (enters_of Tryz.func140 (by kernel_rfl) rfl)
    (splitSeq1L_c (3 - 1) (by decide) p 32 (by omega) (w.heap.size + 4) 9 3 Wb hq.1 hq.2.1 hq.2.2) (by omega) (Below.refl _ _) rfl
    (PatI w) (PatL w p) (patI_own w _ (by omega)) (patL_own w p _ (by omega)) (patI_c w) ⟨.slice none 0 0, bA, bB, bO, bS, PatR.nil_ _ _ _, (fun x hx => by cases hx), by omega, hB7⟩
    (fun x => { tmps := #[Value.string p, undef, .pointer (some ⟨w.heap.size, 0, none⟩), .pointer (some ⟨w.heap.size + 1, 0, none⟩), .pointer (some ⟨w.heap.size + 2, 0, none⟩), .pointer (some ⟨w.heap.size + 3, 0, none⟩), .string x, undef, undef, .string p, seqF (w.heap.size + 1 + 1 + 1 + 1), .string x, undef, undef, undef, undef, undef, undef, undef, undef, undef, undef, undef, undef, undef, undef, undef, undef, undef, undef, undef, undef, undef, undef, undef, undef, undef], defers := [] }) ?assign ?body ?stop ?done
  case assign =>
    intro l x W K hK
    gi_wp2
    exact hK
  case body =>
    rintro l pre x W ⟨v, d0, d1, d2, d3, hR, hok, hsz, hB⟩ hpre
    have hxs : x.size ≤ 1000000 := Nat.le_trans (cutsB_size (hpre.subset (by simp))) hs
    have hml : MaxLaid W := max_below HM.out hB (Nat.le_refl _)
    have HRI := Lib.hid (readItem_c x W hxs hml)
    have HPB := Lib.hid (fun h => patB_left (p := p) (x := x) hpre h)
    have hplen : pre.length + 1 ≤ 1000001 := by
      have h1 := hpre.length_le
      rw [List.length_append, List.length_singleton, parts_cuts] at h1
      have := HLN.out
      omega
    clear hml
    gi_wp2_with fail
    refine ⟨trivial, ?_⟩
    refine CallsIn.inRound l ((callsIn_wide.2 HRI.out).mono ?_)
    rintro e W1 ⟨vi, rfl, hb1, hx1⟩
    obtain ⟨A3, L3, c3, rfl⟩ : ∃ (A3 : Option Addr) (L3 c3 : Nat), vi = Value.slice A3 L3 c3 := by obtain ⟨A3, c3, e, _⟩ := hx1.form; exact ⟨A3, _, c3, e⟩
    have hL3 : (rdItm x).1.ws.length = L3 := by obtain ⟨A, c, e, _⟩ := hx1.form; injection e with _ e _; exact e.symm
    rw [show itmV (rdItm x).1 (.slice A3 L3 c3) = .agg #[.bool (rdItm x).1.any, .bool (rdItm x).1.count, .bool (rdItm x).1.begins, .slice A3 L3 c3] from rfl]
    have hsz1 : w.heap.size + 7 ≤ W1.heap.size := Nat.le_trans hsz hb1.size
    have e0 := boxBelow d0 hb1 (by omega)
    have e1 := boxBelow d1 hb1 (by omega)
    have e2 := boxBelow d2 hb1 (by omega)
    have e3 := boxBelow d3 hb1 (by omega)
    have hR1 := hR.below hb1
    have hB1 := hB.trans (hb1.mono hB.size)
    have hk1 : KeepM (w.heap.size + 7) (patX w.heap.size) W W1 := (KeepM.refl _ _ _).bel hb1 hsz
    have hx1' : Sli strR W1 (cellF W1 (w.heap.size + 7) v) (rdItm x).1.ws (.slice A3 L3 c3) := pat_cells hx1 (fun b hb => ⟨by omega, fun e => by
      obtain ⟨xs, ho, _⟩ := hR
      obtain ⟨_, o, h2, _⟩ := rowCells ho e
      have := (Array.getElem?_eq_some_iff.1 h2).1
      omega⟩)
    have hit := item_new W1 103 (.bool (rdItm x).1.any) (.bool (rdItm x).1.count) (.bool (rdItm x).1.begins) (.slice A3 L3 c3)
    have e0 := e0.alloc (.cells #[.bool (rdItm x).1.any, .bool (rdItm x).1.count, .bool (rdItm x).1.begins, .slice A3 L3 c3] 103)
    have e1 := e1.alloc (.cells #[.bool (rdItm x).1.any, .bool (rdItm x).1.count, .bool (rdItm x).1.begins, .slice A3 L3 c3] 103)
    have e2 := e2.alloc (.cells #[.bool (rdItm x).1.any, .bool (rdItm x).1.count, .bool (rdItm x).1.begins, .slice A3 L3 c3] 103)
    have e3 := e3.alloc (.cells #[.bool (rdItm x).1.any, .bool (rdItm x).1.count, .bool (rdItm x).1.begins, .slice A3 L3 c3] 103)
    have hk2 := hk1.alloc hsz1 (.cells #[.bool (rdItm x).1.any, .bool (rdItm x).1.count, .bool (rdItm x).1.begins, .slice A3 L3 c3] 103)
    have hx2 := pat_alloc hx1' (.cells #[.bool (rdItm x).1.any, .bool (rdItm x).1.count, .bool (rdItm x).1.begins, .slice A3 L3 c3] 103)
    have hR2 := hR1.alloc (.cells #[.bool (rdItm x).1.any, .bool (rdItm x).1.count, .bool (rdItm x).1.begins, .slice A3 L3 c3] 103)
    have hB2 := hB1.alloc hB1.size (.cells #[.bool (rdItm x).1.any, .bool (rdItm x).1.count, .bool (rdItm x).1.begins, .slice A3 L3 c3] 103)
    have hsz2 : w.heap.size + 7 ≤ (W1.alloc (.cells #[.bool (rdItm x).1.any, .bool (rdItm x).1.count, .bool (rdItm x).1.begins, .slice A3 L3 c3] 103)).heap.size := by simp; omega
    clear d0 d1 d2 d3 hR hb1 hx1 hx1' HRI
    -- ROUND
    obtain ⟨i0', i1', i2', i3'⟩ := hit
    cases hx0 : (rdItm x).2 with
    | false =>
      have HN := Lib.hid (HPB.out hx0)
      have g0 := e0.cell; have g1 := e1.cell; have q0 := e0.frozen
      have z1 := (boxPut (B' := w.heap.size) (x := .slice none 0 0) e1 (by omega))
      have q1 := z1.frozen
      have g1 := z1.cell
      have hk3 := (hk2.put (B := w.heap.size) ⟨by omega, by omega⟩ (.slice none 0 0)).put (B := w.heap.size + 1) ⟨by omega, by omega⟩ (.bool false)
      have z0 := boxPut (B' := w.heap.size + 1) (x := .bool false) (e0.set (.slice none 0 0)) (by omega)
      have z1 := z1.set (.bool false)
      gi_wp2
      exact ⟨hk3.others, z0, z1, HN.out, Nat.le_trans hsz hk3.size, hB.trans (hk3.below (by omega) (fun k hk hx => by unfold patX at hx; omega))⟩
    | true =>
      obtain ⟨sm, hsm⟩ : ∃ sm, pre.any itmW = sm := ⟨_, rfl⟩
      rw [hsm] at e3
      have hany : (pre ++ [x]).any itmW = (sm || decide (0 < L3)) := by rw [List.any_append, hsm, ← hL3]; simp [itmW]
      have hok2 : ∀ s ∈ pre ++ [x], (rdItm s).2 = true := fun s hs => by
        rcases List.mem_append.1 hs with hs | hs
        · exact hok s hs
        · rw [List.mem_singleton.1 hs]; exact hx0
      have HOK := Lib.hid hok2
      clear hok2 hok hsm
      cases sm with
      | true =>
        rw [Bool.true_or] at hany
        have e0' := boxPut (B' := w.heap.size + 3) (x := .bool true) e0 (by omega)
        have e1' := boxPut (B' := w.heap.size + 3) (x := .bool true) e1 (by omega)
        have e2' := boxPut (B' := w.heap.size + 3) (x := .bool true) e2 (by omega)
        have e3' := e3.set (.bool true)
        have hk3 := hk2.put (B := w.heap.size + 3) ⟨by omega, by omega⟩ (.bool true)
        have hR3 := hR2.setBox (B := w.heap.size + 3) (.bool true) (by omega)
        have hX3 : Sli strR ((W1.alloc (.cells #[.bool (rdItm x).1.any, .bool (rdItm x).1.count, .bool (rdItm x).1.begins, .slice A3 L3 c3] 103)).setCell ⟨w.heap.size + 3, 0, none⟩ (.bool true)) (cellF ((W1.alloc (.cells #[.bool (rdItm x).1.any, .bool (rdItm x).1.count, .bool (rdItm x).1.begins, .slice A3 L3 c3] 103)).setCell ⟨w.heap.size + 3, 0, none⟩ (.bool true)) (w.heap.size + 7) v) (rdItm x).1.ws (.slice A3 L3 c3) := pat_put hx2 (by omega)
        have j0 : ((W1.alloc (.cells #[.bool (rdItm x).1.any, .bool (rdItm x).1.count, .bool (rdItm x).1.begins, .slice A3 L3 c3] 103)).setCell ⟨w.heap.size + 3, 0, none⟩ (.bool true)).cell? ⟨W1.heap.size, 0, none⟩ = some (.bool (rdItm x).1.any) := (cellPut (by omega)).trans i0'
        have j1 : ((W1.alloc (.cells #[.bool (rdItm x).1.any, .bool (rdItm x).1.count, .bool (rdItm x).1.begins, .slice A3 L3 c3] 103)).setCell ⟨w.heap.size + 3, 0, none⟩ (.bool true)).cell? ⟨W1.heap.size, 1, none⟩ = some (.bool (rdItm x).1.count) := (cellPut (by omega)).trans i1'
        have j2 : ((W1.alloc (.cells #[.bool (rdItm x).1.any, .bool (rdItm x).1.count, .bool (rdItm x).1.begins, .slice A3 L3 c3] 103)).setCell ⟨w.heap.size + 3, 0, none⟩ (.bool true)).cell? ⟨W1.heap.size, 2, none⟩ = some (.bool (rdItm x).1.begins) := (cellPut (by omega)).trans i2'
        have j3 : ((W1.alloc (.cells #[.bool (rdItm x).1.any, .bool (rdItm x).1.count, .bool (rdItm x).1.begins, .slice A3 L3 c3] 103)).setCell ⟨w.heap.size + 3, 0, none⟩ (.bool true)).cell? ⟨W1.heap.size, 3, none⟩ = some (.slice A3 L3 c3) := (cellPut (by omega)).trans i3'
        have k2 := e2'.cell
        have hsz3 := Nat.le_trans hsz hk3.size
        obtain ⟨xs, ho, hl⟩ := hR3
        rw [List.length_map] at ho
        have c3e := e3.cell
        have f3e := e3.frozen
        gi_wp2_with (gi_at_builtin; go_loud (refine wpListIn_append_own_at _ rfl _ _ _ rfl (w.heap.size + 7) 103 i0 _ 4 32 Tryz.underlying61 hi0 hz0 hz1 hz2 rfl (by decide) v pre.length xs rfl (ho.alloc _) ⟨_, 0, none⟩ 1 1 [.bool (rdItm x).1.any, .bool (rdItm x).1.count, .bool (rdItm x).1.begins, .slice A3 L3 c3] rfl rfl (cells_newN _ _ _ _ (by simp [World.setCell])) (oneC rfl) (by unfold maxLen; omega) (by omega) (by simp; omega) ?_); go_loud (intro v' w5 hown' hgrow _ hat; obtain ⟨g', cap', rfl⟩ := ownsRow_succ hown'; have z0 := boxStay e0' ho (by omega) hgrow; have z1 := boxStay e1' ho (by omega) hgrow; have z2 := boxStay e2' ho (by omega) hgrow; have z3 := boxStay e3' ho (by omega) hgrow; have zc := z2.cell; have zf := z2.frozen))
        have hk5 := ((hk3.alloc hsz3 (.cells #[.bool (rdItm x).1.any, .bool (rdItm x).1.count, .bool (rdItm x).1.begins, .slice A3 L3 c3] 103)).grown (by simp; omega) (ho.alloc _) hgrow).put (B := w.heap.size + 2) ⟨by omega, by omega⟩ (.slice (some ⟨g', 0, none⟩) (pre.length + 1) cap')
        have hk6 : ∀ b, cellF ((W1.alloc (.cells #[.bool (rdItm x).1.any, .bool (rdItm x).1.count, .bool (rdItm x).1.begins, .slice A3 L3 c3] 103)).setCell ⟨w.heap.size + 3, 0, none⟩ (.bool true)) (w.heap.size + 7) v b → (((W1.alloc (.cells #[.bool (rdItm x).1.any, .bool (rdItm x).1.count, .bool (rdItm x).1.begins, .slice A3 L3 c3] 103)).setCell ⟨w.heap.size + 3, 0, none⟩ (.bool true)).alloc (.cells #[.bool (rdItm x).1.any, .bool (rdItm x).1.count, .bool (rdItm x).1.begins, .slice A3 L3 c3] 103)).heap[b]? = ((W1.alloc (.cells #[.bool (rdItm x).1.any, .bool (rdItm x).1.count, .bool (rdItm x).1.begins, .slice A3 L3 c3] 103)).setCell ⟨w.heap.size + 3, 0, none⟩ (.bool true)).heap[b]? := fun b hb => Below.heap_alloc _ _ b hb.lt
        have hl4 : Lay itmR (((W1.alloc (.cells #[.bool (rdItm x).1.any, .bool (rdItm x).1.count, .bool (rdItm x).1.begins, .slice A3 L3 c3] 103)).setCell ⟨w.heap.size + 3, 0, none⟩ (.bool true)).alloc (.cells #[.bool (rdItm x).1.any, .bool (rdItm x).1.count, .bool (rdItm x).1.begins, .slice A3 L3 c3] 103)) (cellF (((W1.alloc (.cells #[.bool (rdItm x).1.any, .bool (rdItm x).1.count, .bool (rdItm x).1.begins, .slice A3 L3 c3] 103)).setCell ⟨w.heap.size + 3, 0, none⟩ (.bool true)).alloc (.cells #[.bool (rdItm x).1.any, .bool (rdItm x).1.count, .bool (rdItm x).1.begins, .slice A3 L3 c3] 103)) (w.heap.size + 7) v) (pre.map fun s => (rdItm s).1) xs := (hl.keep hk6).more fun b hb => hb.to (hk6 b hb) hb.2.1
        have hp5 := PatR.push (e := 103) (x := (rdItm x).1) hl4 (pat_alloc hX3 (.cells #[.bool (rdItm x).1.any, .bool (rdItm x).1.count, .bool (rdItm x).1.begins, .slice A3 L3 c3] 103)) (by rw [List.length_map]; exact hown') hgrow hat
        have hp6 := hp5.setBox (B := w.heap.size + 2) (.slice (some ⟨g', 0, none⟩) (pre.length + 1) cap') (by omega)
        exact ⟨hk5.others, hk5.keepC (by omega) (fun k h1 h2 hx => by unfold patX at hx; omega), _, boxPut z0 (by omega), boxPut z1 (by omega), z2.set _, by rw [hany]; exact boxPut z3 (by omega), by rw [List.map_append]; exact hp6, HOK.out, Nat.le_trans hsz hk5.size, hB.trans (hk5.below (by omega) (fun k hk hx => by unfold patX at hx; omega))⟩
      | false =>
        rw [Bool.false_or] at hany
        by_cases h0 : 0 < L3
        · rw [decide_eq_true h0] at hany
          have e0' := boxPut (B' := w.heap.size + 3) (x := .bool true) e0 (by omega)
          have e1' := boxPut (B' := w.heap.size + 3) (x := .bool true) e1 (by omega)
          have e2' := boxPut (B' := w.heap.size + 3) (x := .bool true) e2 (by omega)
          have e3' := e3.set (.bool true)
          have hk3 := hk2.put (B := w.heap.size + 3) ⟨by omega, by omega⟩ (.bool true)
          have hR3 := hR2.setBox (B := w.heap.size + 3) (.bool true) (by omega)
          have hX3 : Sli strR ((W1.alloc (.cells #[.bool (rdItm x).1.any, .bool (rdItm x).1.count, .bool (rdItm x).1.begins, .slice A3 L3 c3] 103)).setCell ⟨w.heap.size + 3, 0, none⟩ (.bool true)) (cellF ((W1.alloc (.cells #[.bool (rdItm x).1.any, .bool (rdItm x).1.count, .bool (rdItm x).1.begins, .slice A3 L3 c3] 103)).setCell ⟨w.heap.size + 3, 0, none⟩ (.bool true)) (w.heap.size + 7) v) (rdItm x).1.ws (.slice A3 L3 c3) := pat_put hx2 (by omega)
          have j0 : ((W1.alloc (.cells #[.bool (rdItm x).1.any, .bool (rdItm x).1.count, .bool (rdItm x).1.begins, .slice A3 L3 c3] 103)).setCell ⟨w.heap.size + 3, 0, none⟩ (.bool true)).cell? ⟨W1.heap.size, 0, none⟩ = some (.bool (rdItm x).1.any) := (cellPut (by omega)).trans i0'
          have j1 : ((W1.alloc (.cells #[.bool (rdItm x).1.any, .bool (rdItm x).1.count, .bool (rdItm x).1.begins, .slice A3 L3 c3] 103)).setCell ⟨w.heap.size + 3, 0, none⟩ (.bool true)).cell? ⟨W1.heap.size, 1, none⟩ = some (.bool (rdItm x).1.count) := (cellPut (by omega)).trans i1'
          have j2 : ((W1.alloc (.cells #[.bool (rdItm x).1.any, .bool (rdItm x).1.count, .bool (rdItm x).1.begins, .slice A3 L3 c3] 103)).setCell ⟨w.heap.size + 3, 0, none⟩ (.bool true)).cell? ⟨W1.heap.size, 2, none⟩ = some (.bool (rdItm x).1.begins) := (cellPut (by omega)).trans i2'
          have j3 : ((W1.alloc (.cells #[.bool (rdItm x).1.any, .bool (rdItm x).1.count, .bool (rdItm x).1.begins, .slice A3 L3 c3] 103)).setCell ⟨w.heap.size + 3, 0, none⟩ (.bool true)).cell? ⟨W1.heap.size, 3, none⟩ = some (.slice A3 L3 c3) := (cellPut (by omega)).trans i3'
          have k2 := e2'.cell
          have hsz3 := Nat.le_trans hsz hk3.size
          obtain ⟨xs, ho, hl⟩ := hR3
          rw [List.length_map] at ho
          have c3e := e3.cell
          have f3e := e3.frozen
          gi_wp2_with (gi_at_builtin; go_loud (refine wpListIn_append_own_at _ rfl _ _ _ rfl (w.heap.size + 7) 103 i0 _ 4 32 Tryz.underlying61 hi0 hz0 hz1 hz2 rfl (by decide) v pre.length xs rfl (ho.alloc _) ⟨_, 0, none⟩ 1 1 [.bool (rdItm x).1.any, .bool (rdItm x).1.count, .bool (rdItm x).1.begins, .slice A3 L3 c3] rfl rfl (cells_newN _ _ _ _ (by simp [World.setCell])) (oneC rfl) (by unfold maxLen; omega) (by omega) (by simp; omega) ?_); go_loud (intro v' w5 hown' hgrow _ hat; obtain ⟨g', cap', rfl⟩ := ownsRow_succ hown'; have z0 := boxStay e0' ho (by omega) hgrow; have z1 := boxStay e1' ho (by omega) hgrow; have z2 := boxStay e2' ho (by omega) hgrow; have z3 := boxStay e3' ho (by omega) hgrow; have zc := z2.cell; have zf := z2.frozen))
          have hk5 := ((hk3.alloc hsz3 (.cells #[.bool (rdItm x).1.any, .bool (rdItm x).1.count, .bool (rdItm x).1.begins, .slice A3 L3 c3] 103)).grown (by simp; omega) (ho.alloc _) hgrow).put (B := w.heap.size + 2) ⟨by omega, by omega⟩ (.slice (some ⟨g', 0, none⟩) (pre.length + 1) cap')
          have hk6 : ∀ b, cellF ((W1.alloc (.cells #[.bool (rdItm x).1.any, .bool (rdItm x).1.count, .bool (rdItm x).1.begins, .slice A3 L3 c3] 103)).setCell ⟨w.heap.size + 3, 0, none⟩ (.bool true)) (w.heap.size + 7) v b → (((W1.alloc (.cells #[.bool (rdItm x).1.any, .bool (rdItm x).1.count, .bool (rdItm x).1.begins, .slice A3 L3 c3] 103)).setCell ⟨w.heap.size + 3, 0, none⟩ (.bool true)).alloc (.cells #[.bool (rdItm x).1.any, .bool (rdItm x).1.count, .bool (rdItm x).1.begins, .slice A3 L3 c3] 103)).heap[b]? = ((W1.alloc (.cells #[.bool (rdItm x).1.any, .bool (rdItm x).1.count, .bool (rdItm x).1.begins, .slice A3 L3 c3] 103)).setCell ⟨w.heap.size + 3, 0, none⟩ (.bool true)).heap[b]? := fun b hb => Below.heap_alloc _ _ b hb.lt
          have hl4 : Lay itmR (((W1.alloc (.cells #[.bool (rdItm x).1.any, .bool (rdItm x).1.count, .bool (rdItm x).1.begins, .slice A3 L3 c3] 103)).setCell ⟨w.heap.size + 3, 0, none⟩ (.bool true)).alloc (.cells #[.bool (rdItm x).1.any, .bool (rdItm x).1.count, .bool (rdItm x).1.begins, .slice A3 L3 c3] 103)) (cellF (((W1.alloc (.cells #[.bool (rdItm x).1.any, .bool (rdItm x).1.count, .bool (rdItm x).1.begins, .slice A3 L3 c3] 103)).setCell ⟨w.heap.size + 3, 0, none⟩ (.bool true)).alloc (.cells #[.bool (rdItm x).1.any, .bool (rdItm x).1.count, .bool (rdItm x).1.begins, .slice A3 L3 c3] 103)) (w.heap.size + 7) v) (pre.map fun s => (rdItm s).1) xs := (hl.keep hk6).more fun b hb => hb.to (hk6 b hb) hb.2.1
          have hp5 := PatR.push (e := 103) (x := (rdItm x).1) hl4 (pat_alloc hX3 (.cells #[.bool (rdItm x).1.any, .bool (rdItm x).1.count, .bool (rdItm x).1.begins, .slice A3 L3 c3] 103)) (by rw [List.length_map]; exact hown') hgrow hat
          have hp6 := hp5.setBox (B := w.heap.size + 2) (.slice (some ⟨g', 0, none⟩) (pre.length + 1) cap') (by omega)
          exact ⟨hk5.others, hk5.keepC (by omega) (fun k h1 h2 hx => by unfold patX at hx; omega), _, boxPut z0 (by omega), boxPut z1 (by omega), z2.set _, by rw [hany]; exact boxPut z3 (by omega), by rw [List.map_append]; exact hp6, HOK.out, Nat.le_trans hsz hk5.size, hB.trans (hk5.below (by omega) (fun k hk hx => by unfold patX at hx; omega))⟩
        · rw [decide_eq_false h0] at hany
          have e0' := boxPut (B' := w.heap.size + 3) (x := .bool false) e0 (by omega)
          have e1' := boxPut (B' := w.heap.size + 3) (x := .bool false) e1 (by omega)
          have e2' := boxPut (B' := w.heap.size + 3) (x := .bool false) e2 (by omega)
          have e3' := e3.set (.bool false)
          have hk3 := hk2.put (B := w.heap.size + 3) ⟨by omega, by omega⟩ (.bool false)
          have hR3 := hR2.setBox (B := w.heap.size + 3) (.bool false) (by omega)
          have hX3 : Sli strR ((W1.alloc (.cells #[.bool (rdItm x).1.any, .bool (rdItm x).1.count, .bool (rdItm x).1.begins, .slice A3 L3 c3] 103)).setCell ⟨w.heap.size + 3, 0, none⟩ (.bool false)) (cellF ((W1.alloc (.cells #[.bool (rdItm x).1.any, .bool (rdItm x).1.count, .bool (rdItm x).1.begins, .slice A3 L3 c3] 103)).setCell ⟨w.heap.size + 3, 0, none⟩ (.bool false)) (w.heap.size + 7) v) (rdItm x).1.ws (.slice A3 L3 c3) := pat_put hx2 (by omega)
          have j0 : ((W1.alloc (.cells #[.bool (rdItm x).1.any, .bool (rdItm x).1.count, .bool (rdItm x).1.begins, .slice A3 L3 c3] 103)).setCell ⟨w.heap.size + 3, 0, none⟩ (.bool false)).cell? ⟨W1.heap.size, 0, none⟩ = some (.bool (rdItm x).1.any) := (cellPut (by omega)).trans i0'
          have j1 : ((W1.alloc (.cells #[.bool (rdItm x).1.any, .bool (rdItm x).1.count, .bool (rdItm x).1.begins, .slice A3 L3 c3] 103)).setCell ⟨w.heap.size + 3, 0, none⟩ (.bool false)).cell? ⟨W1.heap.size, 1, none⟩ = some (.bool (rdItm x).1.count) := (cellPut (by omega)).trans i1'
          have j2 : ((W1.alloc (.cells #[.bool (rdItm x).1.any, .bool (rdItm x).1.count, .bool (rdItm x).1.begins, .slice A3 L3 c3] 103)).setCell ⟨w.heap.size + 3, 0, none⟩ (.bool false)).cell? ⟨W1.heap.size, 2, none⟩ = some (.bool (rdItm x).1.begins) := (cellPut (by omega)).trans i2'
          have j3 : ((W1.alloc (.cells #[.bool (rdItm x).1.any, .bool (rdItm x).1.count, .bool (rdItm x).1.begins, .slice A3 L3 c3] 103)).setCell ⟨w.heap.size + 3, 0, none⟩ (.bool false)).cell? ⟨W1.heap.size, 3, none⟩ = some (.slice A3 L3 c3) := (cellPut (by omega)).trans i3'
          have k2 := e2'.cell
          have hsz3 := Nat.le_trans hsz hk3.size
          obtain ⟨xs, ho, hl⟩ := hR3
          rw [List.length_map] at ho
          have c3e := e3.cell
          have f3e := e3.frozen
          gi_wp2_with (gi_at_builtin; go_loud (refine wpListIn_append_own_at _ rfl _ _ _ rfl (w.heap.size + 7) 103 i0 _ 4 32 Tryz.underlying61 hi0 hz0 hz1 hz2 rfl (by decide) v pre.length xs rfl (ho.alloc _) ⟨_, 0, none⟩ 1 1 [.bool (rdItm x).1.any, .bool (rdItm x).1.count, .bool (rdItm x).1.begins, .slice A3 L3 c3] rfl rfl (cells_newN _ _ _ _ (by simp [World.setCell])) (oneC rfl) (by unfold maxLen; omega) (by omega) (by simp; omega) ?_); go_loud (intro v' w5 hown' hgrow _ hat; obtain ⟨g', cap', rfl⟩ := ownsRow_succ hown'; have z0 := boxStay e0' ho (by omega) hgrow; have z1 := boxStay e1' ho (by omega) hgrow; have z2 := boxStay e2' ho (by omega) hgrow; have z3 := boxStay e3' ho (by omega) hgrow; have zc := z2.cell; have zf := z2.frozen))
          have hk5 := ((hk3.alloc hsz3 (.cells #[.bool (rdItm x).1.any, .bool (rdItm x).1.count, .bool (rdItm x).1.begins, .slice A3 L3 c3] 103)).grown (by simp; omega) (ho.alloc _) hgrow).put (B := w.heap.size + 2) ⟨by omega, by omega⟩ (.slice (some ⟨g', 0, none⟩) (pre.length + 1) cap')
          have hk6 : ∀ b, cellF ((W1.alloc (.cells #[.bool (rdItm x).1.any, .bool (rdItm x).1.count, .bool (rdItm x).1.begins, .slice A3 L3 c3] 103)).setCell ⟨w.heap.size + 3, 0, none⟩ (.bool false)) (w.heap.size + 7) v b → (((W1.alloc (.cells #[.bool (rdItm x).1.any, .bool (rdItm x).1.count, .bool (rdItm x).1.begins, .slice A3 L3 c3] 103)).setCell ⟨w.heap.size + 3, 0, none⟩ (.bool false)).alloc (.cells #[.bool (rdItm x).1.any, .bool (rdItm x).1.count, .bool (rdItm x).1.begins, .slice A3 L3 c3] 103)).heap[b]? = ((W1.alloc (.cells #[.bool (rdItm x).1.any, .bool (rdItm x).1.count, .bool (rdItm x).1.begins, .slice A3 L3 c3] 103)).setCell ⟨w.heap.size + 3, 0, none⟩ (.bool false)).heap[b]? := fun b hb => Below.heap_alloc _ _ b hb.lt
          have hl4 : Lay itmR (((W1.alloc (.cells #[.bool (rdItm x).1.any, .bool (rdItm x).1.count, .bool (rdItm x).1.begins, .slice A3 L3 c3] 103)).setCell ⟨w.heap.size + 3, 0, none⟩ (.bool false)).alloc (.cells #[.bool (rdItm x).1.any, .bool (rdItm x).1.count, .bool (rdItm x).1.begins, .slice A3 L3 c3] 103)) (cellF (((W1.alloc (.cells #[.bool (rdItm x).1.any, .bool (rdItm x).1.count, .bool (rdItm x).1.begins, .slice A3 L3 c3] 103)).setCell ⟨w.heap.size + 3, 0, none⟩ (.bool false)).alloc (.cells #[.bool (rdItm x).1.any, .bool (rdItm x).1.count, .bool (rdItm x).1.begins, .slice A3 L3 c3] 103)) (w.heap.size + 7) v) (pre.map fun s => (rdItm s).1) xs := (hl.keep hk6).more fun b hb => hb.to (hk6 b hb) hb.2.1
          have hp5 := PatR.push (e := 103) (x := (rdItm x).1) hl4 (pat_alloc hX3 (.cells #[.bool (rdItm x).1.any, .bool (rdItm x).1.count, .bool (rdItm x).1.begins, .slice A3 L3 c3] 103)) (by rw [List.length_map]; exact hown') hgrow hat
          have hp6 := hp5.setBox (B := w.heap.size + 2) (.slice (some ⟨g', 0, none⟩) (pre.length + 1) cap') (by omega)
          exact ⟨hk5.others, hk5.keepC (by omega) (fun k h1 h2 hx => by unfold patX at hx; omega), _, boxPut z0 (by omega), boxPut z1 (by omega), z2.set _, by rw [hany]; exact boxPut z3 (by omega), by rw [List.map_append]; exact hp6, HOK.out, Nat.le_trans hsz hk5.size, hB.trans (hk5.below (by omega) (fun k hk hx => by unfold patX at hx; omega))⟩
    -- END
  case stop =>
    rintro D W hD ⟨d0, d1, hno, hsz, hB⟩ hK
    rw [hqs] at hD
    have HNO := Lib.hid hno
    have HBL := Lib.hid (hB.trans (belowK_b (w := w) (Nat.le_refl _) W D _ (.deferred none) (by omega) hK rfl rfl))
    have e0 := d0.kept (grownBy_putObj' W D (.deferred none)) (fun e => by cases e; omega)
    have e1 := d1.kept (grownBy_putObj' W D (.deferred none)) (fun e => by cases e; omega)
    have c0 := e0.cell
    have c1 := e1.cell
    clear e0 e1 d0 d1 hno hB
    gi_wp2
    refine ⟨by simp, .inl ⟨_, _, rfl, run_takeDeferred hK, ?_⟩⟩
    refine ⟨.tuple #[.slice none 0 0, .bool false], by rw [results_cell2 rfl]; go_simp, ?_⟩
    exact ⟨_, by rw [HNO.out], HBL.out, fun h => by rw [HNO.out] at h; cases h⟩
  case done =>
    rintro D W hD ⟨v, d0, d1, d2, d3, hR, hok, hsz, hB⟩ hK
    rw [hqs] at hD
    rw [parts_cuts] at d3 hR hok
    have hpb : patB p = ((partsP p).any itmW && decide ((partsP p).length ≤ 8)) := by unfold patB; rw [List.all_eq_true.2 hok, Bool.true_and]
    obtain ⟨L, hL⟩ : ∃ L, (partsP p).length = L := ⟨_, rfl⟩
    obtain ⟨sm, hsm⟩ : ∃ sm, (partsP p).any itmW = sm := ⟨_, rfl⟩
    obtain ⟨A, c, rfl, _⟩ := (hR.sli (F := fun _ => True) (fun _ _ _ => trivial)).form
    rw [List.length_map] at hR d2
    rw [hL] at hR d2 hpb
    rw [hsm] at d3 hpb
    have HPB := Lib.hid hpb
    have HSL := Lib.hid hR
    have HB := Lib.hid hB
    have c0 := d0.cell; have c1 := d1.cell; have c2 := d2.cell; have c3 := d3.cell
    have f0 := d0.frozen; have f1 := d1.frozen
    clear hok hpb hL hsm hR hB
    cases sm with
    | false =>
      have HF := Lib.hid (pat_fin (w := w) (W := W) (D := D) (b := false) (by omega) d0 d1 HSL.out HB.out hK)
      gi_wp2
      refine wpIn_wide.2 ?_
      go_region
      gi_wp2
      refine ⟨by simp, .inl ⟨_, _, rfl, run_takeDeferred HF.out.1, ?_⟩⟩
      obtain ⟨_, z0, z1, hBL, hRL⟩ := HF.out
      refine ⟨.tuple #[.slice A L c, .bool false], by rw [results_cell2 rfl]; go_simp, ?_⟩
      exact ⟨_, by rw [HPB.out]; rfl, hBL, fun h => by rw [HPB.out] at h; cases h⟩
    | true =>
      have HP8 := Lib.hid (show patB p = decide ((L : Int) ≤ 8) by rw [HPB.out, Bool.true_and]; exact decide_eq_decide.2 (by omega))
      have HF := Lib.hid (pat_fin (w := w) (W := W) (D := D) (b := decide ((L : Int) ≤ 8)) (by omega) d0 d1 HSL.out HB.out hK)
      gi_wp2
      refine wpIn_wide.2 ?_
      go_region
      gi_wp2
      refine ⟨by simp, .inl ⟨_, _, rfl, run_takeDeferred HF.out.1, ?_⟩⟩
      obtain ⟨_, z0, z1, hBL, hRL⟩ := HF.out
      refine ⟨.tuple #[.slice A L c, .bool (decide ((L : Int) ≤ 8))], by rw [results_cell2 rfl]; go_simp, ?_⟩
      exact ⟨_, by rw [HP8.out], hBL, fun _ => hRL.sli (fun b h1 h2 => ⟨by omega, h2⟩)⟩
end Go.Proofs.YtlfnmmnbfoimeaaGreatDoor

