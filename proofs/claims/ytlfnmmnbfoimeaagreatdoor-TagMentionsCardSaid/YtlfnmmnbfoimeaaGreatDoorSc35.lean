/- Texts packed: TgL, MnS, TgT. -/
import Derived.Test.YtlfnmmnbfoimeaaGreatDoorSc33
import Derived.Test.YtlfnmmnbfoimeaaGreatDoorSc34
import Derived.Test.YtlfnmmnbfoimeaaGreatDoorSc08
import Derived.Test.YtlfnmmnbfoimeaaGreatDoorSc13
import Derived.Test.YtlfnmmnbfoimeaaGreatDoorSc09
/- CheckPattern and Match, walked; the question that begins the laws. -/
namespace Go.Proofs.YtlfnmmnbfoimeaaGreatDoor
set_option linter.unusedVariables false
open Go.RowKit

theorem patE_yes {p : ByteArray} (h : patB p = true) : patE p = 0 := by unfold patE; rw [if_pos h]
theorem patE_bad {p : ByteArray} (h : patB p = false) : patE p = 9 := by unfold patE; rw [h]; rfl
theorem CheckPattern_c (p : ByteArray) (w : World) (hs : p.size ≤ 1000000) (hm : MaxLaid w) : Calls Tryz.prog 50 #[.string p] w fun e w' => e = .returned (.int .i64 (patE p)) ∧ Below w.heap.size w w' := by
  have HC := Lib.hid (readPattern_c p w hs hm)
  cases hp : patB p with
  | true =>
    have HE := Lib.hid (patE_yes hp)
    rw [show RdpP p w = fun e w' => ∃ v, e = .returned (.tuple #[v, .bool (patB p)]) ∧ Below w.heap.size w w' ∧ (patB p = true → Sli itmR w' (fun b => w.heap.size ≤ b ∧ b < w'.heap.size) ((partsP p).map fun s => (rdItm s).1) v) from rfl, hp] at HC
    go_enter Tryz.func50, Tryz.ntmps50
    go_wp2_with fail
    refine HC.out.mono ?_
    rintro e w1 ⟨v, rfl, hb, _⟩
    go_wp2
    go_ret
    exact ⟨by rw [HE.out]; rfl, hb⟩
  | false =>
    have HE := Lib.hid (patE_bad hp)
    rw [show RdpP p w = fun e w' => ∃ v, e = .returned (.tuple #[v, .bool (patB p)]) ∧ Below w.heap.size w w' ∧ (patB p = true → Sli itmR w' (fun b => w.heap.size ≤ b ∧ b < w'.heap.size) ((partsP p).map fun s => (rdItm s).1) v) from rfl, hp] at HC
    go_enter Tryz.func50, Tryz.ntmps50
    go_wp2_with fail
    refine HC.out.mono ?_
    rintro e w1 ⟨v, rfl, hb, _⟩
    go_wp2
    go_ret
    exact ⟨by rw [HE.out]; rfl, hb⟩
/-- The parts of a pattern. -/
def itmsP (p : ByteArray) : List Itm := (partsP p).map fun s => (rdItm s).1
theorem itmsP_len (p : ByteArray) : (itmsP p).length = (partsP p).length := List.length_map _
theorem partsP_pos (p : ByteArray) : 1 ≤ (partsP p).length := by unfold partsP; rw [words_len]; omega
theorem begins_ws (s : ByteArray) : (rdItm s).1.begins = true → 0 < (rdItm s).1.ws.length := by
  by_cases h1 : s.toList = [63]
  · rw [rdItm_q h1]; intro h; cases h
  by_cases h2 : s.toList = [35]
  · rw [rdItm_h h1 h2]; intro h; cases h
  by_cases h3 : Lib.hasSuffix s.data.toList [42] = true
  · rw [rdItm_s h1 h2 h3]; intro _; exact Nat.lt_succ_self 0
  by_cases h4 : (words s 124).all pwB = true
  · rw [rdItm_y h1 h2 h3 h4]; intro h; cases h
  · rw [rdItm_n h1 h2 h3 h4]; intro h; cases h
/-- What matching leaves. -/
def MatP (p t : ByteArray) (w : World) (e : Ending) (w' : World) : Prop :=
  ∃ v, e = .returned (.tuple #[v, .int .i64 (patE p)]) ∧ Below w.heap.size w w' ∧ (patB p = true → Own (hitR (partsP p).length) w' w.heap.size w.heap.size 75 (hitsAt (itmsP p) (wordsT t) 0) v)
set_option maxRecDepth 100000 in
set_option maxHeartbeats 4000000 in
theorem Match_c (p t : ByteArray) (w : World) (hs : p.size ≤ 100000) (ht : t.size ≤ 100000) (hm : MaxLaid w) (hE : ErrsLaid w) : Calls Tryz.prog 33 #[.string p, .string t] w (MatP p t w) := by
  have HC := Lib.hid (readPattern_c p w (by omega) hm)
  have HLE := Lib.hid (itmsP_len p)
  have HL1 := Lib.hid (partsP_pos p)
  have HL2 := Lib.hid (show (partsP p).length ≤ p.size + 1 from words_le p 32)
  cases hp : patB p with
  | true =>
    have HP := Lib.hid (patE_yes hp)
    rw [show RdpP p w = fun e w' => ∃ v, e = .returned (.tuple #[v, .bool (patB p)]) ∧ Below w.heap.size w w' ∧ (patB p = true → Sli itmR w' (fun b => w.heap.size ≤ b ∧ b < w'.heap.size) ((partsP p).map fun s => (rdItm s).1) v) from rfl, hp] at HC
    go_enter Tryz.func33, Tryz.ntmps33
    go_wp2_with fail
    refine HC.out.mono ?_
    rintro e w1 ⟨v, rfl, hb1, hx⟩
    have HX := Lib.hid (show Sli itmR w1 (fun b => w.heap.size ≤ b ∧ b < w1.heap.size) (itmsP p) v from hx (by trivial))
    have HB1 := Lib.hid hb1
    have HE1 := Lib.hid (hE.below hb1 (Nat.le_refl _))
    clear hb1 hx HC hp hE hm
    go_wp2_with fail
    refine (Words_c t w1 (by omega)).mono ?_
    rintro e w2 ⟨v2, rfl, hown, hb2⟩
    have HX2 := Lib.hid (HX.out.below hb2 (fun b hb => hb.2))
    have HW2 := Lib.hid (hown.sli (F := fun b => b < w2.heap.size) (fun b _ h => h) (fun g hg => (hown.block g hg).2))
    have HB2 := Lib.hid (HB1.out.trans (hb2.mono HB1.out.size))
    have HH := Lib.hid (hits_c (itmsP p) v (wordsT t) v2 w2 HX2.out (fun b hb => Nat.lt_of_lt_of_le hb.2 hb2.size) HW2.out (fun b hb => hb) (by rw [HLE.out]; exact HL1.out) (by rw [HLE.out]; have := HL2.out; omega) (by have := wordsT_len t; omega) (fun s hs => by have := wordsT_sz hs; omega) (fun x hx => by obtain ⟨s, _, rfl⟩ := List.mem_map.1 hx; exact begins_ws s) (HE1.out.below hb2 (Nat.le_refl _)))
    clear hown hb2 HX HB1 HE1
    go_wp2_with fail
    refine HH.out.mono ?_
    rintro e w3 ⟨v3, rfl, hown3, hb3⟩
    have HB3 := Lib.hid (HB2.out.trans (hb3.mono HB2.out.size))
    have HO3 := Lib.hid (show Own (hitR (itmsP p).length) w3 w.heap.size w.heap.size 75 (hitsAt (itmsP p) (wordsT t) 0) v3 from hown3.less (enc := fun x : Nat × Int => [.int .i64 (x.1 : Int), .int .i64 ((itmsP p).length : Int), .int .i64 x.2]) (hn := fun _ => rfl) HB2.out.size)
    clear hown3 hb3 HH
    go_wp2
    go_ret2
    exact ⟨v3, by rw [HP.out]; rfl, HB3.out, fun _ => by rw [← HLE.out]; exact HO3.out⟩
  | false =>
    have HP := Lib.hid (patE_bad hp)
    rw [show RdpP p w = fun e w' => ∃ v, e = .returned (.tuple #[v, .bool (patB p)]) ∧ Below w.heap.size w w' ∧ (patB p = true → Sli itmR w' (fun b => w.heap.size ≤ b ∧ b < w'.heap.size) ((partsP p).map fun s => (rdItm s).1) v) from rfl, hp] at HC
    have HPB := Lib.hid hp
    clear hp
    go_enter Tryz.func33, Tryz.ntmps33
    go_wp2_with fail
    refine HC.out.mono ?_
    rintro e w1 ⟨v, rfl, hb1, _⟩
    go_wp2
    go_ret2
    exact ⟨_, by rw [HP.out]; rfl, hb1, fun h => by rw [HPB.out] at h; cases h⟩

abbrev gunP : ByteArray := ⟨#[35, 32, 103, 117, 110, 42]⟩
abbrev gunT : ByteArray := ⟨#[116, 119, 111, 32, 103, 117, 110, 115]⟩
theorem gun_pat : patB gunP = true := by decide +kernel
theorem gun_words : wordsT gunT = [⟨#[116, 119, 111]⟩, ⟨#[103, 117, 110, 115]⟩] := by decide +kernel
theorem gun_len : (partsP gunP).length = 2 := by decide +kernel
theorem gun_hit : hitA (itmsP gunP) [⟨#[116, 119, 111]⟩, ⟨#[103, 117, 110, 115]⟩] 0 = some 2 := by decide +kernel
theorem gun_hits : hitsAt (itmsP gunP) (wordsT gunT) 0 = [(0, 2)] := by
  rw [gun_words]
  have hl : (itmsP gunP).length = 2 := by rw [itmsP_len, gun_len]
  rw [hitsAt_yes (by decide) (by rw [hl]; decide) gun_hit, hl, hitsAt_end (by decide)]
set_option maxRecDepth 100000 in
set_option maxHeartbeats 1000000 in
theorem tags_c (w : World) (hm : MaxLaid w) (hE : ErrsLaid w) : Calls Tryz.prog 10 #[] w fun e w' => e = .returned (.bool true) ∧ Below w.heap.size w w' := by
  have HC := Lib.hid (Match_c gunP gunT w (by decide) (by decide) hm hE)
  have HE := Lib.hid (patE_yes gun_pat)
  go_enter Tryz.func10, Tryz.ntmps10
  go_wp2_with fail
  refine HC.out.mono ?_
  rintro e w1 ⟨v, rfl, hb, hown⟩
  have hown := hown gun_pat
  rw [gun_hits, gun_len] at hown
  rw [HE.out]
  obtain ⟨A, c, rfl, _⟩ := (hown.sli (F := fun _ => True) (fun _ _ _ => trivial) (fun _ _ => trivial)).form
  obtain ⟨b, off, a, rfl, _, hr, hc⟩ := Sli.at_ (hown.sli (F := fun _ => True) (fun _ _ _ => trivial) (fun _ _ => trivial)) 0 (Nat.lt_succ_self 0)
  have hr : a = [.int .i64 0, .int .i64 2, .int .i64 2] := hr
  subst hr
  have c2 : w1.cell? ⟨b, off + 2, none⟩ = some (.int .i64 2) := by simpa using hc 2 _ rfl
  clear HC hown hc hm hE
  simp only [List.length_cons, List.length_nil, Nat.zero_add]
  go_wp2
  go_ret
  exact ⟨rfl, hb⟩
end Go.Proofs.YtlfnmmnbfoimeaaGreatDoor

/- Rules and mentions, in plain words. No program in sight. -/
namespace Go.Proofs.YtlfnmmnbfoimeaaGreatDoor
set_option linter.unusedVariables false
open Go.RowKit

/-- A rule: its element (kind and name), its pattern, its kinds of paragraphs, its set. -/
structure Rul where
  kind : Int
  name : ByteArray
  pat : ByteArray
  kinds : List Int
  set : ByteArray
def Rul.cells (x : Rul) (v : Value) : List Value := [.int .i64 x.kind, .string x.name, .string x.pat, v, .string x.set]
def isKd (k : Int) : Bool := decide (k = 1) || decide (k = 3) || decide (k = 4) || decide (k = 5)
def leO (p : Option Int) (k : Int) : Bool := match p with
  | none => false
  | some q => decide (k ≤ q)
/-- The error of the kinds from a place on. -/
def kdE : Option Int → List Int → Int
  | _, [] => 0
  | p, k :: r => if isKd k = false then 4 else if leO p k = true then 7 else kdE (some k) r
def kdOf (l : List Int) (i : Nat) : Option Int := if i = 0 then none else l[i - 1]?
theorem kdOf_pos {l : List Int} {i : Nat} (h : 0 < i) (hl : i ≤ l.length) : kdOf l i = some (l[i - 1]'(by omega)) := by
  unfold kdOf; rw [if_neg (by omega)]; simp [show i - 1 < l.length by omega]
theorem kdE_kind {l : List Int} {i : Nat} (hi : i < l.length) (h : isKd l[i] = false) : kdE (kdOf l i) (l.drop i) = 4 := by
  rw [List.drop_eq_getElem_cons hi, kdE, if_pos h]
theorem kdE_order {l : List Int} {i : Nat} (hi : i < l.length) (h : isKd l[i] = true) (h0 : 0 < i) (ho : l[i] ≤ l[i - 1]'(by omega)) : kdE (kdOf l i) (l.drop i) = 7 := by
  rw [List.drop_eq_getElem_cons hi, kdE, if_neg (by rw [h]; decide), kdOf_pos (l := l) (i := i) h0 (by omega), if_pos (show leO (some (l[i - 1]'(by omega))) l[i] = true from decide_eq_true ho)]
theorem kdE_next {l : List Int} {i : Nat} (hi : i < l.length) (h : isKd l[i] = true) (ho : ∀ h0 : 0 < i, ¬ l[i] ≤ l[i - 1]'(by omega)) : kdE (kdOf l i) (l.drop i) = kdE (kdOf l (i + 1)) (l.drop (i + 1)) := by
  rw [List.drop_eq_getElem_cons hi, kdE, if_neg (by rw [h]; decide), kdOf_pos (l := l) (i := i + 1) (by omega) (by omega)]
  by_cases h0 : 0 < i
  · rw [kdOf_pos (l := l) (i := i) h0 (by omega), if_neg (show ¬ leO (some (l[i - 1]'(by omega))) l[i] = true by rw [Bool.not_eq_true]; exact decide_eq_false (ho h0))]; rfl
  · rw [show kdOf l i = none by unfold kdOf; rw [if_pos (by omega)], if_neg (by simp [leO])]; rfl
theorem kdE_end {l : List Int} {i : Nat} (hi : ¬ i < l.length) : kdE (kdOf l i) (l.drop i) = 0 := by
  rw [List.drop_eq_nil_of_le (by omega), kdE]
/-- The error of a rule. -/
def ruE (x : Rul) : Int :=
  if ¬ elE x.kind x.name = 0 then elE x.kind x.name
  else if x.kind = 11 then 4
  else if patB x.pat = false then 9
  else if ¬ kdE none x.kinds = 0 then kdE none x.kinds
  else if ¬ x.set = ⟨#[]⟩ ∧ setB x.set = false then 5 else 0
def rusE : List Rul → Int
  | [] => 0
  | x :: r => if ¬ ruE x = 0 then ruE x else rusE r
theorem rusE_bad {l : List Rul} {i : Nat} (hi : i < l.length) (h : ¬ ruE l[i] = 0) : rusE (l.drop i) = ruE l[i] := by
  rw [List.drop_eq_getElem_cons hi, rusE, if_pos h]
theorem rusE_next {l : List Rul} {i : Nat} (hi : i < l.length) (h : ruE l[i] = 0) : rusE (l.drop i) = rusE (l.drop (i + 1)) := by
  rw [List.drop_eq_getElem_cons hi, rusE, if_neg (by rw [h]; decide)]
theorem rusE_end {l : List Rul} {i : Nat} (hi : ¬ i < l.length) : rusE (l.drop i) = 0 := by
  rw [List.drop_eq_nil_of_le (by omega), rusE]
def rulesE (l : List Rul) : Int := if 200 < l.length then 2 else rusE l
theorem rusE_ok : ∀ {l : List Rul}, rusE l = 0 → ∀ x ∈ l, ruE x = 0
  | [], _, x, hx => by cases hx
  | y :: r, h, x, hx => by
    rw [rusE] at h
    by_cases c : ¬ ruE y = 0
    · rw [if_pos c] at h; exact absurd h c
    · rw [if_neg c] at h
      rcases List.mem_cons.1 hx with rfl | hx
      · exact Classical.byContradiction c
      · exact rusE_ok h x hx
theorem rulesE_ok {l : List Rul} (h : rulesE l = 0) : l.length ≤ 200 ∧ ∀ x ∈ l, ruE x = 0 := by
  unfold rulesE at h
  by_cases c : 200 < l.length
  · rw [if_pos c] at h; exact absurd h (by decide)
  · rw [if_neg c] at h; exact ⟨by omega, rusE_ok h⟩
theorem ruE_pat {x : Rul} (h : ruE x = 0) : patB x.pat = true := by
  unfold ruE at h
  by_cases c1 : ¬ elE x.kind x.name = 0
  · rw [if_pos c1] at h; exact absurd h c1
  rw [if_neg c1] at h
  by_cases c2 : x.kind = 11
  · rw [if_pos c2] at h; exact absurd h (by decide)
  rw [if_neg c2] at h
  cases hp : patB x.pat with
  | true => rfl
  | false => rw [if_pos hp] at h; exact absurd h (by decide)

/-- Whether a rule looks at a paragraph. -/
def apB (r : Rul) (set : ByteArray) (kind : Int) : Bool := if ¬ r.set = ⟨#[]⟩ ∧ ¬ r.set = set then false else if r.kinds.length = 0 then decide (¬ kind = 2) else decide (kind ∈ r.kinds)
/-- A mention: rule, scene, paragraph, place, length, count. -/
structure Mnt where
  rule : Nat
  scene : Nat
  para : Nat
  at_ : Nat
  long : Nat
  count : Int
def Mnt.cells (m : Mnt) : List Value := [.int .i64 (m.rule : Int), .int .i64 (m.scene : Int), .int .i64 (m.para : Int), .int .i64 (m.at_ : Int), .int .i64 (m.long : Int), .int .i64 m.count]
abbrev mnR : Rep Mnt := Rep.flat 6 Mnt.cells (fun _ => rfl)
/-- Where a pattern is in a text. -/
def hitsP (p t : ByteArray) : List (Nat × Int) := hitsAt (itmsP p) (wordsT t) 0
def mnOf (n i k N : Nat) (h : Nat × Int) : Mnt := ⟨n, i, k, h.1, N, h.2⟩
def fm {α : Type} (f : Nat → List α) (n : Nat) : List α := (List.range n).flatMap f
theorem fm_zero {α : Type} (f : Nat → List α) : fm f 0 = [] := rfl
theorem fm_succ {α : Type} (f : Nat → List α) (n : Nat) : fm f (n + 1) = fm f n ++ f n := by unfold fm; rw [List.range_succ, List.flatMap_append]; simp
theorem fmM_len {α : Type} {f : Nat → List α} {M : Nat} : ∀ {n : Nat}, (∀ k, k < n → (f k).length ≤ M) → (fm f n).length ≤ n * M
  | 0, _ => by rw [fm_zero]; simp
  | n + 1, h => by
    rw [fm_succ, List.length_append]
    have h1 := fmM_len (n := n) fun k hk => h k (by omega)
    have h2 := h n (by omega)
    have h3 : (n + 1) * M = n * M + M := Nat.succ_mul n M
    omega
theorem fm_mono {α : Type} (f : Nat → List α) {m n : Nat} (h : m ≤ n) : (fm f m).length ≤ (fm f n).length := by
  induction n with
  | zero => rw [show m = 0 by omega]; exact Nat.le_refl _
  | succ n ih =>
    by_cases e : m = n + 1
    · rw [e]; exact Nat.le_refl _
    · rw [fm_succ, List.length_append]; have := ih (by omega); omega
/-- What one rule finds in a paragraph. -/
def ruM (rs : List Rul) (i k : Nat) (set : ByteArray) (p : Para) (n : Nat) : List Mnt := match rs[n]? with
  | none => []
  | some r => if apB r set p.kind = true then (hitsP r.pat p.text).map (mnOf n i k (partsP r.pat).length) else []
theorem ruM_yes {rs : List Rul} {i k : Nat} {set : ByteArray} {p : Para} {n : Nat} (hn : n < rs.length) (h : apB rs[n] set p.kind = true) : ruM rs i k set p n = (hitsP rs[n].pat p.text).map (mnOf n i k (partsP rs[n].pat).length) := by
  unfold ruM; rw [List.getElem?_eq_getElem hn]; dsimp only; rw [if_pos h]
theorem ruM_no {rs : List Rul} {i k : Nat} {set : ByteArray} {p : Para} {n : Nat} (hn : n < rs.length) (h : apB rs[n] set p.kind = false) : ruM rs i k set p n = [] := by
  unfold ruM; rw [List.getElem?_eq_getElem hn]; dsimp only; rw [if_neg (by rw [h]; decide)]
def paM (rs : List Rul) (i : Nat) (x : Scene) (k : Nat) : List Mnt := match x.paras[k]? with
  | none => []
  | some p => fm (ruM rs i k x.set p) rs.length
theorem paM_at {rs : List Rul} {i : Nat} {x : Scene} {k : Nat} (hk : k < x.paras.length) : paM rs i x k = fm (ruM rs i k x.set x.paras[k]) rs.length := by
  unfold paM; rw [List.getElem?_eq_getElem hk]
def scM (rs : List Rul) (sc : List Scene) (i : Nat) : List Mnt := match sc[i]? with
  | none => []
  | some x => fm (paM rs i x) x.paras.length
theorem scM_at {rs : List Rul} {sc : List Scene} {i : Nat} (hi : i < sc.length) : scM rs sc i = fm (paM rs i sc[i]) sc[i].paras.length := by
  unfold scM; rw [List.getElem?_eq_getElem hi]
def alM (rs : List Rul) (sc : List Scene) : List Mnt := fm (scM rs sc) sc.length
/-- The list up to a place is not longer than the whole. -/
theorem alM_pre {rs : List Rul} {sc : List Scene} {i k : Nat} (hi : i < sc.length) (hk : k ≤ sc[i].paras.length) : (fm (scM rs sc) i ++ fm (paM rs i sc[i]) k).length ≤ (alM rs sc).length := by
  have h1 := fm_mono (scM rs sc) (show i + 1 ≤ sc.length by omega)
  rw [fm_succ, List.length_append, scM_at hi] at h1
  have h2 := fm_mono (paM rs i sc[i]) hk
  unfold alM
  rw [List.length_append]
  omega
theorem hitsAt_len {p : List Itm} {ws : List ByteArray} (hp : 1 ≤ p.length) : ∀ (n k : Nat), ws.length - k ≤ n → (hitsAt p ws k).length ≤ ws.length - k
  | 0, k, h => by rw [hitsAt_end (by omega)]; exact Nat.zero_le _
  | n + 1, k, h => by
    by_cases hk : ws.length ≤ k
    · rw [hitsAt_end hk]; exact Nat.zero_le _
    cases hh : hitA p ws k with
    | none => rw [hitsAt_no (by omega) hp hh]; have := hitsAt_len (ws := ws) hp n (k + 1) (by omega); omega
    | some c => rw [hitsAt_yes (by omega) hp hh, List.length_cons]; have := hitsAt_len (ws := ws) hp n (k + p.length) (by omega); omega
theorem hitsP_len (p t : ByteArray) : (hitsP p t).length ≤ t.size + 1 := by
  have h := hitsAt_len (ws := wordsT t) (show 1 ≤ (itmsP p).length by rw [itmsP_len]; exact partsP_pos p) _ 0 (Nat.le_refl _)
  have h2 := wordsT_len t
  unfold hitsP
  omega
theorem ruM_len {rs : List Rul} {i k : Nat} {set : ByteArray} {p : Para} {M : Nat} (hp : p.text.size ≤ M) (n : Nat) : (ruM rs i k set p n).length ≤ M + 1 := by
  unfold ruM
  split
  · exact Nat.zero_le _
  · rename_i r _
    split
    · rw [List.length_map]; have := hitsP_len r.pat p.text; omega
    · exact Nat.zero_le _
theorem paM_len {rs : List Rul} {i : Nat} {x : Scene} {M : Nat} (hp : ∀ p ∈ x.paras, p.text.size ≤ M) (k : Nat) : (paM rs i x k).length ≤ rs.length * (M + 1) := by
  unfold paM
  split
  · exact Nat.zero_le _
  · rename_i p hh
    exact fmM_len fun n _ => ruM_len (hp p (List.mem_of_getElem? hh)) n
theorem scM_len {rs : List Rul} {sc : List Scene} {M Q : Nat} (hp : ∀ x ∈ sc, x.paras.length ≤ Q ∧ ∀ p ∈ x.paras, p.text.size ≤ M) (i : Nat) : (scM rs sc i).length ≤ Q * (rs.length * (M + 1)) := by
  unfold scM
  split
  · exact Nat.zero_le _
  · rename_i x hh
    have hx := hp x (List.mem_of_getElem? hh)
    exact Nat.le_trans (fmM_len fun k _ => paM_len hx.2 k) (Nat.mul_le_mul_right _ hx.1)
end Go.Proofs.YtlfnmmnbfoimeaaGreatDoor

/- Lists of hits compared: the same list. -/
namespace Go.Proofs.YtlfnmmnbfoimeaaGreatDoor
set_option linter.unusedVariables false
open Go.RowKit Go.Sort

theorem hitAt_cells {w : World} {F : Nat → Prop} {N : Nat} {l : List (Nat × Int)} {A : Option Addr} {n c : Nat} (h : Sli (hitR N) w F l (.slice A n c)) (k : Nat) (hk : k < l.length) : ∃ b off, A = some ⟨b, off, none⟩ ∧ F b ∧ w.cell? ⟨b, off + k * 3, none⟩ = some (.int .i64 (l[k].1 : Int)) ∧ w.cell? ⟨b, off + k * 3 + 1, none⟩ = some (.int .i64 (N : Int)) ∧ w.cell? ⟨b, off + k * 3 + 2, none⟩ = some (.int .i64 l[k].2) := by
  obtain ⟨b, off, a, e, hb, hr, hc⟩ := h.at_ k hk
  have ha : a = [.int .i64 ((l[k]).1 : Int), .int .i64 (N : Int), .int .i64 (l[k]).2] := hr
  subst ha
  exact ⟨b, off, e, hb, hc 0 _ rfl, hc 1 _ rfl, hc 2 _ rfl⟩
end Go.Proofs.YtlfnmmnbfoimeaaGreatDoor

