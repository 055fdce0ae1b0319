/- Texts packed: RtT, RlB, ScW, WdX, FndW, FdS, FdW, FdX, ScZ. -/
import Derived.Test.YtkhegeobdcemkaaGreatDoorSc20
import Derived.Test.YtkhegeobdcemkaaGreatDoorSc47
import Derived.Test.YtkhegeobdcemkaaGreatDoorSc46
import Derived.Test.YtkhegeobdcemkaaGreatDoorSc02
import Derived.Test.YtkhegeobdcemkaaGreatDoorSc29
import Derived.Deep.DeepCutAuto
import Derived.Test.YtkhegeobdcemkaaGreatDoorSc12
import Derived.Test.YtkhegeobdcemkaaGreatDoorSc03
import Derived.Test.YtkhegeobdcemkaaGreatDoorSc01
import Derived.Test.YtkhegeobdcemkaaGreatDoorSc27
import Derived.Test.YtkhegeobdcemkaaGreatDoorSc32
import Derived.Test.YtkhegeobdcemkaaGreatDoorSc41
/- A script's text, read, is the script. No program in sight. -/
namespace Go.Proofs.YtkhegeobdcemkaaGreatDoor
set_option linter.unusedVariables false
open Go.RowKit

theorem index_app {c : UInt8} (a b : List UInt8) (h : ∀ x ∈ a, x ≠ c) : Lib.index (a ++ c :: b) [c] = a.length := by
  induction a with
  | nil => rw [List.nil_append, Lib.index]; simp [List.isPrefixOf]
  | cons x r ih =>
    have hp : ([c] : List UInt8).isPrefixOf (x :: (r ++ c :: b)) = false := by simp [List.isPrefixOf, Ne.symm (h x (by simp))]
    rw [List.cons_append, Lib.index, hp, ih fun y hy => h y (by simp [hy])]
    have hne : ¬ ((r.length : Int) == -1) = true := fun e => by have := beq_iff_eq.1 e; omega
    simp only [Bool.false_eq_true, if_false, if_neg hne, List.length_cons]
    omega
theorem words_next {c : UInt8} (a : ByteArray) (b : List UInt8) (h : ∀ x ∈ a.data.toList, x ≠ c) : words ⟨(a.data.toList ++ c :: b).toArray⟩ c = a :: words ⟨b.toArray⟩ c := by
  have hl : a.data.toList.length = a.size := by simp
  have hsz : (⟨(a.data.toList ++ c :: b).toArray⟩ : ByteArray).size = a.size + 1 + b.length := by
    show (a.data.toList ++ c :: b).toArray.size = _
    simp
    omega
  have hix : Lib.indexB ⟨(a.data.toList ++ c :: b).toArray⟩ ⟨#[c]⟩ = ((a.size : Nat) : Int) := by
    show Lib.index (a.data.toList ++ c :: b).toArray.toList [c] = _
    rw [← hl]
    exact index_app _ _ h
  have e1 : (⟨(a.data.toList ++ c :: b).toArray⟩ : ByteArray).extract 0 (a.size + 0) = a := by
    apply ba_ext
    rw [extract_list']
    simp [hl]
  have e2 : (⟨(a.data.toList ++ c :: b).toArray⟩ : ByteArray).extract (a.size + (⟨#[c]⟩ : ByteArray).size) (⟨(a.data.toList ++ c :: b).toArray⟩ : ByteArray).size = ⟨b.toArray⟩ := by
    apply ba_ext
    rw [extract_list', hsz, show (⟨#[c]⟩ : ByteArray).size = 1 from rfl]
    show ((a.data.toList ++ c :: b).drop _).take _ = b
    rw [show a.data.toList ++ c :: b = (a.data.toList ++ [c]) ++ b by simp, List.drop_left' (by simp), List.take_of_length_le (by omega)]
  have hc := Lib.countB_hit ⟨(a.data.toList ++ c :: b).toArray⟩ ⟨#[c]⟩ a.size (Nat.le_refl 1) hix
  rw [e2, Nat.add_comm] at hc
  unfold words
  rw [hc, Lib.splitB_hit _ 0 _ _ a.size hix, e1, e2]
def joinL (l : List ByteArray) : List UInt8 := l.flatMap fun s => s.data.toList ++ [10]
theorem words_join (l : List ByteArray) (h : ∀ s ∈ l, ∀ x ∈ s.data.toList, x ≠ 10) : words ⟨(joinL l).toArray⟩ 10 = l ++ [⟨#[]⟩] := by
  induction l with
  | nil => rfl
  | cons a r ih =>
    have e : joinL (a :: r) = a.data.toList ++ 10 :: joinL r := by unfold joinL; simp
    rw [e, words_next a _ (h a (by simp)), ih fun s hs => h s (by simp [hs])]
    rfl
theorem joinL_app (a b : List ByteArray) : joinL (a ++ b) = joinL a ++ joinL b := by unfold joinL; simp
theorem joinL_flat {α : Type} (f : α → List ByteArray) (l : List α) : joinL (l.flatMap f) = l.flatMap fun x => joinL (f x) := by
  induction l with
  | nil => rfl
  | cons a r ih => rw [List.flatMap_cons, List.flatMap_cons, joinL_app, ih]
/-- The lines of a script. -/
def paraLn (p : Para) : List ByteArray := (if p.kind = 1 ∨ p.kind = 5 ∨ p.kind = 2 then [⟨#[]⟩] else []) ++ [lineS p]
def sceneLn (x : Scene) : List ByteArray := [⟨#[]⟩, ⟨#[35, 32]⟩ ++ headS x] ++ x.paras.flatMap paraLn
def scriptLn (x : Script) : List ByteArray := (⟨#[116, 105, 116, 108, 101, 58, 32]⟩ ++ x.title) :: x.scenes.flatMap sceneLn
theorem join_para (p : Para) : joinL (paraLn p) = paraT p := by
  unfold paraLn paraT
  rw [joinL_app]
  split <;> simp [joinL]
theorem join_scene (x : Scene) : joinL (sceneLn x) = sceneT x := by
  unfold sceneLn sceneT
  rw [joinL_app, joinL_flat]
  simp only [join_para]
  simp [joinL]
theorem join_script (x : Script) : joinL (scriptLn x) = textT x := by
  unfold scriptLn textT
  rw [show (⟨#[116, 105, 116, 108, 101, 58, 32]⟩ ++ x.title) :: x.scenes.flatMap sceneLn = [⟨#[116, 105, 116, 108, 101, 58, 32]⟩ ++ x.title] ++ x.scenes.flatMap sceneLn from rfl, joinL_app, joinL_flat]
  simp only [join_scene]
  simp [joinL]

/-! Nothing in a line is a line feed. -/
theorem plain_ten {s : ByteArray} (h : plainB s = true) : ∀ x ∈ s.data.toList, x ≠ 10 := fun x hx e => by
  subst e
  unfold plainB allB at h
  simp only [Bool.and_eq_true] at h
  have := List.all_eq_true.1 h.1 10 hx
  revert this; decide
theorem numB_ten {s : ByteArray} (h : numB s = true) : ∀ x ∈ s.data.toList, x ≠ 10 := fun x hx e => by
  subst e
  unfold numB at h
  simp only [Bool.and_eq_true] at h
  obtain ⟨⟨⟨h1, _⟩, _⟩, _⟩ := h
  obtain ⟨t, ht⟩ := List.takeWhile_prefix digB (l := s.data.toList)
  have hd : s.data.toList.drop (numK s) = t := by
    unfold numK
    have h3 : (s.data.toList.takeWhile digB ++ t).drop (s.data.toList.takeWhile digB).length = t := List.drop_left' rfl
    rw [ht] at h3
    exact h3
  rw [← ht] at hx
  rcases List.mem_append.1 hx with hx | hx
  · have h2 : digB 10 = true := List.all_eq_true.1 List.all_takeWhile 10 hx
    revert h2; decide
  · rw [← hd] at hx
    have h2 := List.all_eq_true.1 h1 10 hx
    revert h2; decide
theorem setB_ten {s : ByteArray} (h : setB s = true) : ∀ x ∈ s.data.toList, x ≠ 10 := by
  unfold setB proB at h
  simp only [Bool.and_eq_true] at h
  exact plain_ten h.1.1.1.2
theorem placeS_ten : ∀ q : Nat, ∀ x ∈ (placeS q).data.toList, x ≠ 10
  | 0 => by decide
  | 1 => by decide
  | 2 => by decide
  | 3 => by decide
  | q + 4 => by show ∀ x ∈ (⟨#[]⟩ : ByteArray).data.toList, x ≠ 10; decide
theorem timeS_ten : ∀ q : Nat, ∀ x ∈ (timeS q).data.toList, x ≠ 10
  | 0 => by decide
  | 1 => by decide
  | 2 => by decide
  | 3 => by decide
  | 4 => by decide
  | 5 => by decide
  | q + 6 => by show ∀ x ∈ (⟨#[]⟩ : ByteArray).data.toList, x ≠ 10; decide
theorem app_ten {a b : ByteArray} (ha : ∀ x ∈ a.data.toList, x ≠ 10) (hb : ∀ x ∈ b.data.toList, x ≠ 10) : ∀ x ∈ (a ++ b).data.toList, x ≠ 10 := fun x hx => by
  rw [show (a ++ b).data.toList = a.data.toList ++ b.data.toList by simp] at hx
  rcases List.mem_append.1 hx with hx | hx
  · exact ha x hx
  · exact hb x hx
theorem head_ten {x : Scene} (h : okS x) : ∀ c ∈ (headS x).data.toList, c ≠ 10 := by
  have h1 := app_ten (app_ten (app_ten (app_ten (placeS_ten x.place.toNat) (b := ⟨#[32]⟩) (by decide)) (setB_ten h.2.2.2.1)) (b := ⟨#[32, 45, 32]⟩) (by decide)) (timeS_ten x.time.toNat)
  unfold headS
  split
  · exact h1
  · rename_i h0
    exact app_ten (app_ten (numB_ten (h.1.resolve_left h0)) (b := ⟨#[32]⟩) (by decide)) h1
theorem esc_ten {s b : ByteArray} (h : ∀ x ∈ s.data.toList, x ≠ 10) : ∀ x ∈ (escS s b).data.toList, x ≠ 10 := by
  unfold escS
  split
  · exact h
  · split
    · exact app_ten (a := ⟨#[92]⟩) (by decide) h
    · exact h
theorem line_ten {p : Para} (h : plainB p.text = true) : ∀ x ∈ (lineS p).data.toList, x ≠ 10 := by
  have ht := plain_ten h
  unfold lineS
  split
  · exact app_ten (a := ⟨#[64]⟩) (by decide) ht
  · split
    · exact app_ten (app_ten (a := ⟨#[40]⟩) (by decide) ht) (b := ⟨#[41]⟩) (by decide)
    · split
      · exact esc_ten ht
      · split
        · exact app_ten (a := ⟨#[62, 32]⟩) (by decide) ht
        · exact esc_ten ht
theorem script_ten {x : Script} (h : OkX x) : ∀ s ∈ scriptLn x, ∀ c ∈ s.data.toList, c ≠ 10 := fun s hs => by
  unfold scriptLn at hs
  rcases List.mem_cons.1 hs with rfl | hs
  · exact app_ten (a := ⟨#[116, 105, 116, 108, 101, 58, 32]⟩) (by decide) (plain_ten h.tp)
  · obtain ⟨y, hy, hs⟩ := List.mem_flatMap.1 hs
    have hok := h.sc y hy
    unfold sceneLn at hs
    rcases List.mem_append.1 hs with hs | hs
    · rcases List.mem_cons.1 hs with rfl | hs
      · decide
      · rw [List.mem_singleton] at hs
        subst hs
        exact app_ten (a := ⟨#[35, 32]⟩) (by decide) (head_ten hok)
    · obtain ⟨p, hp, hs⟩ := List.mem_flatMap.1 hs
      have hpe := parasE_ok _ _ hok.2.2.2.2 p hp
      unfold paraLn at hs
      rcases List.mem_append.1 hs with hs | hs
      · split at hs
        · rw [List.mem_singleton] at hs; subst hs; decide
        · cases hs
      · rw [List.mem_singleton] at hs
        subst hs
        exact line_ten (paraE_sz hpe).2.2.1

/-! Line by line. -/
/-- Lines that take what has come to something else, wherever they stand. -/
def Runs (r : Rd) (l : List ByteArray) (r' : Rd) : Prop := ∀ (k : Nat) (m : List ByteArray), ∃ j, linesR k r (l ++ m) = linesR j r' m
theorem Runs.nil (r : Rd) : Runs r [] r := fun k m => ⟨k, rfl⟩
theorem Runs.one {r r' : Rd} {s : ByteArray} (h : lineR r s = some r') : Runs r [s] r' := fun k m => ⟨k + 1, by
  show linesR k r (s :: m) = _
  rw [linesR, h]⟩
theorem Runs.app {r r' r'' : Rd} {a b : List ByteArray} (h : Runs r a r') (h' : Runs r' b r'') : Runs r (a ++ b) r'' := fun k m => by
  obtain ⟨j, hj⟩ := h k (b ++ m)
  obtain ⟨i, hi⟩ := h' j m
  exact ⟨i, by rw [List.append_assoc, hj, hi]⟩
theorem empty_runs {t : ByteArray} {sc : List Scene} {wh : Int} (h : wh = 3 ∨ wh = 4) : Runs ⟨t, sc, wh⟩ [⟨#[]⟩] ⟨t, sc, 2⟩ := Runs.one (by
  unfold lineR
  rw [if_pos (show (⟨#[]⟩ : ByteArray).size = 0 from rfl)]
  dsimp only
  rw [if_neg (by omega), if_neg (by omega)])
theorem empty_first {t : ByteArray} : Runs ⟨t, [], 0⟩ [⟨#[]⟩] ⟨t, [], 1⟩ := Runs.one rfl
theorem modify_last {α : Type} (f : α → α) (y : α) : ∀ d : List α, (d ++ [y]).modify d.length f = d ++ [f y]
  | [] => rfl
  | a :: d => by
    have := modify_last f y d
    simp [this]
theorem addTo_last (d : List Scene) (y : Scene) (p : Para) : addTo (d ++ [y]) p = d ++ [addPara p y] := by
  unfold addTo
  rw [show (d ++ [y]).length - 1 = d.length by simp]
  exact modify_last _ y d
theorem ba_cons {s : ByteArray} (h : 0 < s.size) : ∃ c r, s.data.toList = c :: r := by
  rcases s with ⟨⟨l⟩⟩
  cases l with
  | nil => exact absurd h (by show ¬ 0 < 0; omega)
  | cons c r => exact ⟨c, r, rfl⟩
theorem ext_app (a s : ByteArray) : (a ++ s).extract a.size (a ++ s).size = s := by
  apply ba_ext
  rw [extract_list', show (a ++ s).data.toList = a.data.toList ++ s.data.toList by simp, List.drop_left' (by simp), List.take_of_length_le (by rw [ByteArray.size_append]; simp)]
theorem byte_app (c : UInt8) (r : List UInt8) (s : ByteArray) : byteAt (⟨⟨c :: r⟩⟩ ++ s) 0 = c := by
  unfold byteAt
  rw [show ((⟨⟨c :: r⟩⟩ : ByteArray) ++ s).data.toList = (c :: r) ++ s.data.toList by simp]
  rfl
theorem byte_at1 (c d : UInt8) (r : List UInt8) (s : ByteArray) (h : s.data.toList = d :: r) : byteAt (⟨#[c]⟩ ++ s) 1 = d := by
  unfold byteAt
  rw [show ((⟨#[c]⟩ : ByteArray) ++ s).data.toList = [c] ++ s.data.toList by simp, h]
  rfl
theorem pre_app (a s : ByteArray) : Lib.hasPrefix (a ++ s).data.toList a.data.toList = true := by
  unfold Lib.hasPrefix
  rw [show (a ++ s).data.toList = a.data.toList ++ s.data.toList by simp]
  exact List.isPrefixOf_iff_prefix.2 ⟨_, rfl⟩
/-- A line with text escaped: what its first byte is, and the text behind a backslash. -/
theorem esc_cases {s : ByteArray} {m : List UInt8} (h : 0 < s.size) : (escS s ⟨⟨m⟩⟩ = ⟨#[92]⟩ ++ s ∧ marked (⟨#[92]⟩ ++ s) m = true) ∨ (escS s ⟨⟨m⟩⟩ = s ∧ ¬ byteAt s 0 ∈ m) := by
  obtain ⟨c, r, hc⟩ := ba_cons h
  have hb : byteAt s 0 = c := by unfold byteAt; rw [hc]; rfl
  by_cases hm : c ∈ m
  · refine .inl ⟨?_, ?_⟩
    · unfold escS
      rw [hc]
      exact if_pos hm
    · unfold marked
      rw [byte_at1 92 c r s hc, ByteArray.size_append, show (⟨#[92]⟩ : ByteArray).size = 1 from rfl]
      rw [decide_eq_true (by omega)]
      simpa using hm
  · refine .inr ⟨?_, by rw [hb]; exact hm⟩
    unfold escS
    rw [hc]
    exact if_neg hm
theorem saidLine {t : ByteArray} {sc : List Scene} {s : ByteArray} (h : ¬ s.size = 0) : lineR ⟨t, sc, 4⟩ s = saidR ⟨t, sc, 4⟩ s := by
  unfold lineR; rw [if_neg h]; dsimp only; rw [if_pos rfl]
theorem beginsLine {t : ByteArray} {sc : List Scene} {wh : Int} {s : ByteArray} (h : ¬ s.size = 0) (hw : wh = 1 ∨ wh = 2) : lineR ⟨t, sc, wh⟩ s = beginsR ⟨t, sc, wh⟩ s := by
  unfold lineR; rw [if_neg h]; dsimp only; rw [if_neg (by omega), if_pos hw]
theorem para_runs (t : ByteArray) (d : List Scene) (y : Scene) (p : Para) (last : Int) (hp : paraE p = 0) (hf : followsB p.kind last = true) : Runs ⟨t, d ++ [y], whOf last⟩ (paraLn p) ⟨t, d ++ [addPara p y], whOf p.kind⟩ := by
  obtain ⟨h0, _, _, k1, k5⟩ := paraE_sz hp
  have hw : whOf last = 3 ∨ whOf last = 4 := by unfold whOf; split <;> omega
  have hadd : (⟨t, d ++ [y], whOf last⟩ : Rd).add p = ⟨t, d ++ [addPara p y], whOf p.kind⟩ := by unfold Rd.add; rw [addTo_last]
  have hadd2 : (⟨t, d ++ [y], 2⟩ : Rd).add p = ⟨t, d ++ [addPara p y], whOf p.kind⟩ := by unfold Rd.add; rw [addTo_last]
  obtain ⟨kind, s⟩ := p
  dsimp only at *
  unfold paraLn
  dsimp only
  by_cases g : kind = 1 ∨ kind = 5 ∨ kind = 2
  · rw [if_pos g]
    refine (empty_runs hw).app (Runs.one ?_)
    rcases g with g | g | g
    · subst g
      have hl : lineS ⟨1, s⟩ = escS s ⟨⟨[64, 62, 35, 92]⟩⟩ := rfl
      rw [hl]
      rcases esc_cases (m := [64, 62, 35, 92]) h0 with ⟨e, hm⟩ | ⟨e, hm⟩
      · rw [e, beginsLine (by rw [ByteArray.size_append]; omega) (.inr rfl)]
        unfold beginsR
        rw [byte_app 92 [] s, if_neg (by decide)]
        dsimp only
        rw [if_neg (by decide), if_neg (by decide), if_neg (by decide), if_pos rfl, if_pos hm]
        rw [show (⟨#[92]⟩ ++ s : ByteArray).extract 1 (⟨#[92]⟩ ++ s : ByteArray).size = s from ext_app ⟨#[92]⟩ s, hadd2]
      · rw [e, beginsLine (by omega) (.inr rfl)]
        simp only [List.mem_cons, List.not_mem_nil, or_false, not_or] at hm
        unfold beginsR
        dsimp only
        rw [if_neg hm.2.2.1, if_neg (by decide), if_neg hm.1, if_neg hm.2.1, if_neg hm.2.2.2, hadd2]
    · subst g
      have hl : lineS ⟨5, s⟩ = ⟨#[62, 32]⟩ ++ s := rfl
      rw [hl, beginsLine (by rw [ByteArray.size_append]; omega) (.inr rfl)]
      unfold beginsR
      rw [byte_app 62 [32] s, if_neg (by decide)]
      dsimp only
      rw [if_neg (by decide), if_neg (by decide), if_pos rfl, if_pos ⟨pre_app ⟨#[62, 32]⟩ s, by rw [ByteArray.size_append, show (⟨#[62, 32]⟩ : ByteArray).size = 2 from rfl]; omega⟩]
      rw [show (⟨#[62, 32]⟩ ++ s : ByteArray).extract 2 (⟨#[62, 32]⟩ ++ s : ByteArray).size = s from ext_app ⟨#[62, 32]⟩ s, hadd2]
    · subst g
      have hl : lineS ⟨2, s⟩ = ⟨#[64]⟩ ++ s := rfl
      have hn : nameB s = true := by
        cases hb : nameB s with
        | true => rfl
        | false =>
          exfalso
          unfold paraE at hp
          dsimp only at hp
          split at hp
          · omega
          · split at hp
            · omega
            · split at hp
              · omega
              · rw [if_pos ⟨rfl, hb⟩] at hp; omega
      rw [hl, beginsLine (by rw [ByteArray.size_append]; omega) (.inr rfl)]
      unfold beginsR
      rw [byte_app 64 [] s, if_neg (by decide)]
      dsimp only
      rw [if_neg (by decide), if_pos rfl, show (⟨#[64]⟩ ++ s : ByteArray).extract 1 (⟨#[64]⟩ ++ s : ByteArray).size = s from ext_app ⟨#[64]⟩ s, if_pos hn, hadd2]
  · rw [if_neg g, List.nil_append]
    have hk : kind = 3 ∨ kind = 4 := by omega
    have hw4 : whOf last = 4 := by
      unfold followsB at hf
      unfold whOf
      rcases hk with hk | hk
      · subst hk
        rw [if_pos rfl] at hf
        simp only [Bool.or_eq_true, decide_eq_true_eq] at hf
        rw [if_pos (by omega)]
      · subst hk
        rw [if_neg (by decide), if_pos rfl] at hf
        simp only [Bool.or_eq_true, decide_eq_true_eq] at hf
        rw [if_pos (by omega)]
    rw [hw4] at hadd ⊢
    refine Runs.one ?_
    rcases hk with hk | hk
    · subst hk
      have hl : lineS ⟨3, s⟩ = ⟨#[40]⟩ ++ s ++ ⟨#[41]⟩ := rfl
      have hz : (⟨#[40]⟩ ++ s ++ ⟨#[41]⟩ : ByteArray).size = s.size + 2 := by
        rw [ByteArray.size_append, ByteArray.size_append, show (⟨#[40]⟩ : ByteArray).size = 1 from rfl, show (⟨#[41]⟩ : ByteArray).size = 1 from rfl]; omega
      have hsf : Lib.hasSuffix (⟨#[40]⟩ ++ s ++ ⟨#[41]⟩ : ByteArray).data.toList (⟨#[41]⟩ : ByteArray).data.toList = true := by
        unfold Lib.hasSuffix
        rw [show (⟨#[40]⟩ ++ s ++ ⟨#[41]⟩ : ByteArray).data.toList = ([40] ++ s.data.toList) ++ (⟨#[41]⟩ : ByteArray).data.toList by simp]
        exact List.isSuffixOf_iff_suffix.2 ⟨_, rfl⟩
      have hex : (⟨#[40]⟩ ++ s ++ ⟨#[41]⟩ : ByteArray).extract 1 ((⟨#[40]⟩ ++ s ++ ⟨#[41]⟩ : ByteArray).size - 1) = s := by
        apply ba_ext
        rw [extract_list', hz, show (⟨#[40]⟩ ++ s ++ ⟨#[41]⟩ : ByteArray).data.toList = [40] ++ (s.data.toList ++ [41]) by simp, List.drop_left' (by simp), show s.size + 2 - 1 - 1 = s.data.toList.length by simp]
        simp
      have hb0 : byteAt (⟨#[40]⟩ ++ s ++ ⟨#[41]⟩) 0 = 40 := by rw [ByteArray.append_assoc]; exact byte_app 40 [] _
      rw [hl, saidLine (by omega)]
      unfold saidR
      rw [hb0, if_pos rfl, if_pos ⟨hsf, by omega⟩, hex, hadd]
    · subst hk
      have hl : lineS ⟨4, s⟩ = escS s ⟨⟨[40, 92]⟩⟩ := rfl
      rw [hl]
      rcases esc_cases (m := [40, 92]) h0 with ⟨e, hm⟩ | ⟨e, hm⟩
      · rw [e, saidLine (by rw [ByteArray.size_append]; omega)]
        unfold saidR
        rw [byte_app 92 [] s, if_neg (by decide), if_pos rfl, if_pos hm]
        rw [show (⟨#[92]⟩ ++ s : ByteArray).extract 1 (⟨#[92]⟩ ++ s : ByteArray).size = s from ext_app ⟨#[92]⟩ s, hadd]
      · rw [e, saidLine (by omega)]
        simp only [List.mem_cons, List.not_mem_nil, or_false, not_or] at hm
        unfold saidR
        rw [if_neg hm.1, if_neg hm.2, hadd]
theorem paras_runs (t : ByteArray) (d : List Scene) : ∀ (l : List Para) (y : Scene) (last : Int), parasE last l = 0 → ∃ wh, (wh = 3 ∨ wh = 4) ∧ Runs ⟨t, d ++ [y], whOf last⟩ (l.flatMap paraLn) ⟨t, d ++ [{ y with paras := y.paras ++ l }], wh⟩
  | [], y, last, _ => ⟨whOf last, by unfold whOf; split <;> omega, by rw [List.append_nil]; exact Runs.nil _⟩
  | p :: r, y, last, h => by
    rw [parasE] at h
    by_cases h1 : paraE p = 0
    · rw [if_neg (by rw [h1]; decide)] at h
      by_cases h2 : followsB p.kind last = false
      · rw [if_pos h2] at h; cases h
      · rw [if_neg h2] at h
        obtain ⟨wh, hw, hr⟩ := paras_runs t d r (addPara p y) p.kind h
        refine ⟨wh, hw, ?_⟩
        rw [List.flatMap_cons]
        have hr2 := (para_runs t d y p last h1 (by simpa using h2)).app hr
        rw [show ({ addPara p y with paras := (addPara p y).paras ++ r } : Scene) = { y with paras := y.paras ++ p :: r } by unfold addPara; simp] at hr2
        exact hr2
    · rw [if_pos h1] at h; exact absurd h h1
theorem scene_runs (t : ByteArray) (d : List Scene) (x : Scene) (wh : Int) (hx : okS x) (hw : wh = 1 ∨ wh = 2) : ∃ wh', (wh' = 3 ∨ wh' = 4) ∧ Runs ⟨t, d, wh⟩ ([⟨#[35, 32]⟩ ++ headS x] ++ x.paras.flatMap paraLn) ⟨t, d ++ [x], wh'⟩ := by
  obtain ⟨wh', hw', hr⟩ := paras_runs t d x.paras { x with paras := [] } 0 hx.2.2.2.2
  refine ⟨wh', hw', Runs.app (Runs.one ?_) hr⟩
  rw [beginsLine (by rw [ByteArray.size_append, show (⟨#[35, 32]⟩ : ByteArray).size = 2 from rfl]; omega) hw]
  unfold beginsR
  rw [byte_app 35 [32] (headS x), if_pos rfl, if_pos (pre_app ⟨#[35, 32]⟩ _), show (⟨#[35, 32]⟩ ++ headS x : ByteArray).extract 2 (⟨#[35, 32]⟩ ++ headS x : ByteArray).size = headS x from ext_app ⟨#[35, 32]⟩ _, head_back x hx]
  rfl
theorem scenes_runs (t : ByteArray) : ∀ (l d : List Scene) (wh : Int), (∀ x ∈ l, okS x) → (wh = 0 ∧ d = [] ∨ wh = 3 ∨ wh = 4) → ∃ wh', (wh' = 0 ∨ wh' = 3 ∨ wh' = 4) ∧ Runs ⟨t, d, wh⟩ (l.flatMap sceneLn) ⟨t, d ++ l, wh'⟩
  | [], d, wh, _, hw => ⟨wh, by omega, by rw [List.append_nil]; exact Runs.nil _⟩
  | x :: r, d, wh, h, hw => by
    have hempty : ∃ w2, (w2 = 1 ∨ w2 = 2) ∧ Runs ⟨t, d, wh⟩ [⟨#[]⟩] ⟨t, d, w2⟩ := by
      rcases hw with ⟨rfl, rfl⟩ | hw
      · exact ⟨1, .inl rfl, empty_first⟩
      · exact ⟨2, .inr rfl, empty_runs hw⟩
    obtain ⟨w2, hw2, h2⟩ := hempty
    obtain ⟨w3, hw3, h3⟩ := scene_runs t d x w2 (h x (by simp)) hw2
    obtain ⟨w4, hw4, h4⟩ := scenes_runs t r (d ++ [x]) w3 (fun y hy => h y (by simp [hy])) (.inr hw3)
    refine ⟨w4, hw4, ?_⟩
    rw [show List.flatMap sceneLn (x :: r) = [⟨#[]⟩] ++ ([⟨#[35, 32]⟩ ++ headS x] ++ x.paras.flatMap paraLn) ++ r.flatMap sceneLn by rw [List.flatMap_cons]; rfl, show d ++ x :: r = d ++ [x] ++ r by simp]
    exact (h2.app h3).app h4
theorem first_runs {x : Script} (h : OkX x) : ∃ wh, (wh = 0 ∨ wh = 3 ∨ wh = 4) ∧ firstR (scriptLn x) = .inl ⟨x.title, x.scenes, wh⟩ := by
  obtain ⟨wh, hw, hr⟩ := scenes_runs x.title x.scenes [] 0 h.sc (.inl ⟨rfl, rfl⟩)
  refine ⟨wh, hw, ?_⟩
  obtain ⟨j, hj⟩ := hr 1 []
  unfold firstR scriptLn
  dsimp only
  rw [if_pos (pre_app ⟨#[116, 105, 116, 108, 101, 58, 32]⟩ x.title), show (⟨#[116, 105, 116, 108, 101, 58, 32]⟩ ++ x.title : ByteArray).extract 7 (⟨#[116, 105, 116, 108, 101, 58, 32]⟩ ++ x.title : ByteArray).size = x.title from ext_app ⟨#[116, 105, 116, 108, 101, 58, 32]⟩ _]
  rw [List.append_nil] at hj
  rw [hj]
  rfl
/-- What is written is read back. -/
theorem read_back {x : Script} (h : chkE x = 0) (hs : ¬ 200000 < (textS x).size) : readS (textS x) = (x, 0, 0) := by
  have hok := chkE_ok h
  have hw : words (textS x) 10 = scriptLn x ++ [⟨#[]⟩] := by
    unfold textS
    rw [← join_script]
    exact words_join _ (script_ten hok)
  have hlen : (words (textS x) 10).length = (scriptLn x).length + 1 := by rw [hw]; simp
  obtain ⟨wh, hwh, hf⟩ := first_runs hok
  have h2 : firstR ((words (textS x) 10).take ((words (textS x) 10).length - 1)) = .inl ⟨x.title, x.scenes, wh⟩ := by
    rw [hlen, hw, Nat.add_sub_cancel, List.take_left' rfl]
    exact hf
  have h1 : 1 ≤ (scriptLn x).length := by unfold scriptLn; simp
  rw [readS_right hs h2]
  dsimp only
  have hlast : ((words (textS x) 10).getLast?.getD ⟨#[]⟩).size = 0 := by rw [hw]; simp; rfl
  rw [if_neg (by rintro (e | e | e | e); omega; exact e hlast; omega; omega), if_neg (by rw [h]; simp), if_neg (by simp)]
end Go.Proofs.YtkhegeobdcemkaaGreatDoor

/- The reference's lines of a script, walked. -/
namespace Go.Proofs.YtkhegeobdcemkaaGreatDoor
set_option linter.unusedVariables false
open Go.RowKit Go.Sort

def lnPre (t : ByteArray) (ls : List (Scene × Value)) (k : Nat) : List ByteArray := (⟨#[116, 105, 116, 108, 101, 58, 32]⟩ ++ t) :: (ls.take k).flatMap fun y => sceneLn y.1
theorem fm_next {α β : Type} (f : α → List β) (l : List α) (k : Nat) (hk : k < l.length) : (l.take (k + 1)).flatMap f = (l.take k).flatMap f ++ f l[k] := by
  rw [List.take_succ_eq_append_getElem hk, List.flatMap_append]
  simp
theorem paraLn_len (p : Para) : (paraLn p).length ≤ 2 := by unfold paraLn; split <;> simp
theorem paraLn_eq (p : Para) : paraLn p = (if nlB p = true then [⟨#[]⟩] else []) ++ [lineS p] := by
  unfold paraLn nlB
  by_cases h : p.kind = 1 ∨ p.kind = 5 ∨ p.kind = 2
  · rw [if_pos h, if_pos (decide_eq_true h)]
  · rw [if_neg h, if_neg (by simpa using h)]
theorem fm_len {α β : Type} (f : α → List β) (l : List α) (c : Nat) (h : ∀ x ∈ l, (f x).length ≤ c) : (l.flatMap f).length ≤ c * l.length := by
  induction l with
  | nil => simp
  | cons a r ih =>
    rw [List.flatMap_cons, List.length_append, List.length_cons, Nat.mul_add]
    have h1 := h a (by simp)
    have h2 := ih fun x hx => h x (by simp [hx])
    omega
theorem lnPre_len (t : ByteArray) (ls : List (Scene × Value)) (k M : Nat) (hp : ∀ y ∈ ls, y.1.paras.length ≤ M) : (lnPre t ls k).length ≤ 1 + (2 + 2 * M) * ls.length := by
  unfold lnPre
  rw [List.length_cons]
  have h := fm_len (fun y : Scene × Value => sceneLn y.1) (ls.take k) (2 + 2 * M) (fun y hy => by
    have h1 := fm_len paraLn y.1.paras 2 (fun p _ => paraLn_len p)
    have h2 := hp y (List.mem_of_mem_take hy)
    unfold sceneLn
    simp only [List.length_append, List.length_cons, List.length_nil]
    have : 2 * y.1.paras.length ≤ 2 * M := Nat.mul_le_mul_left _ h2
    omega)
  have h3 : (2 + 2 * M) * (ls.take k).length ≤ (2 + 2 * M) * ls.length := Nat.mul_le_mul_left _ (by rw [List.length_take]; omega)
  omega
/-- The list of texts so far, and the blocks beside it. -/
abbrev LnG (w : World) (l : List ByteArray) (v : Value) (P : List (Nat × Array Value × TypeId)) (wx : World) : Prop := BO strR 9 w l v P wx
def ScLnP (x : Script) (w : World) (e : Ending) (w' : World) : Prop := ∃ v', e = .returned v' ∧ Own strR w' w.heap.size w.heap.size 9 (scriptLn x) v' ∧ Below w.heap.size w w'
set_option maxRecDepth 100000 in
set_option maxHeartbeats 8000000 in
theorem ScriptLines_c {F : Nat → Prop} (t : ByteArray) (ls : List (Scene × Value)) (v : Value) (w : World) (h : ScL w F t ls v) (hok : OkX ⟨t, ls.map (·.1)⟩) :
    Calls Tryz.prog 79 #[.agg #[.string t, v]] w (ScLnP ⟨t, ls.map (·.1)⟩ w) := by
  obtain ⟨A, c, rfl, hlc, hcm⟩ := h.sli.form
  have HWL := Lib.hid (wrL_of hok)
  have HK := Lib.hid (fun y (hy : y ∈ ls) p (hp : p ∈ y.1.paras) => paraE_sz (parasE_ok _ _ (hok.sc y.1 (List.mem_map.2 ⟨y, hy, rfl⟩)).2.2.2.2 p hp))
  have hn300 : ls.length ≤ 300 := by have := hok.sn; simpa using this
  have HPN := Lib.hid (show ∀ y ∈ ls, y.1.paras.length ≤ 4000 from fun y hy => Nat.le_trans (par_le (List.mem_map.2 ⟨y, hy, rfl⟩)) hok.pn)
  have htl : t.size ≤ 60 := hok.t2
  obtain ⟨L, hL⟩ : ∃ L, ls.length = L := ⟨_, rfl⟩
  have HL := Lib.hid hL
  have HLEN := Lib.hid (show ∀ k, (lnPre t ls k).length ≤ 2400601 from fun k => by
    have := lnPre_len t ls k 4000 HPN.out
    have h2 : (2 + 2 * 4000) * ls.length ≤ (2 + 2 * 4000) * 300 := Nat.mul_le_mul_left _ hn300
    omega)
  obtain ⟨i0, hi0, hz0, hz1, hz2⟩ := info_parts (show (Tryz.prog.info? 9).map (fun i => (i.zero, i.size, i.bytes)) = some (some (.string ⟨#[]⟩), 1, 16) by kernel_rfl)
  rw [hL] at h hlc hn300 ⊢
  have HH := Lib.hid h
  have HF := Lib.hid h.lt
  clear hok h hL
  have z7 : (⟨#[116, 105, 116, 108, 101, 58, 32]⟩ : ByteArray).size = 7 := rfl
  go_enter Tryz.func79, Tryz.ntmps79
  go_upto_region 2 with (fail)
  have hG := ((BO.start (R := strR) (e := 9) w).new (xCs t (.slice A L c)) 28)
  generalize hW : w.alloc (.cells #[.string t, .slice A L c] 28) = wS
  rw [show w.alloc (.cells (xCs t (.slice A L c)) 28) = wS from hW] at hG
  have hlit := Own.lit1 wS 9 (⟨#[116, 105, 116, 108, 101, 58, 32]⟩ ++ t)
  have hG1 := hG.take ((Below.refl _ wS).alloc (Nat.le_refl _) _) hlit (Own.less (enc := fun s : ByteArray => [.string s]) (hn := fun _ => rfl) hlit hG.size)
  have hs0 : wS.heap.size = w.heap.size + 1 := by rw [← hW]; simp
  rw [hs0] at hG1
  clear hW hG hlit
  generalize hW2 : wS.alloc (.cells #[.string (⟨#[116, 105, 116, 108, 101, 58, 32]⟩ ++ t)] 9) = w1 at *
  obtain ⟨gx, _⟩ := hG1.cell (p := (w.heap.size, xCs t (.slice A L c), 28)) (by simp)
  have d1 : w1.cell? ⟨w.heap.size, 1, none⟩ = some (.slice A L c) := gx 1
  have G1 := Lib.hid (show LnG w (lnPre t ls 0) (.slice (some ⟨w.heap.size + 1, 0, none⟩) 1 1) [] w1 from hG1.less (by simp))
  clear hG1 gx hW2
  go_wp2
  go_loopw [3, 17] (fun v i wr => ∃ k : Nat, k ≤ L ∧ i = .int .i64 k ∧ Hid (LnG w (lnPre t ls k) v [] wr)) (fun _ i _ => L - (intOf i).toNat)
  case atStart => exact ⟨0, Nat.zero_le _, rfl, G1⟩
  case round =>
    clear G1 d1 hs0
    obtain ⟨k, hk, rfl, HG⟩ := hrel
    by_cases hlt : k < L
    · have hk2 : k < ls.length := by rw [HL.out]; exact hlt
      obtain ⟨b, off, rfl, hfb, c0, c1, c2, c3, c4⟩ := scAt (HH.out.below HG.out.bel).sli k hk2
      have hmem := List.getElem_mem hk2
      obtain ⟨A4, cc4, h4, _, _⟩ := (HH.out.par _ hmem).form
      have hpa := HH.out.par _ hmem
      obtain ⟨hq1, hq2, hq3, hq4⟩ := HH.out.bd _ hmem
      obtain ⟨hpt, htt⟩ := HWL.out.pt _ hmem
      have hkk := HK.out _ hmem
      have hpn := HPN.out _ hmem
      have HNX := Lib.hid (show lnPre t ls (k + 1) = lnPre t ls k ++ sceneLn (ls[k]'hk2).1 by
        unfold lnPre
        rw [fm_next (fun y : Scene × Value => sceneLn y.1) ls k hk2, List.cons_append])
      have hle := HLEN.out (k + 1)
      rw [HNX.out, List.length_append] at hle
      rw [h4] at c4 hpa
      have hbw : b < wr.heap.size := Nat.lt_of_lt_of_le (HH.out.lt b hfb) HG.out.size
      clear h4 hmem
      generalize (ls[k]'hk2).1 = x at *
      obtain ⟨m, hm⟩ : ∃ m, (lnPre t ls k).length = m := ⟨_, rfl⟩
      have HM := Lib.hid hm
      rw [hm] at hle
      have HLE := Lib.hid hle
      have hm9 : m ≤ 1000000000 := by omega
      generalize lnPre t ls k = pre at *
      have HPA := Lib.hid hpa
      have HKK := Lib.hid hkk
      have HQ4 := Lib.hid hq4
      have HB1 := Lib.hid (HG.out.new #[.string x.no, .int .i64 x.place, .string x.set, .int .i64 x.time, .slice A4 x.paras.length cc4] 71)
      clear hk2 hle hpa hkk hq4 hm HG
      go_upto_region 5 with (fail)
      generalize hW : wr.alloc (.cells #[.string x.no, .int .i64 x.place, .string x.set, .int .i64 x.time, .slice A4 x.paras.length cc4] 71) = w5 at *
      obtain ⟨gx, _⟩ := HB1.out.cell (p := (wr.heap.size, #[.string x.no, .int .i64 x.place, .string x.set, .int .i64 x.time, .slice A4 x.paras.length cc4], 71)) (by simp)
      have s0 : w5.cell? ⟨wr.heap.size, 0, none⟩ = some (.string x.no) := gx 0
      have s1 : w5.cell? ⟨wr.heap.size, 1, none⟩ = some (.int .i64 x.place) := gx 1
      have s2 : w5.cell? ⟨wr.heap.size, 2, none⟩ = some (.string x.set) := gx 2
      have s3 : w5.cell? ⟨wr.heap.size, 3, none⟩ = some (.int .i64 x.time) := gx 3
      have s4 : w5.cell? ⟨wr.heap.size, 4, none⟩ = some (.slice A4 x.paras.length cc4) := gx 4
      have HHD := Lib.hid (HeadingOf_c x A4 x.paras.length cc4 w5 hq1 hq2 hpt htt)
      have hhs := headS_sz x
      have HSL := Lib.hid (show sceneLn x = [⟨#[]⟩, ⟨#[35, 32]⟩ ++ headS x] ++ x.paras.flatMap paraLn from rfl)
      clear gx c0 c1 c2 c3 c4 hW
      go_wp2_with fail
      refine HHD.out.mono ?_
      rintro e w6 ⟨rfl, hb6⟩
      have HB6 := Lib.hid (HB1.out.below hb6)
      obtain ⟨hd, hhd⟩ : ∃ hd, headS x = hd := ⟨_, rfl⟩
      have HHE := Lib.hid hhd
      rw [hhd] at hhs HSL ⊢
      have z3 : (⟨#[35, 32]⟩ : ByteArray).size = 2 := rfl
      have hz6 := HB6.out.size
      clear hb6 HB1 HHD s0 s1 s2 s3 s4 hhd
      go_upto_region 6 with (at_builtin; (refine wpList_pushS2 rfl _ _ _ rfl w.heap.size w.heap.size 9 i0 _ Tryz.underlying61 hi0 hz0 (by assumption) (by assumption) rfl _ u3 pre m HM.out rfl (HB6.out.own.alloc _) ⟨#[]⟩ (⟨#[35, 32]⟩ ++ hd) w6.heap.size _ _ (heap_alloc_new w6 _) rfl hm9 (by simp; omega) ?_); intro g7 cap7 w7 hown7 hg7 hat7 hlt7)
      have HB7 := Lib.hid ((HB6.out.alloc (.cells #[.string ⟨#[]⟩, .string (⟨#[35, 32]⟩ ++ hd)] 9)).more hown7 hg7 rfl hat7)
      have c4' : w7.cell? ⟨wr.heap.size, 4, none⟩ = some (.slice A4 x.paras.length cc4) := (HB7.out.cell (p := (wr.heap.size, #[.string x.no, .int .i64 x.place, .string x.set, .int .i64 x.time, .slice A4 x.paras.length cc4], 71)) (by simp)).1 4
      have HB8 := Lib.hid (HB7.out.less (Q := []) (by simp))
      obtain ⟨M, hM⟩ : ∃ M, x.paras.length = M := ⟨_, rfl⟩
      have HMM := Lib.hid hM
      rw [hM] at c4' HPA hpn
      have HSN := Lib.hid (show (sceneLn x).length = 2 + (x.paras.flatMap paraLn).length by rw [HSL.out]; simp; omega)
      have HPR := Lib.hid (show pre ++ [⟨#[]⟩, ⟨#[35, 32]⟩ ++ hd] ++ x.paras.flatMap paraLn = lnPre t ls (k + 1) by rw [HNX.out, HSL.out, List.append_assoc])
      have HPL := Lib.hid (show (pre ++ [⟨#[]⟩, ⟨#[35, 32]⟩ ++ hd]).length = m + 2 by rw [List.length_append, HM.out]; rfl)
      clear hown7 hg7 hat7 HB6 HB7 hM hz6 z3 hhs
      generalize pre ++ [⟨#[]⟩, ⟨#[35, 32]⟩ ++ hd] = pr2 at *
      go_wp2
      go_loopw [3, 30] (fun v i wr => ∃ j : Nat, j ≤ M ∧ i = .int .i64 j ∧ Hid (LnG w (pr2 ++ (x.paras.take j).flatMap paraLn) v [] wr)) (fun _ i _ => M - (intOf i).toNat)
      case atStart => exact ⟨0, Nat.zero_le _, rfl, by rw [List.take_zero, List.flatMap_nil, List.append_nil]; exact HB8⟩
      case round =>
        clear HB8 c4'
        obtain ⟨j, hj, rfl, HG⟩ := hrel
        by_cases hlj : j < M
        · have hj2 : j < x.paras.length := by rw [HMM.out]; exact hlj
          obtain ⟨b', off', rfl, hfb', p0, p1⟩ := para_at (HPA.out.below HG.out.bel HF.out) j hj2
          have htx := HQ4.out _ (List.getElem_mem hj2)
          obtain ⟨htp, _, _, hk1, hk5⟩ := HKK.out _ (List.getElem_mem hj2)
          have hbw' : b' < wr.heap.size := by have := HF.out b' hfb'; have := HG.out.size; omega
          have HPX := Lib.hid (fm_next paraLn x.paras j hj2)
          have hpl := HLE.out
          rw [HSN.out] at hpl
          have hfl := fm_len paraLn (x.paras.take j) 2 (fun p _ => paraLn_len p)
          have hft : (x.paras.take j).length ≤ M := by rw [List.length_take, HMM.out]; omega
          have HLP := Lib.hid (paraLn_eq (x.paras[j]'hj2))
          obtain ⟨m2, hm2⟩ : ∃ m2, (pr2 ++ (x.paras.take j).flatMap paraLn).length = m2 := ⟨_, rfl⟩
          have hm29 : m2 ≤ 100000000 := by rw [← hm2, List.length_append, HPL.out]; omega
          have HM2 := Lib.hid hm2
          generalize x.paras[j]'hj2 = p at *
          have HAS := Lib.hid (show pr2 ++ ((x.paras.take j).flatMap paraLn ++ paraLn p) = pr2 ++ (x.paras.take j).flatMap paraLn ++ paraLn p from (List.append_assoc ..).symm)
          generalize pr2 ++ (x.paras.take j).flatMap paraLn = cur at *
          clear hj2 hpl hfl hft hm2
          have HB1 := Lib.hid (HG.out.new #[.int .i64 p.kind, .string p.text] 78)
          clear HG
          go_upto_region 9 with (fail)
          generalize hW : wr.alloc (.cells #[.int .i64 p.kind, .string p.text] 78) = w9 at *
          obtain ⟨gx, _⟩ := HB1.out.cell (p := (wr.heap.size, #[.int .i64 p.kind, .string p.text], 78)) (by simp)
          have d0 : w9.cell? ⟨wr.heap.size, 0, none⟩ = some (.int .i64 p.kind) := gx 0
          have d1 : w9.cell? ⟨wr.heap.size, 1, none⟩ = some (.string p.text) := gx 1
          have HPC := Lib.hid (paraLineR_c p w9 htp htx ⟨hk1, hk5⟩)
          clear gx hW p0 p1
          go_wp2_with fail
          refine HPC.out.mono ?_
          rintro e w10 ⟨rfl, hb10⟩
          have HB10 := Lib.hid ((HB1.out.below hb10).less (Q := []) (by simp))
          clear hb10 HB1 HPC d0 d1
          have hz10 := HB10.out.size
          generalize lineS p = ln at *
          obtain ⟨nb, hnb⟩ : ∃ nb, nlB p = nb := ⟨_, rfl⟩
          rw [hnb] at HLP ⊢
          clear hnb
          cases nb with
          | false =>
            have HNX2 := Lib.hid (show cur ++ [ln] = pr2 ++ (x.paras.take (j + 1)).flatMap paraLn by rw [HPX.out, HAS.out, HLP.out]; simp)
            go_wp2_with (at_builtin; (refine wpList_pushS1 rfl _ _ _ rfl w.heap.size w.heap.size 9 i0 _ Tryz.underlying61 hi0 hz0 (by assumption) (by assumption) rfl _ u3 cur m2 HM2.out rfl (HB10.out.own.alloc _) ln w10.heap.size _ _ (heap_alloc_new w10 _) rfl (by omega) (by simp; omega) ?_); intro g11 cap11 w11 hown11 hg11 hat11 hlt11)
            go_roundw
            case rel => exact ⟨j + 1, by omega, intNum, by rw [← HNX2.out]; exact Lib.hid ((HB10.out.alloc (.cells #[.string ln] 9)).more hown11 hg11 rfl hat11)⟩
            case measure => simp [intOf]; omega
          | true =>
            have HNX2 := Lib.hid (show cur ++ [⟨#[]⟩] ++ [ln] = pr2 ++ (x.paras.take (j + 1)).flatMap paraLn by rw [HPX.out, HAS.out, HLP.out]; simp)
            have HM3 := Lib.hid (show (cur ++ [(⟨#[]⟩ : ByteArray)]).length = m2 + 1 by rw [List.length_append, HM2.out]; rfl)
            go_upto_region 12 with (at_builtin; (refine wpList_pushS1 rfl _ _ _ rfl w.heap.size w.heap.size 9 i0 _ Tryz.underlying61 hi0 hz0 (by assumption) (by assumption) rfl _ u3 cur m2 HM2.out rfl (HB10.out.own.alloc _) ⟨#[]⟩ w10.heap.size _ _ (heap_alloc_new w10 _) rfl (by omega) (by simp; omega) ?_); intro g11 cap11 w11 hown11 hg11 hat11 hlt11)
            have HB11 := Lib.hid ((HB10.out.alloc (.cells #[.string ⟨#[]⟩] 9)).more hown11 hg11 rfl hat11)
            have hz11 := HB11.out.size
            clear hown11 hg11 hat11 HB10
            go_wp2_with (at_builtin; (refine wpList_pushS1 rfl _ _ _ rfl w.heap.size w.heap.size 9 i0 _ Tryz.underlying61 hi0 hz0 (by assumption) (by assumption) rfl _ (.slice (some ⟨g11, 0, none⟩) (m2 + 1) cap11) (cur ++ [⟨#[]⟩]) (m2 + 1) HM3.out rfl (HB11.out.own.alloc _) ln w11.heap.size _ _ (heap_alloc_new w11 _) rfl (by omega) (by simp; omega) ?_); intro g12 cap12 w12 hown12 hg12 hat12 hlt12)
            go_roundw
            case rel => exact ⟨j + 1, by omega, intNum, by rw [← HNX2.out]; exact Lib.hid ((HB11.out.alloc (.cells #[.string ln] 9)).more hown12 hg12 rfl hat12)⟩
            case measure => simp [intOf]; omega
        · have hjM : j = M := by omega
          have HE := Lib.hid (show LnG w (lnPre t ls (k + 1)) u3 [] wr by
            have h := HG.out
            rw [List.take_of_length_le (by rw [HMM.out]; omega), HPR.out] at h
            exact h)
          clear HG
          go_wp2
          go_roundw
          case rel => exact ⟨k + 1, by omega, intNum, HE⟩
          case measure => simp [intOf]; omega
    · have HE := Lib.hid (show LnG w (scriptLn ⟨t, ls.map (·.1)⟩) u3 [] wr by
        have h := HG.out
        have e : lnPre t ls k = scriptLn ⟨t, ls.map (·.1)⟩ := by
          unfold lnPre scriptLn
          rw [List.take_of_length_le (by rw [HL.out]; omega), List.flatMap_map]
        rw [e] at h
        exact h)
      clear HG
      go_wp2
      go_ret
      exact ⟨_, rfl, HE.out.own, HE.out.bel⟩
end Go.Proofs.YtkhegeobdcemkaaGreatDoor

/- The small script that the laws read and write. -/
namespace Go.Proofs.YtkhegeobdcemkaaGreatDoor
set_option linter.unusedVariables false
open Go.RowKit Go.Sort

def smallT : ByteArray := ⟨#[116, 105, 116, 108, 101, 58, 32, 84, 10, 10, 35, 32, 73, 78, 84, 46, 32, 72, 65, 76, 76, 32, 45, 32, 68, 65, 89, 10, 10, 82, 97, 105, 110, 46, 10]⟩
def smallX : Script := ⟨⟨#[84]⟩, [⟨⟨#[]⟩, 1, ⟨#[72, 65, 76, 76]⟩, 1, [⟨1, ⟨#[82, 97, 105, 110, 46]⟩⟩]⟩]⟩
theorem small_chk : chkE smallX = 0 := by decide +kernel
theorem small_text : (textT smallX).toArray = smallT.data := by decide +kernel
theorem small_words : words smallT 10 = [⟨#[116, 105, 116, 108, 101, 58, 32, 84]⟩, ⟨#[]⟩, ⟨#[35, 32, 73, 78, 84, 46, 32, 72, 65, 76, 76, 32, 45, 32, 68, 65, 89]⟩, ⟨#[]⟩, ⟨#[82, 97, 105, 110, 46]⟩, ⟨#[]⟩] := by decide +kernel
theorem single_fst {l : List (Scene × Value)} {x : Scene} (h : l.map (·.1) = [x]) : ∃ y : Scene × Value, l = [y] ∧ y.1 = x := by
  cases l with
  | nil => cases h
  | cons a r =>
    cases r with
    | nil =>
      injection h with h1 _
      exact ⟨a, rfl, h1⟩
    | cons b r => injection h with _ h2; cases h2
theorem small_read : readS smallT = (smallX, 0, 0) := by kernel_rfl
theorem small_tx : txV smallX = (smallT, 0) := by kernel_rfl
set_option maxRecDepth 100000 in
set_option maxHeartbeats 4000000 in
theorem scripts_c (w : World) (hm : MaxLaid w) : Calls Tryz.prog 12 #[] w fun e w' => e = .returned (.bool true) ∧ Below w.heap.size w w' := by
  have HRD := Lib.hid (Read_c smallT w (by decide +kernel) hm)
  have HM := Lib.hid hm
  clear hm
  have HST := Lib.hid (show (smallT.toList == smallT.toList) = true from beq_self_eq_true _)
  have HTE := Lib.hid (show smallT = ⟨#[116, 105, 116, 108, 101, 58, 32, 84, 10, 10, 35, 32, 73, 78, 84, 46, 32, 72, 65, 76, 76, 32, 45, 32, 68, 65, 89, 10, 10, 82, 97, 105, 110, 46, 10]⟩ from rfl)
  rw [HTE.out] at HRD
  go_enter Tryz.func12, Tryz.ntmps12
  go_wp2_with fail
  refine HRD.out.mono ?_
  rintro e w1 ⟨l, v, rfl, hl, hs, hp, hb⟩
  rw [← HTE.out, small_read] at hl ⊢
  obtain ⟨y, rfl, hy⟩ : ∃ y : Scene × Value, l = [y] ∧ y.1 = ⟨⟨#[]⟩, 1, ⟨#[72, 65, 76, 76]⟩, 1, [⟨1, ⟨#[82, 97, 105, 110, 46]⟩⟩]⟩ := single_fst hl
  have hsc : ScL w1 (fun q => w.heap.size ≤ q ∧ q < w1.heap.size) ⟨#[84]⟩ [y] v := ⟨hs, hp, fun q hq => hq.2, by decide, by simp, fun z hz => by
    rw [List.mem_singleton] at hz
    subst hz
    rw [hy]
    exact ⟨by decide, by decide, by decide, fun p hp => by
      rw [List.mem_singleton] at hp
      subst hp
      show (⟨#[82, 97, 105, 110, 46]⟩ : ByteArray).size ≤ 1000000
      decide⟩⟩
  obtain ⟨A, c, hv, _, _⟩ := hs.form
  subst hv
  obtain ⟨b, off, hA, hfb, c0, c1, c2, c3, c4⟩ := scAt hs 0 (by simp)
  subst hA
  obtain ⟨A4, cc4, h4, _, _⟩ := (hp y (by simp)).form
  rw [show ([y] : List (Scene × Value))[0] = y from rfl, h4, show y.1.paras.length = 1 by rw [hy]; rfl] at c4
  have HB1 := Lib.hid (hb.alloc hb.size (.cells #[.string ⟨#[84]⟩, .slice (some ⟨b, off, none⟩) 1 c] 28))
  have hbe := (Below.refl w1.heap.size w1).alloc (Nat.le_refl _) (.cells #[.string ⟨#[84]⟩, .slice (some ⟨b, off, none⟩) 1 c] 28)
  have HTX := Lib.hid (Text_c ⟨#[84]⟩ [y] (.slice (some ⟨b, off, none⟩) 1 c) (w1.alloc (.cells #[.string ⟨#[84]⟩, .slice (some ⟨b, off, none⟩) 1 c] 28)) (hsc.below hbe) (max_below HM.out HB1.out (Nat.le_refl _)))
  have HV := Lib.hid (show txV ⟨⟨#[84]⟩, [y].map (·.1)⟩ = (smallT, 0) by rw [show ([y].map (·.1) : List Scene) = smallX.scenes from by show [y.1] = _; rw [hy]; rfl]; exact small_tx)
  have hbb : b < w1.heap.size := hfb.2
  have HY := Lib.hid (fun (X : World) (hx : Below (w1.alloc (.cells #[.string ⟨#[84]⟩, .slice (some ⟨b, off, none⟩) 1 c] 28)).heap.size (w1.alloc (.cells #[.string ⟨#[84]⟩, .slice (some ⟨b, off, none⟩) 1 c] 28)) X) => show X.cell? ⟨w1.heap.size, 1, none⟩ = some (.slice (some ⟨b, off, none⟩) 1 c) ∧ X.cell? ⟨b, off + 4, none⟩ = some (.slice A4 1 cc4) by
    obtain ⟨yy, _⟩ := str_cells ((hx.block w1.heap.size (by simp)).trans (heap_alloc_new w1 _))
    refine ⟨yy 1, ?_⟩
    rw [hx.cell (p := ⟨b, off + 4, none⟩) (by simp; omega), World.cell?_alloc_lt w1 _ ⟨b, off + 4, none⟩ hbb]
    simpa using c4)
  clear hl hy hsc hs hp c0 c1 c2 c3 c4 h4 hb hbe
  go_wp2_with fail
  refine HTX.out.mono ?_
  rintro e w3 ⟨rfl, hb3⟩
  rw [HV.out]
  obtain ⟨z1, z4⟩ := HY.out w3 hb3
  have HB3 := Lib.hid (HB1.out.trans (hb3.mono HB1.out.size))
  have hs1 := HST.out
  rw [HTE.out] at hs1 ⊢
  clear hb3
  go_wp2
  go_ret
  exact ⟨rfl, HB3.out⟩
end Go.Proofs.YtkhegeobdcemkaaGreatDoor

/- R.WordsOf, walked. -/
namespace Go.Proofs.YtkhegeobdcemkaaGreatDoor
set_option linter.unusedVariables false
open Go.RowKit

theorem q39 (c : UInt8) : (c == 39) = decide (c.toNat = 39) := by
  have hh : ∀ c : UInt8, decide ((c == 39) = decide (c.toNat = 39)) = true := u8_eq (q := fun _ => true) (by decide +kernel)
  simpa using hh c
set_option maxHeartbeats 1600000 in
theorem inWord_c (c : UInt8) (w : World) : Calls Tryz.prog 110 #[.int .u8 c.toNat] w fun e w' => e = .returned (.bool (inWB c)) ∧ w = w' := by
  have hu : c.toNat < 256 := c.toNat_lt
  have HV := Lib.hid (show inWB c = ((((decide (65 ≤ c.toNat) && decide (c.toNat ≤ 90)) || (decide (97 ≤ c.toNat) && decide (c.toNat ≤ 122))) || (decide (48 ≤ c.toNat) && decide (c.toNat ≤ 57))) || decide (c.toNat = 39)) by unfold inWB; rw [q39]; rfl)
  rcases (show (97 ≤ c.toNat ∧ c.toNat ≤ 122) ∨ (65 ≤ c.toNat ∧ c.toNat ≤ 90) ∨ (48 ≤ c.toNat ∧ c.toNat ≤ 57) ∨ c.toNat < 48 ∨ (57 < c.toNat ∧ c.toNat < 65) ∨ (90 < c.toNat ∧ c.toNat < 97) ∨ 122 < c.toNat by omega) with ⟨h1, h2⟩ | ⟨h1, h2⟩ | ⟨h1, h2⟩ | h1 | ⟨h1, h2⟩ | ⟨h1, h2⟩ | h1
  all_goals
    generalize inWB c = b at *
    generalize c.toNat = n at *
    go_enter Tryz.func110, Tryz.ntmps110
    go_wp2
    go_ret
    exact ⟨ret_bool (by rw [HV.out, Bool.eq_iff_iff]; simp; omega), rfl⟩
theorem enc_one {c : UInt8} (h : c.toNat < 128) : Utf8.encode (c.toNat : Int) = ⟨#[c]⟩ := by
  have hh : ∀ c : UInt8, (!decide (c.toNat < 128) || decide (Utf8.encode (c.toNat : Int) = ⟨#[c]⟩)) = true := u8_eq (q := fun _ => true) (by decide +kernel)
  have := hh c
  rw [decide_eq_true h] at this
  simpa using this
theorem inWB_ascii {c : UInt8} (h : inWB c = true) : (loC c).toNat < 128 := by
  have hh : ∀ c : UInt8, (!inWB c || decide ((loC c).toNat < 128)) = true := u8_eq (q := fun _ => true) (by decide +kernel)
  have := hh c
  rw [h] at this
  simpa using this
theorem trim_ok (cur : List UInt8) : (⟨(Lib.trimS cur [39]).toArray⟩ : ByteArray).toList.isEmpty = !wdOk cur := by
  rw [toList_mk, Bool.eq_iff_iff, List.isEmpty_iff, trimS_nil]
  unfold wdOk
  rw [Bool.not_eq_true', ← Bool.not_eq_true, List.any_eq_true, List.all_eq_true]
  constructor
  · rintro h ⟨x, hx, h2⟩
    have := h x hx
    simp at this h2
    exact h2 this
  · intro h x hx
    by_cases e : x = 39
    · subst e; rfl
    · exact absurd ⟨x, hx, by simpa using e⟩ h
theorem snoc_str (cur : List UInt8) (c : UInt8) : (⟨cur.toArray⟩ : ByteArray) ++ ⟨#[c]⟩ = ⟨(cur ++ [c]).toArray⟩ := by
  apply ByteArray.ext
  simp [ByteArray.data_append]
structure WdO (s : ByteArray) (w : World) (k : Nat) (out : List ByteArray) (cur : List UInt8) (v : Value) (wr : World) : Prop where
  bo : LnG w out v [] wr
  at_ : k ≤ s.size → WdI s k out cur
  end_ : k = s.size + 1 → out = wordsT s
theorem WdO.flush {s : ByteArray} {w w' : World} {k : Nat} {out : List ByteArray} {cur : List UInt8} {v v' : Value} {wr : World} (h : WdO s w k out cur v wr) (hk : k ≤ s.size) (hc : ∀ h : k < s.size, inWB s[k] = false) (hb : LnG w (out ++ flW cur) v' [] w') : WdO s w (k + 1) (out ++ flW cur) [] v' w' :=
  ⟨hb, fun h2 => (h.at_ hk).out_ (by omega) (hc (by omega)), fun h2 => (h.at_ hk).end_ (by omega)⟩
theorem WdO.word {s : ByteArray} {w : World} {k : Nat} {out : List ByteArray} {cur : List UInt8} {v : Value} {wr : World} (h : WdO s w k out cur v wr) (hk : k < s.size) (hc : inWB s[k] = true) : WdO s w (k + 1) out (cur ++ [loC s[k]]) v wr :=
  ⟨h.bo, fun h2 => (h.at_ (by omega)).in_ hk hc, fun h2 => by omega⟩
set_option maxRecDepth 100000 in
set_option maxHeartbeats 800000 in
theorem WordsOf_c (s : ByteArray) (w : World) (hs : s.size ≤ 100000000) :
    Calls Tryz.prog 50 #[.string s] w fun e w' => ∃ v, e = .returned v ∧ Own strR w' w.heap.size w.heap.size 9 (wordsT s) v ∧ Below w.heap.size w w' := by
  obtain ⟨i0, hi0, hz0, hz1, hz2⟩ := info_parts (show (Tryz.prog.info? 9).map (fun i => (i.zero, i.size, i.bytes)) = some (some (.string ⟨#[]⟩), 1, 16) by kernel_rfl)
  have H0 := Lib.hid (show WdO s w 0 [] [] (.slice none 0 0) w from ⟨BO.start w, fun _ => WdI.start s, fun h => by omega⟩)
  have he : (⟨#[]⟩ : ByteArray) = ⟨([] : List UInt8).toArray⟩ := rfl
  go_enter Tryz.func50, Tryz.ntmps50
  go_upto_region 3 with (fail)
  go_wp2
  go_loopw [3, 4, 5] (fun v wd i wr => ∃ (k : Nat) (out : List ByteArray) (cur : List UInt8), k ≤ s.size + 1 ∧ i = .int .i64 k ∧ wd = .string ⟨cur.toArray⟩ ∧ cur.length ≤ k ∧ Hid (WdO s w k out cur v wr)) (fun _ _ i _ => s.size + 1 - (intOf i).toNat)
  case atStart => exact ⟨0, [], [], Nat.zero_le _, rfl, rfl, Nat.zero_le _, H0⟩
  case round =>
    clear H0 he
    obtain ⟨k, out, cur, hk, rfl, rfl, hm, HW⟩ := hrel
    by_cases hle : k ≤ s.size
    case neg =>
      have HE := Lib.hid (HW.out.end_ (by omega))
      have hle2 : (s.size : Int) < k := by omega
      clear hle
      go_wp2
      go_ret
      exact ⟨_, rfl, by rw [← HE.out]; exact HW.out.bo.own, HW.out.bo.bel⟩
    have hle2 : (k : Int) ≤ s.size := by omega
    have hbs := HW.out.bo.size
    obtain ⟨b, hb⟩ : ∃ b : Bool, b = if h : k < s.size then inWB s[k] else false := ⟨_, rfl⟩
    have HB := Lib.hid hb
    go_upto_region 6 with (fail)
    go_cut [22] (fun x wx => x = .bool b ∧ wx = wr)
    case first =>
      by_cases hks : k < s.size
      · have HI := Lib.hid (inWord_c s[k] wr)
        rw [dif_pos hks] at hb
        have HBB := Lib.hid hb
        clear hb
        go_wp2_with (first | (go_at_call 110; refine HI.out.mono ?_; rintro e w' ⟨rfl, rfl⟩) | fail)
        go_meet
        exact ⟨by rw [HBB.out], rfl⟩
      · rw [dif_neg hks] at hb
        subst hb
        go_wp2
        go_meet
        exact ⟨rfl, rfl⟩
    case rest =>
    obtain ⟨rfl, rfl⟩ := hcut
    clear hb
    cases b with
    | true =>
      have hks : k < s.size := by
        apply Classical.byContradiction
        intro hn
        have := HB.out
        rw [dif_neg hn] at this
        cases this
      have HIN := Lib.hid (show inWB s[k] = true by have := HB.out; rw [dif_pos hks] at this; exact this.symm)
      have hcu : s[k].toNat < 256 := s[k].toNat_lt
      have hasc := inWB_ascii HIN.out
      have HNW := Lib.hid (HW.out.word hks HIN.out)
      go_upto_region 8 with (fail)
      generalize s[k] = c at *
      have HCP := Lib.hid (show capB c = (decide (65 ≤ c.toNat) && decide (c.toNat ≤ 90)) from rfl)
      go_cut [31] (fun x wx => x = .bool (capB c) ∧ wx = wc)
      case first =>
        rcases (show c.toNat < 65 ∨ (65 ≤ c.toNat ∧ c.toNat ≤ 90) ∨ (65 ≤ c.toNat ∧ 90 < c.toNat) by omega) with h1 | ⟨h1, h2⟩ | ⟨h1, h2⟩
        all_goals
          go_wp2
          go_meet
          exact ⟨congrArg Value.bool (by rw [HCP.out, Bool.eq_iff_iff]; simp; omega), rfl⟩
      case rest =>
      obtain ⟨rfl, rfl⟩ := hcut
      go_upto_if 31 with (fail)
      go_cut [6] (fun x wx => x = .int .u8 ((loC c).toNat : Int) ∧ wx = wc)
      case first =>
        cases hcp : capB c with
        | true =>
          have hcb : c.toNat ≤ 90 := by simp [capB] at hcp; omega
          have HLC := Lib.hid (show (loC c).toNat = c.toNat + 32 by rw [loC_nat, if_pos hcp])
          have hwu : IntKind.u8.wrap ((c.toNat : Int) + 32) = (c.toNat : Int) + 32 := by rw [IntKind.wrap_u8]; omega
          clear hcp
          go_wp2
          go_meet
          exact ⟨by rw [HLC.out]; simp, rfl⟩
        | false =>
          have HLC := Lib.hid (show (loC c).toNat = c.toNat by rw [loC_nat, if_neg (by rw [hcp]; decide)])
          clear hcp
          go_wp2
          go_meet
          exact ⟨by rw [HLC.out], rfl⟩
      case rest =>
      obtain ⟨rfl, rfl⟩ := hcut
      have HEN := Lib.hid (enc_one hasc)
      generalize loC c = d at *
      have hcv : ∀ W, (convert 21 9 (.int .i32 (d.toNat : Int))).run Tryz.prog W = .ok (.string ⟨#[d]⟩) W := fun W => by
        rw [run_convert_int_string W _ _ _ _ (by kernel_rfl) Tryz.underlying9, HEN.out]
      have HSN := Lib.hid (snoc_str cur d)
      have hdu : d.toNat < 128 := hasc
      clear hasc hcu
      go_wp2
      go_roundw
      case rel => exact ⟨k + 1, out, cur ++ [d], by omega, intNum, by rw [HSN.out], by simp; omega, HNW⟩
      case measure => simp [intOf]; omega
    | false =>
      have HNI := Lib.hid (show ∀ h : k < s.size, inWB s[k] = false from fun h => by have := HB.out; rw [dif_pos h] at this; exact this.symm)
      have HTR := Lib.hid (trim_c ⟨cur.toArray⟩ ⟨#[39]⟩ wc (by rw [mk_size]; omega) (by decide) (by decide))
      have HTO := Lib.hid (trim_ok cur)
      have HT2 := Lib.hid (show (⟨(Lib.trimS (⟨cur.toArray⟩ : ByteArray).data.toList (⟨#[39]⟩ : ByteArray).data.toList).toArray⟩ : ByteArray) = ⟨(Lib.trimS cur [39]).toArray⟩ from rfl)
      rw [HT2.out] at HTR
      clear HT2
      generalize (⟨(Lib.trimS cur [39]).toArray⟩ : ByteArray) = X at *
      have HFY := Lib.hid (@flW_yes cur)
      have HFN := Lib.hid (@flW_no cur)
      cases hw : wdOk cur with
      | true =>
        have HFL := Lib.hid (HFY.out hw)
        have hxe : X.toList.isEmpty = false := by have := HTO.out; rw [hw] at this; exact this
        have hol := Lib.hid (HW.out.at_ hle).2.2
        obtain ⟨q, hq2⟩ : ∃ q, out.length = q := ⟨_, rfl⟩
        have HQ := Lib.hid hq2
        have hql : q ≤ 100000000 := by have := hol.out; omega
        clear hw hol hq2 HFY HFN HTO
        go_upto_region 12 with (first | (go_at_call 111; refine HTR.out.mono ?_; rintro e w2 ⟨rfl, hb2⟩) | fail)
        have HG2 := Lib.hid (HW.out.bo.below hb2)
        have hz2 := HG2.out.size
        clear hb2
        generalize hZ : (⟨cur.toArray⟩ : ByteArray) = Z at *
        have HZ := Lib.hid hZ
        clear hZ
        go_wp2_with (at_builtin; (refine wpList_pushS1 rfl _ _ _ rfl w.heap.size w.heap.size 9 i0 _ Tryz.underlying61 hi0 hz0 (by assumption) (by assumption) rfl _ u3 out q HQ.out rfl (HG2.out.own.alloc _) Z w2.heap.size _ _ (heap_alloc_new w2 _) rfl (by omega) (by simp; omega) ?_); intro g7 cap7 w7 hown7 hg7 hat7 hlt7)
        go_roundw
        case rel => exact ⟨k + 1, out ++ flW cur, [], by omega, intNum, rfl, by simp, HW.out.flush hle HNI.out (by rw [HFL.out]; exact (HG2.out.alloc (.cells #[.string Z] 9)).more hown7 hg7 rfl hat7)⟩
        case measure => simp [intOf]; omega
      | false =>
        have HFL := Lib.hid (HFN.out hw)
        have hxe : X.toList.isEmpty = true := by have := HTO.out; rw [hw] at this; exact this
        clear hw HFY HFN HTO
        go_wp2_with (first | (go_at_call 111; refine HTR.out.mono ?_; rintro e w2 ⟨rfl, hb2⟩) | fail)
        go_roundw
        case rel => exact ⟨k + 1, out ++ flW cur, [], by omega, intNum, rfl, by simp, HW.out.flush hle HNI.out (by rw [HFL.out, List.append_nil]; exact HW.out.bo.below hb2)⟩
        case measure => simp [intOf]; omega
end Go.Proofs.YtkhegeobdcemkaaGreatDoor

/- script.found, walked. -/
namespace Go.Proofs.YtkhegeobdcemkaaGreatDoor
set_option linter.unusedVariables false
open Go.RowKit Go.Sort

def fndI (ws sm : List ByteArray) : List Int := (fndL ws sm).map fun (i : Nat) => (i : Int)
def fndK (ws sm : List ByteArray) (k : Nat) : List Int := ((List.range k).filter (fun i => decide ((ws.drop i).take sm.length = sm))).map fun (i : Nat) => (i : Int)
theorem fndK_next (ws sm : List ByteArray) (k : Nat) : fndK ws sm (k + 1) = fndK ws sm k ++ (if (ws.drop k).take sm.length = sm then [(k : Int)] else []) := by
  unfold fndK
  rw [fnd_next, List.map_append]
  split <;> rfl
theorem fndK_len (ws sm : List ByteArray) (k : Nat) : (fndK ws sm k).length ≤ k := by
  unfold fndK
  rw [List.length_map]
  exact Nat.le_trans (List.length_filter_le _ _) (by simp)
set_option maxRecDepth 100000 in
set_option maxHeartbeats 800000 in
theorem found_c {F : Nat → Prop} (ws sm : List ByteArray) (v1 v2 : Value) (w : World) (h1 : Sli strR w F ws v1) (h2 : Sli strR w F sm v2) (hF : ∀ b, F b → b < w.heap.size) (hl1 : ws.length ≤ 200000000) (hl2 : sm.length ≤ 200000000) (h0 : 0 < sm.length) :
    Calls Tryz.prog 121 #[v1, v2] w fun e w' => ∃ v, e = .returned v ∧ Own intR w' w.heap.size w.heap.size 3 (fndI ws sm) v ∧ Below w.heap.size w w' := by
  obtain ⟨i0, hi0, hz0, hz1, hz2⟩ := info_parts (show (Tryz.prog.info? 3).map (fun i => (i.zero, i.size, i.bytes)) = some (some (.int .i64 0), 1, 8) by kernel_rfl)
  obtain ⟨A1, c1, rfl, hlc1, hc1⟩ := h1.form
  obtain ⟨A2, c2, rfl, hlc2, hc2⟩ := h2.form
  have H1 := Lib.hid h1
  have H2 := Lib.hid h2
  have HF := Lib.hid hF
  obtain ⟨n, hn⟩ : ∃ n, ws.length = n := ⟨_, rfl⟩
  obtain ⟨m, hm⟩ : ∃ m, sm.length = m := ⟨_, rfl⟩
  have HN := Lib.hid hn
  have HM := Lib.hid hm
  rw [hn] at H1 hlc1 hl1 ⊢
  rw [hm] at H2 hlc2 hl2 h0 ⊢
  have H0 := Lib.hid (BO.start (R := intR) (e := 3) w)
  clear h1 h2 hF hn hm
  go_enter Tryz.func121, Tryz.ntmps121
  go_wp2
  go_loopw [5, 6] (fun v i wr => ∃ k : Nat, k ≤ n + 1 ∧ (k = 0 ∨ k + m ≤ n + 1) ∧ i = .int .i64 k ∧ Hid (BO intR 3 w (fndK ws sm k) v [] wr)) (fun _ i _ => n + 1 - (intOf i).toNat)
  case atStart => exact ⟨0, Nat.zero_le _, .inl rfl, rfl, H0⟩
  case round =>
    clear H0
    obtain ⟨k, hk, hkm, rfl, HG⟩ := hrel
    have ew : IntKind.i64.wrap ((k : Int) + (m : Int)) = (k : Int) + (m : Int) := IntWalk.i64_in _ (by omega)
    by_cases hlt : k + m ≤ n
    · have hkw : k < ws.length := by rw [HN.out]; omega
      obtain ⟨b, off, rfl, hfb, _⟩ := strAt H1.out k hkw
      have hi : (k : Int) + (m : Int) ≤ n := by omega
      have hi1 : (k : Int) + (m : Int) ≤ c1 := by omega
      have hi2 : ((k : Int) + (m : Int)).toNat = k + m := by omega
      have hle : k ≤ k + m := by omega
      have hzz := HG.out.size
      have hsub := ((H1.out.below HG.out.bel HF.out).drop_ k (by omega) (n - k) (c1 - k) (by rw [HN.out]) rfl).take_ m (by rw [List.length_drop, HN.out]; omega)
      rw [show off + k * strR.n = off + k from congrArg (off + ·) (Nat.mul_one k)] at hsub
      have HE := Lib.hid (eqStr_c ((ws.drop k).take m) sm _ _ F wr hsub (H2.out.below HG.out.bel HF.out) (fun q hq => Nat.lt_of_lt_of_le (HF.out q hq) hzz))
      have HNX := Lib.hid (fndK_next ws sm k)
      rw [HM.out] at HNX
      obtain ⟨q, hq⟩ : ∃ q, (fndK ws sm k).length = q := ⟨_, rfl⟩
      have hql : q ≤ 200000001 := by have := fndK_len ws sm k; omega
      have HQ := Lib.hid hq
      clear hsub hq
      generalize fndK ws sm k = cur at *
      by_cases heq : (ws.drop k).take m = sm
      · rw [decide_eq_true heq] at HE
        have HN2 := Lib.hid (HNX.out.trans (by rw [if_pos heq]))
        clear heq HNX
        go_upto_region 6 with (first | (go_at_call 31; refine HE.out.mono ?_; rintro e w2 ⟨rfl, hb2⟩) | fail)
        have HG2 := Lib.hid (HG.out.below hb2)
        have hz2 := HG2.out.size
        clear hb2 HG
        go_wp2_with (at_builtin; (refine wpList_pushI rfl _ _ _ rfl w.heap.size w.heap.size 3 i0 _ 8 Tryz.underlying22 hi0 hz0 (by assumption) (by assumption) rfl _ u5 cur rfl (HG2.out.own.alloc _) [(k : Int)] (by simp) w2.heap.size _ _ (heap_alloc_new w2 _) rfl (by rw [HQ.out]; simp [maxLen]; omega) (by rw [HQ.out]; simp; omega) (by simp; omega) ?_); intro g7 cap7 w7 hown7 hg7 hat7 hlt7)
        go_roundw
        case rel => exact ⟨k + 1, by omega, .inr (by omega), intNum, by rw [HN2.out]; exact Lib.hid ((HG2.out.alloc (.cells #[.int .i64 (k : Int)] 3)).more hown7 hg7 rfl hat7)⟩
        case measure => simp [intOf]; omega
      · rw [decide_eq_false heq] at HE
        have HN2 := Lib.hid (HNX.out.trans (by rw [if_neg heq]))
        rw [List.append_nil] at HN2
        clear heq HNX
        go_wp2_with (first | (go_at_call 31; refine HE.out.mono ?_; rintro e w2 ⟨rfl, hb2⟩) | fail)
        go_roundw
        case rel => exact ⟨k + 1, by omega, .inr (by omega), intNum, by rw [HN2.out]; exact Lib.hid (HG.out.below hb2)⟩
        case measure => simp [intOf]; omega
    · have hi : (n : Int) < (k : Int) + (m : Int) := by omega
      have HE := Lib.hid (show fndK ws sm k = fndI ws sm by
        unfold fndI fndL
        rw [HN.out, HM.out, show n + 1 - m = k by omega]
        unfold fndK
        rw [HM.out])
      clear hlt
      go_wp2
      go_ret
      exact ⟨_, rfl, by rw [← HE.out]; exact HG.out.own, HG.out.bel⟩
set_option maxRecDepth 100000 in
set_option maxHeartbeats 800000 in
theorem beginnings_c {F : Nat → Prop} (ws sm : List ByteArray) (v1 v2 : Value) (w : World) (h1 : Sli strR w F ws v1) (h2 : Sli strR w F sm v2) (hF : ∀ b, F b → b < w.heap.size) (hl1 : ws.length ≤ 200000000) (hl2 : sm.length ≤ 200000000) (h0 : 0 < sm.length) :
    Calls Tryz.prog 74 #[v1, v2] w fun e w' => ∃ v, e = .returned v ∧ Own intR w' w.heap.size w.heap.size 3 (fndI ws sm) v ∧ Below w.heap.size w w' := by
  obtain ⟨i0, hi0, hz0, hz1, hz2⟩ := info_parts (show (Tryz.prog.info? 3).map (fun i => (i.zero, i.size, i.bytes)) = some (some (.int .i64 0), 1, 8) by kernel_rfl)
  obtain ⟨A1, c1, rfl, hlc1, hc1⟩ := h1.form
  obtain ⟨A2, c2, rfl, hlc2, hc2⟩ := h2.form
  have H1 := Lib.hid h1
  have H2 := Lib.hid h2
  have HF := Lib.hid hF
  obtain ⟨n, hn⟩ : ∃ n, ws.length = n := ⟨_, rfl⟩
  obtain ⟨m, hm⟩ : ∃ m, sm.length = m := ⟨_, rfl⟩
  have HN := Lib.hid hn
  have HM := Lib.hid hm
  rw [hn] at H1 hlc1 hl1 ⊢
  rw [hm] at H2 hlc2 hl2 h0 ⊢
  have H0 := Lib.hid (BO.start (R := intR) (e := 3) w)
  clear h1 h2 hF hn hm
  go_enter Tryz.func74, Tryz.ntmps74
  go_wp2
  go_loopw [5, 6] (fun v i wr => ∃ k : Nat, k ≤ n + 1 ∧ (k = 0 ∨ k + m ≤ n + 1) ∧ i = .int .i64 k ∧ Hid (BO intR 3 w (fndK ws sm k) v [] wr)) (fun _ i _ => n + 1 - (intOf i).toNat)
  case atStart => exact ⟨0, Nat.zero_le _, .inl rfl, rfl, H0⟩
  case round =>
    clear H0
    obtain ⟨k, hk, hkm, rfl, HG⟩ := hrel
    have ew : IntKind.i64.wrap ((k : Int) + (m : Int)) = (k : Int) + (m : Int) := IntWalk.i64_in _ (by omega)
    by_cases hlt : k + m ≤ n
    · have hkw : k < ws.length := by rw [HN.out]; omega
      obtain ⟨b, off, rfl, hfb, _⟩ := strAt H1.out k hkw
      have hi : (k : Int) + (m : Int) ≤ n := by omega
      have hi1 : (k : Int) + (m : Int) ≤ c1 := by omega
      have hi2 : ((k : Int) + (m : Int)).toNat = k + m := by omega
      have hle : k ≤ k + m := by omega
      have hzz := HG.out.size
      have hsub := ((H1.out.below HG.out.bel HF.out).drop_ k (by omega) (n - k) (c1 - k) (by rw [HN.out]) rfl).take_ m (by rw [List.length_drop, HN.out]; omega)
      rw [show off + k * strR.n = off + k from congrArg (off + ·) (Nat.mul_one k)] at hsub
      have HE := Lib.hid (eqStr_c ((ws.drop k).take m) sm _ _ F wr hsub (H2.out.below HG.out.bel HF.out) (fun q hq => Nat.lt_of_lt_of_le (HF.out q hq) hzz))
      have HNX := Lib.hid (fndK_next ws sm k)
      rw [HM.out] at HNX
      obtain ⟨q, hq⟩ : ∃ q, (fndK ws sm k).length = q := ⟨_, rfl⟩
      have hql : q ≤ 200000001 := by have := fndK_len ws sm k; omega
      have HQ := Lib.hid hq
      clear hsub hq
      generalize fndK ws sm k = cur at *
      by_cases heq : (ws.drop k).take m = sm
      · rw [decide_eq_true heq] at HE
        have HN2 := Lib.hid (HNX.out.trans (by rw [if_pos heq]))
        clear heq HNX
        go_upto_region 6 with (first | (go_at_call 31; refine HE.out.mono ?_; rintro e w2 ⟨rfl, hb2⟩) | fail)
        have HG2 := Lib.hid (HG.out.below hb2)
        have hz2 := HG2.out.size
        clear hb2 HG
        go_wp2_with (at_builtin; (refine wpList_pushI rfl _ _ _ rfl w.heap.size w.heap.size 3 i0 _ 8 Tryz.underlying22 hi0 hz0 (by assumption) (by assumption) rfl _ u5 cur rfl (HG2.out.own.alloc _) [(k : Int)] (by simp) w2.heap.size _ _ (heap_alloc_new w2 _) rfl (by rw [HQ.out]; simp [maxLen]; omega) (by rw [HQ.out]; simp; omega) (by simp; omega) ?_); intro g7 cap7 w7 hown7 hg7 hat7 hlt7)
        go_roundw
        case rel => exact ⟨k + 1, by omega, .inr (by omega), intNum, by rw [HN2.out]; exact Lib.hid ((HG2.out.alloc (.cells #[.int .i64 (k : Int)] 3)).more hown7 hg7 rfl hat7)⟩
        case measure => simp [intOf]; omega
      · rw [decide_eq_false heq] at HE
        have HN2 := Lib.hid (HNX.out.trans (by rw [if_neg heq]))
        rw [List.append_nil] at HN2
        clear heq HNX
        go_wp2_with (first | (go_at_call 31; refine HE.out.mono ?_; rintro e w2 ⟨rfl, hb2⟩) | fail)
        go_roundw
        case rel => exact ⟨k + 1, by omega, .inr (by omega), intNum, by rw [HN2.out]; exact Lib.hid (HG.out.below hb2)⟩
        case measure => simp [intOf]; omega
    · have hi : (n : Int) < (k : Int) + (m : Int) := by omega
      have HE := Lib.hid (show fndK ws sm k = fndI ws sm by
        unfold fndI fndL
        rw [HN.out, HM.out, show n + 1 - m = k by omega]
        unfold fndK
        rw [HM.out])
      clear hlt
      go_wp2
      go_ret
      exact ⟨_, rfl, by rw [← HE.out]; exact HG.out.own, HG.out.bel⟩
end Go.Proofs.YtkhegeobdcemkaaGreatDoor

/- Where words follow one another in a script, in plain words. No program in sight. -/
namespace Go.Proofs.YtkhegeobdcemkaaGreatDoor
set_option linter.unusedVariables false
open Go.RowKit

abbrev Spt := Int × Int × Int
def spR : Rep Spt := Rep.flat 3 (fun x => [.int .i64 x.1, .int .i64 x.2.1, .int .i64 x.2.2]) (fun _ => rfl)
def spP (i k : Int) (p : Para) (sm : List ByteArray) : List Spt := if p.kind = 2 then [] else (fndI (wordsT p.text) sm).map fun a => (i, k, a)
def spPre (i : Int) (ps : List Para) (sm : List ByteArray) : Nat → List Spt
  | 0 => []
  | k + 1 => spPre i ps sm k ++ (if h : k < ps.length then spP i k ps[k] sm else [])
def spScn (xs : List Scene) (sm : List ByteArray) : Nat → List Spt
  | 0 => []
  | k + 1 => spScn xs sm k ++ (if h : k < xs.length then spPre k xs[k].paras sm xs[k].paras.length else [])
def findS (xs : List Scene) (sm : List ByteArray) : List Spt := spScn xs sm xs.length
theorem spPre_next (i : Int) (ps : List Para) (sm : List ByteArray) (k : Nat) (hk : k < ps.length) : spPre i ps sm (k + 1) = spPre i ps sm k ++ spP i k ps[k] sm := by rw [spPre, dif_pos hk]
theorem spScn_next (xs : List Scene) (sm : List ByteArray) (k : Nat) (hk : k < xs.length) : spScn xs sm (k + 1) = spScn xs sm k ++ spPre k xs[k].paras sm xs[k].paras.length := by rw [spScn, dif_pos hk]
theorem fndI_len (ws sm : List ByteArray) : (fndI ws sm).length ≤ ws.length + 1 := by
  unfold fndI fndL
  rw [List.length_map]
  refine Nat.le_trans (List.length_filter_le _ _) ?_
  rw [List.length_range]; omega
theorem spP_len (i k : Int) (p : Para) (sm : List ByteArray) (h : p.text.size ≤ 20000) : (spP i k p sm).length ≤ 20002 := by
  unfold spP
  split
  · simp
  · rw [List.length_map]
    have h1 := fndI_len (wordsT p.text) sm
    have h2 := wordsT_len p.text
    omega
theorem spPre_len (i : Int) (ps : List Para) (sm : List ByteArray) (h : ∀ p ∈ ps, p.text.size ≤ 20000) : ∀ k, (spPre i ps sm k).length ≤ 20002 * k
  | 0 => Nat.zero_le _
  | k + 1 => by
    have ih := spPre_len i ps sm h k
    rw [spPre, List.length_append]
    split
    · rename_i hk
      have := spP_len i k ps[k] sm (h _ (List.getElem_mem hk))
      omega
    · simp; omega
theorem spScn_len (xs : List Scene) (sm : List ByteArray) (h : ∀ x ∈ xs, x.paras.length ≤ 100000 ∧ ∀ p ∈ x.paras, p.text.size ≤ 20000) : ∀ k, (spScn xs sm k).length ≤ 20002 * 100000 * k
  | 0 => Nat.zero_le _
  | k + 1 => by
    have ih := spScn_len xs sm h k
    rw [spScn, List.length_append]
    split
    · rename_i hk
      have h1 := h _ (List.getElem_mem hk)
      have := spPre_len k xs[k].paras sm h1.2 xs[k].paras.length
      omega
    · simp; omega
end Go.Proofs.YtkhegeobdcemkaaGreatDoor

/- script.Find and R.FindOf, walked. -/
namespace Go.Proofs.YtkhegeobdcemkaaGreatDoor
set_option linter.unusedVariables false
open Go.RowKit Go.Sort

/-- What scenes must stay within for a search. -/
def FdB (xs : List Scene) : Prop := xs.length ≤ 1000 ∧ ∀ x ∈ xs, x.paras.length ≤ 100000 ∧ ∀ p ∈ x.paras, p.text.size ≤ 20000
end Go.Proofs.YtkhegeobdcemkaaGreatDoor

/- script.Find, walked. -/
namespace Go.Proofs.YtkhegeobdcemkaaGreatDoor
set_option linter.unusedVariables false
open Go.RowKit Go.Sort

def fdE (x : Script) (tx : ByteArray) : Int := if ¬ chkE x = 0 then chkE x else if (wordsT tx).length = 0 then 3 else 0
end Go.Proofs.YtkhegeobdcemkaaGreatDoor

/- Bounds of the generator's scripts; the form of a slice that a call has made. -/
namespace Go.Proofs.YtkhegeobdcemkaaGreatDoor
set_option linter.unusedVariables false
open Go.RowKit Go.Sort

theorem Sct.fdb {W0 wx : World} {E : Nat → Prop} {t : ByteArray} {l : List (Scene × Value)} {v : Value} (h : Sct W0 E 10010 91 t l v wx) : FdB (l.map (·.1)) := by
  refine ⟨by rw [List.length_map]; have := h.len; omega, fun x hx => ?_⟩
  obtain ⟨y, hy, rfl⟩ := List.mem_map.1 hx
  obtain ⟨_, _, h3, h4⟩ := h.bd y hy
  exact ⟨by omega, fun p hp => by have := h4 p hp; omega⟩
theorem own_form {α : Type} {R : Rep α} {w : World} {b lo : Nat} {e : TypeId} {l : List α} {v : Value} (h : Own R w b lo e l v) : ∃ A n c, v = .slice A n c := by
  rcases h.form with ⟨h, _⟩ | ⟨g, cap, h, _⟩
  · exact ⟨_, _, _, h⟩
  · exact ⟨_, _, _, h⟩
end Go.Proofs.YtkhegeobdcemkaaGreatDoor

