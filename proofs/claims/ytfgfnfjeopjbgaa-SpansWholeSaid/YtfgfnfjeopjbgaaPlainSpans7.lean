/-
  Layer 8 (spans): what is cut is in order; spans and their holes, merged, are one. Plain Lean.
-/
import Derived.Test.YtfgfnfjeopjbgaaPlainSpans4
import Derived.Test.YtfgfnfjeopjbgaaPlainSpans6
namespace Go.Proofs.Ytfgfnfjeopjbgaa.PS
set_option linter.unusedVariables false

/-! ### Cut -/
theorem right_piece {out : List Sp} {a b : Int} (h : right out = true) (ha : endOf out ≤ a) (h0 : 0 ≤ a) (hb : b ≤ 9223372036854775807) : right (out ++ piece a b) = true ∧ (endOf (out ++ piece a b) ≤ max b (endOf out)) := by
  unfold piece
  split
  · rename_i hab
    rw [right_snoc, h, endOf_snoc]
    refine ⟨?_, by unfold fin; dsimp only; omega⟩
    simp only [Bool.true_and, Bool.and_eq_true, decide_eq_true_eq]
    exact ⟨(whole_iff _).2 ⟨h0, by dsimp only; omega, by dsimp only; omega⟩, ha⟩
  · rw [List.append_nil]
    exact ⟨h, by omega⟩
theorem cut_right {l : List Sp} {t q en : Int} {fits : Bool} (hr : right l = true) (ht : 0 ≤ t) (hq : 0 ≤ q) (he : fits = true → en = t + q) : ∀ {k : Nat}, k ≤ l.length → right (cutL t fits en (l.take k)) = true ∧ endOf (cutL t fits en (l.take k)) ≤ endOf (l.take k) := by
  intro k
  induction k with
  | zero => intro _; exact ⟨rfl, Int.le_refl _⟩
  | succ k ih =>
    intro hk
    obtain ⟨i1, i2⟩ := ih (by omega)
    have hw := (whole_iff _).1 (right_whole hr (k := k) (by omega))
    have st := right_step (l := l) (k := k) (by omega)
    rw [right_take hr, right_take hr] at st
    simp only [Bool.true_and, Bool.true_eq, Bool.and_eq_true, decide_eq_true_eq] at st
    rw [cut_step (by omega), endOf_step (by omega)]
    generalize (l[k]'(by omega)) = s at *
    unfold cut1
    rw [← List.append_assoc]
    obtain ⟨r1, r2⟩ := right_piece (a := s.1) (b := min t (fin s)) i1 (by omega) hw.1 (by unfold fin; omega)
    by_cases hf : fits = true
    · rw [if_pos hf]
      have e := he hf
      have hle : endOf (cutL t fits en (l.take k) ++ piece s.1 (min t (fin s))) ≤ max en s.1 := by
        by_cases h1 : s.1 < min t (fin s)
        · rw [show piece s.1 (min t (fin s)) = [(s.1, min t (fin s) - s.1)] from if_pos h1, endOf_snoc]
          unfold fin
          dsimp only
          omega
        · rw [show piece s.1 (min t (fin s)) = [] from if_neg h1, List.append_nil]
          omega
      obtain ⟨r3, r4⟩ := right_piece (a := max en s.1) (b := fin s) r1 hle (by omega) (by unfold fin; omega)
      refine ⟨r3, ?_⟩
      unfold fin at *
      omega
    · rw [if_neg hf, List.append_nil]
      refine ⟨r1, ?_⟩
      unfold fin at *
      omega
theorem cut_find {l : List Sp} {t q en : Int} {fits : Bool} (hq : 0 < q) (he : fits = true → en = t + q) : ∀ s ∈ cutL t fits en l, has t s = false := by
  intro s hs
  unfold cutL at hs
  obtain ⟨p, hp, hs⟩ := List.mem_flatMap.1 hs
  unfold cut1 at hs
  rcases List.mem_append.1 hs with hs | hs
  · unfold piece at hs
    split at hs
    · obtain rfl := List.mem_singleton.1 hs
      unfold has
      simp
      omega
    · simp at hs
  · split at hs
    · rename_i hf
      have e := he hf
      unfold piece at hs
      split at hs
      · obtain rfl := List.mem_singleton.1 hs
        unfold has
        simp
        omega
      · simp at hs
    · simp at hs
theorem find_none {l : List Sp} {x : Int} (h : ∀ s ∈ l, has x s = false) : find l x = -1 := by
  unfold find
  split
  · exact idx_none (fun j hj => h _ (List.getElem_mem hj))
  · rfl

/-! ### Holes -/
/-- The spans ahead of place k, with their holes. -/
def fill (l : List Sp) : Nat → List Sp
  | 0 => []
  | k + 1 => fill l k ++ (if h : k < l.length then piece (endOf (l.take k)) l[k].1 ++ [l[k]] else [])
theorem fill_step {l : List Sp} {k : Nat} (hk : k < l.length) : fill l (k + 1) = fill l k ++ (piece (endOf (l.take k)) l[k].1 ++ [l[k]]) := by
  rw [fill, dif_pos hk]
/-- Each begins where the one ahead has ended. -/
def tight : Int → List Sp → Prop
  | _, [] => True
  | a, s :: l => s.1 = a ∧ tight (fin s) l
theorem tight_append : ∀ (l m : List Sp) (a : Int), tight a (l ++ m) ↔ tight a l ∧ tight (if l = [] then a else endOf l) m := by
  intro l
  induction l with
  | nil => intro m a; simp [tight]
  | cons s l ih =>
    intro m a
    simp only [List.cons_append, tight, ih]
    by_cases h : l = []
    · subst h; simp [tight, endOf]
    · have : endOf (s :: l) = endOf l := by unfold endOf; rw [List.getLast?_cons_of_ne_nil h]
      rw [if_neg h, if_neg (by simp), this]
      exact and_assoc.symm
theorem tight_snoc (l : List Sp) (s : Sp) : tight 0 (l ++ [s]) ↔ tight 0 l ∧ s.1 = endOf l := by
  rw [tight_append]
  by_cases h : l = []
  · subst h; simp [tight]
  · rw [if_neg h]; simp [tight]
theorem fill_spec {l : List Sp} (hr : right l = true) : ∀ {k : Nat}, k ≤ l.length → right (fill l k) = true ∧ endOf (fill l k) = endOf (l.take k) ∧ tight 0 (fill l k) ∧ (fill l k = [] → k = 0) := by
  intro k
  induction k with
  | zero => intro _; exact ⟨rfl, rfl, trivial, fun _ => rfl⟩
  | succ k ih =>
    intro hk
    obtain ⟨i1, i2, i3, -⟩ := ih (by omega)
    have hw := right_whole hr (k := k) (by omega)
    have w1 := (whole_iff _).1 hw
    have st := right_step (l := l) (k := k) (by omega)
    rw [right_take hr, right_take hr] at st
    simp only [Bool.true_and, Bool.true_eq, Bool.and_eq_true, decide_eq_true_eq] at st
    have eb := endOf_bd (right_take hr k)
    rw [fill_step (by omega), endOf_step (by omega), ← List.append_assoc, endOf_snoc]
    refine ⟨?_, rfl, ?_, fun h => by simp at h⟩
    · rw [right_snoc]
      obtain ⟨r1, r2⟩ := right_piece (a := endOf (l.take k)) (b := (l[k]'(by omega)).1) i1 (by omega) eb.1 (by omega)
      rw [r1, hw]
      simp only [Bool.true_and, decide_eq_true_eq]
      omega
    · rw [tight_snoc]
      by_cases h : endOf (l.take k) < (l[k]'(by omega)).1
      · rw [show piece (endOf (l.take k)) (l[k]'(by omega)).1 = [(endOf (l.take k), (l[k]'(by omega)).1 - endOf (l.take k))] from if_pos h, tight_snoc, endOf_snoc]
        refine ⟨⟨i3, by dsimp only; omega⟩, by unfold fin; dsimp only; omega⟩
      · rw [show piece (endOf (l.take k)) (l[k]'(by omega)).1 = [] from if_neg h, List.append_nil]
        exact ⟨i3, by omega⟩
/-- Spans without gaps are merged into one. -/
theorem merge_tight {l : List Sp} (hr : right l = true) (ht : tight 0 l) : ∀ {k : Nat}, 0 < k → k ≤ l.length → mergeL (l.take k) = [(0, endOf (l.take k))] := by
  intro k
  induction k with
  | zero => intro h; omega
  | succ k ih =>
    intro _ hk
    have hat : (l[k]'(by omega)).1 = endOf (l.take k) := by
      have e := List.take_append_drop (k + 1) l
      rw [take_snoc (by omega)] at e
      rw [← e, tight_append] at ht
      exact ((tight_snoc _ _).1 ht.1).2
    rw [merge_step (by omega), endOf_step (by omega)]
    by_cases h0 : k = 0
    · subst h0
      rw [show mergeL (l.take 0) = [] from rfl, stepM_nil]
      have : endOf (l.take 0) = 0 := rfl
      rw [this] at hat
      congr 1
      refine Prod.ext hat ?_
      unfold fin
      dsimp only
      omega
    · rw [ih (by omega) (by omega)]
      have := stepM_yes (out := []) (p := (0, endOf (l.take k))) (s := l[k]'(by omega)) (by unfold fin; dsimp only; omega)
      rw [List.nil_append] at this
      rw [this, List.nil_append]
      congr 2
      unfold fin
      dsimp only
      omega
theorem merge_fill {l : List Sp} (hr : right l = true) (h0 : 0 < l.length) : mergeL (fill l l.length) = [(0, endOf l)] := by
  obtain ⟨f1, f2, f3, f4⟩ := fill_spec hr (k := l.length) (Nat.le_refl _)
  have hp : 0 < (fill l l.length).length := by
    rcases Nat.eq_zero_or_pos (fill l l.length).length with e | e
    · have := f4 (List.eq_nil_of_length_eq_zero e); omega
    · exact e
  have := merge_tight f1 f3 (k := (fill l l.length).length) hp (Nat.le_refl _)
  rw [List.take_length, f2, List.take_length] at this
  exact this
end Go.Proofs.Ytfgfnfjeopjbgaa.PS
