/-
  Layer 8 (spans), as lists of pairs (where, how many). Plain Lean.
-/
namespace Go.Proofs.Ytfgfnfjeopjbgaa.PS
set_option linter.unusedVariables false

abbrev Sp := Int × Int
def whole (s : Sp) : Bool := decide (0 ≤ s.1 ∧ 1 ≤ s.2 ∧ s.1 + s.2 ≤ 9223372036854775807)
def fin (s : Sp) : Int := s.1 + s.2
def meet (a b : Sp) : Bool := whole a && whole b && decide (a.1 < fin b) && decide (b.1 < fin a)
/-- Where the last one ends; 0: there is none. -/
def endOf (l : List Sp) : Int := match l.getLast? with | some s => fin s | none => 0
def rightFrom : Int → List Sp → Bool
  | _, [] => true
  | e, s :: l => whole s && decide (e ≤ s.1) && rightFrom (fin s) l
def right (l : List Sp) : Bool := rightFrom 0 l

theorem whole_iff (s : Sp) : whole s = true ↔ 0 ≤ s.1 ∧ 1 ≤ s.2 ∧ s.1 + s.2 ≤ 9223372036854775807 := by simp [whole]
@[simp] theorem endOf_nil : endOf [] = 0 := rfl
@[simp] theorem endOf_snoc (l : List Sp) (s : Sp) : endOf (l ++ [s]) = fin s := by simp [endOf]

theorem rightFrom_append (l : List Sp) : ∀ (e : Int) (m : List Sp), rightFrom e (l ++ m) = (rightFrom e l && rightFrom (if l = [] then e else endOf l) m) := by
  induction l with
  | nil => intro e m; simp [rightFrom]
  | cons s l ih =>
    intro e m
    simp only [List.cons_append, rightFrom, ih]
    by_cases h : l = []
    · subst h
      simp [rightFrom, endOf]
    · have : endOf (s :: l) = endOf l := by
        unfold endOf
        rw [List.getLast?_cons_of_ne_nil h]
      rw [if_neg h, if_neg (by simp), this]
      simp [Bool.and_assoc]
theorem right_snoc (l : List Sp) (s : Sp) : right (l ++ [s]) = (right l && (whole s && decide (endOf l ≤ s.1))) := by
  unfold right
  rw [rightFrom_append]
  congr 1
  simp only [rightFrom, Bool.and_true]
  by_cases h : l = []
  · subst h; rfl
  · rw [if_neg h]
/-- A prefix of spans in order is in order. -/
theorem right_take {l : List Sp} (h : right l = true) (k : Nat) : right (l.take k) = true := by
  have := rightFrom_append (l.take k) 0 (l.drop k)
  rw [List.take_append_drop] at this
  unfold right at h ⊢
  rw [h] at this
  rcases hh : rightFrom 0 (l.take k) with _ | _
  · rw [hh] at this; simp at this
  · rfl
theorem right_not {l : List Sp} {k : Nat} (h : right (l.take k) = false) : right l = false := by
  rcases hl : right l with _ | _
  · rfl
  · rw [right_take hl k] at h; cases h
theorem take_snoc {l : List Sp} {k : Nat} (hk : k < l.length) : l.take (k + 1) = l.take k ++ [l[k]] := List.take_succ_eq_append_getElem hk
/-- The step at place k. -/
theorem right_step {l : List Sp} {k : Nat} (hk : k < l.length) : right (l.take (k + 1)) = (right (l.take k) && (whole l[k] && decide (endOf (l.take k) ≤ l[k].1))) := by
  rw [take_snoc hk, right_snoc]
theorem endOf_step {l : List Sp} {k : Nat} (hk : k < l.length) : endOf (l.take (k + 1)) = fin l[k] := by rw [take_snoc hk, endOf_snoc]
theorem endOf_pos {l : List Sp} {k : Nat} (hk : 0 < k) (hl : k ≤ l.length) : endOf (l.take k) = fin (l[k - 1]'(by omega)) := by
  obtain ⟨j, rfl⟩ : ∃ j, k = j + 1 := ⟨k - 1, by omega⟩
  exact endOf_step (by omega)
/-- All spans of a row in order are whole. -/
theorem right_whole {l : List Sp} (h : right l = true) {k : Nat} (hk : k < l.length) : whole l[k] = true := by
  have := right_take h (k + 1)
  rw [right_step hk] at this
  simp at this
  exact this.2.1
/-- Where spans in order end. -/
theorem endOf_bd {l : List Sp} (h : right l = true) : 0 ≤ endOf l ∧ endOf l ≤ 9223372036854775807 := by
  by_cases h0 : l = []
  · subst h0; simp
  · have hp : 0 < l.length := List.length_pos_iff.2 h0
    have := endOf_pos (l := l) (k := l.length) hp (Nat.le_refl _)
    rw [List.take_length] at this
    rw [this]
    have hw := (whole_iff _).1 (right_whole h (k := l.length - 1) (by omega))
    unfold fin
    omega
/-- How the reference asks it. -/
theorem ref_step {l : List Sp} {k : Nat} (h0 : 0 < k) (hk : k < l.length) (h : right (l.take k) = true) (hw : whole l[k] = true) :
    (decide (l[k].1 < (l[k - 1]'(by omega)).1) || meet (l[k - 1]'(by omega)) l[k]) = !decide (endOf (l.take k) ≤ l[k].1) := by
  have hp : whole (l[k - 1]'(by omega)) = true := by
    have := right_whole (l := l.take k) h (k := k - 1) (by simp; omega)
    simpa using this
  rw [endOf_pos h0 (by omega)]
  generalize l[k - 1]'(by omega) = p at *
  generalize l[k] = s at *
  have w1 := (whole_iff p).1 hp
  have w2 := (whole_iff s).1 hw
  unfold meet fin
  rw [hp, hw]
  by_cases h1 : p.1 + p.2 ≤ s.1
  · simp [h1]; omega
  · simp [h1]; omega
end Go.Proofs.Ytfgfnfjeopjbgaa.PS
