/-
  Layer 39 (page), as lists of chunks and a cursor: plain arithmetic.
-/
import Derived.Test.YtfgfnfjeopjbgaaPlainBump
namespace Go.Proofs.Ytfgfnfjeopjbgaa.PG
set_option linter.unusedVariables false

def fit (i : Int) : Bool := decide (0 ≤ i) && decide (i ≤ 1048575)
/-- The first k may be, and are unlike. -/
def Good (xs : List Int) (k : Nat) : Prop := ∀ j, j < k → fit (xs.getD j 0) = true ∧ xs.getD j 0 ∉ xs.take j
instance (xs : List Int) (k : Nat) : Decidable (Good xs k) := by unfold Good; exact inferInstance
def right (xs : List Int) (c : Int) : Bool := decide (0 ≤ c) && (decide (c = 0) || decide (xs ≠ [])) && decide (Good xs xs.length)
def last (xs : List Int) (c : Int) : Int := if right xs c && decide (xs ≠ []) then xs.getD (xs.length - 1) 0 else -1
/-- Where x stands first; -1: nowhere. -/
def place (xs : List Int) (x : Int) : Int := match xs.findIdx? (fun y => y == x) with | some i => (i : Int) | none => -1
/-- chunks, cursor, the chunk laid in, where, what is wrong -/
def lay (xs : List Int) (c s a k : Int) : List Int × Int × Int × Int × Int :=
  if right xs c = false then ([], 0, 0, 0, 2)
  else if (PB.place c s a k).2.2 ≠ 0 then ([], 0, 0, 0, (PB.place c s a k).2.2)
  else if xs = [] then ([], 0, 0, 0, 9)
  else (xs, (PB.place c s a k).2.1, last xs c, (PB.place c s a k).1, 0)
def add (xs : List Int) (c i : Int) : List Int × Int :=
  if right xs c = false ∨ fit i = false then ([], 2)
  else if i ∈ xs then ([], 19)
  else (xs ++ [i], 0)

theorem fit_iff (i : Int) : fit i = true ↔ 0 ≤ i ∧ i ≤ 1048575 := by simp [fit]
theorem good_zero (xs : List Int) : Good xs 0 := fun j h => absurd h (by omega)
theorem good_succ {xs : List Int} {k : Nat} (h : Good xs k) (hf : fit (xs.getD k 0) = true) (hn : xs.getD k 0 ∉ xs.take k) : Good xs (k + 1) := by
  intro j hj
  by_cases e : j = k
  · subst e; exact ⟨hf, hn⟩
  · exact h j (by omega)
theorem take_succ_getD {xs : List Int} {k : Nat} (hk : k < xs.length) : xs.take (k + 1) = xs.take k ++ [xs.getD k 0] := by
  rw [List.take_add_one]
  simp [List.getD, hk]
theorem mem_take_iff {xs : List Int} {k : Nat} (hk : k ≤ xs.length) (x : Int) : x ∈ xs.take k ↔ ∃ j, j < k ∧ xs.getD j 0 = x := by
  rw [List.mem_iff_getElem]
  constructor
  · rintro ⟨j, hj, e⟩
    simp only [List.length_take] at hj
    refine ⟨j, by omega, ?_⟩
    rw [List.getElem_take] at e
    simp [List.getD, show j < xs.length by omega, e]
  · rintro ⟨j, hj, e⟩
    refine ⟨j, by simp only [List.length_take]; omega, ?_⟩
    rw [List.getElem_take]
    simpa [List.getD, show j < xs.length by omega] using e
theorem place_none {xs : List Int} {x : Int} (h : x ∉ xs) : place xs x = -1 := by
  unfold place
  rw [List.findIdx?_eq_none_iff.2 (fun y hy => by simp; rintro rfl; exact h hy)]
theorem place_at {xs : List Int} {x : Int} {k : Nat} (hk : k < xs.length) (h : x ∉ xs.take k) (e : xs.getD k 0 = x) : place xs x = k := by
  unfold place
  have : xs.findIdx? (fun y => y == x) = some k := by
    rw [List.findIdx?_eq_some_iff_getElem]
    refine ⟨hk, by simpa [List.getD, hk] using e, fun j hj => ?_⟩
    have := fun e => h ((mem_take_iff (Nat.le_of_lt hk) x).2 e)
    have hj' : j < xs.length := by omega
    simp only [beq_iff_eq]
    intro e2
    exact this ⟨j, hj, by simpa [List.getD, hj'] using e2⟩
  rw [this]
theorem place_mem {xs : List Int} {x : Int} (h : x ∈ xs) : ∃ k : Nat, k < xs.length ∧ place xs x = k ∧ x ∉ xs.take k ∧ xs.getD k 0 = x := by
  unfold place
  cases hf : xs.findIdx? (fun y => y == x) with
  | none =>
    have := List.findIdx?_eq_none_iff.1 hf x h
    simp at this
  | some k =>
    obtain ⟨hk, h1, h2⟩ := List.findIdx?_eq_some_iff_getElem.1 hf
    refine ⟨k, hk, rfl, ?_, by simpa [List.getD, hk] using h1⟩
    rw [mem_take_iff (Nat.le_of_lt hk)]
    rintro ⟨j, hj, e⟩
    have hj' : j < xs.length := by omega
    refine h2 j hj ?_
    simpa [List.getD, hj'] using e
theorem place_ge (xs : List Int) (x : Int) : decide (0 ≤ place xs x) = decide (x ∈ xs) := by
  rw [decide_eq_decide]
  constructor
  · intro h
    by_cases hm : x ∈ xs
    · exact hm
    · rw [place_none hm] at h; omega
  · intro h
    obtain ⟨k, _, e, _⟩ := place_mem h
    rw [e]; omega
theorem right_iff {xs : List Int} {c : Int} : right xs c = true ↔ 0 ≤ c ∧ (c = 0 ∨ xs ≠ []) ∧ Good xs xs.length := by
  simp [right, and_assoc]
/-- Not all may be: one is wrong, or stands ahead already. -/
theorem not_good {xs : List Int} {k : Nat} (hk : k < xs.length) (h : fit (xs.getD k 0) = false ∨ xs.getD k 0 ∈ xs.take k) (c : Int) : right xs c = false := by
  cases hr : right xs c
  · rfl
  · have := (right_iff.1 hr).2.2 k hk
    rcases h with h | h
    · rw [this.1] at h; cases h
    · exact absurd h this.2
end Go.Proofs.Ytfgfnfjeopjbgaa.PG
