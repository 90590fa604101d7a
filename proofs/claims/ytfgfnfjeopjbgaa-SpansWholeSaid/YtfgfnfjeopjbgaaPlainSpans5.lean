/-
  Layer 8 (spans): merged, cut, and the holes. Plain Lean.
-/
import Derived.Test.YtfgfnfjeopjbgaaPlainSpans2
namespace Go.Proofs.Ytfgfnfjeopjbgaa.PS
set_option linter.unusedVariables false

/-! ### Cut -/
def piece (a b : Int) : List Sp := if a < b then [(a, b - a)] else []
/-- What is left of a span. -/
def cut1 (at_ : Int) (fits : Bool) (end_ : Int) (s : Sp) : List Sp := piece s.1 (min at_ (fin s)) ++ (if fits = true then piece (max end_ s.1) (fin s) else [])
def cutL (at_ : Int) (fits : Bool) (end_ : Int) (l : List Sp) : List Sp := l.flatMap (cut1 at_ fits end_)
theorem cut_step {at_ : Int} {fits : Bool} {end_ : Int} {l : List Sp} {k : Nat} (hk : k < l.length) : cutL at_ fits end_ (l.take (k + 1)) = cutL at_ fits end_ (l.take k) ++ cut1 at_ fits end_ l[k] := by
  unfold cutL
  rw [take_snoc hk, List.flatMap_append]
  simp
theorem piece_len (a b : Int) : (piece a b).length ≤ 1 := by unfold piece; split <;> simp
theorem cut1_len (at_ : Int) (fits : Bool) (end_ : Int) (s : Sp) : (cut1 at_ fits end_ s).length ≤ 2 := by
  unfold cut1
  rw [List.length_append]
  have := piece_len s.1 (min at_ (fin s))
  split
  · have := piece_len (max end_ s.1) (fin s); omega
  · simp; omega
theorem cut_len (at_ : Int) (fits : Bool) (end_ : Int) (l : List Sp) : (cutL at_ fits end_ l).length ≤ 2 * l.length := by
  induction l with
  | nil => simp [cutL]
  | cons s l ih =>
    have := cut1_len at_ fits end_ s
    unfold cutL at *
    rw [List.flatMap_cons, List.length_append, List.length_cons]
    omega

/-! ### Holes -/
def holK (l : List Sp) (end_ : Int) : Nat → List Sp
  | 0 => []
  | k + 1 => holK l end_ k ++ (if h : k < l.length then piece (endOf (l.take k)) (min end_ l[k].1) else [])
theorem hol_step {l : List Sp} {end_ : Int} {k : Nat} (hk : k < l.length) : holK l end_ (k + 1) = holK l end_ k ++ piece (endOf (l.take k)) (min end_ l[k].1) := by
  rw [holK, dif_pos hk]
theorem hol_len (l : List Sp) (end_ : Int) : ∀ k, (holK l end_ k).length ≤ k := by
  intro k
  induction k with
  | zero => simp [holK]
  | succ k ih =>
    unfold holK
    rw [List.length_append]
    split
    · have := piece_len (endOf (l.take k)) (min end_ (l[k]'(by assumption)).1); omega
    · simp; omega
def holes (l : List Sp) (end_ : Int) : List Sp := if right l = true ∧ 1 ≤ end_ then holK l end_ l.length ++ piece (endOf l) end_ else []

/-! ### Merge -/
def stepM (out : List Sp) (s : Sp) : List Sp :=
  match out.getLast? with
  | some p => if fin p = s.1 then out.dropLast ++ [(p.1, p.2 + s.2)] else out ++ [s]
  | none => [s]
def mergeL (l : List Sp) : List Sp := l.foldl stepM []
theorem merge_step {l : List Sp} {k : Nat} (hk : k < l.length) : mergeL (l.take (k + 1)) = stepM (mergeL (l.take k)) l[k] := by
  unfold mergeL
  rw [take_snoc hk, List.foldl_append]
  rfl
theorem stepM_nil (s : Sp) : stepM [] s = [s] := rfl
theorem stepM_yes {out : List Sp} {p s : Sp} (h : fin p = s.1) : stepM (out ++ [p]) s = out ++ [(p.1, p.2 + s.2)] := by
  unfold stepM
  simp [h]
theorem stepM_no {out : List Sp} {p s : Sp} (h : fin p ≠ s.1) : stepM (out ++ [p]) s = out ++ [p] ++ [s] := by
  unfold stepM
  simp [h]
/-- Behind the first round there is a last one, which ends where all have ended. -/
theorem merge_last {l : List Sp} (hr : right l = true) : ∀ {k : Nat}, 0 < k → k ≤ l.length → ∃ out p, mergeL (l.take k) = out ++ [p] ∧ fin p = endOf (l.take k) ∧ 0 ≤ p.1 ∧ 1 ≤ p.2 ∧ out.length + 1 ≤ k := by
  intro k
  induction k with
  | zero => intro h; omega
  | succ k ih =>
    intro _ hk
    have hw := (whole_iff _).1 (right_whole hr (k := k) (by omega))
    rw [merge_step (by omega), endOf_step (by omega)]
    by_cases h0 : k = 0
    · subst h0
      exact ⟨[], _, rfl, rfl, hw.1, hw.2.1, by simp⟩
    · obtain ⟨out, p, e, e2, p1, p2, p3⟩ := ih (by omega) (by omega)
      rw [e]
      by_cases h : fin p = (l[k]'(by omega)).1
      · rw [stepM_yes h]
        exact ⟨out, _, rfl, by unfold fin at *; dsimp only; omega, p1, by dsimp only; omega, by omega⟩
      · rw [stepM_no h]
        exact ⟨out ++ [p], _, rfl, rfl, hw.1, hw.2.1, by simp; omega⟩
theorem merge_len (l : List Sp) : ∀ k, (mergeL (l.take k)).length ≤ k := by
  intro k
  induction k with
  | zero => simp [mergeL]
  | succ k ih =>
    rcases Nat.lt_or_ge k l.length with hk | hk
    · rw [merge_step hk]
      unfold stepM
      split
      · split
        · simp; omega
        · simp; omega
      · simp
    · rw [List.take_of_length_le (by omega)]
      rw [List.take_of_length_le hk] at ih
      omega
end Go.Proofs.Ytfgfnfjeopjbgaa.PS
