/-
  Layer 8 (spans): merged spans are in order, and as many. Plain Lean.
-/
import Derived.Test.YtfgfnfjeopjbgaaPlainSpans5
namespace Go.Proofs.Ytfgfnfjeopjbgaa.PS
set_option linter.unusedVariables false

theorem merge_right {l : List Sp} (hr : right l = true) : ∀ {k : Nat}, k ≤ l.length → right (mergeL (l.take k)) = true ∧ endOf (mergeL (l.take k)) = endOf (l.take k) ∧ sum (mergeL (l.take k)) = sum (l.take k) := by
  intro k
  induction k with
  | zero => intro _; exact ⟨rfl, rfl, rfl⟩
  | succ k ih =>
    intro hk
    have hw := (whole_iff _).1 (right_whole hr (k := k) (by omega))
    have st := right_step (l := l) (k := k) (by omega)
    rw [right_take hr, right_take hr] at st
    simp only [Bool.true_and, Bool.true_eq, Bool.and_eq_true, decide_eq_true_eq] at st
    obtain ⟨i1, i2, i3⟩ := ih (by omega)
    rw [merge_step (by omega), endOf_step (by omega), sum_step (by omega)]
    by_cases h0 : k = 0
    · subst h0
      have e : mergeL (l.take 0) = [] := rfl
      rw [e, stepM_nil]
      refine ⟨?_, rfl, ?_⟩
      · unfold right; simp only [rightFrom, Bool.and_true, Bool.and_eq_true, decide_eq_true_eq]; exact ⟨st.1, hw.1⟩
      · show (l[0]'(by omega)).2 + 0 = 0 + (l[0]'(by omega)).2; omega
    · obtain ⟨out, p, e, e2, p1, p2, p3⟩ := merge_last hr (k := k) (by omega) (by omega)
      rw [e] at i1 i2 i3 ⊢
      rw [right_snoc] at i1
      simp only [Bool.and_eq_true, decide_eq_true_eq] at i1
      rw [sum_append] at i3
      simp only [sum] at i3
      by_cases h : fin p = (l[k]'(by omega)).1
      · rw [stepM_yes h]
        refine ⟨?_, ?_, ?_⟩
        · rw [right_snoc]
          simp only [Bool.and_eq_true, decide_eq_true_eq]
          refine ⟨i1.1, (whole_iff _).2 ⟨p1, by dsimp only; omega, ?_⟩, i1.2.2⟩
          unfold fin at h
          dsimp only
          omega
        · rw [endOf_snoc]; unfold fin at *; dsimp only; omega
        · rw [sum_append]; simp only [sum]; omega
      · rw [stepM_no h]
        refine ⟨?_, by rw [endOf_snoc], ?_⟩
        · rw [right_snoc, right_snoc]
          simp only [Bool.and_eq_true, decide_eq_true_eq]
          refine ⟨⟨i1.1, i1.2⟩, st.1, ?_⟩
          rw [endOf_snoc, e2]
          exact st.2
        · rw [sum_append, sum_append]; simp only [sum]; omega
theorem merge_all {l : List Sp} : mergeL (l.take l.length) = mergeL l := by rw [List.take_length]
end Go.Proofs.Ytfgfnfjeopjbgaa.PS
