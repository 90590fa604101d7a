/-
  The plain law of PageRow: what one more thing laid gives.
-/
import Derived.Test.YtfgfnfjeopjbgaaPlainPage
import Derived.Test.YtfgfnfjeopjbgaaPlainBump
namespace Go.Proofs.Ytfgfnfjeopjbgaa
set_option linter.unusedVariables false

theorem PB_row {c s a k : Int} (hc : 0 ≤ c) (hk : k ≤ 9223372036854775807) (hk1 : 1 ≤ k) :
    (PB.place c s a k = (0, 0, 2)) ∨ (PB.place c s a k = (0, 0, 5)) ∨ (PB.place c s a k = (0, 0, 6)) ∨
    (PB.place 0 s a k = (0, s, 0) ∧ 1 ≤ s ∧ s ≤ k ∧ (PB.place c s a k = (0, 0, 9) ∨ ∃ U, PB.place c s a k = (U, U + s, 0) ∧ c ≤ U ∧ U + s ≤ k)) := by
  by_cases h : s < 1 ∨ k < 1 ∨ PN.power a = false
  · exact Or.inl (PB.place_arg (Or.inr h))
  · have hp : PN.power a = true := by cases hq : PN.power a <;> simp_all
    have ha := PN.power_pos hp
    have n1 : ∀ c : Int, 0 ≤ c → ¬ (c < 0 ∨ s < 1 ∨ k < 1 ∨ PN.power a = false) := fun c hc q => by
      rcases q with q | q
      · omega
      · exact h q
    by_cases h2 : k < s ∨ k < a
    · exact Or.inr (Or.inl (PB.place_size (n1 c hc) h2))
    · have u0 : PN.up 0 a = 0 := PN.up_same (by omega) ha (Int.zero_emod _)
      have p0 : PB.place 0 s a k = (0, s, 0) := by
        have := PB.place_ok (n1 0 (by omega)) h2 (by rw [u0]; omega) (by rw [u0]; omega)
        rw [u0, Int.zero_add] at this
        exact this
      obtain ⟨u1, u2, u3, u4⟩ := PN.up_bd hc ha
      by_cases h3 : 9223372036854775807 < PN.up c a + s
      · exact Or.inr (Or.inr (Or.inl (PB.place_over (n1 c hc) h2 h3)))
      · refine Or.inr (Or.inr (Or.inr ⟨p0, by omega, by omega, ?_⟩))
        by_cases h4 : k < PN.up c a + s
        · exact Or.inl (PB.place_dry (n1 c hc) h2 h3 h4)
        · exact Or.inr ⟨PN.up c a, PB.place_ok (n1 c hc) h2 h3 h4, u1, by omega⟩
namespace PG
/-- The chunks 0, 1, .. -/
def row (k : Nat) : List Int := (List.range k).map (fun i : Nat => (i : Int))
theorem row_len (k : Nat) : (row k).length = k := by simp [row]
theorem row_get {k j : Nat} (h : j < k) : (row k).getD j 0 = (j : Int) := by simp [row, List.getD, h]
theorem row_succ (k : Nat) : row (k + 1) = row k ++ [(k : Int)] := by simp [row, List.range_succ]
theorem row_mem {k : Nat} {x : Int} : x ∈ row k ↔ ∃ j : Nat, j < k ∧ (j : Int) = x := by simp [row]
theorem row_good {k : Nat} (hk : k ≤ 1000) : Good (row k) k := by
  intro j hj
  rw [row_get hj]
  refine ⟨(fit_iff _).2 ⟨by omega, by omega⟩, fun h => ?_⟩
  obtain ⟨i, hi, e⟩ := (mem_take_iff (by rw [row_len]; omega) _).1 h
  rw [row_get (by omega)] at e
  omega
theorem row_right {k : Nat} {c : Int} (hk : k ≤ 1000) (h0 : 0 ≤ c) (h : k = 0 → c = 0) : right (row k) c = true := by
  refine right_iff.2 ⟨h0, ?_, by rw [row_len]; exact row_good hk⟩
  by_cases e : k = 0
  · exact .inl (h e)
  · refine .inr (fun e2 => e ?_)
    have := congrArg List.length e2
    rw [row_len] at this
    simpa using this
theorem row_last {k : Nat} {c : Int} (hk : k ≤ 1000) (h0 : 0 ≤ c) (h1 : 1 ≤ k) : last (row k) c = (k : Int) - 1 := by
  have hne : row k ≠ [] := fun e2 => by
    have := congrArg List.length e2
    rw [row_len] at this
    simp at this
    omega
  unfold last
  rw [row_right hk h0 (by omega), decide_eq_true hne]
  simp only [Bool.and_self, if_true]
  rw [row_len, row_get (by omega)]
  omega
theorem row_cases {k : Nat} {c s a : Int} (hk : k ≤ 500) (h0 : 0 ≤ c) (h : k = 0 → c = 0) :
    (∃ e, lay (row k) c s a 64 = ([], 0, 0, 0, e) ∧ e ≠ 9 ∧ e ≠ 0) ∨
    (lay (row k) c s a 64 = ([], 0, 0, 0, 9) ∧ add (row k) c k = (row (k + 1), 0) ∧ lay (row (k + 1)) 0 s a 64 = (row (k + 1), s, ((k + 1 : Nat) : Int) - 1, 0, 0) ∧ 1 ≤ s ∧ s ≤ 64) ∨
    (1 ≤ k ∧ ∃ U, lay (row k) c s a 64 = (row k, U + s, (k : Int) - 1, U, 0) ∧ c ≤ U ∧ U + s ≤ 64 ∧ 1 ≤ s) := by
  have hr := row_right (k := k) (c := c) (by omega) h0 h
  have hl : lay (row k) c s a 64 = (if (PB.place c s a 64).2.2 ≠ 0 then ([], 0, 0, 0, (PB.place c s a 64).2.2) else if row k = [] then ([], 0, 0, 0, 9) else (row k, (PB.place c s a 64).2.1, last (row k) c, (PB.place c s a 64).1, 0)) := by
    unfold lay; rw [if_neg (by rw [hr]; simp)]
  have hadd : add (row k) c k = (row (k + 1), 0) := by
    unfold add
    rw [if_neg (by rw [hr, (fit_iff (k : Int)).2 ⟨by omega, by omega⟩]; simp), if_neg, row_succ]
    rintro hm
    obtain ⟨j, hj, e⟩ := row_mem.1 hm
    omega
  have hlay1 : PB.place 0 s a 64 = (0, s, 0) → lay (row (k + 1)) 0 s a 64 = (row (k + 1), s, ((k + 1 : Nat) : Int) - 1, 0, 0) := by
    intro e
    unfold lay
    rw [if_neg (by rw [row_right (by omega) (by omega) (by omega)]; simp), e, if_neg (by simp), if_neg (by rw [row_succ]; simp), row_last (by omega) (by omega) (by omega)]
  rcases PB_row (c := c) (s := s) (a := a) (k := 64) h0 (by omega) (by omega) with e | e | e | ⟨p0, s1, s2, e | ⟨U, e, u1, u2⟩⟩
  · exact .inl ⟨2, by rw [hl, e]; simp, by omega, by omega⟩
  · exact .inl ⟨5, by rw [hl, e]; simp, by omega, by omega⟩
  · exact .inl ⟨6, by rw [hl, e]; simp, by omega, by omega⟩
  · exact .inr (.inl ⟨by rw [hl, e]; simp, hadd, hlay1 p0, s1, s2⟩)
  · by_cases hk0 : k = 0
    · refine .inr (.inl ⟨by rw [hl, e, if_neg (by simp), if_pos (by rw [hk0]; rfl)], hadd, hlay1 p0, s1, s2⟩)
    · refine .inr (.inr ⟨by omega, U, ?_, u1, u2, s1⟩)
      rw [hl, e, if_neg (by simp), if_neg, row_last (by omega) h0 (by omega)]
      intro e2
      have := congrArg List.length e2
      rw [row_len] at this
      simp at this
      omega
end PG
end Go.Proofs.Ytfgfnfjeopjbgaa
