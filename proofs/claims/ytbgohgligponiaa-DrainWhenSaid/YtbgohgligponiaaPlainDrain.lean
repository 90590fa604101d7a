/-
  Layer 22, as numbers: plain arithmetic.
-/
import Derived.Test.YtbgohgligponiaaPlainNum
namespace Go.Proofs.Ytbgohgligponiaa.PD

def may (w q t : Int) : Bool := decide (0 ≤ w) && decide (1 ≤ q) && decide (0 ≤ t)
theorem may_iff (w q t : Int) : may w q t = true ↔ 0 ≤ w ∧ 1 ≤ q ∧ 0 ≤ t := by simp only [may, Bool.and_eq_true, decide_eq_true_eq]; omega
theorem may_no (w q t : Int) : may w q t = false ↔ ¬ (0 ≤ w ∧ 1 ≤ q ∧ 0 ≤ t) := by rw [← may_iff]; simp
def ticks (a q : Int) : Int × Bool := if may a q 0 then PN.add (a / q) 1 else (0, false)
def taken (w q t : Int) : Int × Bool := if may w q t then (if (PN.mul q t).2 then (min (PN.mul q t).1 w, true) else (w, true)) else (0, false)
def left (w q t : Int) : Int × Bool := if may w q t then (w - (taken w q t).1, true) else (0, false)

theorem taken_is (w q t : Int) : (taken w q t).2 = may w q t := by
  unfold taken
  cases may w q t
  · rfl
  · simp only [if_true]; split <;> rfl
theorem left_is (w q t : Int) : (left w q t).2 = may w q t := by
  unfold left
  cases may w q t <;> rfl
/-- What is taken is the lesser of the product and of what waits. -/
theorem taken_min (w q t : Int) (h : may w q t = true) (hw : w ≤ 9223372036854775807) : (taken w q t).1 = min (q * t) w := by
  obtain ⟨h1, h2, h3⟩ := (may_iff _ _ _).1 h
  have hp : 0 ≤ q * t := Int.mul_nonneg (by omega) h3
  unfold taken
  rw [if_pos h]
  unfold PN.mul
  by_cases hf : PN.fits (q * t) = true
  · rw [if_pos hf]; rfl
  · have := (PN.fits_not _).1 (by simpa using hf)
    rw [if_neg hf]
    show w = _
    omega
theorem left_val (w q t : Int) (h : may w q t = true) (hw : w ≤ 9223372036854775807) : (left w q t).1 = w - min (q * t) w := by
  unfold left; rw [if_pos h, ← taken_min w q t h hw]
theorem div_lt_iff {w q t : Int} (hq : 1 ≤ q) : w / q < t ↔ w < q * t := by
  rw [Int.mul_comm]
  exact Int.ediv_lt_iff_lt_mul (by omega)
theorem left_none {w q t : Int} (h : may w q t = true) (hw : w ≤ 9223372036854775807) (ht : w / q < t) : left w q t = (0, true) := by
  obtain ⟨h1, h2, h3⟩ := (may_iff _ _ _).1 h
  refine Prod.ext ?_ ((left_is w q t).trans h)
  rw [left_val w q t h hw]
  have := (div_lt_iff h2).1 ht
  show _ = (0 : Int)
  omega
theorem left_some {w q t : Int} (h : may w q t = true) (hw : w ≤ 9223372036854775807) (ht : t ≤ w / q) : left w q t = (w - q * t, true) ∧ 0 ≤ q * t ∧ q * t ≤ w := by
  obtain ⟨h1, h2, h3⟩ := (may_iff _ _ _).1 h
  have hp : 0 ≤ q * t := Int.mul_nonneg (by omega) h3
  have hle : q * t ≤ w := by
    have := mt (div_lt_iff (w := w) (t := t) h2).2 (by omega)
    omega
  refine ⟨Prod.ext ?_ ((left_is w q t).trans h), hp, hle⟩
  rw [left_val w q t h hw]
  show _ = w - q * t
  omega
theorem ticks_val {a q : Int} (h0 : 0 ≤ a) (h1 : a ≤ 9223372036854775807) (hq : 1 ≤ q) : ticks a q = if a = 9223372036854775807 ∧ q = 1 then (0, false) else (a / q + 1, true) := by
  unfold ticks
  rw [if_pos ((may_iff _ _ _).2 ⟨h0, hq, by omega⟩)]
  have hd0 : 0 ≤ a / q := Int.ediv_nonneg h0 (by omega)
  by_cases hc : a = 9223372036854775807 ∧ q = 1
  · rw [if_pos hc, hc.1, hc.2]
    exact PN.add_no ((PN.fits_not _).2 (by omega))
  · rw [if_neg hc]
    refine PN.add_yes ((PN.fits_iff _).2 ?_)
    have : a / q ≤ 9223372036854775806 := by
      by_cases h2 : q = 1
      · subst h2; rw [Int.ediv_one]; omega
      · have : a / q ≤ a / 2 := by
          have hm : (a / q) * 2 ≤ (a / q) * q := Int.mul_le_mul_of_nonneg_left (by omega) hd0
          have := Int.ediv_mul_le a (show q ≠ 0 by omega)
          omega
        omega
    omega
end Go.Proofs.Ytbgohgligponiaa.PD
