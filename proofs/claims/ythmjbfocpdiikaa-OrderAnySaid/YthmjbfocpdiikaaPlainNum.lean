/-
  Plain arithmetic of layer 1, with no program in sight.
-/
import Derived.KernelRfl
namespace Go.Proofs.Ythmjbfocpdiikaa.PN

def fits (x : Int) : Bool := decide (-9223372036854775808 ≤ x) && decide (x ≤ 9223372036854775807)
def add (a b : Int) : Int × Bool := if fits (a + b) then (a + b, true) else (0, false)
def sub (a b : Int) : Int × Bool := if fits (a - b) then (a - b, true) else (0, false)
def mul (a b : Int) : Int × Bool := if fits (a * b) then (a * b, true) else (0, false)
def ceil (a b : Int) : Int × Bool := if a < 0 ∨ b < 1 then (0, false) else ((a + (b - 1)) / b, true)

theorem fits_iff (x : Int) : fits x = true ↔ -9223372036854775808 ≤ x ∧ x ≤ 9223372036854775807 := by simp [fits]
theorem fits_not (x : Int) : fits x = false ↔ (x < -9223372036854775808 ∨ 9223372036854775807 < x) := by
  rw [← Bool.not_eq_true, fits_iff]; omega
theorem add_yes {a b : Int} (h : fits (a + b) = true) : add a b = (a + b, true) := by simp [add, h]
theorem add_no {a b : Int} (h : fits (a + b) = false) : add a b = (0, false) := by simp [add, h]
theorem sub_yes {a b : Int} (h : fits (a - b) = true) : sub a b = (a - b, true) := by simp [sub, h]
theorem sub_no {a b : Int} (h : fits (a - b) = false) : sub a b = (0, false) := by simp [sub, h]
theorem mul_yes {a b : Int} (h : fits (a * b) = true) : mul a b = (a * b, true) := by simp [mul, h]
theorem mul_no {a b : Int} (h : fits (a * b) = false) : mul a b = (0, false) := by simp [mul, h]

theorem add_range (a b : Int) : -9223372036854775808 ≤ (add a b).1 ∧ (add a b).1 ≤ 9223372036854775807 := by
  unfold add; split
  · rename_i h; exact (fits_iff _).1 h
  · simp
theorem sub_range (a b : Int) : -9223372036854775808 ≤ (sub a b).1 ∧ (sub a b).1 ≤ 9223372036854775807 := by
  unfold sub; split
  · rename_i h; exact (fits_iff _).1 h
  · simp
theorem mul_range (a b : Int) : -9223372036854775808 ≤ (mul a b).1 ∧ (mul a b).1 ≤ 9223372036854775807 := by
  unfold mul; split
  · rename_i h; exact (fits_iff _).1 h
  · simp
end Go.Proofs.Ythmjbfocpdiikaa.PN
