/-
  Powers of two and the next multiple, as numbers: plain arithmetic.
-/
import Derived.Test.YtfgfnfjeopjbgaaPlainPop
import Derived.Test.YtfgfnfjeopjbgaaPlainNum
namespace Go.Proofs.Ytfgfnfjeopjbgaa.PN

def power (n : Int) : Bool := decide (0 < n) && (pop n.toNat == 1)
theorem power_pos {n : Int} (h : power n = true) : 0 < n := by
  simp only [power, Bool.and_eq_true, decide_eq_true_eq] at h; exact h.1
def up (n b : Int) : Int := (n + b - 1) - (n + b - 1) % b
def align (n b : Int) : Int × Bool := if n < 0 ∨ power b = false then (0, false) else if up n b ≤ 9223372036854775807 then (up n b, true) else (0, false)
theorem align_bad {n b : Int} (h : n < 0 ∨ power b = false) : align n b = (0, false) := by unfold align; rw [if_pos h]
theorem align_val {n b : Int} (h0 : 0 ≤ n) (hb : power b = true) : align n b = if up n b ≤ 9223372036854775807 then (up n b, true) else (0, false) := by
  unfold align; rw [if_neg (by rw [hb]; simp; omega)]
theorem up_bd {n b : Int} (h0 : 0 ≤ n) (hb : 0 < b) : n ≤ up n b ∧ up n b < n + b ∧ up n b % b = 0 ∧ 0 ≤ up n b := by
  have m0 : 0 ≤ (n + b - 1) % b := Int.emod_nonneg _ (by omega)
  have m1 : (n + b - 1) % b < b := Int.emod_lt_of_pos _ hb
  have hd := Int.mul_ediv_add_emod (n + b - 1) b
  have e : up n b = b * ((n + b - 1) / b) := by unfold up; omega
  refine ⟨by unfold up; omega, by unfold up; omega, ?_, by unfold up; omega⟩
  rw [e]; exact Int.mul_emod_right _ _
/-- The other way: by what is left. -/
theorem up_left {n b : Int} (h0 : 0 ≤ n) (hb : 0 < b) : up n b = if n % b = 0 then n else n + (b - n % b) := by
  obtain ⟨u1, u2, u3, _⟩ := up_bd h0 hb
  have m0 : 0 ≤ n % b := Int.emod_nonneg _ (by omega)
  have m1 : n % b < b := Int.emod_lt_of_pos _ hb
  have hn := Int.mul_ediv_add_emod n b
  have hu := Int.mul_ediv_add_emod (up n b) b
  rw [u3] at hu
  split
  · rename_i h
    rw [h] at hn
    have hlt : up n b / b < n / b + 1 := by
      refine Int.lt_of_mul_lt_mul_left (a := b) ?_ (by omega)
      rw [Int.mul_add, Int.mul_one]; omega
    have hle : n / b ≤ up n b / b := by
      refine Int.le_of_mul_le_mul_left (a := b) ?_ hb
      omega
    have : up n b / b = n / b := by omega
    rw [this] at hu
    omega
  · rename_i h
    have hgt : n / b < up n b / b := by
      refine Int.lt_of_mul_lt_mul_left (a := b) ?_ (by omega)
      omega
    have hlt : up n b / b < n / b + 2 := by
      refine Int.lt_of_mul_lt_mul_left (a := b) ?_ (by omega)
      rw [Int.mul_add]; omega
    have : up n b / b = n / b + 1 := by omega
    rw [this, Int.mul_add] at hu
    omega
theorem up_same {n b : Int} (h0 : 0 ≤ n) (hb : 0 < b) (h : n % b = 0) : up n b = n := by rw [up_left h0 hb, if_pos h]
end Go.Proofs.Ytfgfnfjeopjbgaa.PN
