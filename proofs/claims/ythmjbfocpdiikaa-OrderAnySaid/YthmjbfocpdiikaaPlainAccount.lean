/-
  Accounts, as numbers: plain arithmetic.
-/
import Derived.KernelRfl
namespace Go.Proofs.Ythmjbfocpdiikaa.PA

def right (c h r : Int) : Bool := decide (1 ≤ c) && decide (c ≤ 1048576) && decide (0 ≤ h) && decide (0 ≤ r) && decide (h + r ≤ c)
theorem right_iff (c h r : Int) : right c h r = true ↔ 1 ≤ c ∧ c ≤ 1048576 ∧ 0 ≤ h ∧ 0 ≤ r ∧ h + r ≤ c := by
  simp only [right, Bool.and_eq_true, decide_eq_true_eq]; omega
theorem right_no (c h r : Int) : right c h r = false ↔ ¬ (1 ≤ c ∧ c ≤ 1048576 ∧ 0 ≤ h ∧ 0 ≤ r ∧ h + r ≤ c) := by
  rw [← right_iff]; simp

/-- 1 Reserve, 2 Grant, 3 Cancel, 4 Give: the account behind it, and what is wrong. -/
def doo (call c h r n : Int) : (Int × Int × Int) × Int :=
  if right c h r = false ∨ n < 1 then ((0, 0, 0), 2)
  else if call = 1 then (if c - h - r < n then ((0, 0, 0), 7) else ((c, h, r + n), 0))
  else if call = 4 then (if h < n then ((0, 0, 0), 20) else ((c, h - n, r), 0))
  else if r < n then ((0, 0, 0), 20)
  else if call = 2 then ((c, h + n, r - n), 0)
  else ((c, h, r - n), 0)
theorem doo_arg {call c h r n : Int} (hh : right c h r = false ∨ n < 1) : doo call c h r n = ((0, 0, 0), 2) := by unfold doo; rw [if_pos hh]
theorem doo1_no {c h r n : Int} (h1 : right c h r = true) (h2 : 1 ≤ n) (h3 : c - h - r < n) : doo 1 c h r n = ((0, 0, 0), 7) := by
  unfold doo; rw [if_neg (by rw [h1]; simp; omega), if_pos rfl, if_pos h3]
theorem doo1_yes {c h r n : Int} (h1 : right c h r = true) (h2 : 1 ≤ n) (h3 : n ≤ c - h - r) : doo 1 c h r n = ((c, h, r + n), 0) := by
  unfold doo; rw [if_neg (by rw [h1]; simp; omega), if_pos rfl, if_neg (by omega)]
theorem doo4_no {c h r n : Int} (h1 : right c h r = true) (h2 : 1 ≤ n) (h3 : h < n) : doo 4 c h r n = ((0, 0, 0), 20) := by
  unfold doo; rw [if_neg (by rw [h1]; simp; omega), if_neg (by omega), if_pos rfl, if_pos h3]
theorem doo4_yes {c h r n : Int} (h1 : right c h r = true) (h2 : 1 ≤ n) (h3 : n ≤ h) : doo 4 c h r n = ((c, h - n, r), 0) := by
  unfold doo; rw [if_neg (by rw [h1]; simp; omega), if_neg (by omega), if_pos rfl, if_neg (by omega)]
theorem doo2_no {c h r n : Int} (h1 : right c h r = true) (h2 : 1 ≤ n) (h3 : r < n) : doo 2 c h r n = ((0, 0, 0), 20) := by
  unfold doo; rw [if_neg (by rw [h1]; simp; omega), if_neg (by omega), if_neg (by omega), if_pos h3]
theorem doo2_yes {c h r n : Int} (h1 : right c h r = true) (h2 : 1 ≤ n) (h3 : n ≤ r) : doo 2 c h r n = ((c, h + n, r - n), 0) := by
  unfold doo; rw [if_neg (by rw [h1]; simp; omega), if_neg (by omega), if_neg (by omega), if_neg (by omega), if_pos rfl]
theorem doo3_no {c h r n : Int} (h1 : right c h r = true) (h2 : 1 ≤ n) (h3 : r < n) : doo 3 c h r n = ((0, 0, 0), 20) := by
  unfold doo; rw [if_neg (by rw [h1]; simp; omega), if_neg (by omega), if_neg (by omega), if_pos h3]
theorem doo3_yes {c h r n : Int} (h1 : right c h r = true) (h2 : 1 ≤ n) (h3 : n ≤ r) : doo 3 c h r n = ((c, h, r - n), 0) := by
  unfold doo; rw [if_neg (by rw [h1]; simp; omega), if_neg (by omega), if_neg (by omega), if_neg (by omega), if_neg (by omega)]
def need (c h r : Int) : Int := if right c h r then c - h else 0
def room (c h r : Int) : Int := if right c h r then c - h - r else 0
def new (n : Int) : (Int × Int × Int) × Int := if n < 1 ∨ 1048576 < n then ((0, 0, 0), 2) else ((n, 0, 0), 0)
end Go.Proofs.Ythmjbfocpdiikaa.PA
