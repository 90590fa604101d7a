/-
  The plan of layer 22: plain arithmetic.
-/
import Derived.Test.YtbgohgligponiaaPlainDrain
namespace Go.Proofs.Ytbgohgligponiaa.PD

/-- What waits behind i ticks. -/
def rem (w q : Int) : Nat → Int
  | 0 => w
  | i + 1 => rem w q i - min (rem w q i) q
def el (w q : Int) (i : Nat) : Int := min (rem w q i) q
def planL (w q : Int) (n : Nat) : List Int := (List.range n).map (el w q)
def plan (w q : Int) : List Int := if (PN.ceil w q).2 = true ∧ (PN.ceil w q).1 ≤ 4096 then planL w q (PN.ceil w q).1.toNat else []

theorem rem_val {w q : Int} (hw : 0 ≤ w) (hq : 1 ≤ q) (i : Nat) : rem w q i = if q * i ≤ w then w - q * i else 0 := by
  induction i with
  | zero => simp [rem, hw]
  | succ i ih =>
    have e : q * ((i + 1 : Nat) : Int) = q * (i : Int) + q := by rw [Int.natCast_add, Int.mul_add]; simp
    rw [rem, ih, e]
    by_cases h1 : q * (i : Int) ≤ w
    · rw [if_pos h1]
      by_cases h2 : q * (i : Int) + q ≤ w
      · rw [if_pos h2]; omega
      · rw [if_neg h2]; omega
    · rw [if_neg h1, if_neg (by omega)]; omega
theorem rem_bd {w q : Int} (hw : 0 ≤ w) (hq : 1 ≤ q) (i : Nat) : 0 ≤ rem w q i ∧ rem w q i ≤ w := by
  rw [rem_val hw hq]
  have : 0 ≤ q * (i : Int) := Int.mul_nonneg (by omega) (by omega)
  split <;> omega
theorem el_bd {w q : Int} (hw : 0 ≤ w) (hq : 1 ≤ q) (i : Nat) : 0 ≤ el w q i ∧ el w q i ≤ w ∧ el w q i ≤ rem w q i := by
  have := rem_bd hw hq i
  unfold el
  omega
theorem ceil_bd {w q : Int} (hw : 0 ≤ w) (hq : 1 ≤ q) : (PN.ceil w q).2 = true ∧ 0 ≤ (PN.ceil w q).1 ∧ (PN.ceil w q).1 ≤ w ∧ w ≤ q * (PN.ceil w q).1 ∧ q * (PN.ceil w q).1 < w + q := by
  have e : PN.ceil w q = ((w + (q - 1)) / q, true) := by unfold PN.ceil; rw [if_neg (by omega)]
  rw [e]
  have hd := Int.mul_ediv_add_emod (w + (q - 1)) q
  have m0 : 0 ≤ (w + (q - 1)) % q := Int.emod_nonneg _ (by omega)
  have m1 : (w + (q - 1)) % q < q := Int.emod_lt_of_pos _ (by omega)
  have d0 : 0 ≤ (w + (q - 1)) / q := Int.ediv_nonneg (by omega) (by omega)
  refine ⟨rfl, d0, ?_, ?_, ?_⟩
  · show (w + (q - 1)) / q ≤ w
    by_cases h0 : w = 0
    · subst h0
      rw [Int.ediv_eq_zero_of_lt (by omega) (by omega)]; omega
    · have hm : (w + (q - 1)) / q - 1 ≤ q * ((w + (q - 1)) / q - 1) := by
        by_cases hz : 1 ≤ (w + (q - 1)) / q
        · have := Int.mul_le_mul_of_nonneg_right (show (1 : Int) ≤ q by omega) (show (0 : Int) ≤ (w + (q - 1)) / q - 1 by omega)
          omega
        · have : (w + (q - 1)) / q = 0 := by omega
          rw [this] at hd
          omega
      rw [Int.mul_sub] at hm
      omega
  · show w ≤ q * ((w + (q - 1)) / q)
    omega
  · show q * ((w + (q - 1)) / q) < w + q
    omega
theorem ceil_no {w q : Int} (h : ¬ (0 ≤ w ∧ 1 ≤ q)) : PN.ceil w q = (0, false) := by unfold PN.ceil; rw [if_pos (by omega)]
theorem rem_pos {w q : Int} (hw : 0 ≤ w) (hq : 1 ≤ q) {i : Nat} (hi : (i : Int) < (PN.ceil w q).1) : 0 < rem w q i := by
  obtain ⟨_, _, _, _, h⟩ := ceil_bd hw hq
  rw [rem_val hw hq]
  have hm : q * ((i : Int) + 1) ≤ q * (PN.ceil w q).1 := Int.mul_le_mul_of_nonneg_left (by omega) (by omega)
  rw [Int.mul_add] at hm
  rw [if_pos (by omega)]
  omega
theorem rem_end {w q : Int} (hw : 0 ≤ w) (hq : 1 ≤ q) : rem w q (PN.ceil w q).1.toNat = 0 := by
  obtain ⟨_, h0, _, h, _⟩ := ceil_bd hw hq
  rw [rem_val hw hq, Int.toNat_of_nonneg h0]
  split <;> omega
theorem planL_len (w q : Int) (n : Nat) : (planL w q n).length = n := by simp [planL]
theorem planL_get {w q : Int} {n i : Nat} (h : i < n) : (planL w q n).getD i 0 = el w q i := by simp [planL, List.getD, h]
theorem planL_snoc (w q : Int) (n : Nat) : planL w q (n + 1) = planL w q n ++ [el w q n] := by simp [planL, List.range_succ]
theorem planL_sum (w q : Int) (n : Nat) : (planL w q n).sum = w - rem w q n := by
  induction n with
  | zero => simp [planL, rem]
  | succ n ih =>
    rw [planL_snoc, List.sum_append, ih]
    show _ + ([el w q n]).sum = w - (rem w q n - min (rem w q n) q)
    simp only [List.sum_cons, List.sum_nil, el]
    omega
end Go.Proofs.Ytbgohgligponiaa.PD
