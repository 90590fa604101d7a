/-
  The contract of num.Mul.
-/
import Derived.Test.YtfgfnfjeopjbgaaNumB
namespace Go.Proofs.Ytfgfnfjeopjbgaa
open Go.RowKit
set_option linter.unusedVariables false

theorem num_Mul_hi (a b : Int) (H L : Nat) (w : World) (a1 : -9223372036854775808 ≤ a) (a2 : a ≤ 9223372036854775807) (b1 : -9223372036854775808 ≤ b) (b2 : b ≤ 9223372036854775807) (HM : Hid (∀ W, Calls Try.prog 88 #[.int .u64 (a.natAbs : Int), .int .u64 (b.natAbs : Int)] W fun e w' => e = .returned (.tuple #[.int .u64 (H : Int), .int .u64 (L : Int)]) ∧ W = w')) (h : (0 : Int) < (H : Int)) :
    Calls Try.prog 52 #[.int .i64 a, .int .i64 b] w fun e w' => e = .returned (.tuple #[.int .i64 0, .bool false]) ∧ w = w' := by
  go_enter Try.func52, Try.ntmps52
  go_wp2_with fail
  refine (num_abs a _ a1 a2).mono ?_
  rintro e w1 ⟨rfl, rfl⟩
  go_wp2_with fail
  refine (num_abs b _ b1 b2).mono ?_
  rintro e w1 ⟨rfl, rfl⟩
  go_wp2_with fail
  refine (HM.out _).mono ?_
  rintro e w1 ⟨rfl, rfl⟩
  go_wp2_with fail
  go_ret2
  exact ⟨rfl, rfl⟩

theorem num_Mul_lo (a b : Int) (H L : Nat) (w : World) (a1 : -9223372036854775808 ≤ a) (a2 : a ≤ 9223372036854775807) (b1 : -9223372036854775808 ≤ b) (b2 : b ≤ 9223372036854775807) (HM : Hid (∀ W, Calls Try.prog 88 #[.int .u64 (a.natAbs : Int), .int .u64 (b.natAbs : Int)] W fun e w' => e = .returned (.tuple #[.int .u64 (H : Int), .int .u64 (L : Int)]) ∧ W = w')) (h : (H : Int) ≤ 0) (h2 : (9223372036854775808 : Int) < (L : Int)) :
    Calls Try.prog 52 #[.int .i64 a, .int .i64 b] w fun e w' => e = .returned (.tuple #[.int .i64 0, .bool false]) ∧ w = w' := by
  go_enter Try.func52, Try.ntmps52
  go_wp2_with fail
  refine (num_abs a _ a1 a2).mono ?_
  rintro e w1 ⟨rfl, rfl⟩
  go_wp2_with fail
  refine (num_abs b _ b1 b2).mono ?_
  rintro e w1 ⟨rfl, rfl⟩
  go_wp2_with fail
  refine (HM.out _).mono ?_
  rintro e w1 ⟨rfl, rfl⟩
  go_wp2_with fail
  go_ret2
  exact ⟨rfl, rfl⟩

theorem num_Mul_eqp (a b : Int) (H L : Nat) (w : World) (a1 : -9223372036854775808 ≤ a) (a2 : a ≤ 9223372036854775807) (b1 : -9223372036854775808 ≤ b) (b2 : b ≤ 9223372036854775807) (HM : Hid (∀ W, Calls Try.prog 88 #[.int .u64 (a.natAbs : Int), .int .u64 (b.natAbs : Int)] W fun e w' => e = .returned (.tuple #[.int .u64 (H : Int), .int .u64 (L : Int)]) ∧ W = w')) (h : (H : Int) ≤ 0) (h2 : (9223372036854775808 < (L : Int)) = False) (h3 : ((L : Int) == 9223372036854775808) = true) (h4 : (decide (a < 0) == decide (b < 0)) = true) :
    Calls Try.prog 52 #[.int .i64 a, .int .i64 b] w fun e w' => e = .returned (.tuple #[.int .i64 0, .bool false]) ∧ w = w' := by
  go_enter Try.func52, Try.ntmps52
  go_wp2_with fail
  refine (num_abs a _ a1 a2).mono ?_
  rintro e w1 ⟨rfl, rfl⟩
  go_wp2_with fail
  refine (num_abs b _ b1 b2).mono ?_
  rintro e w1 ⟨rfl, rfl⟩
  go_wp2_with fail
  refine (HM.out _).mono ?_
  rintro e w1 ⟨rfl, rfl⟩
  go_wp2_with fail
  go_ret2
  exact ⟨rfl, rfl⟩

theorem num_Mul_eqn (a b : Int) (H L : Nat) (w : World) (a1 : -9223372036854775808 ≤ a) (a2 : a ≤ 9223372036854775807) (b1 : -9223372036854775808 ≤ b) (b2 : b ≤ 9223372036854775807) (HM : Hid (∀ W, Calls Try.prog 88 #[.int .u64 (a.natAbs : Int), .int .u64 (b.natAbs : Int)] W fun e w' => e = .returned (.tuple #[.int .u64 (H : Int), .int .u64 (L : Int)]) ∧ W = w')) (h : (H : Int) ≤ 0) (h2 : (9223372036854775808 < (L : Int)) = False) (h3 : ((L : Int) == 9223372036854775808) = true) (h4 : (decide (a < 0) == decide (b < 0)) = false) :
    Calls Try.prog 52 #[.int .i64 a, .int .i64 b] w fun e w' => e = .returned (.tuple #[.int .i64 (-9223372036854775808), .bool true]) ∧ w = w' := by
  go_enter Try.func52, Try.ntmps52
  go_wp2_with fail
  refine (num_abs a _ a1 a2).mono ?_
  rintro e w1 ⟨rfl, rfl⟩
  go_wp2_with fail
  refine (num_abs b _ b1 b2).mono ?_
  rintro e w1 ⟨rfl, rfl⟩
  go_wp2_with fail
  refine (HM.out _).mono ?_
  rintro e w1 ⟨rfl, rfl⟩
  go_wp2_with fail
  go_ret2
  exact ⟨rfl, rfl⟩

theorem num_Mul_n (a b : Int) (H L : Nat) (w : World) (a1 : -9223372036854775808 ≤ a) (a2 : a ≤ 9223372036854775807) (b1 : -9223372036854775808 ≤ b) (b2 : b ≤ 9223372036854775807) (HM : Hid (∀ W, Calls Try.prog 88 #[.int .u64 (a.natAbs : Int), .int .u64 (b.natAbs : Int)] W fun e w' => e = .returned (.tuple #[.int .u64 (H : Int), .int .u64 (L : Int)]) ∧ W = w')) (h : (H : Int) ≤ 0) (h2 : (L : Int) ≤ 9223372036854775807) (h3 : ((L : Int) == 9223372036854775808) = false) (h4 : (decide (a < 0) == decide (b < 0)) = false) :
    Calls Try.prog 52 #[.int .i64 a, .int .i64 b] w fun e w' => e = .returned (.tuple #[.int .i64 (-(L : Int)), .bool true]) ∧ w = w' := by
  go_enter Try.func52, Try.ntmps52
  go_wp2_with fail
  refine (num_abs a _ a1 a2).mono ?_
  rintro e w1 ⟨rfl, rfl⟩
  go_wp2_with fail
  refine (num_abs b _ b1 b2).mono ?_
  rintro e w1 ⟨rfl, rfl⟩
  go_wp2_with fail
  refine (HM.out _).mono ?_
  rintro e w1 ⟨rfl, rfl⟩
  go_wp2_with fail
  go_ret2
  exact ⟨rfl, rfl⟩

theorem num_Mul_p (a b : Int) (H L : Nat) (w : World) (a1 : -9223372036854775808 ≤ a) (a2 : a ≤ 9223372036854775807) (b1 : -9223372036854775808 ≤ b) (b2 : b ≤ 9223372036854775807) (HM : Hid (∀ W, Calls Try.prog 88 #[.int .u64 (a.natAbs : Int), .int .u64 (b.natAbs : Int)] W fun e w' => e = .returned (.tuple #[.int .u64 (H : Int), .int .u64 (L : Int)]) ∧ W = w')) (h : (H : Int) ≤ 0) (h2 : (L : Int) ≤ 9223372036854775807) (h3 : ((L : Int) == 9223372036854775808) = false) (h4 : (decide (a < 0) == decide (b < 0)) = true) :
    Calls Try.prog 52 #[.int .i64 a, .int .i64 b] w fun e w' => e = .returned (.tuple #[.int .i64 (L : Int), .bool true]) ∧ w = w' := by
  go_enter Try.func52, Try.ntmps52
  go_wp2_with fail
  refine (num_abs a _ a1 a2).mono ?_
  rintro e w1 ⟨rfl, rfl⟩
  go_wp2_with fail
  refine (num_abs b _ b1 b2).mono ?_
  rintro e w1 ⟨rfl, rfl⟩
  go_wp2_with fail
  refine (HM.out _).mono ?_
  rintro e w1 ⟨rfl, rfl⟩
  go_wp2_with fail
  go_ret2
  exact ⟨rfl, rfl⟩

theorem num_Mul (a b : Int) (w : World) (ha : -9223372036854775808 ≤ a ∧ a ≤ 9223372036854775807) (hb : -9223372036854775808 ≤ b ∧ b ≤ 9223372036854775807) :
    Calls Try.prog 52 #[.int .i64 a, .int .i64 b] w fun e w' => e = .returned (.tuple #[.int .i64 (PN.mul a b).1, .bool (PN.mul a b).2]) ∧ w = w' := by
  obtain ⟨a1, a2⟩ := ha
  obtain ⟨b1, b2⟩ := hb
  have hM : ∀ W, Calls Try.prog 88 #[.int .u64 (a.natAbs : Int), .int .u64 (b.natAbs : Int)] W fun e w' => e = .returned (.tuple #[.int .u64 ((a.natAbs * b.natAbs / 18446744073709551616 : Nat) : Int), .int .u64 ((a.natAbs * b.natAbs % 18446744073709551616 : Nat) : Int)]) ∧ W = w' :=
    fun W => (bits_Mul64 a.natAbs b.natAbs (by omega) (by omega) W).mono fun e w' ⟨h1, h2⟩ => ⟨h1, h2.symm⟩
  have hab : a * b = if (decide (a < 0) == decide (b < 0)) = false then -((a.natAbs * b.natAbs : Nat) : Int) else ((a.natAbs * b.natAbs : Nat) : Int) := by
    rw [Int.natCast_mul]
    by_cases x : a < 0 <;> by_cases y : b < 0
    · rw [show (a.natAbs : Int) = -a by omega, show (b.natAbs : Int) = -b by omega]; simp [x, y, Int.neg_mul, Int.mul_neg]
    · rw [show (a.natAbs : Int) = -a by omega, show (b.natAbs : Int) = b by omega]; simp [x, y, Int.neg_mul]
    · rw [show (a.natAbs : Int) = a by omega, show (b.natAbs : Int) = -b by omega]; simp [x, y, Int.mul_neg]
    · rw [show (a.natAbs : Int) = a by omega, show (b.natAbs : Int) = b by omega]; simp [x, y]
  generalize a.natAbs * b.natAbs = p at *
  by_cases h1 : p / 18446744073709551616 = 0
  · by_cases h2 : 9223372036854775808 < p % 18446744073709551616
    · have hf : PN.fits (a * b) = false := (PN.fits_not _).2 (by rw [hab]; split <;> omega)
      rw [PN.mul_no hf]; exact num_Mul_lo a b _ _ w a1 a2 b1 b2 hM (by omega) (by omega)
    · by_cases h3 : p % 18446744073709551616 = 9223372036854775808
      · by_cases h4 : (decide (a < 0) == decide (b < 0)) = false
        · rw [if_pos h4] at hab
          have hf : PN.fits (a * b) = true := (PN.fits_iff _).2 (by omega)
          rw [PN.mul_yes hf, show a * b = -9223372036854775808 by omega]; exact num_Mul_eqn a b _ _ w a1 a2 b1 b2 hM (by omega) (by simp; omega) (by simp; omega) h4
        · rw [if_neg h4] at hab
          have hf : PN.fits (a * b) = false := (PN.fits_not _).2 (by omega)
          rw [PN.mul_no hf]; exact num_Mul_eqp a b _ _ w a1 a2 b1 b2 hM (by omega) (by simp; omega) (by simp; omega) (by simpa using h4)
      · by_cases h4 : (decide (a < 0) == decide (b < 0)) = false
        · rw [if_pos h4] at hab
          have hf : PN.fits (a * b) = true := (PN.fits_iff _).2 (by omega)
          rw [PN.mul_yes hf, show a * b = -((p % 18446744073709551616 : Nat) : Int) by omega]; exact num_Mul_n a b _ _ w a1 a2 b1 b2 hM (by omega) (by omega) (by simp; omega) h4
        · rw [if_neg h4] at hab
          have hf : PN.fits (a * b) = true := (PN.fits_iff _).2 (by omega)
          rw [PN.mul_yes hf, show a * b = ((p % 18446744073709551616 : Nat) : Int) by omega]; exact num_Mul_p a b _ _ w a1 a2 b1 b2 hM (by omega) (by omega) (by simp; omega) (by simpa using h4)
  · have hf : PN.fits (a * b) = false := (PN.fits_not _).2 (by rw [hab]; split <;> omega)
    rw [PN.mul_no hf]; exact num_Mul_hi a b _ _ w a1 a2 b1 b2 hM (by omega)
end Go.Proofs.Ytfgfnfjeopjbgaa
