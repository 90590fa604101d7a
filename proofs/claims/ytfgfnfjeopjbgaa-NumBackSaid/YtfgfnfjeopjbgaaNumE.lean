/-
  The contract of the reference's Mul.
-/
import Derived.Test.YtfgfnfjeopjbgaaNumD
namespace Go.Proofs.Ytfgfnfjeopjbgaa
open Go.RowKit
set_option linter.unusedVariables false

theorem PN.undone {a b p : Int} (hb : -9223372036854775808 ≤ b ∧ b ≤ 9223372036854775807) (b0 : b ≠ 0) (hp : p % 18446744073709551616 = (a * b) % 18446744073709551616) (hne : p ≠ a * b) : p.tdiv b ≠ a := by
  intro h
  have h1 := Int.tmod_add_mul_tdiv p b
  rw [h, Int.mul_comm b a] at h1
  have h2 := Int.natAbs_tmod p b
  have h3 := Nat.mod_lt p.natAbs (show 0 < b.natAbs by omega)
  generalize p.tmod b = r at *
  generalize a * b = q at *
  omega

theorem ref01_Mul (a b : Int) (w : World) (ha : -9223372036854775808 ≤ a ∧ a ≤ 9223372036854775807) (hb : -9223372036854775808 ≤ b ∧ b ≤ 9223372036854775807) :
    Calls Try.prog 55 #[.int .i64 a, .int .i64 b] w fun e w' => e = .returned (.tuple #[.int .i64 (PN.mul a b).1, .bool (PN.mul a b).2]) ∧ w = w' := by
  by_cases a0 : a = 0
  · subst a0
    rw [PN.mul_yes ((PN.fits_iff _).2 (by omega)), Int.zero_mul]
    go_enter Try.func55, Try.ntmps55
    go_wp2_with fail
    go_ret2
    exact ⟨rfl, rfl⟩
  have a0b : (a == 0) = false := by simpa using a0
  by_cases b0 : b = 0
  · subst b0
    rw [PN.mul_yes ((PN.fits_iff _).2 (by omega)), Int.mul_zero]
    clear a0
    go_enter Try.func55, Try.ntmps55
    go_wp2_with fail
    go_ret2
    exact ⟨rfl, rfl⟩
  have b0b : (b == 0) = false := by simpa using b0
  by_cases s1 : a = -1 ∧ b = -9223372036854775808
  · obtain ⟨rfl, rfl⟩ := s1
    rw [PN.mul_no ((PN.fits_not _).2 (by omega))]
    clear a0 b0 a0b b0b
    go_enter Try.func55, Try.ntmps55
    go_wp2_with fail
    go_ret2
    exact ⟨rfl, rfl⟩
  by_cases s2 : b = -1 ∧ a = -9223372036854775808
  · obtain ⟨rfl, rfl⟩ := s2
    rw [PN.mul_no ((PN.fits_not _).2 (by omega))]
    clear a0 b0 a0b b0b s1
    go_enter Try.func55, Try.ntmps55
    go_wp2_with fail
    go_ret2
    exact ⟨rfl, rfl⟩
  by_cases s3 : a = -1
  · subst s3
    have g1 : (b == -9223372036854775808) = false := by simp only [beq_eq_false_iff_ne, ne_eq]; omega
    rw [PN.mul_yes ((PN.fits_iff _).2 (by omega)), show -1 * b = -b by omega]
    by_cases s4 : b = -1
    · subst s4
      clear g1 s1 s2 a0 b0 a0b b0b
      go_enter Try.func55, Try.ntmps55
      go_wp2_with fail
      go_ret2
      exact ⟨rfl, rfl⟩
    have s4b : (b == -1) = false := by simpa using s4
    have g2 : -9223372036854775808 < b := by omega
    have x1 : (-b).tdiv b = -1 := by rw [Int.neg_tdiv, Int.tdiv_self b0]
    clear s1 s2 a0
    go_enter Try.func55, Try.ntmps55
    go_wp2_with fail
    go_ret2
    exact ⟨rfl, rfl⟩
  by_cases s4 : b = -1
  · subst s4
    have g1 : (a == -9223372036854775808) = false := by simp only [beq_eq_false_iff_ne, ne_eq]; omega
    have s3b : (a == -1) = false := by simpa using s3
    have g2 : -9223372036854775808 < a := by omega
    rw [PN.mul_yes ((PN.fits_iff _).2 (by omega)), show a * -1 = -a by omega]
    clear s1 s2
    go_enter Try.func55, Try.ntmps55
    go_wp2_with fail
    go_ret2
    exact ⟨rfl, rfl⟩
  have s3b : (a == -1) = false := by simpa using s3
  have s4b : (b == -1) = false := by simpa using s4
  obtain ⟨p, hp⟩ : ∃ p, IntKind.i64.wrap (a * b) = p := ⟨_, rfl⟩
  have hp2 : p % 18446744073709551616 = (a * b) % 18446744073709551616 := by
    rw [← hp, IntKind.wrap_i64]; generalize a * b = q; omega
  have hp3 : -9223372036854775808 ≤ p ∧ p ≤ 9223372036854775807 := by
    rw [← hp, IntKind.wrap_i64]; generalize a * b = q; omega
  have hq : wrap64 (p.tdiv b) = p.tdiv b := by
    have h1 : (p.tdiv b).natAbs = p.natAbs / b.natAbs := Int.natAbs_tdiv p b
    have h2 : p.natAbs / b.natAbs ≤ p.natAbs := Nat.div_le_self _ _
    have h3 : 2 ≤ b.natAbs → p.natAbs / b.natAbs ≤ p.natAbs / 2 := fun h => Nat.div_le_div_left h (by omega)
    have h4 : b = 1 → p.tdiv b = p := fun h => by rw [h, Int.tdiv_one]
    generalize p.tdiv b = q at *
    generalize p.natAbs / b.natAbs = r at *
    unfold wrap64
    by_cases hb1 : b = 1
    · rw [h4 hb1]; omega
    · have := h3 (by omega)
      omega
  clear s1 s2 s3 s4 a0
  by_cases hf : PN.fits (a * b) = true
  · have hfb := (PN.fits_iff _).1 hf
    have hpe : a * b = p := by rw [← hp, IntKind.wrap_i64]; generalize a * b = q at *; omega
    rw [PN.mul_yes hf, hpe]
    have x1 : (wrap64 (p.tdiv b) != a) = false := by rw [hq, ← hpe, Int.mul_tdiv_cancel a b0]; simp
    clear hpe hfb hf hq hp2 hp3
    go_enter Try.func55, Try.ntmps55
    go_wp2_with fail
    go_ret2
    exact ⟨rfl, rfl⟩
  · have hf' : PN.fits (a * b) = false := by simpa using hf
    rw [PN.mul_no hf']
    have hfb := (PN.fits_not _).1 hf'
    have hu : p.tdiv b ≠ a := PN.undone hb b0 hp2 (by generalize a * b = q at *; omega)
    have x1 : (wrap64 (p.tdiv b) != a) = true := by rw [hq]; simpa using hu
    clear hfb hf hf' hq hp2 hp3 hu
    go_enter Try.func55, Try.ntmps55
    go_wp2_with fail
    go_ret2
    exact ⟨rfl, rfl⟩
end Go.Proofs.Ytfgfnfjeopjbgaa
