/-
  Contracts of num.Sub, num.Ceil, and of the references' Sub, Ceil.
-/
import Derived.Test.YtfgfnfjeopjbgaaNumC
namespace Go.Proofs.Ytfgfnfjeopjbgaa
open Go.RowKit
set_option linter.unusedVariables false

theorem num_Ceil (a b : Int) (w : World) (ha : -9223372036854775808 ≤ a ∧ a ≤ 9223372036854775807) (hb : -9223372036854775808 ≤ b ∧ b ≤ 9223372036854775807) :
    Calls Try.prog 37 #[.int .i64 a, .int .i64 b] w fun e w' => e = .returned (.tuple #[.int .i64 (PN.ceil a b).1, .bool (PN.ceil a b).2]) ∧ w = w' := by
  obtain ⟨a1, a2⟩ := ha
  obtain ⟨b1, b2⟩ := hb
  by_cases h1 : a < 0
  · have hv : PN.ceil a b = (0, false) := by unfold PN.ceil; rw [if_pos (Or.inl h1)]
    rw [hv]
    clear hv
    go_enter Try.func37, Try.ntmps37
    go_wp2
    go_ret2
    exact ⟨rfl, rfl⟩
  · have h1' : 0 ≤ a := by omega
    by_cases h2 : b < 1
    · have hv : PN.ceil a b = (0, false) := by unfold PN.ceil; rw [if_pos (Or.inr h2)]
      rw [hv]
      clear hv h1
      go_enter Try.func37, Try.ntmps37
      go_wp2
      go_ret2
      exact ⟨rfl, rfl⟩
    · have h2' : 1 ≤ b := by omega
      have hv : PN.ceil a b = ((a + (b - 1)) / b, true) := by unfold PN.ceil; rw [if_neg (by omega)]
      have hd := Int.mul_ediv_add_emod a b
      have m0 : 0 ≤ a % b := Int.emod_nonneg _ (by omega)
      have m1 : a % b < b := Int.emod_lt_of_pos _ (by omega)
      have d0 : 0 ≤ a / b := Int.ediv_nonneg h1' (by omega)
      have d1 : a / b ≤ a := Int.ediv_le_self b h1'
      by_cases h3 : 0 < a % b
      · have hq : (a + (b - 1)) / b = a / b + 1 := by
          have e : a + (b - 1) = (a % b - 1) + b * (a / b + 1) := by rw [Int.mul_add]; omega
          rw [e, Int.add_mul_ediv_left _ _ (by omega), Int.ediv_eq_zero_of_lt (by omega) (by omega)]; omega
        have hlt : a / b < a := by
          by_cases hb1 : b = 1
          · subst hb1; omega
          · have : (a / b) * 2 ≤ (a / b) * b := Int.mul_le_mul_of_nonneg_left (by omega) d0
            rw [Int.mul_comm (a / b) b] at this
            omega
        rw [hv, hq]
        clear hv hq hd h1 h2 m1
        go_enter Try.func37, Try.ntmps37
        go_wp2
        go_ret2
        exact ⟨rfl, rfl⟩
      · have h3' : a % b ≤ 0 := by omega
        have hq : (a + (b - 1)) / b = a / b := by
          have e : a + (b - 1) = (b - 1) + b * (a / b) := by omega
          rw [e, Int.add_mul_ediv_left _ _ (by omega), Int.ediv_eq_zero_of_lt (by omega) (by omega)]; omega
        rw [hv, hq]
        clear hv hq hd h1 h2 m1 h3
        go_enter Try.func37, Try.ntmps37
        go_wp2
        go_ret2
        exact ⟨rfl, rfl⟩

theorem num_Sub (a b : Int) (w : World) (ha : -9223372036854775808 ≤ a ∧ a ≤ 9223372036854775807) (hb : -9223372036854775808 ≤ b ∧ b ≤ 9223372036854775807) :
    Calls Try.prog 51 #[.int .i64 a, .int .i64 b] w fun e w' => e = .returned (.tuple #[.int .i64 (PN.sub a b).1, .bool (PN.sub a b).2]) ∧ w = w' := by
  obtain ⟨ha1, ha2⟩ := ha
  obtain ⟨hb1, hb2⟩ := hb
  by_cases hf : PN.fits (a - b) = true
  · rw [PN.sub_yes hf]
    obtain ⟨h1, h2⟩ := (PN.fits_iff _).1 hf
    clear hf
    by_cases sa : 0 ≤ a
    · by_cases sb : 0 ≤ b
      · have x1 : decide (0 ≤ a) = true := by simpa using sa
        have x2 : decide (0 ≤ b) = true := by simpa using sb
        go_enter Try.func51, Try.ntmps51
        go_wp2_with fail
        go_ret2
        exact ⟨rfl, rfl⟩
      · have x1 : decide (0 ≤ a) = true := by simpa using sa
        have x2 : decide (0 ≤ b) = false := by simpa using sb
        have x3 : decide (b ≤ a) = true := by simp; omega
        go_enter Try.func51, Try.ntmps51
        go_wp2_with fail
        go_ret2
        exact ⟨rfl, rfl⟩
    · by_cases sb : 0 ≤ b
      · have x1 : decide (0 ≤ a) = false := by simpa using sa
        have x2 : decide (0 ≤ b) = true := by simpa using sb
        have x3 : decide (b ≤ a) = false := by simp; omega
        go_enter Try.func51, Try.ntmps51
        go_wp2_with fail
        go_ret2
        exact ⟨rfl, rfl⟩
      · have x1 : decide (0 ≤ a) = false := by simpa using sa
        have x2 : decide (0 ≤ b) = false := by simpa using sb
        go_enter Try.func51, Try.ntmps51
        go_wp2_with fail
        go_ret2
        exact ⟨rfl, rfl⟩
  · have hf' : PN.fits (a - b) = false := by simpa using hf
    rw [PN.sub_no hf']
    have h1 := (PN.fits_not _).1 hf'
    clear hf hf'
    rcases h1 with h1 | h1
    · have x1 : decide (0 ≤ a) = false := by simp; omega
      have x2 : decide (0 ≤ b) = true := by simp; omega
      have x3 : decide (0 ≤ wrap64 (a - b)) = true := by unfold wrap64; simp; omega
      go_enter Try.func51, Try.ntmps51
      go_wp2_with fail
      go_ret2
      exact ⟨rfl, rfl⟩
    · have x1 : decide (0 ≤ a) = true := by simp; omega
      have x2 : decide (0 ≤ b) = false := by simp; omega
      have x3 : decide (0 ≤ wrap64 (a - b)) = false := by unfold wrap64; simp; omega
      go_enter Try.func51, Try.ntmps51
      go_wp2_with fail
      go_ret2
      exact ⟨rfl, rfl⟩

theorem ref01_Sub (a b : Int) (w : World) (ha : -9223372036854775808 ≤ a ∧ a ≤ 9223372036854775807) (hb : -9223372036854775808 ≤ b ∧ b ≤ 9223372036854775807) :
    Calls Try.prog 54 #[.int .i64 a, .int .i64 b] w fun e w' => e = .returned (.tuple #[.int .i64 (PN.sub a b).1, .bool (PN.sub a b).2]) ∧ w = w' := by
  obtain ⟨ha1, ha2⟩ := ha
  obtain ⟨hb1, hb2⟩ := hb
  by_cases hf : PN.fits (a - b) = true
  · rw [PN.sub_yes hf]
    obtain ⟨h1, h2⟩ := (PN.fits_iff _).1 hf
    clear hf
    by_cases p : b < 0
    · have p2 : ¬ 0 < b := by omega
      have p3 : a ≤ 9223372036854775807 + b := by omega
      go_enter Try.func54, Try.ntmps54
      go_wp2_with fail
      go_ret2
      exact ⟨rfl, rfl⟩
    · by_cases p2 : 0 < b
      · have p3 : -9223372036854775808 + b ≤ a := by omega
        go_enter Try.func54, Try.ntmps54
        go_wp2_with fail
        go_ret2
        exact ⟨rfl, rfl⟩
      · skip
        go_enter Try.func54, Try.ntmps54
        go_wp2_with fail
        go_ret2
        exact ⟨rfl, rfl⟩
  · have hf' : PN.fits (a - b) = false := by simpa using hf
    rw [PN.sub_no hf']
    have h1 := (PN.fits_not _).1 hf'
    clear hf hf'
    rcases h1 with h1 | h1
    · have p : 0 < b := by omega
      have p2 : ¬ b < 0 := by omega
      have p3 : a < -9223372036854775808 + b := by omega
      go_enter Try.func54, Try.ntmps54
      go_wp2_with fail
      go_ret2
      exact ⟨rfl, rfl⟩
    · have p : b < 0 := by omega
      have p3 : 9223372036854775807 + b < a := by omega
      go_enter Try.func54, Try.ntmps54
      go_wp2_with fail
      go_ret2
      exact ⟨rfl, rfl⟩

theorem ref01_Ceil (a b : Int) (w : World) (ha : -9223372036854775808 ≤ a ∧ a ≤ 9223372036854775807) (hb : -9223372036854775808 ≤ b ∧ b ≤ 9223372036854775807) :
    Calls Try.prog 38 #[.int .i64 a, .int .i64 b] w fun e w' => e = .returned (.tuple #[.int .i64 (PN.ceil a b).1, .bool (PN.ceil a b).2]) ∧ w = w' := by
  obtain ⟨a1, a2⟩ := ha
  obtain ⟨b1, b2⟩ := hb
  by_cases h1 : a < 0
  · rw [show PN.ceil a b = (0, false) by unfold PN.ceil; rw [if_pos (Or.inl h1)]]
    go_enter Try.func38, Try.ntmps38
    go_wp2_with fail
    go_ret2
    exact ⟨rfl, rfl⟩
  by_cases h2 : b < 1
  · rw [show PN.ceil a b = (0, false) by unfold PN.ceil; rw [if_pos (Or.inr h2)]]
    have h1' : 0 ≤ a := by omega
    clear h1
    go_enter Try.func38, Try.ntmps38
    go_wp2_with fail
    go_ret2
    exact ⟨rfl, rfl⟩
  have h1' : 0 ≤ a := by omega
  have h2' : 1 ≤ b := by omega
  rw [show PN.ceil a b = ((a + (b - 1)) / b, true) by unfold PN.ceil; rw [if_neg (by omega)]]
  by_cases h3 : a = 0
  · subst h3
    rw [show (0 + (b - 1)) / b = 0 from Int.ediv_eq_zero_of_lt (by omega) (by omega)]
    clear h1 h2
    go_enter Try.func38, Try.ntmps38
    go_wp2_with fail
    go_ret2
    exact ⟨rfl, rfl⟩
  have hb0 : (a == 0) = false := by simpa using h3
  have hq : (a + (b - 1)) / b = (a - 1) / b + 1 := by
    rw [show a + (b - 1) = (a - 1) + b * 1 by omega, Int.add_mul_ediv_left _ _ (by omega)]
  have hd : (a - 1).tdiv b = (a - 1) / b := Int.tdiv_eq_ediv_of_nonneg (by omega)
  have d0 : 0 ≤ (a - 1) / b := Int.ediv_nonneg (by omega) (by omega)
  have d1 : (a - 1) / b ≤ a - 1 := Int.ediv_le_self b (by omega)
  rw [hq]
  clear h1 h2 h3 hq
  go_enter Try.func38, Try.ntmps38
  go_wp2_with fail
  go_ret2
  exact ⟨rfl, rfl⟩
end Go.Proofs.Ytfgfnfjeopjbgaa
