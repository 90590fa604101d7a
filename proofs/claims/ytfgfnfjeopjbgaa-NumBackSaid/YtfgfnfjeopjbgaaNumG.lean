/-
  The walk of NumBack.
-/
import Derived.Test.YtfgfnfjeopjbgaaNumE
import Derived.Test.YtfgfnfjeopjbgaaLen
import Derived.Test.YtfgfnfjeopjbgaaAlign
import Derived.Test.YtfgfnfjeopjbgaaNumF
namespace Go.Proofs.Ytfgfnfjeopjbgaa
open Go.RowKit
set_option linter.unusedVariables false

theorem PN.ceil_least {a b : Int} (ha : 0 ≤ a) (hb : 1 ≤ b) : 0 ≤ (a + (b - 1)) / b ∧ a ≤ (a + (b - 1)) / b * b ∧ (a = 0 → (a + (b - 1)) / b = 0) ∧ (0 < a → 1 ≤ (a + (b - 1)) / b ∧ ((a + (b - 1)) / b - 1) * b < a) ∧ (a + (b - 1)) / b ≤ a := by
  have hd := Int.mul_ediv_add_emod (a + (b - 1)) b
  have m0 : 0 ≤ (a + (b - 1)) % b := Int.emod_nonneg _ (by omega)
  have m1 : (a + (b - 1)) % b < b := Int.emod_lt_of_pos _ (by omega)
  have d0 : 0 ≤ (a + (b - 1)) / b := Int.ediv_nonneg (by omega) (by omega)
  have hle : (a + (b - 1)) / b ≤ a := by
    by_cases h0 : a = 0
    · subst h0; rw [Int.zero_add, Int.ediv_eq_zero_of_lt (by omega) (by omega)]; omega
    · have e : a + (b - 1) = (a - 1) + b * 1 := by omega
      rw [e, Int.add_mul_ediv_left _ _ (by omega)]
      have := Int.ediv_le_self b (show 0 ≤ a - 1 by omega)
      omega
  have hz : a = 0 → (a + (b - 1)) / b = 0 := by
    intro h0; subst h0; rw [Int.zero_add, Int.ediv_eq_zero_of_lt (by omega) (by omega)]
  have hc := Int.mul_comm b ((a + (b - 1)) / b)
  refine ⟨d0, by omega, hz, fun h => ⟨?_, ?_⟩, hle⟩
  · rcases Int.lt_or_le 0 ((a + (b - 1)) / b) with h1 | h1
    · omega
    · exfalso
      have : (a + (b - 1)) / b = 0 := by omega
      rw [this, Int.mul_zero] at hd
      omega
  · rw [Int.sub_mul, Int.one_mul]; omega

theorem law01_NumBack (a b : Int) (w : World) (ha : -9223372036854775808 ≤ a ∧ a ≤ 9223372036854775807) (hb : -9223372036854775808 ≤ b ∧ b ≤ 9223372036854775807) : Calls Try.prog 12 #[.int .i64 a, .int .i64 b] w fun e w' => e = .returned (.bool true) ∧ w = w' := by
  have c1 := fun W => num_Add a b W ha hb
  have c3 := fun W => num_Ceil a b W ha hb
  have hadd : (PN.add a b).2 = false ∨ ((PN.add a b).2 = true ∧ ∀ W, Calls Try.prog 51 #[.int .i64 (PN.add a b).1, .int .i64 b] W fun e w' => e = .returned (.tuple #[.int .i64 a, .bool true]) ∧ W = w') := by
    cases hf : PN.fits (a + b)
    · left; rw [PN.add_no hf]
    · right
      have hfb := (PN.fits_iff _).1 hf
      rw [PN.add_yes hf]
      refine ⟨rfl, fun W => ?_⟩
      have := num_Sub (a + b) b W hfb hb
      rwa [PN.sub_yes ((PN.fits_iff _).2 (by omega)), show a + b - b = a by omega] at this
  have hceil : (PN.ceil a b).2 = false ∨ ((PN.ceil a b).2 = true ∧ ∃ (e m l : Int) (s : Bool), (PN.ceil a b).1 = e ∧ 0 ≤ e ∧ e ≤ 9223372036854775807 ∧ (s = true → a ≤ m) ∧ (e = 0 → a = 0) ∧ (0 < e → l < a) ∧
      (∀ W, Calls Try.prog 52 #[.int .i64 e, .int .i64 b] W fun e w' => e = .returned (.tuple #[.int .i64 m, .bool s]) ∧ W = w') ∧
      (∀ W, Calls Try.prog 52 #[.int .i64 (max (e - 1) 0), .int .i64 b] W fun e w' => e = .returned (.tuple #[.int .i64 l, .bool true]) ∧ W = w')) := by
    by_cases hc : a < 0 ∨ b < 1
    · left; unfold PN.ceil; rw [if_pos hc]
    · right
      obtain ⟨k0, k1, k2, k3, k4⟩ := PN.ceil_least (show 0 ≤ a by omega) (show 1 ≤ b by omega)
      have hv : PN.ceil a b = ((a + (b - 1)) / b, true) := by unfold PN.ceil; rw [if_neg hc]
      rw [hv]
      refine ⟨rfl, (a + (b - 1)) / b, (PN.mul ((a + (b - 1)) / b) b).1, max ((a + (b - 1)) / b - 1) 0 * b, (PN.mul ((a + (b - 1)) / b) b).2, rfl, k0, by omega, ?_, ?_, ?_, fun W => num_Mul _ b W (by omega) hb, fun W => ?_⟩
      · intro hs
        cases hf : PN.fits ((a + (b - 1)) / b * b)
        · rw [PN.mul_no hf] at hs; cases hs
        · rw [PN.mul_yes hf]; exact k1
      · intro he
        rcases Int.lt_or_le 0 a with h | h
        · have := (k3 h).1; omega
        · omega
      · intro he
        have h0 : 0 < a := by
          rcases Int.lt_or_le 0 a with h | h
          · exact h
          · have := k2 (by omega); omega
        rw [show max ((a + (b - 1)) / b - 1) 0 = (a + (b - 1)) / b - 1 by omega]
        exact (k3 h0).2
      · have := num_Mul (max ((a + (b - 1)) / b - 1) 0) b W (by omega) hb
        have hfit : PN.fits (max ((a + (b - 1)) / b - 1) 0 * b) = true := by
          rw [PN.fits_iff]
          rcases Int.lt_or_le 0 a with h | h
          · obtain ⟨g1, g2⟩ := k3 h
            rw [show max ((a + (b - 1)) / b - 1) 0 = (a + (b - 1)) / b - 1 by omega]
            have : 0 ≤ ((a + (b - 1)) / b - 1) * b := Int.mul_nonneg (by omega) (by omega)
            omega
          · rw [k2 (by omega), show max ((0 : Int) - 1) 0 = 0 by omega, Int.zero_mul]; omega
        rwa [PN.mul_yes hfit] at this
  generalize (PN.add a b).1 = x1 at *
  generalize (PN.add a b).2 = x2 at *
  generalize (PN.ceil a b).1 = y1 at *
  generalize (PN.ceil a b).2 = y2 at *
  have C1 := Lib.hid c1
  have C3 := Lib.hid c3
  clear c1 c3
  rcases hadd with rfl | ⟨rfl, c2⟩
  · skip
    rcases hceil with rfl | ⟨rfl, e, m, l, s, rfl, e0, e1, hs, hz, hl, c4, c5⟩
    · skip
      go_enter Try.func12, Try.ntmps12
      go_wp2_with fail
      refine (C1.out _).mono ?_
      rintro e w1 ⟨rfl, rfl⟩
      go_wp2_with fail
      refine (C3.out _).mono ?_
      rintro e w1 ⟨rfl, rfl⟩
      go_wp2_with fail
      refine (law01_works _).mono ?_
      rintro e w1 ⟨rfl, rfl⟩
      go_wp2_with fail
      go_ret
      exact ⟨rfl, rfl⟩
    · have C4 := Lib.hid c4
      clear c4
      have hm : max (y1 - 1) 0 = if y1 - 1 ≤ 0 then 0 else y1 - 1 := by split <;> omega
      by_cases g0 : y1 = 0
      · have a0 := hz g0
        have g0b : (y1 == 0) = true := by simpa using g0
        have a0b : (a == 0) = true := by simpa using a0
        have C5 := Lib.hid c5
        clear c5 hm hz hl a0 g0
        cases s
        · skip
          go_enter Try.func12, Try.ntmps12
          go_wp2_with fail
          refine (C1.out _).mono ?_
          rintro e w1 ⟨rfl, rfl⟩
          go_wp2_with fail
          refine (C3.out _).mono ?_
          rintro e w1 ⟨rfl, rfl⟩
          go_wp2_with fail
          refine (C4.out _).mono ?_
          rintro e w1 ⟨rfl, rfl⟩
          go_wp2_with fail
          refine (C5.out _).mono ?_
          rintro e w1 ⟨rfl, rfl⟩
          go_wp2_with fail
          refine (law01_works _).mono ?_
          rintro e w1 ⟨rfl, rfl⟩
          go_wp2_with fail
          go_ret
          exact ⟨rfl, rfl⟩
        · have hs' := hs rfl
          go_enter Try.func12, Try.ntmps12
          go_wp2_with fail
          refine (C1.out _).mono ?_
          rintro e w1 ⟨rfl, rfl⟩
          go_wp2_with fail
          refine (C3.out _).mono ?_
          rintro e w1 ⟨rfl, rfl⟩
          go_wp2_with fail
          refine (C4.out _).mono ?_
          rintro e w1 ⟨rfl, rfl⟩
          go_wp2_with fail
          refine (C5.out _).mono ?_
          rintro e w1 ⟨rfl, rfl⟩
          go_wp2_with fail
          refine (law01_works _).mono ?_
          rintro e w1 ⟨rfl, rfl⟩
          go_wp2_with fail
          go_ret
          exact ⟨rfl, rfl⟩
      · have hl' := hl (by omega)
        have C5 := Lib.hid c5
        clear c5 hm hl
        have g0b : (y1 == 0) = false := by simpa using g0
        have g1 : 1 ≤ y1 := by omega
        cases s
        · skip
          go_enter Try.func12, Try.ntmps12
          go_wp2_with fail
          refine (C1.out _).mono ?_
          rintro e w1 ⟨rfl, rfl⟩
          go_wp2_with fail
          refine (C3.out _).mono ?_
          rintro e w1 ⟨rfl, rfl⟩
          go_wp2_with fail
          refine (C4.out _).mono ?_
          rintro e w1 ⟨rfl, rfl⟩
          go_wp2_with fail
          refine (C5.out _).mono ?_
          rintro e w1 ⟨rfl, rfl⟩
          go_wp2_with fail
          refine (law01_works _).mono ?_
          rintro e w1 ⟨rfl, rfl⟩
          go_wp2_with fail
          go_ret
          exact ⟨rfl, rfl⟩
        · have hs' := hs rfl
          go_enter Try.func12, Try.ntmps12
          go_wp2_with fail
          refine (C1.out _).mono ?_
          rintro e w1 ⟨rfl, rfl⟩
          go_wp2_with fail
          refine (C3.out _).mono ?_
          rintro e w1 ⟨rfl, rfl⟩
          go_wp2_with fail
          refine (C4.out _).mono ?_
          rintro e w1 ⟨rfl, rfl⟩
          go_wp2_with fail
          refine (C5.out _).mono ?_
          rintro e w1 ⟨rfl, rfl⟩
          go_wp2_with fail
          refine (law01_works _).mono ?_
          rintro e w1 ⟨rfl, rfl⟩
          go_wp2_with fail
          go_ret
          exact ⟨rfl, rfl⟩
  · have C2 := Lib.hid c2
    clear c2
    rcases hceil with rfl | ⟨rfl, e, m, l, s, rfl, e0, e1, hs, hz, hl, c4, c5⟩
    · skip
      go_enter Try.func12, Try.ntmps12
      go_wp2_with fail
      refine (C1.out _).mono ?_
      rintro e w1 ⟨rfl, rfl⟩
      go_wp2_with fail
      refine (C2.out _).mono ?_
      rintro e w1 ⟨rfl, rfl⟩
      go_wp2_with fail
      refine (C3.out _).mono ?_
      rintro e w1 ⟨rfl, rfl⟩
      go_wp2_with fail
      refine (law01_works _).mono ?_
      rintro e w1 ⟨rfl, rfl⟩
      go_wp2_with fail
      go_ret
      exact ⟨rfl, rfl⟩
    · have C4 := Lib.hid c4
      clear c4
      have hm : max (y1 - 1) 0 = if y1 - 1 ≤ 0 then 0 else y1 - 1 := by split <;> omega
      by_cases g0 : y1 = 0
      · have a0 := hz g0
        have g0b : (y1 == 0) = true := by simpa using g0
        have a0b : (a == 0) = true := by simpa using a0
        have C5 := Lib.hid c5
        clear c5 hm hz hl a0 g0
        cases s
        · skip
          go_enter Try.func12, Try.ntmps12
          go_wp2_with fail
          refine (C1.out _).mono ?_
          rintro e w1 ⟨rfl, rfl⟩
          go_wp2_with fail
          refine (C2.out _).mono ?_
          rintro e w1 ⟨rfl, rfl⟩
          go_wp2_with fail
          refine (C3.out _).mono ?_
          rintro e w1 ⟨rfl, rfl⟩
          go_wp2_with fail
          refine (C4.out _).mono ?_
          rintro e w1 ⟨rfl, rfl⟩
          go_wp2_with fail
          refine (C5.out _).mono ?_
          rintro e w1 ⟨rfl, rfl⟩
          go_wp2_with fail
          refine (law01_works _).mono ?_
          rintro e w1 ⟨rfl, rfl⟩
          go_wp2_with fail
          go_ret
          exact ⟨rfl, rfl⟩
        · have hs' := hs rfl
          go_enter Try.func12, Try.ntmps12
          go_wp2_with fail
          refine (C1.out _).mono ?_
          rintro e w1 ⟨rfl, rfl⟩
          go_wp2_with fail
          refine (C2.out _).mono ?_
          rintro e w1 ⟨rfl, rfl⟩
          go_wp2_with fail
          refine (C3.out _).mono ?_
          rintro e w1 ⟨rfl, rfl⟩
          go_wp2_with fail
          refine (C4.out _).mono ?_
          rintro e w1 ⟨rfl, rfl⟩
          go_wp2_with fail
          refine (C5.out _).mono ?_
          rintro e w1 ⟨rfl, rfl⟩
          go_wp2_with fail
          refine (law01_works _).mono ?_
          rintro e w1 ⟨rfl, rfl⟩
          go_wp2_with fail
          go_ret
          exact ⟨rfl, rfl⟩
      · have hl' := hl (by omega)
        have C5 := Lib.hid c5
        clear c5 hm hl
        have g0b : (y1 == 0) = false := by simpa using g0
        have g1 : 1 ≤ y1 := by omega
        cases s
        · skip
          go_enter Try.func12, Try.ntmps12
          go_wp2_with fail
          refine (C1.out _).mono ?_
          rintro e w1 ⟨rfl, rfl⟩
          go_wp2_with fail
          refine (C2.out _).mono ?_
          rintro e w1 ⟨rfl, rfl⟩
          go_wp2_with fail
          refine (C3.out _).mono ?_
          rintro e w1 ⟨rfl, rfl⟩
          go_wp2_with fail
          refine (C4.out _).mono ?_
          rintro e w1 ⟨rfl, rfl⟩
          go_wp2_with fail
          refine (C5.out _).mono ?_
          rintro e w1 ⟨rfl, rfl⟩
          go_wp2_with fail
          refine (law01_works _).mono ?_
          rintro e w1 ⟨rfl, rfl⟩
          go_wp2_with fail
          go_ret
          exact ⟨rfl, rfl⟩
        · have hs' := hs rfl
          go_enter Try.func12, Try.ntmps12
          go_wp2_with fail
          refine (C1.out _).mono ?_
          rintro e w1 ⟨rfl, rfl⟩
          go_wp2_with fail
          refine (C2.out _).mono ?_
          rintro e w1 ⟨rfl, rfl⟩
          go_wp2_with fail
          refine (C3.out _).mono ?_
          rintro e w1 ⟨rfl, rfl⟩
          go_wp2_with fail
          refine (C4.out _).mono ?_
          rintro e w1 ⟨rfl, rfl⟩
          go_wp2_with fail
          refine (C5.out _).mono ?_
          rintro e w1 ⟨rfl, rfl⟩
          go_wp2_with fail
          refine (law01_works _).mono ?_
          rintro e w1 ⟨rfl, rfl⟩
          go_wp2_with fail
          go_ret
          exact ⟨rfl, rfl⟩
end Go.Proofs.Ytfgfnfjeopjbgaa
