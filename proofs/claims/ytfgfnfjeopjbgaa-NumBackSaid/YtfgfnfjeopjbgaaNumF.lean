/-
  Layer 1's examples and the walks of its laws.
-/
import Derived.Test.YtfgfnfjeopjbgaaNumE
import Derived.Test.YtfgfnfjeopjbgaaLen
import Derived.Test.YtfgfnfjeopjbgaaAlign
namespace Go.Proofs.Ytfgfnfjeopjbgaa
open Go.RowKit
set_option linter.unusedVariables false

theorem law01_works (w : World) : Calls Try.prog 43 #[] w fun e w' => e = .returned (.bool true) ∧ w = w' := by
  have c1 : ∀ W, Calls Try.prog 37 #[.int .i64 7, .int .i64 2] W fun e w' => e = .returned (.tuple #[.int .i64 4, .bool true]) ∧ W = w' := fun W => by
    have := num_Ceil 7 2 W (by omega) (by omega)
    rwa [show PN.ceil 7 2 = (4, true) by decide +kernel] at this
  have c2 : ∀ W, Calls Try.prog 44 #[.int .i64 9, .int .i64 8] W fun e w' => e = .returned (.tuple #[.int .i64 16, .bool true]) ∧ W = w' := fun W => by
    have := num_Align 9 8 W (by omega) (by omega)
    rwa [show PN.align 9 8 = (16, true) by decide +kernel] at this
  have c3 : ∀ W, Calls Try.prog 50 #[.int .i64 2, .int .i64 3] W fun e w' => e = .returned (.tuple #[.int .i64 5, .bool true]) ∧ W = w' := fun W => by
    have := num_Add 2 3 W (by omega) (by omega)
    rwa [show PN.add 2 3 = (5, true) by decide +kernel] at this
  have c4 : ∀ W, Calls Try.prog 52 #[.int .i64 4611686018427387904, .int .i64 2] W fun e w' => e = .returned (.tuple #[.int .i64 0, .bool false]) ∧ W = w' := fun W => by
    have := num_Mul 4611686018427387904 2 W (by omega) (by omega)
    rwa [show PN.mul 4611686018427387904 2 = (0, false) by decide +kernel] at this
  have c5 : ∀ W, Calls Try.prog 41 #[.int .i64 9] W fun e w' => e = .returned (.int .i64 3) ∧ W = w' := fun W => by
    have := num_Log 9 W (by omega)
    rwa [show PN.log 9 = 3 by decide +kernel] at this
  have c6 : ∀ W, Calls Try.prog 39 #[.int .i64 8] W fun e w' => e = .returned (.bool true) ∧ W = w' := fun W => by
    have := num_Power 8 W (by omega)
    rwa [show PN.power 8 = true by decide +kernel] at this
  have c7 : ∀ W, Calls Try.prog 39 #[.int .i64 6] W fun e w' => e = .returned (.bool false) ∧ W = w' := fun W => by
    have := num_Power 6 W (by omega)
    rwa [show PN.power 6 = false by decide +kernel] at this
  have C1 := Lib.hid c1
  have C2 := Lib.hid c2
  have C3 := Lib.hid c3
  have C4 := Lib.hid c4
  have C5 := Lib.hid c5
  have C6 := Lib.hid c6
  have C7 := Lib.hid c7
  clear c1 c2 c3 c4 c5 c6 c7
  go_enter Try.func43, Try.ntmps43
  go_wp2_with fail
  refine (C1.out _).mono ?_
  rintro e w1 ⟨rfl, rfl⟩
  go_wp2_with fail
  refine (C2.out _).mono ?_
  rintro e w1 ⟨rfl, rfl⟩
  go_wp2_with fail
  refine (C3.out _).mono ?_
  rintro e w1 ⟨rfl, rfl⟩
  go_wp2_with fail
  refine (C4.out _).mono ?_
  rintro e w1 ⟨rfl, rfl⟩
  go_wp2_with fail
  refine (C5.out _).mono ?_
  rintro e w1 ⟨rfl, rfl⟩
  go_wp2_with fail
  refine (C6.out _).mono ?_
  rintro e w1 ⟨rfl, rfl⟩
  go_wp2_with fail
  refine (C7.out _).mono ?_
  rintro e w1 ⟨rfl, rfl⟩
  go_wp2_with fail
  go_ret
  exact ⟨rfl, rfl⟩

theorem law01_NumSums (a b : Int) (w : World) (ha : -9223372036854775808 ≤ a ∧ a ≤ 9223372036854775807) (hb : -9223372036854775808 ≤ b ∧ b ≤ 9223372036854775807) : Calls Try.prog 11 #[.int .i64 a, .int .i64 b] w fun e w' => e = .returned (.bool true) ∧ w = w' := by
  have c1 := fun W => num_Add a b W ha hb
  have c2 := fun W => num_Sub a b W ha hb
  have c3 := fun W => num_Mul a b W ha hb
  have c4 := fun W => ref01_Add a b W ha hb
  have c5 := fun W => ref01_Sub a b W ha hb
  have c6 := fun W => ref01_Mul a b W ha hb
  generalize (PN.add a b).1 = x1 at *
  generalize (PN.add a b).2 = x2 at *
  generalize (PN.sub a b).1 = y1 at *
  generalize (PN.sub a b).2 = y2 at *
  generalize (PN.mul a b).1 = z1 at *
  generalize (PN.mul a b).2 = z2 at *
  have C1 := Lib.hid c1
  have C2 := Lib.hid c2
  have C3 := Lib.hid c3
  have C4 := Lib.hid c4
  have C5 := Lib.hid c5
  have C6 := Lib.hid c6
  clear c1 c2 c3 c4 c5 c6
  go_enter Try.func11, Try.ntmps11
  go_wp2_with fail
  refine (C1.out _).mono ?_
  rintro e w1 ⟨rfl, rfl⟩
  go_wp2_with fail
  refine (C2.out _).mono ?_
  rintro e w1 ⟨rfl, rfl⟩
  go_wp2_with fail
  refine (C3.out _).mono ?_
  rintro e w1 ⟨rfl, rfl⟩
  go_wp2_with fail
  refine (C4.out _).mono ?_
  rintro e w1 ⟨rfl, rfl⟩
  go_wp2_with fail
  refine (C5.out _).mono ?_
  rintro e w1 ⟨rfl, rfl⟩
  go_wp2_with fail
  refine (C6.out _).mono ?_
  rintro e w1 ⟨rfl, rfl⟩
  go_wp2_with fail
  refine (law01_works _).mono ?_
  rintro e w1 ⟨rfl, rfl⟩
  go_wp2_with fail
  go_ret
  exact ⟨rfl, rfl⟩

theorem law01_NumParts (a b : Int) (w : World) (ha : -9223372036854775808 ≤ a ∧ a ≤ 9223372036854775807) (hb : -9223372036854775808 ≤ b ∧ b ≤ 9223372036854775807) : Calls Try.prog 8 #[.int .i64 a, .int .i64 b] w fun e w' => e = .returned (.bool true) ∧ w = w' := by
  have c1 := fun W => num_Ceil a b W ha hb
  have c2 := fun W => ref01_Ceil a b W ha hb
  have c3 := fun W => num_Power a W ha
  have c4 := fun W => ref01_Power a W ha
  have c5 := fun W => num_Log a W ha
  have c6 := fun W => ref01_Log a W ha
  generalize (PN.ceil a b).1 = x1 at *
  generalize (PN.ceil a b).2 = x2 at *
  generalize PN.power a = y1 at *
  generalize PN.log a = z1 at *
  have C1 := Lib.hid c1
  have C2 := Lib.hid c2
  have C3 := Lib.hid c3
  have C4 := Lib.hid c4
  have C5 := Lib.hid c5
  have C6 := Lib.hid c6
  clear c1 c2 c3 c4 c5 c6
  go_enter Try.func8, Try.ntmps8
  go_wp2_with fail
  refine (C1.out _).mono ?_
  rintro e w1 ⟨rfl, rfl⟩
  go_wp2_with fail
  refine (C2.out _).mono ?_
  rintro e w1 ⟨rfl, rfl⟩
  go_wp2_with fail
  refine (C3.out _).mono ?_
  rintro e w1 ⟨rfl, rfl⟩
  go_wp2_with fail
  refine (C4.out _).mono ?_
  rintro e w1 ⟨rfl, rfl⟩
  go_wp2_with fail
  refine (C5.out _).mono ?_
  rintro e w1 ⟨rfl, rfl⟩
  go_wp2_with fail
  refine (C6.out _).mono ?_
  rintro e w1 ⟨rfl, rfl⟩
  go_wp2_with fail
  refine (law01_works _).mono ?_
  rintro e w1 ⟨rfl, rfl⟩
  go_wp2_with fail
  go_ret
  exact ⟨rfl, rfl⟩

theorem law01_NumAligns (n b : Int) (w : World) (hn : -9223372036854775808 ≤ n ∧ n ≤ 9223372036854775807) (hb : -9223372036854775808 ≤ b ∧ b ≤ 9223372036854775807) : Calls Try.prog 9 #[.int .i64 n, .int .i64 b] w fun e w' => e = .returned (.bool true) ∧ w = w' := by
  have c1 := fun W => num_Align n b W hn hb
  have c2 := fun W => ref01_Align n b W hn hb
  by_cases hq : 0 ≤ n ∧ PN.power b = true ∧ PN.up n b ≤ 9223372036854775807
  · obtain ⟨q1, q2, q3⟩ := hq
    have hb0 := PN.power_pos q2
    obtain ⟨u1, u2, u3, u4⟩ := PN.up_bd q1 hb0
    have c3 := fun W => num_Align (PN.up n b) b W (by omega) hb
    rw [PN.align_val u4 q2, PN.up_same u4 hb0 u3, if_pos q3] at c3
    rw [PN.align_val q1 q2, if_pos q3] at c1 c2
    have x1 : (PN.up n b).tmod b = 0 := by rw [Int.tmod_eq_emod_of_nonneg u4]; exact u3
    clear q2 u3
    generalize PN.up n b = U at *
    have C1 := Lib.hid c1
    have C2 := Lib.hid c2
    have C3 := Lib.hid c3
    clear c1 c2 c3
    go_enter Try.func9, Try.ntmps9
    go_wp2_with fail
    refine (C1.out _).mono ?_
    rintro e w1 ⟨rfl, rfl⟩
    go_wp2_with fail
    refine (C2.out _).mono ?_
    rintro e w1 ⟨rfl, rfl⟩
    go_wp2_with fail
    refine (C3.out _).mono ?_
    rintro e w1 ⟨rfl, rfl⟩
    go_wp2_with fail
    refine (law01_works _).mono ?_
    rintro e w1 ⟨rfl, rfl⟩
    go_wp2_with fail
    go_ret
    exact ⟨rfl, rfl⟩
  · have hz : PN.align n b = (0, false) := by
      by_cases q1 : n < 0 ∨ PN.power b = false
      · exact PN.align_bad q1
      · have q2 : PN.power b = true := by cases hp : PN.power b <;> simp_all
        rw [PN.align_val (by omega) q2, if_neg (fun h => hq ⟨by omega, q2, h⟩)]
    rw [hz] at c1 c2
    clear hq hz
    have C1 := Lib.hid c1
    have C2 := Lib.hid c2
    clear c1 c2
    go_enter Try.func9, Try.ntmps9
    go_wp2_with fail
    refine (C1.out _).mono ?_
    rintro e w1 ⟨rfl, rfl⟩
    go_wp2_with fail
    refine (C2.out _).mono ?_
    rintro e w1 ⟨rfl, rfl⟩
    go_wp2_with fail
    refine (law01_works _).mono ?_
    rintro e w1 ⟨rfl, rfl⟩
    go_wp2_with fail
    go_ret
    exact ⟨rfl, rfl⟩

end Go.Proofs.Ytfgfnfjeopjbgaa
