/-
  Contracts of num.Ceil, of drain.may, Ticks, Taken, Left, Last, and of the references' Ticks, Left, Last.
-/
import Derived.Test.YtbgohgligponiaaPlainDrain
import Derived.Test.YtbgohgligponiaaNumC
namespace Go.Proofs.Ytbgohgligponiaa
open Go.RowKit
set_option linter.unusedVariables false

theorem num_Ceil (a b : Int) (w : World) (ha : -9223372036854775808 ≤ a ∧ a ≤ 9223372036854775807) (hb : -9223372036854775808 ≤ b ∧ b ≤ 9223372036854775807) :
    Calls Try.prog 62 #[.int .i64 a, .int .i64 b] w fun e w' => e = .returned (.tuple #[.int .i64 (PN.ceil a b).1, .bool (PN.ceil a b).2]) ∧ w = w' := by
  obtain ⟨a1, a2⟩ := ha
  obtain ⟨b1, b2⟩ := hb
  by_cases h1 : a < 0
  · have hv : PN.ceil a b = (0, false) := by unfold PN.ceil; rw [if_pos (Or.inl h1)]
    rw [hv]
    clear hv
    go_enter Try.func62, Try.ntmps62
    go_wp2
    go_ret2
    exact ⟨rfl, rfl⟩
  · have h1' : 0 ≤ a := by omega
    by_cases h2 : b < 1
    · have hv : PN.ceil a b = (0, false) := by unfold PN.ceil; rw [if_pos (Or.inr h2)]
      rw [hv]
      clear hv h1
      go_enter Try.func62, Try.ntmps62
      go_wp2
      go_ret2
      exact ⟨rfl, rfl⟩
    · have h2' : 1 ≤ b := by omega
      have hv : PN.ceil a b = ((a + (b - 1)) / b, true) := by unfold PN.ceil; rw [if_neg (by omega)]
      have hd := Int.mul_ediv_add_emod a b
      have m0 : 0 ≤ a % b := Int.emod_nonneg _ (by omega)
      have m1 : a % b < b := Int.emod_lt_of_pos _ (by omega)
      have d0 : 0 ≤ a / b := Int.ediv_nonneg h1' (by omega)
      have d1 : a / b ≤ a := Int.ediv_le_self b h1'
      by_cases h3 : 0 < a % b
      · have hq : (a + (b - 1)) / b = a / b + 1 := by
          have e : a + (b - 1) = (a % b - 1) + b * (a / b + 1) := by rw [Int.mul_add]; omega
          rw [e, Int.add_mul_ediv_left _ _ (by omega), Int.ediv_eq_zero_of_lt (by omega) (by omega)]; omega
        have hlt : a / b < a := by
          by_cases hb1 : b = 1
          · subst hb1; omega
          · have : (a / b) * 2 ≤ (a / b) * b := Int.mul_le_mul_of_nonneg_left (by omega) d0
            rw [Int.mul_comm (a / b) b] at this
            omega
        rw [hv, hq]
        clear hv hq hd h1 h2 m1
        go_enter Try.func62, Try.ntmps62
        go_wp2
        go_ret2
        exact ⟨rfl, rfl⟩
      · have h3' : a % b ≤ 0 := by omega
        have hq : (a + (b - 1)) / b = a / b := by
          have e : a + (b - 1) = (b - 1) + b * (a / b) := by omega
          rw [e, Int.add_mul_ediv_left _ _ (by omega), Int.ediv_eq_zero_of_lt (by omega) (by omega)]; omega
        rw [hv, hq]
        clear hv hq hd h1 h2 m1 h3
        go_enter Try.func62, Try.ntmps62
        go_wp2
        go_ret2
        exact ⟨rfl, rfl⟩

theorem drain_may (w q t : Int) (W : World) :
    Calls Try.prog 59 #[.int .i64 w, .int .i64 q, .int .i64 t] W fun e w' => e = .returned (.bool (PD.may w q t)) ∧ W = w' := by
  go_enter Try.func59, Try.ntmps59
  go_wp2
  all_goals (go_ret; exact ⟨ret_bool (by rw [Bool.eq_iff_iff, PD.may_iff]; (try simp); (try omega)), rfl⟩)

theorem drain_Ticks (a q : Int) (W : World) (ha : -9223372036854775808 ≤ a ∧ a ≤ 9223372036854775807) (hq : -9223372036854775808 ≤ q ∧ q ≤ 9223372036854775807) :
    Calls Try.prog 36 #[.int .i64 a, .int .i64 q] W fun e w' => e = .returned (.tuple #[.int .i64 (PD.ticks a q).1, .bool (PD.ticks a q).2]) ∧ W = w' := by
  cases hm : PD.may a q 0
  · have hv : PD.ticks a q = (0, false) := by unfold PD.ticks; rw [if_neg (by rw [hm]; simp)]
    rw [hv]
    clear hv
    go_enter Try.func36, Try.ntmps36
    go_wp2_with fail
    refine (drain_may a q 0 _).mono ?_
    rintro e w1 ⟨rfl, rfl⟩
    go_wp2_with fail
    go_ret2
    exact ⟨rfl, rfl⟩
  · have hv : PD.ticks a q = PN.add (a / q) 1 := by unfold PD.ticks; rw [if_pos hm]
    obtain ⟨g1, g2, _⟩ := (PD.may_iff _ _ _).1 hm
    have d0 : 0 ≤ a / q := Int.ediv_nonneg g1 (by omega)
    have d1 : a / q ≤ 9223372036854775807 := by have := Int.ediv_le_self q g1; omega
    rw [hv]
    clear hv
    go_enter Try.func36, Try.ntmps36
    go_wp2_with fail
    refine (drain_may a q 0 _).mono ?_
    rintro e w1 ⟨rfl, rfl⟩
    go_wp2_with fail
    refine (num_Add (a / q) 1 _ (by omega) (by omega)).mono ?_
    rintro e w1 ⟨rfl, rfl⟩
    go_wp2_with fail
    go_ret2
    exact ⟨rfl, rfl⟩

theorem ref22_Ticks (a q : Int) (W : World) (ha : -9223372036854775808 ≤ a ∧ a ≤ 9223372036854775807) (hq : -9223372036854775808 ≤ q ∧ q ≤ 9223372036854775807) :
    Calls Try.prog 45 #[.int .i64 a, .int .i64 q] W fun e w' => e = .returned (.tuple #[.int .i64 (PD.ticks a q).1, .bool (PD.ticks a q).2]) ∧ W = w' := by
  by_cases h1 : a < 0
  · have hv : PD.ticks a q = (0, false) := by unfold PD.ticks; rw [if_neg (by rw [(PD.may_no _ _ _).2 (by omega)]; simp)]
    rw [hv]
    clear hv
    go_enter Try.func45, Try.ntmps45
    go_wp2
    go_ret2
    exact ⟨rfl, rfl⟩
  · have h1' : 0 ≤ a := by omega
    by_cases h2 : q < 1
    · have hv : PD.ticks a q = (0, false) := by unfold PD.ticks; rw [if_neg (by rw [(PD.may_no _ _ _).2 (by omega)]; simp)]
      rw [hv]
      clear hv h1
      go_enter Try.func45, Try.ntmps45
      go_wp2
      go_ret2
      exact ⟨rfl, rfl⟩
    · have h2' : 1 ≤ q := by omega
      have hv := PD.ticks_val h1' ha.2 h2'
      clear h1 h2
      by_cases h3 : a = 9223372036854775807 ∧ q = 1
      · rw [if_pos h3] at hv
        obtain ⟨rfl, rfl⟩ := h3
        rw [hv]
        clear hv
        go_enter Try.func45, Try.ntmps45
        go_wp2
        go_ret2
        exact ⟨rfl, rfl⟩
      · rw [if_neg h3] at hv
        have m0 : 0 ≤ a % q := Int.emod_nonneg _ (by omega)
        have m1 : a % q ≤ a := by
          by_cases hlt : a < q
          · rw [Int.emod_eq_of_lt h1' hlt]; omega
          · have := Int.emod_lt_of_pos a (show 0 < q by omega); omega
        have e1 : (a - a % q) / q = a / q := by
          have hd := Int.mul_ediv_add_emod a q
          rw [show a - a % q = 0 + q * (a / q) by omega, Int.add_mul_ediv_left _ _ (by omega)]
          simp
        have d0 : 0 ≤ a / q := Int.ediv_nonneg h1' (by omega)
        have d1 : a / q ≤ 9223372036854775806 := by
          by_cases hq1 : q = 1
          · have ha' : a ≠ 9223372036854775807 := fun h => h3 ⟨h, hq1⟩
            have := Int.ediv_le_self q h1'; omega
          · have hm : (a / q) * 2 ≤ (a / q) * q := Int.mul_le_mul_of_nonneg_left (by omega) d0
            have := Int.ediv_mul_le a (show q ≠ 0 by omega)
            omega
        have hb : (a == 9223372036854775807) = false ∨ (a = 9223372036854775807 ∧ (q == 1) = false) := by
          by_cases x : a = 9223372036854775807
          · right; refine ⟨x, ?_⟩; simp; exact fun y => h3 ⟨x, y⟩
          · left; simpa using x
        rw [hv, ← e1]
        have d1' : (a - a % q) / q ≤ 9223372036854775806 := by rw [e1]; exact d1
        have d0' : 0 ≤ (a - a % q) / q := by rw [e1]; exact d0
        clear hv e1 d0 d1 h3
        rcases hb with hb | ⟨rfl, hb⟩
        · go_enter Try.func45, Try.ntmps45
          go_wp2
          all_goals (go_ret2; exact ⟨rfl, rfl⟩)
        · go_enter Try.func45, Try.ntmps45
          go_wp2
          all_goals (go_ret2; exact ⟨rfl, rfl⟩)

theorem drain_Taken (w q t : Int) (W : World) (hw : -9223372036854775808 ≤ w ∧ w ≤ 9223372036854775807) (hq : -9223372036854775808 ≤ q ∧ q ≤ 9223372036854775807) (ht : -9223372036854775808 ≤ t ∧ t ≤ 9223372036854775807) :
    Calls Try.prog 37 #[.int .i64 w, .int .i64 q, .int .i64 t] W fun e w' => e = .returned (.tuple #[.int .i64 (PD.taken w q t).1, .bool (PD.taken w q t).2]) ∧ W = w' := by
  cases hm : PD.may w q t
  · have hv : PD.taken w q t = (0, false) := by unfold PD.taken; rw [if_neg (by rw [hm]; simp)]
    rw [hv]
    clear hv
    go_enter Try.func37, Try.ntmps37
    go_wp2_with fail
    refine (drain_may w q t _).mono ?_
    rintro e w1 ⟨rfl, rfl⟩
    go_wp2_with fail
    go_ret2
    exact ⟨rfl, rfl⟩
  · have hM := num_Mul q t
    cases hf : (PN.mul q t).2
    · have hv : PD.taken w q t = (w, true) := by unfold PD.taken; rw [if_pos hm, if_neg (by rw [hf]; simp)]
      rw [hv]
      clear hv hM
      go_enter Try.func37, Try.ntmps37
      go_wp2_with fail
      refine (drain_may w q t _).mono ?_
      rintro e w1 ⟨rfl, rfl⟩
      go_wp2_with fail
      refine (num_Mul q t _ hq ht).mono ?_
      rintro e w1 ⟨rfl, rfl⟩
      go_wp2_with fail
      go_ret2
      exact ⟨rfl, rfl⟩
    · have hv : PD.taken w q t = (min (PN.mul q t).1 w, true) := by unfold PD.taken; rw [if_pos hm, if_pos hf]
      rw [hv]
      clear hv hM
      go_enter Try.func37, Try.ntmps37
      go_wp2_with fail
      refine (drain_may w q t _).mono ?_
      rintro e w1 ⟨rfl, rfl⟩
      go_wp2_with fail
      refine (num_Mul q t _ hq ht).mono ?_
      rintro e w1 ⟨rfl, rfl⟩
      go_wp2_with fail
      all_goals (go_ret2; exact ⟨ret_ib (by omega) rfl, rfl⟩)

theorem drain_Left (w q t : Int) (W : World) (hw : -9223372036854775808 ≤ w ∧ w ≤ 9223372036854775807) (hq : -9223372036854775808 ≤ q ∧ q ≤ 9223372036854775807) (ht : -9223372036854775808 ≤ t ∧ t ≤ 9223372036854775807) :
    Calls Try.prog 46 #[.int .i64 w, .int .i64 q, .int .i64 t] W fun e w' => e = .returned (.tuple #[.int .i64 (PD.left w q t).1, .bool (PD.left w q t).2]) ∧ W = w' := by
  have hi := PD.taken_is w q t
  cases hm : PD.may w q t
  · have hv : PD.left w q t = (0, false) := by unfold PD.left; rw [if_neg (by rw [hm]; simp)]
    rw [hm] at hi
    rw [hv]
    clear hv
    go_enter Try.func46, Try.ntmps46
    go_wp2_with fail
    refine (drain_Taken w q t _ hw hq ht).mono ?_
    rintro e w1 ⟨rfl, rfl⟩
    go_wp2_with fail
    go_ret2
    exact ⟨rfl, rfl⟩
  · have hv : PD.left w q t = (w - (PD.taken w q t).1, true) := by unfold PD.left; rw [if_pos hm]
    obtain ⟨g1, g2, g3⟩ := (PD.may_iff _ _ _).1 hm
    have hp : 0 ≤ q * t := Int.mul_nonneg (by omega) g3
    have hx := PD.taken_min w q t hm hw.2
    have x0 : 0 ≤ (PD.taken w q t).1 := by rw [hx]; omega
    have x1 : (PD.taken w q t).1 ≤ w := by rw [hx]; omega
    rw [hm] at hi
    rw [hv]
    clear hv hx
    go_enter Try.func46, Try.ntmps46
    go_wp2_with fail
    refine (drain_Taken w q t _ hw hq ht).mono ?_
    rintro e w1 ⟨rfl, rfl⟩
    go_wp2_with fail
    go_ret2
    exact ⟨rfl, rfl⟩

theorem drain_Last (a q : Int) (W : World) (ha : -9223372036854775808 ≤ a ∧ a ≤ 9223372036854775807) (hq : -9223372036854775808 ≤ q ∧ q ≤ 9223372036854775807) :
    Calls Try.prog 39 #[.int .i64 a, .int .i64 q] W fun e w' => e = .returned (.tuple #[.int .i64 (PN.ceil a q).1, .bool (PN.ceil a q).2]) ∧ W = w' := by
  go_enter Try.func39, Try.ntmps39
  go_wp2_with fail
  refine (num_Ceil a q _ ha hq).mono ?_
  rintro e w1 ⟨rfl, rfl⟩
  go_wp2_with fail
  go_ret2
  exact ⟨rfl, rfl⟩
end Go.Proofs.Ytbgohgligponiaa
