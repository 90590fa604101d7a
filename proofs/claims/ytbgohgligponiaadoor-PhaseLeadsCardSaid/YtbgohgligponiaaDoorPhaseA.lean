/-
  Walks of layer 15: is, Next, Name, Away, and the reference's.
-/
import Derived.Test.YtbgohgligponiaaDoorPlainPhase
import Derived.Test.YtbgohgligponiaaDoorBase3
import Derived.Test.YtbgohgligponiaaDoorProg
namespace Go.Proofs.YtbgohgligponiaaDoor
open Go.RowKit
set_option linter.unusedVariables false
attribute [local go_sem] drewN_alloc drewN_setCell

theorem phase_is_yes (p : Int) (w : World) (h1 : 0 ≤ p) (h2 : p ≤ 3) : Calls Tryd.prog 19 #[.int .i64 p] w fun e w' => e = .returned (.bool true) ∧ w = w' := by
  go_enter Tryd.func19, Tryd.ntmps19
  go_wp2
  go_ret
  exact ⟨ret_bool (by simp; omega), rfl⟩
theorem phase_is_no (p : Int) (w : World) (h1 : p < 0 ∨ 3 < p) : Calls Tryd.prog 19 #[.int .i64 p] w fun e w' => e = .returned (.bool false) ∧ w = w' := by
  rcases h1 with h1 | h1
  · go_enter Tryd.func19, Tryd.ntmps19
    go_wp2
    go_ret
    exact ⟨rfl, rfl⟩
  · have h0 : 0 ≤ p := by omega
    go_enter Tryd.func19, Tryd.ntmps19
    go_wp2
    go_ret
    exact ⟨ret_bool (by simp; omega), rfl⟩

set_option maxHeartbeats 2000000 in
theorem phase_Next (p e : Int) (w : World) (bp : -9223372036854775808 ≤ p ∧ p ≤ 9223372036854775807) (be : -9223372036854775808 ≤ e ∧ e ≤ 9223372036854775807) : Calls Tryd.prog 11 #[.int .i64 p, .int .i64 e] w fun e' w' => e' = .returned (.tuple #[.int .i64 (PH.next p e).1, .int .i64 (PH.next p e).2]) ∧ Below w.heap.size w w' := by
  by_cases h1 : p < 0
  · rw [PH.next_arg (Or.inl h1)]
    go_enter Tryd.func11, Tryd.ntmps11
    go_wp2_with fail
    refine (phase_is_no p _ (Or.inl h1)).mono ?_
    rintro e w1 ⟨rfl, rfl⟩
    go_wp2_with fail
    go_ret2
    exact ⟨rfl, (by repeat (first | exact Below.refl _ _ | assumption | refine bel_drew ?_ | refine bel_drewN ?_ _ | refine bel_alloc ?_ _ | refine bel_set ?_ (by first | (dsimp only; omega) | (simp; done) | (simp; omega)) _ | refine bel_trans ?_ (by assumption)))⟩
  by_cases h2 : 3 < p
  · rw [PH.next_arg (Or.inr (Or.inl h2))]
    go_enter Tryd.func11, Tryd.ntmps11
    go_wp2_with fail
    refine (phase_is_no p _ (Or.inr h2)).mono ?_
    rintro e w1 ⟨rfl, rfl⟩
    go_wp2_with fail
    go_ret2
    exact ⟨rfl, (by repeat (first | exact Below.refl _ _ | assumption | refine bel_drew ?_ | refine bel_drewN ?_ _ | refine bel_alloc ?_ _ | refine bel_set ?_ (by first | (dsimp only; omega) | (simp; done) | (simp; omega)) _ | refine bel_trans ?_ (by assumption)))⟩
  have h3 : 0 ≤ p := by omega
  have h4 : p ≤ 3 := by omega
  clear h1 h2
  by_cases h5 : e < 1
  · rw [PH.next_arg (Or.inr (Or.inr (Or.inl h5)))]
    go_enter Tryd.func11, Tryd.ntmps11
    go_wp2_with fail
    refine (phase_is_yes p _ h3 h4).mono ?_
    rintro e w1 ⟨rfl, rfl⟩
    go_wp2_with fail
    go_ret2
    exact ⟨rfl, (by repeat (first | exact Below.refl _ _ | assumption | refine bel_drew ?_ | refine bel_drewN ?_ _ | refine bel_alloc ?_ _ | refine bel_set ?_ (by first | (dsimp only; omega) | (simp; done) | (simp; omega)) _ | refine bel_trans ?_ (by assumption)))⟩
  by_cases h6 : 4 < e
  · rw [PH.next_arg (Or.inr (Or.inr (Or.inr h6)))]
    go_enter Tryd.func11, Tryd.ntmps11
    go_wp2_with fail
    refine (phase_is_yes p _ h3 h4).mono ?_
    rintro e w1 ⟨rfl, rfl⟩
    go_wp2_with fail
    go_ret2
    exact ⟨rfl, (by repeat (first | exact Below.refl _ _ | assumption | refine bel_drew ?_ | refine bel_drewN ?_ _ | refine bel_alloc ?_ _ | refine bel_set ?_ (by first | (dsimp only; omega) | (simp; done) | (simp; omega)) _ | refine bel_trans ?_ (by assumption)))⟩
  have h7 : 1 ≤ e := by omega
  have h8 : e ≤ 4 := by omega
  clear h5 h6
  have hp : p = 0 ∨ p = 1 ∨ p = 2 ∨ p = 3 := by omega
  have he : e = 1 ∨ e = 2 ∨ e = 3 ∨ e = 4 := by omega
  clear h3 h4 h7 h8 bp be
  rcases hp with rfl | rfl | rfl | rfl <;> rcases he with rfl | rfl | rfl | rfl
  · rw [show PH.next 0 1 = (1, 0) by decide]
    go_enter Tryd.func11, Tryd.ntmps11
    go_wp2_with fail
    refine (phase_is_yes 0 _ (by omega) (by omega)).mono ?_
    rintro e w1 ⟨rfl, rfl⟩
    go_wp2_with fail
    go_ret2
    exact ⟨rfl, (by repeat (first | exact Below.refl _ _ | assumption | refine bel_drew ?_ | refine bel_drewN ?_ _ | refine bel_alloc ?_ _ | refine bel_set ?_ (by first | (dsimp only; omega) | (simp; done) | (simp; omega)) _ | refine bel_trans ?_ (by assumption)))⟩
  · rw [show PH.next 0 2 = (0, 18) by decide]
    go_enter Tryd.func11, Tryd.ntmps11
    go_wp2_with fail
    refine (phase_is_yes 0 _ (by omega) (by omega)).mono ?_
    rintro e w1 ⟨rfl, rfl⟩
    go_wp2_with fail
    go_ret2
    exact ⟨rfl, (by repeat (first | exact Below.refl _ _ | assumption | refine bel_drew ?_ | refine bel_drewN ?_ _ | refine bel_alloc ?_ _ | refine bel_set ?_ (by first | (dsimp only; omega) | (simp; done) | (simp; omega)) _ | refine bel_trans ?_ (by assumption)))⟩
  · rw [show PH.next 0 3 = (0, 18) by decide]
    go_enter Tryd.func11, Tryd.ntmps11
    go_wp2_with fail
    refine (phase_is_yes 0 _ (by omega) (by omega)).mono ?_
    rintro e w1 ⟨rfl, rfl⟩
    go_wp2_with fail
    go_ret2
    exact ⟨rfl, (by repeat (first | exact Below.refl _ _ | assumption | refine bel_drew ?_ | refine bel_drewN ?_ _ | refine bel_alloc ?_ _ | refine bel_set ?_ (by first | (dsimp only; omega) | (simp; done) | (simp; omega)) _ | refine bel_trans ?_ (by assumption)))⟩
  · rw [show PH.next 0 4 = (0, 18) by decide]
    go_enter Tryd.func11, Tryd.ntmps11
    go_wp2_with fail
    refine (phase_is_yes 0 _ (by omega) (by omega)).mono ?_
    rintro e w1 ⟨rfl, rfl⟩
    go_wp2_with fail
    go_ret2
    exact ⟨rfl, (by repeat (first | exact Below.refl _ _ | assumption | refine bel_drew ?_ | refine bel_drewN ?_ _ | refine bel_alloc ?_ _ | refine bel_set ?_ (by first | (dsimp only; omega) | (simp; done) | (simp; omega)) _ | refine bel_trans ?_ (by assumption)))⟩
  · rw [show PH.next 1 1 = (0, 18) by decide]
    go_enter Tryd.func11, Tryd.ntmps11
    go_wp2_with fail
    refine (phase_is_yes 1 _ (by omega) (by omega)).mono ?_
    rintro e w1 ⟨rfl, rfl⟩
    go_wp2_with fail
    go_ret2
    exact ⟨rfl, (by repeat (first | exact Below.refl _ _ | assumption | refine bel_drew ?_ | refine bel_drewN ?_ _ | refine bel_alloc ?_ _ | refine bel_set ?_ (by first | (dsimp only; omega) | (simp; done) | (simp; omega)) _ | refine bel_trans ?_ (by assumption)))⟩
  · rw [show PH.next 1 2 = (2, 0) by decide]
    go_enter Tryd.func11, Tryd.ntmps11
    go_wp2_with fail
    refine (phase_is_yes 1 _ (by omega) (by omega)).mono ?_
    rintro e w1 ⟨rfl, rfl⟩
    go_wp2_with fail
    go_ret2
    exact ⟨rfl, (by repeat (first | exact Below.refl _ _ | assumption | refine bel_drew ?_ | refine bel_drewN ?_ _ | refine bel_alloc ?_ _ | refine bel_set ?_ (by first | (dsimp only; omega) | (simp; done) | (simp; omega)) _ | refine bel_trans ?_ (by assumption)))⟩
  · rw [show PH.next 1 3 = (0, 18) by decide]
    go_enter Tryd.func11, Tryd.ntmps11
    go_wp2_with fail
    refine (phase_is_yes 1 _ (by omega) (by omega)).mono ?_
    rintro e w1 ⟨rfl, rfl⟩
    go_wp2_with fail
    go_ret2
    exact ⟨rfl, (by repeat (first | exact Below.refl _ _ | assumption | refine bel_drew ?_ | refine bel_drewN ?_ _ | refine bel_alloc ?_ _ | refine bel_set ?_ (by first | (dsimp only; omega) | (simp; done) | (simp; omega)) _ | refine bel_trans ?_ (by assumption)))⟩
  · rw [show PH.next 1 4 = (0, 18) by decide]
    go_enter Tryd.func11, Tryd.ntmps11
    go_wp2_with fail
    refine (phase_is_yes 1 _ (by omega) (by omega)).mono ?_
    rintro e w1 ⟨rfl, rfl⟩
    go_wp2_with fail
    go_ret2
    exact ⟨rfl, (by repeat (first | exact Below.refl _ _ | assumption | refine bel_drew ?_ | refine bel_drewN ?_ _ | refine bel_alloc ?_ _ | refine bel_set ?_ (by first | (dsimp only; omega) | (simp; done) | (simp; omega)) _ | refine bel_trans ?_ (by assumption)))⟩
  · rw [show PH.next 2 1 = (0, 18) by decide]
    go_enter Tryd.func11, Tryd.ntmps11
    go_wp2_with fail
    refine (phase_is_yes 2 _ (by omega) (by omega)).mono ?_
    rintro e w1 ⟨rfl, rfl⟩
    go_wp2_with fail
    go_ret2
    exact ⟨rfl, (by repeat (first | exact Below.refl _ _ | assumption | refine bel_drew ?_ | refine bel_drewN ?_ _ | refine bel_alloc ?_ _ | refine bel_set ?_ (by first | (dsimp only; omega) | (simp; done) | (simp; omega)) _ | refine bel_trans ?_ (by assumption)))⟩
  · rw [show PH.next 2 2 = (0, 18) by decide]
    go_enter Tryd.func11, Tryd.ntmps11
    go_wp2_with fail
    refine (phase_is_yes 2 _ (by omega) (by omega)).mono ?_
    rintro e w1 ⟨rfl, rfl⟩
    go_wp2_with fail
    go_ret2
    exact ⟨rfl, (by repeat (first | exact Below.refl _ _ | assumption | refine bel_drew ?_ | refine bel_drewN ?_ _ | refine bel_alloc ?_ _ | refine bel_set ?_ (by first | (dsimp only; omega) | (simp; done) | (simp; omega)) _ | refine bel_trans ?_ (by assumption)))⟩
  · rw [show PH.next 2 3 = (3, 0) by decide]
    go_enter Tryd.func11, Tryd.ntmps11
    go_wp2_with fail
    refine (phase_is_yes 2 _ (by omega) (by omega)).mono ?_
    rintro e w1 ⟨rfl, rfl⟩
    go_wp2_with fail
    go_ret2
    exact ⟨rfl, (by repeat (first | exact Below.refl _ _ | assumption | refine bel_drew ?_ | refine bel_drewN ?_ _ | refine bel_alloc ?_ _ | refine bel_set ?_ (by first | (dsimp only; omega) | (simp; done) | (simp; omega)) _ | refine bel_trans ?_ (by assumption)))⟩
  · rw [show PH.next 2 4 = (0, 18) by decide]
    go_enter Tryd.func11, Tryd.ntmps11
    go_wp2_with fail
    refine (phase_is_yes 2 _ (by omega) (by omega)).mono ?_
    rintro e w1 ⟨rfl, rfl⟩
    go_wp2_with fail
    go_ret2
    exact ⟨rfl, (by repeat (first | exact Below.refl _ _ | assumption | refine bel_drew ?_ | refine bel_drewN ?_ _ | refine bel_alloc ?_ _ | refine bel_set ?_ (by first | (dsimp only; omega) | (simp; done) | (simp; omega)) _ | refine bel_trans ?_ (by assumption)))⟩
  · rw [show PH.next 3 1 = (0, 18) by decide]
    go_enter Tryd.func11, Tryd.ntmps11
    go_wp2_with fail
    refine (phase_is_yes 3 _ (by omega) (by omega)).mono ?_
    rintro e w1 ⟨rfl, rfl⟩
    go_wp2_with fail
    go_ret2
    exact ⟨rfl, (by repeat (first | exact Below.refl _ _ | assumption | refine bel_drew ?_ | refine bel_drewN ?_ _ | refine bel_alloc ?_ _ | refine bel_set ?_ (by first | (dsimp only; omega) | (simp; done) | (simp; omega)) _ | refine bel_trans ?_ (by assumption)))⟩
  · rw [show PH.next 3 2 = (0, 18) by decide]
    go_enter Tryd.func11, Tryd.ntmps11
    go_wp2_with fail
    refine (phase_is_yes 3 _ (by omega) (by omega)).mono ?_
    rintro e w1 ⟨rfl, rfl⟩
    go_wp2_with fail
    go_ret2
    exact ⟨rfl, (by repeat (first | exact Below.refl _ _ | assumption | refine bel_drew ?_ | refine bel_drewN ?_ _ | refine bel_alloc ?_ _ | refine bel_set ?_ (by first | (dsimp only; omega) | (simp; done) | (simp; omega)) _ | refine bel_trans ?_ (by assumption)))⟩
  · rw [show PH.next 3 3 = (0, 18) by decide]
    go_enter Tryd.func11, Tryd.ntmps11
    go_wp2_with fail
    refine (phase_is_yes 3 _ (by omega) (by omega)).mono ?_
    rintro e w1 ⟨rfl, rfl⟩
    go_wp2_with fail
    go_ret2
    exact ⟨rfl, (by repeat (first | exact Below.refl _ _ | assumption | refine bel_drew ?_ | refine bel_drewN ?_ _ | refine bel_alloc ?_ _ | refine bel_set ?_ (by first | (dsimp only; omega) | (simp; done) | (simp; omega)) _ | refine bel_trans ?_ (by assumption)))⟩
  · rw [show PH.next 3 4 = (0, 0) by decide]
    go_enter Tryd.func11, Tryd.ntmps11
    go_wp2_with fail
    refine (phase_is_yes 3 _ (by omega) (by omega)).mono ?_
    rintro e w1 ⟨rfl, rfl⟩
    go_wp2_with fail
    go_ret2
    exact ⟨rfl, (by repeat (first | exact Below.refl _ _ | assumption | refine bel_drew ?_ | refine bel_drewN ?_ _ | refine bel_alloc ?_ _ | refine bel_set ?_ (by first | (dsimp only; omega) | (simp; done) | (simp; omega)) _ | refine bel_trans ?_ (by assumption)))⟩

set_option maxHeartbeats 2000000 in
theorem ref15_Next (p e : Int) (w : World) (bp : -9223372036854775808 ≤ p ∧ p ≤ 9223372036854775807) (be : -9223372036854775808 ≤ e ∧ e ≤ 9223372036854775807) : Calls Tryd.prog 12 #[.int .i64 p, .int .i64 e] w fun e' w' => e' = .returned (.tuple #[.int .i64 (PH.next p e).1, .int .i64 (PH.next p e).2]) ∧ w = w' := by
  by_cases h1 : p < 0
  · rw [PH.next_arg (Or.inl h1)]
    go_enter Tryd.func12, Tryd.ntmps12
    go_wp2_with fail
    go_ret2
    exact ⟨rfl, rfl⟩
  by_cases h2 : 3 < p
  · rw [PH.next_arg (Or.inr (Or.inl h2))]
    go_enter Tryd.func12, Tryd.ntmps12
    go_wp2_with fail
    go_ret2
    exact ⟨rfl, rfl⟩
  have h3 : 0 ≤ p := by omega
  have h4 : p ≤ 3 := by omega
  clear h1 h2
  by_cases h5 : e < 1
  · rw [PH.next_arg (Or.inr (Or.inr (Or.inl h5)))]
    go_enter Tryd.func12, Tryd.ntmps12
    go_wp2_with fail
    go_ret2
    exact ⟨rfl, rfl⟩
  by_cases h6 : 4 < e
  · rw [PH.next_arg (Or.inr (Or.inr (Or.inr h6)))]
    go_enter Tryd.func12, Tryd.ntmps12
    go_wp2_with fail
    go_ret2
    exact ⟨rfl, rfl⟩
  have h7 : 1 ≤ e := by omega
  have h8 : e ≤ 4 := by omega
  clear h5 h6
  have hp : p = 0 ∨ p = 1 ∨ p = 2 ∨ p = 3 := by omega
  have he : e = 1 ∨ e = 2 ∨ e = 3 ∨ e = 4 := by omega
  clear h3 h4 h7 h8 bp be
  rcases hp with rfl | rfl | rfl | rfl <;> rcases he with rfl | rfl | rfl | rfl
  · rw [show PH.next 0 1 = (1, 0) by decide]
    go_enter Tryd.func12, Tryd.ntmps12
    go_wp2_with fail
    go_ret2
    exact ⟨rfl, rfl⟩
  · rw [show PH.next 0 2 = (0, 18) by decide]
    go_enter Tryd.func12, Tryd.ntmps12
    go_wp2_with fail
    go_ret2
    exact ⟨rfl, rfl⟩
  · rw [show PH.next 0 3 = (0, 18) by decide]
    go_enter Tryd.func12, Tryd.ntmps12
    go_wp2_with fail
    go_ret2
    exact ⟨rfl, rfl⟩
  · rw [show PH.next 0 4 = (0, 18) by decide]
    go_enter Tryd.func12, Tryd.ntmps12
    go_wp2_with fail
    go_ret2
    exact ⟨rfl, rfl⟩
  · rw [show PH.next 1 1 = (0, 18) by decide]
    go_enter Tryd.func12, Tryd.ntmps12
    go_wp2_with fail
    go_ret2
    exact ⟨rfl, rfl⟩
  · rw [show PH.next 1 2 = (2, 0) by decide]
    go_enter Tryd.func12, Tryd.ntmps12
    go_wp2_with fail
    go_ret2
    exact ⟨rfl, rfl⟩
  · rw [show PH.next 1 3 = (0, 18) by decide]
    go_enter Tryd.func12, Tryd.ntmps12
    go_wp2_with fail
    go_ret2
    exact ⟨rfl, rfl⟩
  · rw [show PH.next 1 4 = (0, 18) by decide]
    go_enter Tryd.func12, Tryd.ntmps12
    go_wp2_with fail
    go_ret2
    exact ⟨rfl, rfl⟩
  · rw [show PH.next 2 1 = (0, 18) by decide]
    go_enter Tryd.func12, Tryd.ntmps12
    go_wp2_with fail
    go_ret2
    exact ⟨rfl, rfl⟩
  · rw [show PH.next 2 2 = (0, 18) by decide]
    go_enter Tryd.func12, Tryd.ntmps12
    go_wp2_with fail
    go_ret2
    exact ⟨rfl, rfl⟩
  · rw [show PH.next 2 3 = (3, 0) by decide]
    go_enter Tryd.func12, Tryd.ntmps12
    go_wp2_with fail
    go_ret2
    exact ⟨rfl, rfl⟩
  · rw [show PH.next 2 4 = (0, 18) by decide]
    go_enter Tryd.func12, Tryd.ntmps12
    go_wp2_with fail
    go_ret2
    exact ⟨rfl, rfl⟩
  · rw [show PH.next 3 1 = (0, 18) by decide]
    go_enter Tryd.func12, Tryd.ntmps12
    go_wp2_with fail
    go_ret2
    exact ⟨rfl, rfl⟩
  · rw [show PH.next 3 2 = (0, 18) by decide]
    go_enter Tryd.func12, Tryd.ntmps12
    go_wp2_with fail
    go_ret2
    exact ⟨rfl, rfl⟩
  · rw [show PH.next 3 3 = (0, 18) by decide]
    go_enter Tryd.func12, Tryd.ntmps12
    go_wp2_with fail
    go_ret2
    exact ⟨rfl, rfl⟩
  · rw [show PH.next 3 4 = (0, 0) by decide]
    go_enter Tryd.func12, Tryd.ntmps12
    go_wp2_with fail
    go_ret2
    exact ⟨rfl, rfl⟩

theorem phase_Name (p : Int) (w : World) (ht : Tab w) : Calls Tryd.prog 10 #[.int .i64 p] w fun e w' => e = .returned (.string (PH.name p)) ∧ w = w' := by
  obtain ⟨t0, t1, t2, t3, t4⟩ := ht
  by_cases h : p < 0 ∨ 3 < p
  · rw [PH.name_no h]
    go_enter Tryd.func10, Tryd.ntmps10
    go_wp2_with fail
    refine (phase_is_no p _ h).mono ?_
    rintro e w1 ⟨rfl, rfl⟩
    go_wp2_with fail
    go_ret
    exact ⟨rfl, rfl⟩
  have hp : p = 0 ∨ p = 1 ∨ p = 2 ∨ p = 3 := by omega
  clear h
  rcases hp with rfl | rfl | rfl | rfl
  · rw [show PH.name 0 = PH.n0 from rfl]
    go_enter Tryd.func10, Tryd.ntmps10
    go_wp2_with fail
    refine (phase_is_yes 0 _ (by omega) (by omega)).mono ?_
    rintro e w1 ⟨rfl, rfl⟩
    go_wp2_with fail
    go_ret
    exact ⟨rfl, rfl⟩
  · rw [show PH.name 1 = PH.n1 from rfl]
    go_enter Tryd.func10, Tryd.ntmps10
    go_wp2_with fail
    refine (phase_is_yes 1 _ (by omega) (by omega)).mono ?_
    rintro e w1 ⟨rfl, rfl⟩
    go_wp2_with fail
    go_ret
    exact ⟨rfl, rfl⟩
  · rw [show PH.name 2 = PH.n2 from rfl]
    go_enter Tryd.func10, Tryd.ntmps10
    go_wp2_with fail
    refine (phase_is_yes 2 _ (by omega) (by omega)).mono ?_
    rintro e w1 ⟨rfl, rfl⟩
    go_wp2_with fail
    go_ret
    exact ⟨rfl, rfl⟩
  · rw [show PH.name 3 = PH.n3 from rfl]
    go_enter Tryd.func10, Tryd.ntmps10
    go_wp2_with fail
    refine (phase_is_yes 3 _ (by omega) (by omega)).mono ?_
    rintro e w1 ⟨rfl, rfl⟩
    go_wp2_with fail
    go_ret
    exact ⟨rfl, rfl⟩

theorem ref15_Name (p : Int) (w : World) : Calls Tryd.prog 13 #[.int .i64 p] w fun e w' => e = .returned (.string (PH.name p)) ∧ Below w.heap.size w w' := by
  by_cases h1 : p < 0
  · rw [PH.name_no (Or.inl h1)]
    go_enter Tryd.func13, Tryd.ntmps13
    go_wp2_with fail
    go_ret
    exact ⟨rfl, (by repeat (first | exact Below.refl _ _ | assumption | refine bel_drew ?_ | refine bel_drewN ?_ _ | refine bel_alloc ?_ _ | refine bel_set ?_ (by first | (dsimp only; omega) | (simp; done) | (simp; omega)) _ | refine bel_trans ?_ (by assumption)))⟩
  by_cases h2 : 3 < p
  · rw [PH.name_no (Or.inr h2)]
    go_enter Tryd.func13, Tryd.ntmps13
    go_wp2_with fail
    go_ret
    exact ⟨rfl, (by repeat (first | exact Below.refl _ _ | assumption | refine bel_drew ?_ | refine bel_drewN ?_ _ | refine bel_alloc ?_ _ | refine bel_set ?_ (by first | (dsimp only; omega) | (simp; done) | (simp; omega)) _ | refine bel_trans ?_ (by assumption)))⟩
  have hp : p = 0 ∨ p = 1 ∨ p = 2 ∨ p = 3 := by omega
  clear h1 h2
  rcases hp with rfl | rfl | rfl | rfl
  · rw [show PH.name 0 = PH.n0 from rfl]
    go_enter Tryd.func13, Tryd.ntmps13
    go_wp2_with fail
    go_ret
    exact ⟨rfl, (by repeat (first | exact Below.refl _ _ | assumption | refine bel_drew ?_ | refine bel_drewN ?_ _ | refine bel_alloc ?_ _ | refine bel_set ?_ (by first | (dsimp only; omega) | (simp; done) | (simp; omega)) _ | refine bel_trans ?_ (by assumption)))⟩
  · rw [show PH.name 1 = PH.n1 from rfl]
    go_enter Tryd.func13, Tryd.ntmps13
    go_wp2_with fail
    go_ret
    exact ⟨rfl, (by repeat (first | exact Below.refl _ _ | assumption | refine bel_drew ?_ | refine bel_drewN ?_ _ | refine bel_alloc ?_ _ | refine bel_set ?_ (by first | (dsimp only; omega) | (simp; done) | (simp; omega)) _ | refine bel_trans ?_ (by assumption)))⟩
  · rw [show PH.name 2 = PH.n2 from rfl]
    go_enter Tryd.func13, Tryd.ntmps13
    go_wp2_with fail
    go_ret
    exact ⟨rfl, (by repeat (first | exact Below.refl _ _ | assumption | refine bel_drew ?_ | refine bel_drewN ?_ _ | refine bel_alloc ?_ _ | refine bel_set ?_ (by first | (dsimp only; omega) | (simp; done) | (simp; omega)) _ | refine bel_trans ?_ (by assumption)))⟩
  · rw [show PH.name 3 = PH.n3 from rfl]
    go_enter Tryd.func13, Tryd.ntmps13
    go_wp2_with fail
    go_ret
    exact ⟨rfl, (by repeat (first | exact Below.refl _ _ | assumption | refine bel_drew ?_ | refine bel_drewN ?_ _ | refine bel_alloc ?_ _ | refine bel_set ?_ (by first | (dsimp only; omega) | (simp; done) | (simp; omega)) _ | refine bel_trans ?_ (by assumption)))⟩

theorem phase_Away (p t : Int) (w : World) (bp : -9223372036854775808 ≤ p ∧ p ≤ 9223372036854775807) (bt : -9223372036854775808 ≤ t ∧ t ≤ 9223372036854775807) : Calls Tryd.prog 14 #[.int .i64 p, .int .i64 t] w fun e w' => e = .returned (.int .i64 (PH.away p t)) ∧ w = w' := by
  unfold PH.away
  by_cases h : p < 0 ∨ 3 < p
  · rw [if_pos (by omega)]
    go_enter Tryd.func14, Tryd.ntmps14
    go_wp2_with fail
    refine (phase_is_no p _ h).mono ?_
    rintro e w1 ⟨rfl, rfl⟩
    go_wp2_with fail
    go_ret
    exact ⟨rfl, rfl⟩
  have h0 : 0 ≤ p := by omega
  have h1 : p ≤ 3 := by omega
  by_cases g : t < 0 ∨ 3 < t
  · rw [if_pos (by omega)]
    clear h
    go_enter Tryd.func14, Tryd.ntmps14
    go_wp2_with fail
    refine (phase_is_yes p _ h0 h1).mono ?_
    rintro e w1 ⟨rfl, rfl⟩
    go_wp2_with fail
    refine (phase_is_no t _ g).mono ?_
    rintro e w1 ⟨rfl, rfl⟩
    go_wp2_with fail
    go_ret
    exact ⟨rfl, rfl⟩
  have g0 : 0 ≤ t := by omega
  have g1 : t ≤ 3 := by omega
  rw [if_neg (by omega)]
  have x1 : (t - p + 4).tmod 4 = (t - p + 4) % 4 := Int.tmod_eq_emod_of_nonneg (by omega)
  clear g h
  go_enter Tryd.func14, Tryd.ntmps14
  go_wp2_with fail
  refine (phase_is_yes p _ h0 h1).mono ?_
  rintro e w1 ⟨rfl, rfl⟩
  go_wp2_with fail
  refine (phase_is_yes t _ g0 g1).mono ?_
  rintro e w1 ⟨rfl, rfl⟩
  go_wp2_with fail
  go_ret
  exact ⟨ret_int (by omega), rfl⟩

/-- What holds at the head of the reference's loop. -/
def AwayRel (t A : Int) (f n : Value) : Prop := ∃ p k : Int, 0 ≤ p ∧ p ≤ 3 ∧ 0 ≤ k ∧ f = .int .i64 p ∧ n = .int .i64 k ∧ k + (t - p + 4) % 4 = A

theorem ref15_Away (p t : Int) (w : World) (bp : -9223372036854775808 ≤ p ∧ p ≤ 9223372036854775807) (bt : -9223372036854775808 ≤ t ∧ t ≤ 9223372036854775807) : Calls Tryd.prog 15 #[.int .i64 p, .int .i64 t] w fun e w' => e = .returned (.int .i64 (PH.away p t)) ∧ w = w' := by
  unfold PH.away
  by_cases h : p < 0
  · rw [if_pos (by omega)]
    go_enter Tryd.func15, Tryd.ntmps15
    go_wp2_with fail
    go_ret
    exact ⟨rfl, rfl⟩
  by_cases h1 : 3 < p
  · rw [if_pos (by omega)]
    have h0 : 0 ≤ p := by omega
    go_enter Tryd.func15, Tryd.ntmps15
    go_wp2_with fail
    go_ret
    exact ⟨rfl, rfl⟩
  have h2 : 0 ≤ p := by omega
  have h3 : p ≤ 3 := by omega
  clear h h1
  by_cases g : t < 0
  · rw [if_pos (by omega)]
    go_enter Tryd.func15, Tryd.ntmps15
    go_wp2_with fail
    go_ret
    exact ⟨rfl, rfl⟩
  by_cases g1 : 3 < t
  · rw [if_pos (by omega)]
    have g0 : 0 ≤ t := by omega
    go_enter Tryd.func15, Tryd.ntmps15
    go_wp2_with fail
    go_ret
    exact ⟨rfl, rfl⟩
  have g2 : 0 ≤ t := by omega
  have g3 : t ≤ 3 := by omega
  clear g g1
  rw [if_neg (by omega)]
  obtain ⟨A, hA⟩ : ∃ A, (t - p + 4) % 4 = A := ⟨_, rfl⟩
  have hA0 : A ≤ 3 := by omega
  rw [hA]
  go_enter Tryd.func15, Tryd.ntmps15
  go_wp2_with fail
  go_loop [0, 5] (fun f n => AwayRel t A f n) (fun _ n => (A - intOf n).toNat)
  case atStart => exact ⟨p, 0, h2, h3, by omega, rfl, rfl, by omega⟩
  case round =>
    obtain ⟨q, k, q0, q1, k0, rfl, rfl, hk⟩ := hrel
    by_cases hq : q = t
    · subst hq
      obtain rfl : k = A := by omega
      go_wp2_with fail
      go_ret
      exact ⟨rfl, rfl⟩
    · have hb : (q == t) = false := by simpa using hq
      have c1 := fun W => ref15_Next q (q + 1) W (by omega) (by omega)
      rw [PH.next_ok ⟨q0, q1⟩] at c1
      obtain ⟨q', hq'⟩ : ∃ q' : Int, (if q = 3 then 0 else q + 1) = q' := ⟨_, rfl⟩
      have hq2 : 0 ≤ q' ∧ q' ≤ 3 ∧ k + 1 + (t - q' + 4) % 4 = A ∧ k + 1 ≤ 3 := by
        rw [← hq']; split <;> omega
      obtain ⟨y0, y1, y2, y3⟩ := hq2
      dsimp only at c1
      rw [hq'] at c1
      have C1 := Lib.hid c1
      clear c1 hq'
      go_wp2_with fail
      refine (C1.out _).mono ?_
      rintro e w1 ⟨rfl, rfl⟩
      go_wp2_with fail
      go_round
      case rel => exact ⟨q', k + 1, y0, y1, by omega, by go_num, by go_num, y2⟩
      case measure => simp [intOf]; omega
end Go.Proofs.YtbgohgligponiaaDoor
