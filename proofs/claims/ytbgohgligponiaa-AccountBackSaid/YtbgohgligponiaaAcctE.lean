/-
  The contracts of account.New, Need, Room and of their references.
-/
import Derived.Test.YtbgohgligponiaaAcctD
namespace Go.Proofs.Ytbgohgligponiaa
open Go.RowKit
set_option linter.unusedVariables false
attribute [local go_sem] drewN_alloc drewN_setCell

theorem account_Need (c h r : Int) (w : World) (bc : -9223372036854775808 ≤ c ∧ c ≤ 9223372036854775807) (bh : -9223372036854775808 ≤ h ∧ h ≤ 9223372036854775807) (br : -9223372036854775808 ≤ r ∧ r ≤ 9223372036854775807) :
    Calls Try.prog 26 #[.agg #[.int .i64 c, .int .i64 h, .int .i64 r]] w fun e w' => e = .returned (.int .i64 (PA.need c h r)) ∧ Below w.heap.size w w' := by
  cases hr : PA.right c h r
  · have hv : PA.need c h r = 0 := by simp [PA.need, hr]
    rw [hv]
    clear hv
    go_enter Try.func26, Try.ntmps26
    go_wp2_with fail
    refine (account_Right c h r _ bc bh br).mono ?_
    rintro e w1 ⟨rfl, k1⟩
    have qk1_0 := cell_after (a := ⟨w.heap.size, 0, none⟩) (v := .int .i64 c) k1 (by first | (dsimp only; omega) | (simp; done) | (simp; omega)) (by first | assumption | exact cell_alloc _ (by dsimp only; omega) (by assumption) | (simp [go_sem]; done))
    have fqk1_0 := frozen_after (a := ⟨w.heap.size, 0, none⟩) k1 (by first | (dsimp only; omega) | (simp; done) | (simp; omega)) (by first | assumption | exact frozen_alloc _ (by dsimp only; omega) (by assumption) | (simp [go_sem]; done))
    have qk1_1 := cell_after (a := ⟨w.heap.size, 1, none⟩) (v := .int .i64 h) k1 (by first | (dsimp only; omega) | (simp; done) | (simp; omega)) (by first | assumption | exact cell_alloc _ (by dsimp only; omega) (by assumption) | (simp [go_sem]; done))
    have fqk1_1 := frozen_after (a := ⟨w.heap.size, 1, none⟩) k1 (by first | (dsimp only; omega) | (simp; done) | (simp; omega)) (by first | assumption | exact frozen_alloc _ (by dsimp only; omega) (by assumption) | (simp [go_sem]; done))
    have qk1_2 := cell_after (a := ⟨w.heap.size, 2, none⟩) (v := .int .i64 r) k1 (by first | (dsimp only; omega) | (simp; done) | (simp; omega)) (by first | assumption | exact cell_alloc _ (by dsimp only; omega) (by assumption) | (simp [go_sem]; done))
    have fqk1_2 := frozen_after (a := ⟨w.heap.size, 2, none⟩) k1 (by first | (dsimp only; omega) | (simp; done) | (simp; omega)) (by first | assumption | exact frozen_alloc _ (by dsimp only; omega) (by assumption) | (simp [go_sem]; done))
    have s1 := k1.size
    simp only [World.size_alloc] at s1
    have K1 : Below w.heap.size w w1 := (by repeat (first | exact Below.refl _ _ | assumption | refine bel_drew ?_ | refine bel_drewN ?_ _ | refine bel_alloc ?_ _ | refine bel_set ?_ (by first | (dsimp only; omega) | (simp; done) | (simp; omega)) _ | refine bel_trans ?_ (by assumption)))
    clear k1
    go_wp2_with fail
    go_ret
    exact ⟨rfl, (by repeat (first | exact Below.refl _ _ | assumption | refine bel_drew ?_ | refine bel_drewN ?_ _ | refine bel_alloc ?_ _ | refine bel_set ?_ (by first | (dsimp only; omega) | (simp; done) | (simp; omega)) _ | refine bel_trans ?_ (by assumption)))⟩
  · have hv : PA.need c h r = c - h := by simp [PA.need, hr]
    have hi := (PA.right_iff c h r).1 hr
    have i1 := hi.1; have i2 := hi.2.1; have i3 := hi.2.2.1; have i4 := hi.2.2.2.1; have i5 := hi.2.2.2.2
    clear hi
    rw [hv]
    clear hv
    go_enter Try.func26, Try.ntmps26
    go_wp2_with fail
    refine (account_Right c h r _ bc bh br).mono ?_
    rintro e w1 ⟨rfl, k1⟩
    have qk1_0 := cell_after (a := ⟨w.heap.size, 0, none⟩) (v := .int .i64 c) k1 (by first | (dsimp only; omega) | (simp; done) | (simp; omega)) (by first | assumption | exact cell_alloc _ (by dsimp only; omega) (by assumption) | (simp [go_sem]; done))
    have fqk1_0 := frozen_after (a := ⟨w.heap.size, 0, none⟩) k1 (by first | (dsimp only; omega) | (simp; done) | (simp; omega)) (by first | assumption | exact frozen_alloc _ (by dsimp only; omega) (by assumption) | (simp [go_sem]; done))
    have qk1_1 := cell_after (a := ⟨w.heap.size, 1, none⟩) (v := .int .i64 h) k1 (by first | (dsimp only; omega) | (simp; done) | (simp; omega)) (by first | assumption | exact cell_alloc _ (by dsimp only; omega) (by assumption) | (simp [go_sem]; done))
    have fqk1_1 := frozen_after (a := ⟨w.heap.size, 1, none⟩) k1 (by first | (dsimp only; omega) | (simp; done) | (simp; omega)) (by first | assumption | exact frozen_alloc _ (by dsimp only; omega) (by assumption) | (simp [go_sem]; done))
    have qk1_2 := cell_after (a := ⟨w.heap.size, 2, none⟩) (v := .int .i64 r) k1 (by first | (dsimp only; omega) | (simp; done) | (simp; omega)) (by first | assumption | exact cell_alloc _ (by dsimp only; omega) (by assumption) | (simp [go_sem]; done))
    have fqk1_2 := frozen_after (a := ⟨w.heap.size, 2, none⟩) k1 (by first | (dsimp only; omega) | (simp; done) | (simp; omega)) (by first | assumption | exact frozen_alloc _ (by dsimp only; omega) (by assumption) | (simp [go_sem]; done))
    have s1 := k1.size
    simp only [World.size_alloc] at s1
    have K1 : Below w.heap.size w w1 := (by repeat (first | exact Below.refl _ _ | assumption | refine bel_drew ?_ | refine bel_drewN ?_ _ | refine bel_alloc ?_ _ | refine bel_set ?_ (by first | (dsimp only; omega) | (simp; done) | (simp; omega)) _ | refine bel_trans ?_ (by assumption)))
    clear k1
    go_wp2_with fail
    go_ret
    exact ⟨rfl, (by repeat (first | exact Below.refl _ _ | assumption | refine bel_drew ?_ | refine bel_drewN ?_ _ | refine bel_alloc ?_ _ | refine bel_set ?_ (by first | (dsimp only; omega) | (simp; done) | (simp; omega)) _ | refine bel_trans ?_ (by assumption)))⟩

theorem account_Room (c h r : Int) (w : World) (bc : -9223372036854775808 ≤ c ∧ c ≤ 9223372036854775807) (bh : -9223372036854775808 ≤ h ∧ h ≤ 9223372036854775807) (br : -9223372036854775808 ≤ r ∧ r ≤ 9223372036854775807) :
    Calls Try.prog 28 #[.agg #[.int .i64 c, .int .i64 h, .int .i64 r]] w fun e w' => e = .returned (.int .i64 (PA.room c h r)) ∧ Below w.heap.size w w' := by
  cases hr : PA.right c h r
  · have hv : PA.room c h r = 0 := by simp [PA.room, hr]
    rw [hv]
    clear hv
    go_enter Try.func28, Try.ntmps28
    go_wp2_with fail
    refine (account_Right c h r _ bc bh br).mono ?_
    rintro e w1 ⟨rfl, k1⟩
    have qk1_0 := cell_after (a := ⟨w.heap.size, 0, none⟩) (v := .int .i64 c) k1 (by first | (dsimp only; omega) | (simp; done) | (simp; omega)) (by first | assumption | exact cell_alloc _ (by dsimp only; omega) (by assumption) | (simp [go_sem]; done))
    have fqk1_0 := frozen_after (a := ⟨w.heap.size, 0, none⟩) k1 (by first | (dsimp only; omega) | (simp; done) | (simp; omega)) (by first | assumption | exact frozen_alloc _ (by dsimp only; omega) (by assumption) | (simp [go_sem]; done))
    have qk1_1 := cell_after (a := ⟨w.heap.size, 1, none⟩) (v := .int .i64 h) k1 (by first | (dsimp only; omega) | (simp; done) | (simp; omega)) (by first | assumption | exact cell_alloc _ (by dsimp only; omega) (by assumption) | (simp [go_sem]; done))
    have fqk1_1 := frozen_after (a := ⟨w.heap.size, 1, none⟩) k1 (by first | (dsimp only; omega) | (simp; done) | (simp; omega)) (by first | assumption | exact frozen_alloc _ (by dsimp only; omega) (by assumption) | (simp [go_sem]; done))
    have qk1_2 := cell_after (a := ⟨w.heap.size, 2, none⟩) (v := .int .i64 r) k1 (by first | (dsimp only; omega) | (simp; done) | (simp; omega)) (by first | assumption | exact cell_alloc _ (by dsimp only; omega) (by assumption) | (simp [go_sem]; done))
    have fqk1_2 := frozen_after (a := ⟨w.heap.size, 2, none⟩) k1 (by first | (dsimp only; omega) | (simp; done) | (simp; omega)) (by first | assumption | exact frozen_alloc _ (by dsimp only; omega) (by assumption) | (simp [go_sem]; done))
    have s1 := k1.size
    simp only [World.size_alloc] at s1
    have K1 : Below w.heap.size w w1 := (by repeat (first | exact Below.refl _ _ | assumption | refine bel_drew ?_ | refine bel_drewN ?_ _ | refine bel_alloc ?_ _ | refine bel_set ?_ (by first | (dsimp only; omega) | (simp; done) | (simp; omega)) _ | refine bel_trans ?_ (by assumption)))
    clear k1
    go_wp2_with fail
    go_ret
    exact ⟨rfl, (by repeat (first | exact Below.refl _ _ | assumption | refine bel_drew ?_ | refine bel_drewN ?_ _ | refine bel_alloc ?_ _ | refine bel_set ?_ (by first | (dsimp only; omega) | (simp; done) | (simp; omega)) _ | refine bel_trans ?_ (by assumption)))⟩
  · have hv : PA.room c h r = c - h - r := by simp [PA.room, hr]
    have hi := (PA.right_iff c h r).1 hr
    have i1 := hi.1; have i2 := hi.2.1; have i3 := hi.2.2.1; have i4 := hi.2.2.2.1; have i5 := hi.2.2.2.2
    clear hi
    rw [hv]
    clear hv
    go_enter Try.func28, Try.ntmps28
    go_wp2_with fail
    refine (account_Right c h r _ bc bh br).mono ?_
    rintro e w1 ⟨rfl, k1⟩
    have qk1_0 := cell_after (a := ⟨w.heap.size, 0, none⟩) (v := .int .i64 c) k1 (by first | (dsimp only; omega) | (simp; done) | (simp; omega)) (by first | assumption | exact cell_alloc _ (by dsimp only; omega) (by assumption) | (simp [go_sem]; done))
    have fqk1_0 := frozen_after (a := ⟨w.heap.size, 0, none⟩) k1 (by first | (dsimp only; omega) | (simp; done) | (simp; omega)) (by first | assumption | exact frozen_alloc _ (by dsimp only; omega) (by assumption) | (simp [go_sem]; done))
    have qk1_1 := cell_after (a := ⟨w.heap.size, 1, none⟩) (v := .int .i64 h) k1 (by first | (dsimp only; omega) | (simp; done) | (simp; omega)) (by first | assumption | exact cell_alloc _ (by dsimp only; omega) (by assumption) | (simp [go_sem]; done))
    have fqk1_1 := frozen_after (a := ⟨w.heap.size, 1, none⟩) k1 (by first | (dsimp only; omega) | (simp; done) | (simp; omega)) (by first | assumption | exact frozen_alloc _ (by dsimp only; omega) (by assumption) | (simp [go_sem]; done))
    have qk1_2 := cell_after (a := ⟨w.heap.size, 2, none⟩) (v := .int .i64 r) k1 (by first | (dsimp only; omega) | (simp; done) | (simp; omega)) (by first | assumption | exact cell_alloc _ (by dsimp only; omega) (by assumption) | (simp [go_sem]; done))
    have fqk1_2 := frozen_after (a := ⟨w.heap.size, 2, none⟩) k1 (by first | (dsimp only; omega) | (simp; done) | (simp; omega)) (by first | assumption | exact frozen_alloc _ (by dsimp only; omega) (by assumption) | (simp [go_sem]; done))
    have s1 := k1.size
    simp only [World.size_alloc] at s1
    have K1 : Below w.heap.size w w1 := (by repeat (first | exact Below.refl _ _ | assumption | refine bel_drew ?_ | refine bel_drewN ?_ _ | refine bel_alloc ?_ _ | refine bel_set ?_ (by first | (dsimp only; omega) | (simp; done) | (simp; omega)) _ | refine bel_trans ?_ (by assumption)))
    clear k1
    go_wp2_with fail
    go_ret
    exact ⟨rfl, (by repeat (first | exact Below.refl _ _ | assumption | refine bel_drew ?_ | refine bel_drewN ?_ _ | refine bel_alloc ?_ _ | refine bel_set ?_ (by first | (dsimp only; omega) | (simp; done) | (simp; omega)) _ | refine bel_trans ?_ (by assumption)))⟩

theorem ref26_Need (c h r : Int) (w : World) (bc : -9223372036854775808 ≤ c ∧ c ≤ 9223372036854775807) (bh : -9223372036854775808 ≤ h ∧ h ≤ 9223372036854775807) (br : -9223372036854775808 ≤ r ∧ r ≤ 9223372036854775807) :
    Calls Try.prog 27 #[.agg #[.int .i64 c, .int .i64 h, .int .i64 r]] w fun e w' => e = .returned (.int .i64 (PA.need c h r)) ∧ Below w.heap.size w w' := by
  cases hr : PA.right c h r
  · have hv : PA.need c h r = 0 := by simp [PA.need, hr]
    rw [hv]
    clear hv
    go_enter Try.func27, Try.ntmps27
    go_wp2_with fail
    refine (ref26_Right c h r _ bc bh br).mono ?_
    rintro e w1 ⟨rfl, k1⟩
    have qk1_0 := cell_after (a := ⟨w.heap.size, 0, none⟩) (v := .int .i64 c) k1 (by first | (dsimp only; omega) | (simp; done) | (simp; omega)) (by first | assumption | exact cell_alloc _ (by dsimp only; omega) (by assumption) | (simp [go_sem]; done))
    have fqk1_0 := frozen_after (a := ⟨w.heap.size, 0, none⟩) k1 (by first | (dsimp only; omega) | (simp; done) | (simp; omega)) (by first | assumption | exact frozen_alloc _ (by dsimp only; omega) (by assumption) | (simp [go_sem]; done))
    have qk1_1 := cell_after (a := ⟨w.heap.size, 1, none⟩) (v := .int .i64 h) k1 (by first | (dsimp only; omega) | (simp; done) | (simp; omega)) (by first | assumption | exact cell_alloc _ (by dsimp only; omega) (by assumption) | (simp [go_sem]; done))
    have fqk1_1 := frozen_after (a := ⟨w.heap.size, 1, none⟩) k1 (by first | (dsimp only; omega) | (simp; done) | (simp; omega)) (by first | assumption | exact frozen_alloc _ (by dsimp only; omega) (by assumption) | (simp [go_sem]; done))
    have qk1_2 := cell_after (a := ⟨w.heap.size, 2, none⟩) (v := .int .i64 r) k1 (by first | (dsimp only; omega) | (simp; done) | (simp; omega)) (by first | assumption | exact cell_alloc _ (by dsimp only; omega) (by assumption) | (simp [go_sem]; done))
    have fqk1_2 := frozen_after (a := ⟨w.heap.size, 2, none⟩) k1 (by first | (dsimp only; omega) | (simp; done) | (simp; omega)) (by first | assumption | exact frozen_alloc _ (by dsimp only; omega) (by assumption) | (simp [go_sem]; done))
    have s1 := k1.size
    simp only [World.size_alloc] at s1
    have K1 : Below w.heap.size w w1 := (by repeat (first | exact Below.refl _ _ | assumption | refine bel_drew ?_ | refine bel_drewN ?_ _ | refine bel_alloc ?_ _ | refine bel_set ?_ (by first | (dsimp only; omega) | (simp; done) | (simp; omega)) _ | refine bel_trans ?_ (by assumption)))
    clear k1
    go_wp2_with fail
    go_ret
    exact ⟨rfl, (by repeat (first | exact Below.refl _ _ | assumption | refine bel_drew ?_ | refine bel_drewN ?_ _ | refine bel_alloc ?_ _ | refine bel_set ?_ (by first | (dsimp only; omega) | (simp; done) | (simp; omega)) _ | refine bel_trans ?_ (by assumption)))⟩
  · have hv : PA.need c h r = c - h := by simp [PA.need, hr]
    have hi := (PA.right_iff c h r).1 hr
    have i1 := hi.1; have i2 := hi.2.1; have i3 := hi.2.2.1; have i4 := hi.2.2.2.1; have i5 := hi.2.2.2.2
    clear hi
    rw [hv]
    clear hv
    go_enter Try.func27, Try.ntmps27
    go_wp2_with fail
    refine (ref26_Right c h r _ bc bh br).mono ?_
    rintro e w1 ⟨rfl, k1⟩
    have qk1_0 := cell_after (a := ⟨w.heap.size, 0, none⟩) (v := .int .i64 c) k1 (by first | (dsimp only; omega) | (simp; done) | (simp; omega)) (by first | assumption | exact cell_alloc _ (by dsimp only; omega) (by assumption) | (simp [go_sem]; done))
    have fqk1_0 := frozen_after (a := ⟨w.heap.size, 0, none⟩) k1 (by first | (dsimp only; omega) | (simp; done) | (simp; omega)) (by first | assumption | exact frozen_alloc _ (by dsimp only; omega) (by assumption) | (simp [go_sem]; done))
    have qk1_1 := cell_after (a := ⟨w.heap.size, 1, none⟩) (v := .int .i64 h) k1 (by first | (dsimp only; omega) | (simp; done) | (simp; omega)) (by first | assumption | exact cell_alloc _ (by dsimp only; omega) (by assumption) | (simp [go_sem]; done))
    have fqk1_1 := frozen_after (a := ⟨w.heap.size, 1, none⟩) k1 (by first | (dsimp only; omega) | (simp; done) | (simp; omega)) (by first | assumption | exact frozen_alloc _ (by dsimp only; omega) (by assumption) | (simp [go_sem]; done))
    have qk1_2 := cell_after (a := ⟨w.heap.size, 2, none⟩) (v := .int .i64 r) k1 (by first | (dsimp only; omega) | (simp; done) | (simp; omega)) (by first | assumption | exact cell_alloc _ (by dsimp only; omega) (by assumption) | (simp [go_sem]; done))
    have fqk1_2 := frozen_after (a := ⟨w.heap.size, 2, none⟩) k1 (by first | (dsimp only; omega) | (simp; done) | (simp; omega)) (by first | assumption | exact frozen_alloc _ (by dsimp only; omega) (by assumption) | (simp [go_sem]; done))
    have s1 := k1.size
    simp only [World.size_alloc] at s1
    have K1 : Below w.heap.size w w1 := (by repeat (first | exact Below.refl _ _ | assumption | refine bel_drew ?_ | refine bel_drewN ?_ _ | refine bel_alloc ?_ _ | refine bel_set ?_ (by first | (dsimp only; omega) | (simp; done) | (simp; omega)) _ | refine bel_trans ?_ (by assumption)))
    clear k1
    go_wp2_with fail
    go_ret
    exact ⟨rfl, (by repeat (first | exact Below.refl _ _ | assumption | refine bel_drew ?_ | refine bel_drewN ?_ _ | refine bel_alloc ?_ _ | refine bel_set ?_ (by first | (dsimp only; omega) | (simp; done) | (simp; omega)) _ | refine bel_trans ?_ (by assumption)))⟩

theorem ref26_Room (c h r : Int) (w : World) (bc : -9223372036854775808 ≤ c ∧ c ≤ 9223372036854775807) (bh : -9223372036854775808 ≤ h ∧ h ≤ 9223372036854775807) (br : -9223372036854775808 ≤ r ∧ r ≤ 9223372036854775807) :
    Calls Try.prog 29 #[.agg #[.int .i64 c, .int .i64 h, .int .i64 r]] w fun e w' => e = .returned (.int .i64 (PA.room c h r)) ∧ Below w.heap.size w w' := by
  cases hr : PA.right c h r
  · have hv : PA.room c h r = 0 := by simp [PA.room, hr]
    rw [hv]
    clear hv
    go_enter Try.func29, Try.ntmps29
    go_wp2_with fail
    refine (ref26_Right c h r _ bc bh br).mono ?_
    rintro e w1 ⟨rfl, k1⟩
    have qk1_0 := cell_after (a := ⟨w.heap.size, 0, none⟩) (v := .int .i64 c) k1 (by first | (dsimp only; omega) | (simp; done) | (simp; omega)) (by first | assumption | exact cell_alloc _ (by dsimp only; omega) (by assumption) | (simp [go_sem]; done))
    have fqk1_0 := frozen_after (a := ⟨w.heap.size, 0, none⟩) k1 (by first | (dsimp only; omega) | (simp; done) | (simp; omega)) (by first | assumption | exact frozen_alloc _ (by dsimp only; omega) (by assumption) | (simp [go_sem]; done))
    have qk1_1 := cell_after (a := ⟨w.heap.size, 1, none⟩) (v := .int .i64 h) k1 (by first | (dsimp only; omega) | (simp; done) | (simp; omega)) (by first | assumption | exact cell_alloc _ (by dsimp only; omega) (by assumption) | (simp [go_sem]; done))
    have fqk1_1 := frozen_after (a := ⟨w.heap.size, 1, none⟩) k1 (by first | (dsimp only; omega) | (simp; done) | (simp; omega)) (by first | assumption | exact frozen_alloc _ (by dsimp only; omega) (by assumption) | (simp [go_sem]; done))
    have qk1_2 := cell_after (a := ⟨w.heap.size, 2, none⟩) (v := .int .i64 r) k1 (by first | (dsimp only; omega) | (simp; done) | (simp; omega)) (by first | assumption | exact cell_alloc _ (by dsimp only; omega) (by assumption) | (simp [go_sem]; done))
    have fqk1_2 := frozen_after (a := ⟨w.heap.size, 2, none⟩) k1 (by first | (dsimp only; omega) | (simp; done) | (simp; omega)) (by first | assumption | exact frozen_alloc _ (by dsimp only; omega) (by assumption) | (simp [go_sem]; done))
    have s1 := k1.size
    simp only [World.size_alloc] at s1
    have K1 : Below w.heap.size w w1 := (by repeat (first | exact Below.refl _ _ | assumption | refine bel_drew ?_ | refine bel_drewN ?_ _ | refine bel_alloc ?_ _ | refine bel_set ?_ (by first | (dsimp only; omega) | (simp; done) | (simp; omega)) _ | refine bel_trans ?_ (by assumption)))
    clear k1
    go_wp2_with fail
    go_ret
    exact ⟨rfl, (by repeat (first | exact Below.refl _ _ | assumption | refine bel_drew ?_ | refine bel_drewN ?_ _ | refine bel_alloc ?_ _ | refine bel_set ?_ (by first | (dsimp only; omega) | (simp; done) | (simp; omega)) _ | refine bel_trans ?_ (by assumption)))⟩
  · have hv : PA.room c h r = c - h - r := by simp [PA.room, hr]
    have hi := (PA.right_iff c h r).1 hr
    have i1 := hi.1; have i2 := hi.2.1; have i3 := hi.2.2.1; have i4 := hi.2.2.2.1; have i5 := hi.2.2.2.2
    clear hi
    rw [hv]
    clear hv
    go_enter Try.func29, Try.ntmps29
    go_wp2_with fail
    refine (ref26_Right c h r _ bc bh br).mono ?_
    rintro e w1 ⟨rfl, k1⟩
    have qk1_0 := cell_after (a := ⟨w.heap.size, 0, none⟩) (v := .int .i64 c) k1 (by first | (dsimp only; omega) | (simp; done) | (simp; omega)) (by first | assumption | exact cell_alloc _ (by dsimp only; omega) (by assumption) | (simp [go_sem]; done))
    have fqk1_0 := frozen_after (a := ⟨w.heap.size, 0, none⟩) k1 (by first | (dsimp only; omega) | (simp; done) | (simp; omega)) (by first | assumption | exact frozen_alloc _ (by dsimp only; omega) (by assumption) | (simp [go_sem]; done))
    have qk1_1 := cell_after (a := ⟨w.heap.size, 1, none⟩) (v := .int .i64 h) k1 (by first | (dsimp only; omega) | (simp; done) | (simp; omega)) (by first | assumption | exact cell_alloc _ (by dsimp only; omega) (by assumption) | (simp [go_sem]; done))
    have fqk1_1 := frozen_after (a := ⟨w.heap.size, 1, none⟩) k1 (by first | (dsimp only; omega) | (simp; done) | (simp; omega)) (by first | assumption | exact frozen_alloc _ (by dsimp only; omega) (by assumption) | (simp [go_sem]; done))
    have qk1_2 := cell_after (a := ⟨w.heap.size, 2, none⟩) (v := .int .i64 r) k1 (by first | (dsimp only; omega) | (simp; done) | (simp; omega)) (by first | assumption | exact cell_alloc _ (by dsimp only; omega) (by assumption) | (simp [go_sem]; done))
    have fqk1_2 := frozen_after (a := ⟨w.heap.size, 2, none⟩) k1 (by first | (dsimp only; omega) | (simp; done) | (simp; omega)) (by first | assumption | exact frozen_alloc _ (by dsimp only; omega) (by assumption) | (simp [go_sem]; done))
    have s1 := k1.size
    simp only [World.size_alloc] at s1
    have K1 : Below w.heap.size w w1 := (by repeat (first | exact Below.refl _ _ | assumption | refine bel_drew ?_ | refine bel_drewN ?_ _ | refine bel_alloc ?_ _ | refine bel_set ?_ (by first | (dsimp only; omega) | (simp; done) | (simp; omega)) _ | refine bel_trans ?_ (by assumption)))
    clear k1
    go_wp2_with fail
    go_ret
    exact ⟨rfl, (by repeat (first | exact Below.refl _ _ | assumption | refine bel_drew ?_ | refine bel_drewN ?_ _ | refine bel_alloc ?_ _ | refine bel_set ?_ (by first | (dsimp only; omega) | (simp; done) | (simp; omega)) _ | refine bel_trans ?_ (by assumption)))⟩

theorem account_New (n : Int) (w : World) (bn : -9223372036854775808 ≤ n ∧ n ≤ 9223372036854775807) :
    Calls Try.prog 22 #[.int .i64 n] w fun e w' => e = .returned (.tuple #[.agg #[.int .i64 (PA.new n).1.1, .int .i64 (PA.new n).1.2.1, .int .i64 (PA.new n).1.2.2], .int .i64 (PA.new n).2]) ∧ Below w.heap.size w w' := by
  by_cases hn : n < 1 ∨ 1048576 < n
  · have hv : PA.new n = ((0, 0, 0), 2) := by unfold PA.new; rw [if_pos hn]
    have hr : PA.right n 0 0 = false := (PA.right_no _ _ _).2 (by omega)
    rw [hv]
    clear hv hn
    go_enter Try.func22, Try.ntmps22
    go_wp2_with fail
    refine (account_Right n 0 0 _ bn (by omega) (by omega)).mono ?_
    rintro e w1 ⟨rfl, k1⟩
    have qk1_0 := cell_after (a := ⟨w.heap.size, 0, none⟩) (v := .int .i64 0) k1 (by first | (dsimp only; omega) | (simp; done) | (simp; omega)) (by first | assumption | exact cell_alloc _ (by dsimp only; omega) (by assumption) | (simp [go_sem]; done))
    have fqk1_0 := frozen_after (a := ⟨w.heap.size, 0, none⟩) k1 (by first | (dsimp only; omega) | (simp; done) | (simp; omega)) (by first | assumption | exact frozen_alloc _ (by dsimp only; omega) (by assumption) | (simp [go_sem]; done))
    have qk1_1 := cell_after (a := ⟨w.heap.size, 1, none⟩) (v := .int .i64 0) k1 (by first | (dsimp only; omega) | (simp; done) | (simp; omega)) (by first | assumption | exact cell_alloc _ (by dsimp only; omega) (by assumption) | (simp [go_sem]; done))
    have fqk1_1 := frozen_after (a := ⟨w.heap.size, 1, none⟩) k1 (by first | (dsimp only; omega) | (simp; done) | (simp; omega)) (by first | assumption | exact frozen_alloc _ (by dsimp only; omega) (by assumption) | (simp [go_sem]; done))
    have qk1_2 := cell_after (a := ⟨w.heap.size, 2, none⟩) (v := .int .i64 0) k1 (by first | (dsimp only; omega) | (simp; done) | (simp; omega)) (by first | assumption | exact cell_alloc _ (by dsimp only; omega) (by assumption) | (simp [go_sem]; done))
    have fqk1_2 := frozen_after (a := ⟨w.heap.size, 2, none⟩) k1 (by first | (dsimp only; omega) | (simp; done) | (simp; omega)) (by first | assumption | exact frozen_alloc _ (by dsimp only; omega) (by assumption) | (simp [go_sem]; done))
    have qk1_3 := cell_after (a := ⟨w.heap.size + 1, 0, none⟩) (v := .int .i64 n) k1 (by first | (dsimp only; omega) | (simp; done) | (simp; omega)) (by first | assumption | exact cell_alloc _ (by dsimp only; omega) (by assumption) | (simp [go_sem]; done))
    have fqk1_3 := frozen_after (a := ⟨w.heap.size + 1, 0, none⟩) k1 (by first | (dsimp only; omega) | (simp; done) | (simp; omega)) (by first | assumption | exact frozen_alloc _ (by dsimp only; omega) (by assumption) | (simp [go_sem]; done))
    have qk1_4 := cell_after (a := ⟨w.heap.size + 1, 1, none⟩) (v := .int .i64 0) k1 (by first | (dsimp only; omega) | (simp; done) | (simp; omega)) (by first | assumption | exact cell_alloc _ (by dsimp only; omega) (by assumption) | (simp [go_sem]; done))
    have fqk1_4 := frozen_after (a := ⟨w.heap.size + 1, 1, none⟩) k1 (by first | (dsimp only; omega) | (simp; done) | (simp; omega)) (by first | assumption | exact frozen_alloc _ (by dsimp only; omega) (by assumption) | (simp [go_sem]; done))
    have qk1_5 := cell_after (a := ⟨w.heap.size + 1, 2, none⟩) (v := .int .i64 0) k1 (by first | (dsimp only; omega) | (simp; done) | (simp; omega)) (by first | assumption | exact cell_alloc _ (by dsimp only; omega) (by assumption) | (simp [go_sem]; done))
    have fqk1_5 := frozen_after (a := ⟨w.heap.size + 1, 2, none⟩) k1 (by first | (dsimp only; omega) | (simp; done) | (simp; omega)) (by first | assumption | exact frozen_alloc _ (by dsimp only; omega) (by assumption) | (simp [go_sem]; done))
    have s1 := k1.size
    simp only [World.size_alloc] at s1
    have K1 : Below w.heap.size w w1 := (by repeat (first | exact Below.refl _ _ | assumption | refine bel_drew ?_ | refine bel_drewN ?_ _ | refine bel_alloc ?_ _ | refine bel_set ?_ (by first | (dsimp only; omega) | (simp; done) | (simp; omega)) _ | refine bel_trans ?_ (by assumption)))
    clear k1
    go_wp2_with fail
    refine bodyPost_ret (v := .tuple #[.agg #[.int .i64 0, .int .i64 0, .int .i64 0], .int .i64 2]) (by simp [results, Try.results22, go_sem, *]) rfl ⟨rfl, (by repeat (first | exact Below.refl _ _ | assumption | refine bel_drew ?_ | refine bel_drewN ?_ _ | refine bel_alloc ?_ _ | refine bel_set ?_ (by first | (dsimp only; omega) | (simp; done) | (simp; omega)) _ | refine bel_trans ?_ (by assumption)))⟩
  · have hv : PA.new n = ((n, 0, 0), 0) := by unfold PA.new; rw [if_neg hn]
    have hr : PA.right n 0 0 = true := (PA.right_iff _ _ _).2 (by omega)
    rw [hv]
    clear hv hn
    go_enter Try.func22, Try.ntmps22
    go_wp2_with fail
    refine (account_Right n 0 0 _ bn (by omega) (by omega)).mono ?_
    rintro e w1 ⟨rfl, k1⟩
    have qk1_0 := cell_after (a := ⟨w.heap.size, 0, none⟩) (v := .int .i64 0) k1 (by first | (dsimp only; omega) | (simp; done) | (simp; omega)) (by first | assumption | exact cell_alloc _ (by dsimp only; omega) (by assumption) | (simp [go_sem]; done))
    have fqk1_0 := frozen_after (a := ⟨w.heap.size, 0, none⟩) k1 (by first | (dsimp only; omega) | (simp; done) | (simp; omega)) (by first | assumption | exact frozen_alloc _ (by dsimp only; omega) (by assumption) | (simp [go_sem]; done))
    have qk1_1 := cell_after (a := ⟨w.heap.size, 1, none⟩) (v := .int .i64 0) k1 (by first | (dsimp only; omega) | (simp; done) | (simp; omega)) (by first | assumption | exact cell_alloc _ (by dsimp only; omega) (by assumption) | (simp [go_sem]; done))
    have fqk1_1 := frozen_after (a := ⟨w.heap.size, 1, none⟩) k1 (by first | (dsimp only; omega) | (simp; done) | (simp; omega)) (by first | assumption | exact frozen_alloc _ (by dsimp only; omega) (by assumption) | (simp [go_sem]; done))
    have qk1_2 := cell_after (a := ⟨w.heap.size, 2, none⟩) (v := .int .i64 0) k1 (by first | (dsimp only; omega) | (simp; done) | (simp; omega)) (by first | assumption | exact cell_alloc _ (by dsimp only; omega) (by assumption) | (simp [go_sem]; done))
    have fqk1_2 := frozen_after (a := ⟨w.heap.size, 2, none⟩) k1 (by first | (dsimp only; omega) | (simp; done) | (simp; omega)) (by first | assumption | exact frozen_alloc _ (by dsimp only; omega) (by assumption) | (simp [go_sem]; done))
    have qk1_3 := cell_after (a := ⟨w.heap.size + 1, 0, none⟩) (v := .int .i64 n) k1 (by first | (dsimp only; omega) | (simp; done) | (simp; omega)) (by first | assumption | exact cell_alloc _ (by dsimp only; omega) (by assumption) | (simp [go_sem]; done))
    have fqk1_3 := frozen_after (a := ⟨w.heap.size + 1, 0, none⟩) k1 (by first | (dsimp only; omega) | (simp; done) | (simp; omega)) (by first | assumption | exact frozen_alloc _ (by dsimp only; omega) (by assumption) | (simp [go_sem]; done))
    have qk1_4 := cell_after (a := ⟨w.heap.size + 1, 1, none⟩) (v := .int .i64 0) k1 (by first | (dsimp only; omega) | (simp; done) | (simp; omega)) (by first | assumption | exact cell_alloc _ (by dsimp only; omega) (by assumption) | (simp [go_sem]; done))
    have fqk1_4 := frozen_after (a := ⟨w.heap.size + 1, 1, none⟩) k1 (by first | (dsimp only; omega) | (simp; done) | (simp; omega)) (by first | assumption | exact frozen_alloc _ (by dsimp only; omega) (by assumption) | (simp [go_sem]; done))
    have qk1_5 := cell_after (a := ⟨w.heap.size + 1, 2, none⟩) (v := .int .i64 0) k1 (by first | (dsimp only; omega) | (simp; done) | (simp; omega)) (by first | assumption | exact cell_alloc _ (by dsimp only; omega) (by assumption) | (simp [go_sem]; done))
    have fqk1_5 := frozen_after (a := ⟨w.heap.size + 1, 2, none⟩) k1 (by first | (dsimp only; omega) | (simp; done) | (simp; omega)) (by first | assumption | exact frozen_alloc _ (by dsimp only; omega) (by assumption) | (simp [go_sem]; done))
    have s1 := k1.size
    simp only [World.size_alloc] at s1
    have K1 : Below w.heap.size w w1 := (by repeat (first | exact Below.refl _ _ | assumption | refine bel_drew ?_ | refine bel_drewN ?_ _ | refine bel_alloc ?_ _ | refine bel_set ?_ (by first | (dsimp only; omega) | (simp; done) | (simp; omega)) _ | refine bel_trans ?_ (by assumption)))
    clear k1
    go_wp2_with fail
    refine bodyPost_ret (v := .tuple #[.agg #[.int .i64 n, .int .i64 0, .int .i64 0], .int .i64 0]) (by simp [results, Try.results22, go_sem, *]) rfl ⟨rfl, (by repeat (first | exact Below.refl _ _ | assumption | refine bel_drew ?_ | refine bel_drewN ?_ _ | refine bel_alloc ?_ _ | refine bel_set ?_ (by first | (dsimp only; omega) | (simp; done) | (simp; omega)) _ | refine bel_trans ?_ (by assumption)))⟩

theorem ref26_New (n : Int) (w : World) (bn : -9223372036854775808 ≤ n ∧ n ≤ 9223372036854775807) :
    Calls Try.prog 23 #[.int .i64 n] w fun e w' => e = .returned (.tuple #[.agg #[.int .i64 (PA.new n).1.1, .int .i64 (PA.new n).1.2.1, .int .i64 (PA.new n).1.2.2], .int .i64 (PA.new n).2]) ∧ Below w.heap.size w w' := by
  by_cases h1 : n < 1
  · have hv : PA.new n = ((0, 0, 0), 2) := by unfold PA.new; rw [if_pos (by omega)]
    rw [hv]
    clear hv
    go_enter Try.func23, Try.ntmps23
    go_wp2_with fail
    refine bodyPost_ret (v := .tuple #[.agg #[.int .i64 0, .int .i64 0, .int .i64 0], .int .i64 2]) (by simp [results, Try.results23, go_sem, *]) rfl ⟨rfl, (by repeat (first | exact Below.refl _ _ | assumption | refine bel_drew ?_ | refine bel_drewN ?_ _ | refine bel_alloc ?_ _ | refine bel_set ?_ (by first | (dsimp only; omega) | (simp; done) | (simp; omega)) _ | refine bel_trans ?_ (by assumption)))⟩
  · have h1' : 1 ≤ n := by omega
    by_cases h2 : 1048576 < n
    · have hv : PA.new n = ((0, 0, 0), 2) := by unfold PA.new; rw [if_pos (by omega)]
      rw [hv]
      clear hv h1
      go_enter Try.func23, Try.ntmps23
      go_wp2_with fail
      refine bodyPost_ret (v := .tuple #[.agg #[.int .i64 0, .int .i64 0, .int .i64 0], .int .i64 2]) (by simp [results, Try.results23, go_sem, *]) rfl ⟨rfl, (by repeat (first | exact Below.refl _ _ | assumption | refine bel_drew ?_ | refine bel_drewN ?_ _ | refine bel_alloc ?_ _ | refine bel_set ?_ (by first | (dsimp only; omega) | (simp; done) | (simp; omega)) _ | refine bel_trans ?_ (by assumption)))⟩
    · have hv : PA.new n = ((n, 0, 0), 0) := by unfold PA.new; rw [if_neg (by omega)]
      have h2' : n ≤ 1048576 := by omega
      rw [hv]
      clear hv h1 h2
      go_enter Try.func23, Try.ntmps23
      go_wp2_with fail
      refine bodyPost_ret (v := .tuple #[.agg #[.int .i64 n, .int .i64 0, .int .i64 0], .int .i64 0]) (by simp [results, Try.results23, go_sem, *]) rfl ⟨rfl, (by repeat (first | exact Below.refl _ _ | assumption | refine bel_drew ?_ | refine bel_drewN ?_ _ | refine bel_alloc ?_ _ | refine bel_set ?_ (by first | (dsimp only; omega) | (simp; done) | (simp; omega)) _ | refine bel_trans ?_ (by assumption)))⟩
end Go.Proofs.Ytbgohgligponiaa
