/-
  The contracts of account.Reserve, Grant, Cancel, Give.
-/
import Derived.Test.YtbgohgligponiaaAcctB
namespace Go.Proofs.Ytbgohgligponiaa
open Go.RowKit
set_option linter.unusedVariables false
attribute [local go_sem] drewN_alloc drewN_setCell

theorem apply_Reserve (c h r n : Int) (w : World) (bc : -9223372036854775808 ≤ c ∧ c ≤ 9223372036854775807) (bh : -9223372036854775808 ≤ h ∧ h ≤ 9223372036854775807) (br : -9223372036854775808 ≤ r ∧ r ≤ 9223372036854775807) (bn : -9223372036854775808 ≤ n ∧ n ≤ 9223372036854775807) :
    Calls Try.prog 54 #[.agg #[.int .i64 c, .int .i64 h, .int .i64 r], .int .i64 n, .agg #[.func (Fn.func 55) #[] #[], .int .i64 7]] w fun e w' => e = .returned (.tuple #[.agg #[.int .i64 (PA.doo 1 c h r n).1.1, .int .i64 (PA.doo 1 c h r n).1.2.1, .int .i64 (PA.doo 1 c h r n).1.2.2], .int .i64 (PA.doo 1 c h r n).2]) ∧ Below w.heap.size w w' := by
  cases hr : PA.right c h r
  · rw [PA.doo_arg (Or.inl hr)]; exact apply_nr c h r n w bc bh br bn _ _ hr
  · have hi := (PA.right_iff c h r).1 hr
    by_cases n1 : 1 ≤ n
    · by_cases n2 : n ≤ 1048576
      · by_cases hy : n ≤ c - h - r
        · rw [PA.doo1_yes hr n1 hy]; exact apply_Reserve_ok c h r n w bc bh br bn hr n1 n2 ((PA.right_iff _ _ _).2 (by omega))
        · rw [PA.doo1_no hr n1 (by omega)]; exact apply_Reserve_no c h r n w bc bh br bn hr n1 n2 ((PA.right_no _ _ _).2 (by omega))
      · rw [PA.doo1_no hr n1 (by omega)]; exact apply_big c h r n w bc bh br bn _ _ hr (by omega)
    · rw [PA.doo_arg (Or.inr (by omega))]; exact apply_n0 c h r n w bc bh br bn _ _ hr (by omega)

set_option maxHeartbeats 1000000 in
theorem account_Reserve (c h r n : Int) (w : World) (bc : -9223372036854775808 ≤ c ∧ c ≤ 9223372036854775807) (bh : -9223372036854775808 ≤ h ∧ h ≤ 9223372036854775807) (br : -9223372036854775808 ≤ r ∧ r ≤ 9223372036854775807) (bn : -9223372036854775808 ≤ n ∧ n ≤ 9223372036854775807) :
    Calls Try.prog 31 #[.agg #[.int .i64 c, .int .i64 h, .int .i64 r], .int .i64 n] w fun e w' => e = .returned (.tuple #[.agg #[.int .i64 (PA.doo 1 c h r n).1.1, .int .i64 (PA.doo 1 c h r n).1.2.1, .int .i64 (PA.doo 1 c h r n).1.2.2], .int .i64 (PA.doo 1 c h r n).2]) ∧ Below w.heap.size w w' := by
  go_enter Try.func31, Try.ntmps31
  go_wp2_with fail
  refine (apply_Reserve c h r n _ bc bh br bn).mono ?_
  rintro e w1 ⟨rfl, k1⟩
  have qk1_0 := cell_after (a := ⟨w.heap.size + 1, 0, none⟩) (v := .int .i64 0) k1 (by first | (dsimp only; omega) | (simp; done) | (simp; omega)) (by first | assumption | exact cell_alloc _ (by dsimp only; omega) (by assumption) | (simp [go_sem]; done))
  have fqk1_0 := frozen_after (a := ⟨w.heap.size + 1, 0, none⟩) k1 (by first | (dsimp only; omega) | (simp; done) | (simp; omega)) (by first | assumption | exact frozen_alloc _ (by dsimp only; omega) (by assumption) | (simp [go_sem]; done))
  have qk1_1 := cell_after (a := ⟨w.heap.size + 1, 1, none⟩) (v := .int .i64 0) k1 (by first | (dsimp only; omega) | (simp; done) | (simp; omega)) (by first | assumption | exact cell_alloc _ (by dsimp only; omega) (by assumption) | (simp [go_sem]; done))
  have fqk1_1 := frozen_after (a := ⟨w.heap.size + 1, 1, none⟩) k1 (by first | (dsimp only; omega) | (simp; done) | (simp; omega)) (by first | assumption | exact frozen_alloc _ (by dsimp only; omega) (by assumption) | (simp [go_sem]; done))
  have qk1_2 := cell_after (a := ⟨w.heap.size + 1, 2, none⟩) (v := .int .i64 0) k1 (by first | (dsimp only; omega) | (simp; done) | (simp; omega)) (by first | assumption | exact cell_alloc _ (by dsimp only; omega) (by assumption) | (simp [go_sem]; done))
  have fqk1_2 := frozen_after (a := ⟨w.heap.size + 1, 2, none⟩) k1 (by first | (dsimp only; omega) | (simp; done) | (simp; omega)) (by first | assumption | exact frozen_alloc _ (by dsimp only; omega) (by assumption) | (simp [go_sem]; done))
  have s1 := k1.size
  simp only [World.size_alloc] at s1
  have K1 : Below w.heap.size w w1 := (by repeat (first | exact Below.refl _ _ | assumption | refine bel_drew ?_ | refine bel_drewN ?_ _ | refine bel_alloc ?_ _ | refine bel_set ?_ (by first | (dsimp only; omega) | (simp; done) | (simp; omega)) _ | refine bel_trans ?_ (by assumption)))
  clear k1
  go_wp2_with fail
  refine bodyPost_ret (v := .tuple #[.agg #[.int .i64 (PA.doo 1 c h r n).1.1, .int .i64 (PA.doo 1 c h r n).1.2.1, .int .i64 (PA.doo 1 c h r n).1.2.2], .int .i64 (PA.doo 1 c h r n).2]) (by simp [results, Try.results31, go_sem, *]) rfl ⟨rfl, (by repeat (first | exact Below.refl _ _ | assumption | refine bel_drew ?_ | refine bel_drewN ?_ _ | refine bel_alloc ?_ _ | refine bel_set ?_ (by first | (dsimp only; omega) | (simp; done) | (simp; omega)) _ | refine bel_trans ?_ (by assumption)))⟩

theorem apply_Grant (c h r n : Int) (w : World) (bc : -9223372036854775808 ≤ c ∧ c ≤ 9223372036854775807) (bh : -9223372036854775808 ≤ h ∧ h ≤ 9223372036854775807) (br : -9223372036854775808 ≤ r ∧ r ≤ 9223372036854775807) (bn : -9223372036854775808 ≤ n ∧ n ≤ 9223372036854775807) :
    Calls Try.prog 54 #[.agg #[.int .i64 c, .int .i64 h, .int .i64 r], .int .i64 n, .agg #[.func (Fn.func 57) #[] #[], .int .i64 20]] w fun e w' => e = .returned (.tuple #[.agg #[.int .i64 (PA.doo 2 c h r n).1.1, .int .i64 (PA.doo 2 c h r n).1.2.1, .int .i64 (PA.doo 2 c h r n).1.2.2], .int .i64 (PA.doo 2 c h r n).2]) ∧ Below w.heap.size w w' := by
  cases hr : PA.right c h r
  · rw [PA.doo_arg (Or.inl hr)]; exact apply_nr c h r n w bc bh br bn _ _ hr
  · have hi := (PA.right_iff c h r).1 hr
    by_cases n1 : 1 ≤ n
    · by_cases n2 : n ≤ 1048576
      · by_cases hy : n ≤ r
        · rw [PA.doo2_yes hr n1 hy]; exact apply_Grant_ok c h r n w bc bh br bn hr n1 n2 ((PA.right_iff _ _ _).2 (by omega))
        · rw [PA.doo2_no hr n1 (by omega)]; exact apply_Grant_no c h r n w bc bh br bn hr n1 n2 ((PA.right_no _ _ _).2 (by omega))
      · rw [PA.doo2_no hr n1 (by omega)]; exact apply_big c h r n w bc bh br bn _ _ hr (by omega)
    · rw [PA.doo_arg (Or.inr (by omega))]; exact apply_n0 c h r n w bc bh br bn _ _ hr (by omega)

set_option maxHeartbeats 1000000 in
theorem account_Grant (c h r n : Int) (w : World) (bc : -9223372036854775808 ≤ c ∧ c ≤ 9223372036854775807) (bh : -9223372036854775808 ≤ h ∧ h ≤ 9223372036854775807) (br : -9223372036854775808 ≤ r ∧ r ≤ 9223372036854775807) (bn : -9223372036854775808 ≤ n ∧ n ≤ 9223372036854775807) :
    Calls Try.prog 33 #[.agg #[.int .i64 c, .int .i64 h, .int .i64 r], .int .i64 n] w fun e w' => e = .returned (.tuple #[.agg #[.int .i64 (PA.doo 2 c h r n).1.1, .int .i64 (PA.doo 2 c h r n).1.2.1, .int .i64 (PA.doo 2 c h r n).1.2.2], .int .i64 (PA.doo 2 c h r n).2]) ∧ Below w.heap.size w w' := by
  go_enter Try.func33, Try.ntmps33
  go_wp2_with fail
  refine (apply_Grant c h r n _ bc bh br bn).mono ?_
  rintro e w1 ⟨rfl, k1⟩
  have qk1_0 := cell_after (a := ⟨w.heap.size + 1, 0, none⟩) (v := .int .i64 0) k1 (by first | (dsimp only; omega) | (simp; done) | (simp; omega)) (by first | assumption | exact cell_alloc _ (by dsimp only; omega) (by assumption) | (simp [go_sem]; done))
  have fqk1_0 := frozen_after (a := ⟨w.heap.size + 1, 0, none⟩) k1 (by first | (dsimp only; omega) | (simp; done) | (simp; omega)) (by first | assumption | exact frozen_alloc _ (by dsimp only; omega) (by assumption) | (simp [go_sem]; done))
  have qk1_1 := cell_after (a := ⟨w.heap.size + 1, 1, none⟩) (v := .int .i64 0) k1 (by first | (dsimp only; omega) | (simp; done) | (simp; omega)) (by first | assumption | exact cell_alloc _ (by dsimp only; omega) (by assumption) | (simp [go_sem]; done))
  have fqk1_1 := frozen_after (a := ⟨w.heap.size + 1, 1, none⟩) k1 (by first | (dsimp only; omega) | (simp; done) | (simp; omega)) (by first | assumption | exact frozen_alloc _ (by dsimp only; omega) (by assumption) | (simp [go_sem]; done))
  have qk1_2 := cell_after (a := ⟨w.heap.size + 1, 2, none⟩) (v := .int .i64 0) k1 (by first | (dsimp only; omega) | (simp; done) | (simp; omega)) (by first | assumption | exact cell_alloc _ (by dsimp only; omega) (by assumption) | (simp [go_sem]; done))
  have fqk1_2 := frozen_after (a := ⟨w.heap.size + 1, 2, none⟩) k1 (by first | (dsimp only; omega) | (simp; done) | (simp; omega)) (by first | assumption | exact frozen_alloc _ (by dsimp only; omega) (by assumption) | (simp [go_sem]; done))
  have s1 := k1.size
  simp only [World.size_alloc] at s1
  have K1 : Below w.heap.size w w1 := (by repeat (first | exact Below.refl _ _ | assumption | refine bel_drew ?_ | refine bel_drewN ?_ _ | refine bel_alloc ?_ _ | refine bel_set ?_ (by first | (dsimp only; omega) | (simp; done) | (simp; omega)) _ | refine bel_trans ?_ (by assumption)))
  clear k1
  go_wp2_with fail
  refine bodyPost_ret (v := .tuple #[.agg #[.int .i64 (PA.doo 2 c h r n).1.1, .int .i64 (PA.doo 2 c h r n).1.2.1, .int .i64 (PA.doo 2 c h r n).1.2.2], .int .i64 (PA.doo 2 c h r n).2]) (by simp [results, Try.results33, go_sem, *]) rfl ⟨rfl, (by repeat (first | exact Below.refl _ _ | assumption | refine bel_drew ?_ | refine bel_drewN ?_ _ | refine bel_alloc ?_ _ | refine bel_set ?_ (by first | (dsimp only; omega) | (simp; done) | (simp; omega)) _ | refine bel_trans ?_ (by assumption)))⟩

theorem apply_Cancel (c h r n : Int) (w : World) (bc : -9223372036854775808 ≤ c ∧ c ≤ 9223372036854775807) (bh : -9223372036854775808 ≤ h ∧ h ≤ 9223372036854775807) (br : -9223372036854775808 ≤ r ∧ r ≤ 9223372036854775807) (bn : -9223372036854775808 ≤ n ∧ n ≤ 9223372036854775807) :
    Calls Try.prog 54 #[.agg #[.int .i64 c, .int .i64 h, .int .i64 r], .int .i64 n, .agg #[.func (Fn.func 56) #[] #[], .int .i64 20]] w fun e w' => e = .returned (.tuple #[.agg #[.int .i64 (PA.doo 3 c h r n).1.1, .int .i64 (PA.doo 3 c h r n).1.2.1, .int .i64 (PA.doo 3 c h r n).1.2.2], .int .i64 (PA.doo 3 c h r n).2]) ∧ Below w.heap.size w w' := by
  cases hr : PA.right c h r
  · rw [PA.doo_arg (Or.inl hr)]; exact apply_nr c h r n w bc bh br bn _ _ hr
  · have hi := (PA.right_iff c h r).1 hr
    by_cases n1 : 1 ≤ n
    · by_cases n2 : n ≤ 1048576
      · by_cases hy : n ≤ r
        · rw [PA.doo3_yes hr n1 hy]; exact apply_Cancel_ok c h r n w bc bh br bn hr n1 n2 ((PA.right_iff _ _ _).2 (by omega))
        · rw [PA.doo3_no hr n1 (by omega)]; exact apply_Cancel_no c h r n w bc bh br bn hr n1 n2 ((PA.right_no _ _ _).2 (by omega))
      · rw [PA.doo3_no hr n1 (by omega)]; exact apply_big c h r n w bc bh br bn _ _ hr (by omega)
    · rw [PA.doo_arg (Or.inr (by omega))]; exact apply_n0 c h r n w bc bh br bn _ _ hr (by omega)

set_option maxHeartbeats 1000000 in
theorem account_Cancel (c h r n : Int) (w : World) (bc : -9223372036854775808 ≤ c ∧ c ≤ 9223372036854775807) (bh : -9223372036854775808 ≤ h ∧ h ≤ 9223372036854775807) (br : -9223372036854775808 ≤ r ∧ r ≤ 9223372036854775807) (bn : -9223372036854775808 ≤ n ∧ n ≤ 9223372036854775807) :
    Calls Try.prog 32 #[.agg #[.int .i64 c, .int .i64 h, .int .i64 r], .int .i64 n] w fun e w' => e = .returned (.tuple #[.agg #[.int .i64 (PA.doo 3 c h r n).1.1, .int .i64 (PA.doo 3 c h r n).1.2.1, .int .i64 (PA.doo 3 c h r n).1.2.2], .int .i64 (PA.doo 3 c h r n).2]) ∧ Below w.heap.size w w' := by
  go_enter Try.func32, Try.ntmps32
  go_wp2_with fail
  refine (apply_Cancel c h r n _ bc bh br bn).mono ?_
  rintro e w1 ⟨rfl, k1⟩
  have qk1_0 := cell_after (a := ⟨w.heap.size + 1, 0, none⟩) (v := .int .i64 0) k1 (by first | (dsimp only; omega) | (simp; done) | (simp; omega)) (by first | assumption | exact cell_alloc _ (by dsimp only; omega) (by assumption) | (simp [go_sem]; done))
  have fqk1_0 := frozen_after (a := ⟨w.heap.size + 1, 0, none⟩) k1 (by first | (dsimp only; omega) | (simp; done) | (simp; omega)) (by first | assumption | exact frozen_alloc _ (by dsimp only; omega) (by assumption) | (simp [go_sem]; done))
  have qk1_1 := cell_after (a := ⟨w.heap.size + 1, 1, none⟩) (v := .int .i64 0) k1 (by first | (dsimp only; omega) | (simp; done) | (simp; omega)) (by first | assumption | exact cell_alloc _ (by dsimp only; omega) (by assumption) | (simp [go_sem]; done))
  have fqk1_1 := frozen_after (a := ⟨w.heap.size + 1, 1, none⟩) k1 (by first | (dsimp only; omega) | (simp; done) | (simp; omega)) (by first | assumption | exact frozen_alloc _ (by dsimp only; omega) (by assumption) | (simp [go_sem]; done))
  have qk1_2 := cell_after (a := ⟨w.heap.size + 1, 2, none⟩) (v := .int .i64 0) k1 (by first | (dsimp only; omega) | (simp; done) | (simp; omega)) (by first | assumption | exact cell_alloc _ (by dsimp only; omega) (by assumption) | (simp [go_sem]; done))
  have fqk1_2 := frozen_after (a := ⟨w.heap.size + 1, 2, none⟩) k1 (by first | (dsimp only; omega) | (simp; done) | (simp; omega)) (by first | assumption | exact frozen_alloc _ (by dsimp only; omega) (by assumption) | (simp [go_sem]; done))
  have s1 := k1.size
  simp only [World.size_alloc] at s1
  have K1 : Below w.heap.size w w1 := (by repeat (first | exact Below.refl _ _ | assumption | refine bel_drew ?_ | refine bel_drewN ?_ _ | refine bel_alloc ?_ _ | refine bel_set ?_ (by first | (dsimp only; omega) | (simp; done) | (simp; omega)) _ | refine bel_trans ?_ (by assumption)))
  clear k1
  go_wp2_with fail
  refine bodyPost_ret (v := .tuple #[.agg #[.int .i64 (PA.doo 3 c h r n).1.1, .int .i64 (PA.doo 3 c h r n).1.2.1, .int .i64 (PA.doo 3 c h r n).1.2.2], .int .i64 (PA.doo 3 c h r n).2]) (by simp [results, Try.results32, go_sem, *]) rfl ⟨rfl, (by repeat (first | exact Below.refl _ _ | assumption | refine bel_drew ?_ | refine bel_drewN ?_ _ | refine bel_alloc ?_ _ | refine bel_set ?_ (by first | (dsimp only; omega) | (simp; done) | (simp; omega)) _ | refine bel_trans ?_ (by assumption)))⟩

theorem apply_Give (c h r n : Int) (w : World) (bc : -9223372036854775808 ≤ c ∧ c ≤ 9223372036854775807) (bh : -9223372036854775808 ≤ h ∧ h ≤ 9223372036854775807) (br : -9223372036854775808 ≤ r ∧ r ≤ 9223372036854775807) (bn : -9223372036854775808 ≤ n ∧ n ≤ 9223372036854775807) :
    Calls Try.prog 54 #[.agg #[.int .i64 c, .int .i64 h, .int .i64 r], .int .i64 n, .agg #[.func (Fn.func 58) #[] #[], .int .i64 20]] w fun e w' => e = .returned (.tuple #[.agg #[.int .i64 (PA.doo 4 c h r n).1.1, .int .i64 (PA.doo 4 c h r n).1.2.1, .int .i64 (PA.doo 4 c h r n).1.2.2], .int .i64 (PA.doo 4 c h r n).2]) ∧ Below w.heap.size w w' := by
  cases hr : PA.right c h r
  · rw [PA.doo_arg (Or.inl hr)]; exact apply_nr c h r n w bc bh br bn _ _ hr
  · have hi := (PA.right_iff c h r).1 hr
    by_cases n1 : 1 ≤ n
    · by_cases n2 : n ≤ 1048576
      · by_cases hy : n ≤ h
        · rw [PA.doo4_yes hr n1 hy]; exact apply_Give_ok c h r n w bc bh br bn hr n1 n2 ((PA.right_iff _ _ _).2 (by omega))
        · rw [PA.doo4_no hr n1 (by omega)]; exact apply_Give_no c h r n w bc bh br bn hr n1 n2 ((PA.right_no _ _ _).2 (by omega))
      · rw [PA.doo4_no hr n1 (by omega)]; exact apply_big c h r n w bc bh br bn _ _ hr (by omega)
    · rw [PA.doo_arg (Or.inr (by omega))]; exact apply_n0 c h r n w bc bh br bn _ _ hr (by omega)

set_option maxHeartbeats 1000000 in
theorem account_Give (c h r n : Int) (w : World) (bc : -9223372036854775808 ≤ c ∧ c ≤ 9223372036854775807) (bh : -9223372036854775808 ≤ h ∧ h ≤ 9223372036854775807) (br : -9223372036854775808 ≤ r ∧ r ≤ 9223372036854775807) (bn : -9223372036854775808 ≤ n ∧ n ≤ 9223372036854775807) :
    Calls Try.prog 34 #[.agg #[.int .i64 c, .int .i64 h, .int .i64 r], .int .i64 n] w fun e w' => e = .returned (.tuple #[.agg #[.int .i64 (PA.doo 4 c h r n).1.1, .int .i64 (PA.doo 4 c h r n).1.2.1, .int .i64 (PA.doo 4 c h r n).1.2.2], .int .i64 (PA.doo 4 c h r n).2]) ∧ Below w.heap.size w w' := by
  go_enter Try.func34, Try.ntmps34
  go_wp2_with fail
  refine (apply_Give c h r n _ bc bh br bn).mono ?_
  rintro e w1 ⟨rfl, k1⟩
  have qk1_0 := cell_after (a := ⟨w.heap.size + 1, 0, none⟩) (v := .int .i64 0) k1 (by first | (dsimp only; omega) | (simp; done) | (simp; omega)) (by first | assumption | exact cell_alloc _ (by dsimp only; omega) (by assumption) | (simp [go_sem]; done))
  have fqk1_0 := frozen_after (a := ⟨w.heap.size + 1, 0, none⟩) k1 (by first | (dsimp only; omega) | (simp; done) | (simp; omega)) (by first | assumption | exact frozen_alloc _ (by dsimp only; omega) (by assumption) | (simp [go_sem]; done))
  have qk1_1 := cell_after (a := ⟨w.heap.size + 1, 1, none⟩) (v := .int .i64 0) k1 (by first | (dsimp only; omega) | (simp; done) | (simp; omega)) (by first | assumption | exact cell_alloc _ (by dsimp only; omega) (by assumption) | (simp [go_sem]; done))
  have fqk1_1 := frozen_after (a := ⟨w.heap.size + 1, 1, none⟩) k1 (by first | (dsimp only; omega) | (simp; done) | (simp; omega)) (by first | assumption | exact frozen_alloc _ (by dsimp only; omega) (by assumption) | (simp [go_sem]; done))
  have qk1_2 := cell_after (a := ⟨w.heap.size + 1, 2, none⟩) (v := .int .i64 0) k1 (by first | (dsimp only; omega) | (simp; done) | (simp; omega)) (by first | assumption | exact cell_alloc _ (by dsimp only; omega) (by assumption) | (simp [go_sem]; done))
  have fqk1_2 := frozen_after (a := ⟨w.heap.size + 1, 2, none⟩) k1 (by first | (dsimp only; omega) | (simp; done) | (simp; omega)) (by first | assumption | exact frozen_alloc _ (by dsimp only; omega) (by assumption) | (simp [go_sem]; done))
  have s1 := k1.size
  simp only [World.size_alloc] at s1
  have K1 : Below w.heap.size w w1 := (by repeat (first | exact Below.refl _ _ | assumption | refine bel_drew ?_ | refine bel_drewN ?_ _ | refine bel_alloc ?_ _ | refine bel_set ?_ (by first | (dsimp only; omega) | (simp; done) | (simp; omega)) _ | refine bel_trans ?_ (by assumption)))
  clear k1
  go_wp2_with fail
  refine bodyPost_ret (v := .tuple #[.agg #[.int .i64 (PA.doo 4 c h r n).1.1, .int .i64 (PA.doo 4 c h r n).1.2.1, .int .i64 (PA.doo 4 c h r n).1.2.2], .int .i64 (PA.doo 4 c h r n).2]) (by simp [results, Try.results34, go_sem, *]) rfl ⟨rfl, (by repeat (first | exact Below.refl _ _ | assumption | refine bel_drew ?_ | refine bel_drewN ?_ _ | refine bel_alloc ?_ _ | refine bel_set ?_ (by first | (dsimp only; omega) | (simp; done) | (simp; omega)) _ | refine bel_trans ?_ (by assumption)))⟩

end Go.Proofs.Ytbgohgligponiaa
