/-
  One call of layer 26 by its number, and the chapter's example.
-/
import Derived.Test.YtbgohgligponiaaAcctE
import Derived.Test.YtbgohgligponiaaEqA
import Derived.Test.YtbgohgligponiaaBase3
namespace Go.Proofs.Ytbgohgligponiaa
open Go.RowKit
set_option linter.unusedVariables false
attribute [local go_sem] drewN_alloc drewN_setCell

theorem law26_one1 (c h r n : Int) (w : World) (bc : -9223372036854775808 ≤ c ∧ c ≤ 9223372036854775807) (bh : -9223372036854775808 ≤ h ∧ h ≤ 9223372036854775807) (br : -9223372036854775808 ≤ r ∧ r ≤ 9223372036854775807) (bn : -9223372036854775808 ≤ n ∧ n ≤ 9223372036854775807) :
    Calls Try.prog 20 #[.int .i64 1, .agg #[.int .i64 c, .int .i64 h, .int .i64 r], .int .i64 n] w fun e w' => e = .returned (.tuple #[.agg #[.int .i64 (PA.doo 1 c h r n).1.1, .int .i64 (PA.doo 1 c h r n).1.2.1, .int .i64 (PA.doo 1 c h r n).1.2.2], .int .i64 (PA.doo 1 c h r n).2]) ∧ Below w.heap.size w w' := by
  go_enter Try.func20, Try.ntmps20
  go_wp2_with fail
  refine (account_Reserve c h r n _ bc bh br bn).mono ?_
  rintro e w1 ⟨rfl, k1⟩
  have q1_0_0 := cell_after (a := ⟨w.heap.size, 0, none⟩) (v := .int .i64 c) k1 (by first | (dsimp only; omega) | (simp; done) | (simp; omega)) (by first | assumption | exact cell_alloc _ (by dsimp only; omega) (by assumption) | (simp [go_sem]; done) | exact cell_alloc _ (by simp; omega) (cell_alloc _ (by dsimp only; omega) (by assumption)))
  have f1_0_0 := frozen_after (a := ⟨w.heap.size, 0, none⟩) k1 (by first | (dsimp only; omega) | (simp; done) | (simp; omega)) (by first | assumption | exact frozen_alloc _ (by dsimp only; omega) (by assumption) | (simp [go_sem]; done) | exact frozen_alloc _ (by simp; omega) (frozen_alloc _ (by dsimp only; omega) (by assumption)))
  have q1_0_1 := cell_after (a := ⟨w.heap.size, 1, none⟩) (v := .int .i64 h) k1 (by first | (dsimp only; omega) | (simp; done) | (simp; omega)) (by first | assumption | exact cell_alloc _ (by dsimp only; omega) (by assumption) | (simp [go_sem]; done) | exact cell_alloc _ (by simp; omega) (cell_alloc _ (by dsimp only; omega) (by assumption)))
  have f1_0_1 := frozen_after (a := ⟨w.heap.size, 1, none⟩) k1 (by first | (dsimp only; omega) | (simp; done) | (simp; omega)) (by first | assumption | exact frozen_alloc _ (by dsimp only; omega) (by assumption) | (simp [go_sem]; done) | exact frozen_alloc _ (by simp; omega) (frozen_alloc _ (by dsimp only; omega) (by assumption)))
  have q1_0_2 := cell_after (a := ⟨w.heap.size, 2, none⟩) (v := .int .i64 r) k1 (by first | (dsimp only; omega) | (simp; done) | (simp; omega)) (by first | assumption | exact cell_alloc _ (by dsimp only; omega) (by assumption) | (simp [go_sem]; done) | exact cell_alloc _ (by simp; omega) (cell_alloc _ (by dsimp only; omega) (by assumption)))
  have f1_0_2 := frozen_after (a := ⟨w.heap.size, 2, none⟩) k1 (by first | (dsimp only; omega) | (simp; done) | (simp; omega)) (by first | assumption | exact frozen_alloc _ (by dsimp only; omega) (by assumption) | (simp [go_sem]; done) | exact frozen_alloc _ (by simp; omega) (frozen_alloc _ (by dsimp only; omega) (by assumption)))
  have q1_1_0 := cell_after (a := ⟨w.heap.size + 1, 0, none⟩) (v := .int .i64 0) k1 (by first | (dsimp only; omega) | (simp; done) | (simp; omega)) (by first | assumption | exact cell_alloc _ (by dsimp only; omega) (by assumption) | (simp [go_sem]; done) | exact cell_alloc _ (by simp; omega) (cell_alloc _ (by dsimp only; omega) (by assumption)))
  have f1_1_0 := frozen_after (a := ⟨w.heap.size + 1, 0, none⟩) k1 (by first | (dsimp only; omega) | (simp; done) | (simp; omega)) (by first | assumption | exact frozen_alloc _ (by dsimp only; omega) (by assumption) | (simp [go_sem]; done) | exact frozen_alloc _ (by simp; omega) (frozen_alloc _ (by dsimp only; omega) (by assumption)))
  have q1_1_1 := cell_after (a := ⟨w.heap.size + 1, 1, none⟩) (v := .int .i64 0) k1 (by first | (dsimp only; omega) | (simp; done) | (simp; omega)) (by first | assumption | exact cell_alloc _ (by dsimp only; omega) (by assumption) | (simp [go_sem]; done) | exact cell_alloc _ (by simp; omega) (cell_alloc _ (by dsimp only; omega) (by assumption)))
  have f1_1_1 := frozen_after (a := ⟨w.heap.size + 1, 1, none⟩) k1 (by first | (dsimp only; omega) | (simp; done) | (simp; omega)) (by first | assumption | exact frozen_alloc _ (by dsimp only; omega) (by assumption) | (simp [go_sem]; done) | exact frozen_alloc _ (by simp; omega) (frozen_alloc _ (by dsimp only; omega) (by assumption)))
  have q1_1_2 := cell_after (a := ⟨w.heap.size + 1, 2, none⟩) (v := .int .i64 0) k1 (by first | (dsimp only; omega) | (simp; done) | (simp; omega)) (by first | assumption | exact cell_alloc _ (by dsimp only; omega) (by assumption) | (simp [go_sem]; done) | exact cell_alloc _ (by simp; omega) (cell_alloc _ (by dsimp only; omega) (by assumption)))
  have f1_1_2 := frozen_after (a := ⟨w.heap.size + 1, 2, none⟩) k1 (by first | (dsimp only; omega) | (simp; done) | (simp; omega)) (by first | assumption | exact frozen_alloc _ (by dsimp only; omega) (by assumption) | (simp [go_sem]; done) | exact frozen_alloc _ (by simp; omega) (frozen_alloc _ (by dsimp only; omega) (by assumption)))
  have z1 := k1.size
  try simp only [World.heap_drewN] at z1
  try simp only [World.size_alloc] at z1
  have t1_0 : w.heap.size < w1.heap.size := by omega
  have t1_1 : w.heap.size + 1 < w1.heap.size := by omega
  have tw1 : w.heap.size ≤ w1.heap.size := by omega
  have K1 : Below w.heap.size w w1 := (by repeat (first | exact Below.refl _ _ | assumption | refine bel_drew ?_ | refine bel_drewN ?_ _ | refine bel_alloc ?_ _ | refine bel_set ?_ (by first | (dsimp only; omega) | (simp; done) | (simp; omega)) _ | refine bel_trans ?_ (by assumption)))
  clear k1 z1
  go_wp2_with fail
  refine bodyPost_ret (v := .tuple #[.agg #[.int .i64 (PA.doo 1 c h r n).1.1, .int .i64 (PA.doo 1 c h r n).1.2.1, .int .i64 (PA.doo 1 c h r n).1.2.2], .int .i64 (PA.doo 1 c h r n).2]) (by simp [results, Try.results20, go_sem, *]) rfl ⟨rfl, (by repeat (first | exact Below.refl _ _ | assumption | refine bel_drew ?_ | refine bel_drewN ?_ _ | refine bel_alloc ?_ _ | refine bel_set ?_ (by first | (dsimp only; omega) | (simp; done) | (simp; omega)) _ | refine bel_trans ?_ (by assumption)))⟩
  
theorem law26_one2 (c h r n : Int) (w : World) (bc : -9223372036854775808 ≤ c ∧ c ≤ 9223372036854775807) (bh : -9223372036854775808 ≤ h ∧ h ≤ 9223372036854775807) (br : -9223372036854775808 ≤ r ∧ r ≤ 9223372036854775807) (bn : -9223372036854775808 ≤ n ∧ n ≤ 9223372036854775807) :
    Calls Try.prog 20 #[.int .i64 2, .agg #[.int .i64 c, .int .i64 h, .int .i64 r], .int .i64 n] w fun e w' => e = .returned (.tuple #[.agg #[.int .i64 (PA.doo 2 c h r n).1.1, .int .i64 (PA.doo 2 c h r n).1.2.1, .int .i64 (PA.doo 2 c h r n).1.2.2], .int .i64 (PA.doo 2 c h r n).2]) ∧ Below w.heap.size w w' := by
  go_enter Try.func20, Try.ntmps20
  go_wp2_with fail
  refine (account_Grant c h r n _ bc bh br bn).mono ?_
  rintro e w1 ⟨rfl, k1⟩
  have q1_0_0 := cell_after (a := ⟨w.heap.size, 0, none⟩) (v := .int .i64 c) k1 (by first | (dsimp only; omega) | (simp; done) | (simp; omega)) (by first | assumption | exact cell_alloc _ (by dsimp only; omega) (by assumption) | (simp [go_sem]; done) | exact cell_alloc _ (by simp; omega) (cell_alloc _ (by dsimp only; omega) (by assumption)))
  have f1_0_0 := frozen_after (a := ⟨w.heap.size, 0, none⟩) k1 (by first | (dsimp only; omega) | (simp; done) | (simp; omega)) (by first | assumption | exact frozen_alloc _ (by dsimp only; omega) (by assumption) | (simp [go_sem]; done) | exact frozen_alloc _ (by simp; omega) (frozen_alloc _ (by dsimp only; omega) (by assumption)))
  have q1_0_1 := cell_after (a := ⟨w.heap.size, 1, none⟩) (v := .int .i64 h) k1 (by first | (dsimp only; omega) | (simp; done) | (simp; omega)) (by first | assumption | exact cell_alloc _ (by dsimp only; omega) (by assumption) | (simp [go_sem]; done) | exact cell_alloc _ (by simp; omega) (cell_alloc _ (by dsimp only; omega) (by assumption)))
  have f1_0_1 := frozen_after (a := ⟨w.heap.size, 1, none⟩) k1 (by first | (dsimp only; omega) | (simp; done) | (simp; omega)) (by first | assumption | exact frozen_alloc _ (by dsimp only; omega) (by assumption) | (simp [go_sem]; done) | exact frozen_alloc _ (by simp; omega) (frozen_alloc _ (by dsimp only; omega) (by assumption)))
  have q1_0_2 := cell_after (a := ⟨w.heap.size, 2, none⟩) (v := .int .i64 r) k1 (by first | (dsimp only; omega) | (simp; done) | (simp; omega)) (by first | assumption | exact cell_alloc _ (by dsimp only; omega) (by assumption) | (simp [go_sem]; done) | exact cell_alloc _ (by simp; omega) (cell_alloc _ (by dsimp only; omega) (by assumption)))
  have f1_0_2 := frozen_after (a := ⟨w.heap.size, 2, none⟩) k1 (by first | (dsimp only; omega) | (simp; done) | (simp; omega)) (by first | assumption | exact frozen_alloc _ (by dsimp only; omega) (by assumption) | (simp [go_sem]; done) | exact frozen_alloc _ (by simp; omega) (frozen_alloc _ (by dsimp only; omega) (by assumption)))
  have q1_1_0 := cell_after (a := ⟨w.heap.size + 1, 0, none⟩) (v := .int .i64 0) k1 (by first | (dsimp only; omega) | (simp; done) | (simp; omega)) (by first | assumption | exact cell_alloc _ (by dsimp only; omega) (by assumption) | (simp [go_sem]; done) | exact cell_alloc _ (by simp; omega) (cell_alloc _ (by dsimp only; omega) (by assumption)))
  have f1_1_0 := frozen_after (a := ⟨w.heap.size + 1, 0, none⟩) k1 (by first | (dsimp only; omega) | (simp; done) | (simp; omega)) (by first | assumption | exact frozen_alloc _ (by dsimp only; omega) (by assumption) | (simp [go_sem]; done) | exact frozen_alloc _ (by simp; omega) (frozen_alloc _ (by dsimp only; omega) (by assumption)))
  have q1_1_1 := cell_after (a := ⟨w.heap.size + 1, 1, none⟩) (v := .int .i64 0) k1 (by first | (dsimp only; omega) | (simp; done) | (simp; omega)) (by first | assumption | exact cell_alloc _ (by dsimp only; omega) (by assumption) | (simp [go_sem]; done) | exact cell_alloc _ (by simp; omega) (cell_alloc _ (by dsimp only; omega) (by assumption)))
  have f1_1_1 := frozen_after (a := ⟨w.heap.size + 1, 1, none⟩) k1 (by first | (dsimp only; omega) | (simp; done) | (simp; omega)) (by first | assumption | exact frozen_alloc _ (by dsimp only; omega) (by assumption) | (simp [go_sem]; done) | exact frozen_alloc _ (by simp; omega) (frozen_alloc _ (by dsimp only; omega) (by assumption)))
  have q1_1_2 := cell_after (a := ⟨w.heap.size + 1, 2, none⟩) (v := .int .i64 0) k1 (by first | (dsimp only; omega) | (simp; done) | (simp; omega)) (by first | assumption | exact cell_alloc _ (by dsimp only; omega) (by assumption) | (simp [go_sem]; done) | exact cell_alloc _ (by simp; omega) (cell_alloc _ (by dsimp only; omega) (by assumption)))
  have f1_1_2 := frozen_after (a := ⟨w.heap.size + 1, 2, none⟩) k1 (by first | (dsimp only; omega) | (simp; done) | (simp; omega)) (by first | assumption | exact frozen_alloc _ (by dsimp only; omega) (by assumption) | (simp [go_sem]; done) | exact frozen_alloc _ (by simp; omega) (frozen_alloc _ (by dsimp only; omega) (by assumption)))
  have z1 := k1.size
  try simp only [World.heap_drewN] at z1
  try simp only [World.size_alloc] at z1
  have t1_0 : w.heap.size < w1.heap.size := by omega
  have t1_1 : w.heap.size + 1 < w1.heap.size := by omega
  have tw1 : w.heap.size ≤ w1.heap.size := by omega
  have K1 : Below w.heap.size w w1 := (by repeat (first | exact Below.refl _ _ | assumption | refine bel_drew ?_ | refine bel_drewN ?_ _ | refine bel_alloc ?_ _ | refine bel_set ?_ (by first | (dsimp only; omega) | (simp; done) | (simp; omega)) _ | refine bel_trans ?_ (by assumption)))
  clear k1 z1
  go_wp2_with fail
  refine bodyPost_ret (v := .tuple #[.agg #[.int .i64 (PA.doo 2 c h r n).1.1, .int .i64 (PA.doo 2 c h r n).1.2.1, .int .i64 (PA.doo 2 c h r n).1.2.2], .int .i64 (PA.doo 2 c h r n).2]) (by simp [results, Try.results20, go_sem, *]) rfl ⟨rfl, (by repeat (first | exact Below.refl _ _ | assumption | refine bel_drew ?_ | refine bel_drewN ?_ _ | refine bel_alloc ?_ _ | refine bel_set ?_ (by first | (dsimp only; omega) | (simp; done) | (simp; omega)) _ | refine bel_trans ?_ (by assumption)))⟩
  
theorem law26_one3 (c h r n : Int) (w : World) (bc : -9223372036854775808 ≤ c ∧ c ≤ 9223372036854775807) (bh : -9223372036854775808 ≤ h ∧ h ≤ 9223372036854775807) (br : -9223372036854775808 ≤ r ∧ r ≤ 9223372036854775807) (bn : -9223372036854775808 ≤ n ∧ n ≤ 9223372036854775807) :
    Calls Try.prog 20 #[.int .i64 3, .agg #[.int .i64 c, .int .i64 h, .int .i64 r], .int .i64 n] w fun e w' => e = .returned (.tuple #[.agg #[.int .i64 (PA.doo 3 c h r n).1.1, .int .i64 (PA.doo 3 c h r n).1.2.1, .int .i64 (PA.doo 3 c h r n).1.2.2], .int .i64 (PA.doo 3 c h r n).2]) ∧ Below w.heap.size w w' := by
  go_enter Try.func20, Try.ntmps20
  go_wp2_with fail
  refine (account_Cancel c h r n _ bc bh br bn).mono ?_
  rintro e w1 ⟨rfl, k1⟩
  have q1_0_0 := cell_after (a := ⟨w.heap.size, 0, none⟩) (v := .int .i64 c) k1 (by first | (dsimp only; omega) | (simp; done) | (simp; omega)) (by first | assumption | exact cell_alloc _ (by dsimp only; omega) (by assumption) | (simp [go_sem]; done) | exact cell_alloc _ (by simp; omega) (cell_alloc _ (by dsimp only; omega) (by assumption)))
  have f1_0_0 := frozen_after (a := ⟨w.heap.size, 0, none⟩) k1 (by first | (dsimp only; omega) | (simp; done) | (simp; omega)) (by first | assumption | exact frozen_alloc _ (by dsimp only; omega) (by assumption) | (simp [go_sem]; done) | exact frozen_alloc _ (by simp; omega) (frozen_alloc _ (by dsimp only; omega) (by assumption)))
  have q1_0_1 := cell_after (a := ⟨w.heap.size, 1, none⟩) (v := .int .i64 h) k1 (by first | (dsimp only; omega) | (simp; done) | (simp; omega)) (by first | assumption | exact cell_alloc _ (by dsimp only; omega) (by assumption) | (simp [go_sem]; done) | exact cell_alloc _ (by simp; omega) (cell_alloc _ (by dsimp only; omega) (by assumption)))
  have f1_0_1 := frozen_after (a := ⟨w.heap.size, 1, none⟩) k1 (by first | (dsimp only; omega) | (simp; done) | (simp; omega)) (by first | assumption | exact frozen_alloc _ (by dsimp only; omega) (by assumption) | (simp [go_sem]; done) | exact frozen_alloc _ (by simp; omega) (frozen_alloc _ (by dsimp only; omega) (by assumption)))
  have q1_0_2 := cell_after (a := ⟨w.heap.size, 2, none⟩) (v := .int .i64 r) k1 (by first | (dsimp only; omega) | (simp; done) | (simp; omega)) (by first | assumption | exact cell_alloc _ (by dsimp only; omega) (by assumption) | (simp [go_sem]; done) | exact cell_alloc _ (by simp; omega) (cell_alloc _ (by dsimp only; omega) (by assumption)))
  have f1_0_2 := frozen_after (a := ⟨w.heap.size, 2, none⟩) k1 (by first | (dsimp only; omega) | (simp; done) | (simp; omega)) (by first | assumption | exact frozen_alloc _ (by dsimp only; omega) (by assumption) | (simp [go_sem]; done) | exact frozen_alloc _ (by simp; omega) (frozen_alloc _ (by dsimp only; omega) (by assumption)))
  have q1_1_0 := cell_after (a := ⟨w.heap.size + 1, 0, none⟩) (v := .int .i64 0) k1 (by first | (dsimp only; omega) | (simp; done) | (simp; omega)) (by first | assumption | exact cell_alloc _ (by dsimp only; omega) (by assumption) | (simp [go_sem]; done) | exact cell_alloc _ (by simp; omega) (cell_alloc _ (by dsimp only; omega) (by assumption)))
  have f1_1_0 := frozen_after (a := ⟨w.heap.size + 1, 0, none⟩) k1 (by first | (dsimp only; omega) | (simp; done) | (simp; omega)) (by first | assumption | exact frozen_alloc _ (by dsimp only; omega) (by assumption) | (simp [go_sem]; done) | exact frozen_alloc _ (by simp; omega) (frozen_alloc _ (by dsimp only; omega) (by assumption)))
  have q1_1_1 := cell_after (a := ⟨w.heap.size + 1, 1, none⟩) (v := .int .i64 0) k1 (by first | (dsimp only; omega) | (simp; done) | (simp; omega)) (by first | assumption | exact cell_alloc _ (by dsimp only; omega) (by assumption) | (simp [go_sem]; done) | exact cell_alloc _ (by simp; omega) (cell_alloc _ (by dsimp only; omega) (by assumption)))
  have f1_1_1 := frozen_after (a := ⟨w.heap.size + 1, 1, none⟩) k1 (by first | (dsimp only; omega) | (simp; done) | (simp; omega)) (by first | assumption | exact frozen_alloc _ (by dsimp only; omega) (by assumption) | (simp [go_sem]; done) | exact frozen_alloc _ (by simp; omega) (frozen_alloc _ (by dsimp only; omega) (by assumption)))
  have q1_1_2 := cell_after (a := ⟨w.heap.size + 1, 2, none⟩) (v := .int .i64 0) k1 (by first | (dsimp only; omega) | (simp; done) | (simp; omega)) (by first | assumption | exact cell_alloc _ (by dsimp only; omega) (by assumption) | (simp [go_sem]; done) | exact cell_alloc _ (by simp; omega) (cell_alloc _ (by dsimp only; omega) (by assumption)))
  have f1_1_2 := frozen_after (a := ⟨w.heap.size + 1, 2, none⟩) k1 (by first | (dsimp only; omega) | (simp; done) | (simp; omega)) (by first | assumption | exact frozen_alloc _ (by dsimp only; omega) (by assumption) | (simp [go_sem]; done) | exact frozen_alloc _ (by simp; omega) (frozen_alloc _ (by dsimp only; omega) (by assumption)))
  have z1 := k1.size
  try simp only [World.heap_drewN] at z1
  try simp only [World.size_alloc] at z1
  have t1_0 : w.heap.size < w1.heap.size := by omega
  have t1_1 : w.heap.size + 1 < w1.heap.size := by omega
  have tw1 : w.heap.size ≤ w1.heap.size := by omega
  have K1 : Below w.heap.size w w1 := (by repeat (first | exact Below.refl _ _ | assumption | refine bel_drew ?_ | refine bel_drewN ?_ _ | refine bel_alloc ?_ _ | refine bel_set ?_ (by first | (dsimp only; omega) | (simp; done) | (simp; omega)) _ | refine bel_trans ?_ (by assumption)))
  clear k1 z1
  go_wp2_with fail
  refine bodyPost_ret (v := .tuple #[.agg #[.int .i64 (PA.doo 3 c h r n).1.1, .int .i64 (PA.doo 3 c h r n).1.2.1, .int .i64 (PA.doo 3 c h r n).1.2.2], .int .i64 (PA.doo 3 c h r n).2]) (by simp [results, Try.results20, go_sem, *]) rfl ⟨rfl, (by repeat (first | exact Below.refl _ _ | assumption | refine bel_drew ?_ | refine bel_drewN ?_ _ | refine bel_alloc ?_ _ | refine bel_set ?_ (by first | (dsimp only; omega) | (simp; done) | (simp; omega)) _ | refine bel_trans ?_ (by assumption)))⟩
  
theorem law26_one4 (c h r n : Int) (w : World) (bc : -9223372036854775808 ≤ c ∧ c ≤ 9223372036854775807) (bh : -9223372036854775808 ≤ h ∧ h ≤ 9223372036854775807) (br : -9223372036854775808 ≤ r ∧ r ≤ 9223372036854775807) (bn : -9223372036854775808 ≤ n ∧ n ≤ 9223372036854775807) :
    Calls Try.prog 20 #[.int .i64 4, .agg #[.int .i64 c, .int .i64 h, .int .i64 r], .int .i64 n] w fun e w' => e = .returned (.tuple #[.agg #[.int .i64 (PA.doo 4 c h r n).1.1, .int .i64 (PA.doo 4 c h r n).1.2.1, .int .i64 (PA.doo 4 c h r n).1.2.2], .int .i64 (PA.doo 4 c h r n).2]) ∧ Below w.heap.size w w' := by
  go_enter Try.func20, Try.ntmps20
  go_wp2_with fail
  refine (account_Give c h r n _ bc bh br bn).mono ?_
  rintro e w1 ⟨rfl, k1⟩
  have q1_0_0 := cell_after (a := ⟨w.heap.size, 0, none⟩) (v := .int .i64 c) k1 (by first | (dsimp only; omega) | (simp; done) | (simp; omega)) (by first | assumption | exact cell_alloc _ (by dsimp only; omega) (by assumption) | (simp [go_sem]; done) | exact cell_alloc _ (by simp; omega) (cell_alloc _ (by dsimp only; omega) (by assumption)))
  have f1_0_0 := frozen_after (a := ⟨w.heap.size, 0, none⟩) k1 (by first | (dsimp only; omega) | (simp; done) | (simp; omega)) (by first | assumption | exact frozen_alloc _ (by dsimp only; omega) (by assumption) | (simp [go_sem]; done) | exact frozen_alloc _ (by simp; omega) (frozen_alloc _ (by dsimp only; omega) (by assumption)))
  have q1_0_1 := cell_after (a := ⟨w.heap.size, 1, none⟩) (v := .int .i64 h) k1 (by first | (dsimp only; omega) | (simp; done) | (simp; omega)) (by first | assumption | exact cell_alloc _ (by dsimp only; omega) (by assumption) | (simp [go_sem]; done) | exact cell_alloc _ (by simp; omega) (cell_alloc _ (by dsimp only; omega) (by assumption)))
  have f1_0_1 := frozen_after (a := ⟨w.heap.size, 1, none⟩) k1 (by first | (dsimp only; omega) | (simp; done) | (simp; omega)) (by first | assumption | exact frozen_alloc _ (by dsimp only; omega) (by assumption) | (simp [go_sem]; done) | exact frozen_alloc _ (by simp; omega) (frozen_alloc _ (by dsimp only; omega) (by assumption)))
  have q1_0_2 := cell_after (a := ⟨w.heap.size, 2, none⟩) (v := .int .i64 r) k1 (by first | (dsimp only; omega) | (simp; done) | (simp; omega)) (by first | assumption | exact cell_alloc _ (by dsimp only; omega) (by assumption) | (simp [go_sem]; done) | exact cell_alloc _ (by simp; omega) (cell_alloc _ (by dsimp only; omega) (by assumption)))
  have f1_0_2 := frozen_after (a := ⟨w.heap.size, 2, none⟩) k1 (by first | (dsimp only; omega) | (simp; done) | (simp; omega)) (by first | assumption | exact frozen_alloc _ (by dsimp only; omega) (by assumption) | (simp [go_sem]; done) | exact frozen_alloc _ (by simp; omega) (frozen_alloc _ (by dsimp only; omega) (by assumption)))
  have q1_1_0 := cell_after (a := ⟨w.heap.size + 1, 0, none⟩) (v := .int .i64 0) k1 (by first | (dsimp only; omega) | (simp; done) | (simp; omega)) (by first | assumption | exact cell_alloc _ (by dsimp only; omega) (by assumption) | (simp [go_sem]; done) | exact cell_alloc _ (by simp; omega) (cell_alloc _ (by dsimp only; omega) (by assumption)))
  have f1_1_0 := frozen_after (a := ⟨w.heap.size + 1, 0, none⟩) k1 (by first | (dsimp only; omega) | (simp; done) | (simp; omega)) (by first | assumption | exact frozen_alloc _ (by dsimp only; omega) (by assumption) | (simp [go_sem]; done) | exact frozen_alloc _ (by simp; omega) (frozen_alloc _ (by dsimp only; omega) (by assumption)))
  have q1_1_1 := cell_after (a := ⟨w.heap.size + 1, 1, none⟩) (v := .int .i64 0) k1 (by first | (dsimp only; omega) | (simp; done) | (simp; omega)) (by first | assumption | exact cell_alloc _ (by dsimp only; omega) (by assumption) | (simp [go_sem]; done) | exact cell_alloc _ (by simp; omega) (cell_alloc _ (by dsimp only; omega) (by assumption)))
  have f1_1_1 := frozen_after (a := ⟨w.heap.size + 1, 1, none⟩) k1 (by first | (dsimp only; omega) | (simp; done) | (simp; omega)) (by first | assumption | exact frozen_alloc _ (by dsimp only; omega) (by assumption) | (simp [go_sem]; done) | exact frozen_alloc _ (by simp; omega) (frozen_alloc _ (by dsimp only; omega) (by assumption)))
  have q1_1_2 := cell_after (a := ⟨w.heap.size + 1, 2, none⟩) (v := .int .i64 0) k1 (by first | (dsimp only; omega) | (simp; done) | (simp; omega)) (by first | assumption | exact cell_alloc _ (by dsimp only; omega) (by assumption) | (simp [go_sem]; done) | exact cell_alloc _ (by simp; omega) (cell_alloc _ (by dsimp only; omega) (by assumption)))
  have f1_1_2 := frozen_after (a := ⟨w.heap.size + 1, 2, none⟩) k1 (by first | (dsimp only; omega) | (simp; done) | (simp; omega)) (by first | assumption | exact frozen_alloc _ (by dsimp only; omega) (by assumption) | (simp [go_sem]; done) | exact frozen_alloc _ (by simp; omega) (frozen_alloc _ (by dsimp only; omega) (by assumption)))
  have z1 := k1.size
  try simp only [World.heap_drewN] at z1
  try simp only [World.size_alloc] at z1
  have t1_0 : w.heap.size < w1.heap.size := by omega
  have t1_1 : w.heap.size + 1 < w1.heap.size := by omega
  have tw1 : w.heap.size ≤ w1.heap.size := by omega
  have K1 : Below w.heap.size w w1 := (by repeat (first | exact Below.refl _ _ | assumption | refine bel_drew ?_ | refine bel_drewN ?_ _ | refine bel_alloc ?_ _ | refine bel_set ?_ (by first | (dsimp only; omega) | (simp; done) | (simp; omega)) _ | refine bel_trans ?_ (by assumption)))
  clear k1 z1
  go_wp2_with fail
  refine bodyPost_ret (v := .tuple #[.agg #[.int .i64 (PA.doo 4 c h r n).1.1, .int .i64 (PA.doo 4 c h r n).1.2.1, .int .i64 (PA.doo 4 c h r n).1.2.2], .int .i64 (PA.doo 4 c h r n).2]) (by simp [results, Try.results20, go_sem, *]) rfl ⟨rfl, (by repeat (first | exact Below.refl _ _ | assumption | refine bel_drew ?_ | refine bel_drewN ?_ _ | refine bel_alloc ?_ _ | refine bel_set ?_ (by first | (dsimp only; omega) | (simp; done) | (simp; omega)) _ | refine bel_trans ?_ (by assumption)))⟩
  
theorem law26_works (w : World) : Calls Try.prog 30 #[] w fun e w' => e = .returned (.bool true) ∧ Below w.heap.size w w' := by
  have c1 : ∀ W, Calls Try.prog 22 #[.int .i64 5] W fun e w' => e = .returned (.tuple #[.agg #[.int .i64 5, .int .i64 0, .int .i64 0], .int .i64 0]) ∧ Below W.heap.size W w' := fun W => account_New 5 W (by omega)
  have c2 : ∀ W, Calls Try.prog 31 #[.agg #[.int .i64 5, .int .i64 0, .int .i64 0], .int .i64 3] W fun e w' => e = .returned (.tuple #[.agg #[.int .i64 5, .int .i64 0, .int .i64 3], .int .i64 0]) ∧ Below W.heap.size W w' := fun W => account_Reserve 5 0 0 3 W (by omega) (by omega) (by omega) (by omega)
  have c3 : ∀ W, Calls Try.prog 33 #[.agg #[.int .i64 5, .int .i64 0, .int .i64 3], .int .i64 2] W fun e w' => e = .returned (.tuple #[.agg #[.int .i64 5, .int .i64 2, .int .i64 1], .int .i64 0]) ∧ Below W.heap.size W w' := fun W => account_Grant 5 0 3 2 W (by omega) (by omega) (by omega) (by omega)
  have c4 : ∀ W, Calls Try.prog 28 #[.agg #[.int .i64 5, .int .i64 2, .int .i64 1]] W fun e w' => e = .returned (.int .i64 2) ∧ Below W.heap.size W w' := fun W => account_Room 5 2 1 W (by omega) (by omega) (by omega)
  have c5 : ∀ W, Calls Try.prog 26 #[.agg #[.int .i64 5, .int .i64 2, .int .i64 1]] W fun e w' => e = .returned (.int .i64 3) ∧ Below W.heap.size W w' := fun W => account_Need 5 2 1 W (by omega) (by omega) (by omega)
  have E := eql_acct_same 5 2 1
  have C1 := Lib.hid c1
  have C2 := Lib.hid c2
  have C3 := Lib.hid c3
  have C4 := Lib.hid c4
  have C5 := Lib.hid c5
  clear c1 c2 c3 c4 c5
  go_enter Try.func30, Try.ntmps30
  go_wp2_with fail
  refine (C1.out _).mono ?_
  rintro e w1 ⟨rfl, k1⟩
  have z1 := k1.size
  try simp only [World.heap_drewN] at z1
  try simp only [World.size_alloc] at z1
  have tw1 : w.heap.size ≤ w1.heap.size := by omega
  have K1 : Below w.heap.size w w1 := (by repeat (first | exact Below.refl _ _ | assumption | refine bel_drew ?_ | refine bel_drewN ?_ _ | refine bel_alloc ?_ _ | refine bel_set ?_ (by first | (dsimp only; omega) | (simp; done) | (simp; omega)) _ | refine bel_trans ?_ (by assumption)))
  clear k1 z1
  go_wp2_with fail
  refine (C2.out _).mono ?_
  rintro e w2 ⟨rfl, k2⟩
  have q2_0_0 := cell_after (a := ⟨w1.heap.size, 0, none⟩) (v := .int .i64 5) k2 (by first | (dsimp only; omega) | (simp; done) | (simp; omega)) (by first | assumption | exact cell_alloc _ (by dsimp only; omega) (by assumption) | (simp [go_sem]; done) | exact cell_alloc _ (by simp; omega) (cell_alloc _ (by dsimp only; omega) (by assumption)))
  have f2_0_0 := frozen_after (a := ⟨w1.heap.size, 0, none⟩) k2 (by first | (dsimp only; omega) | (simp; done) | (simp; omega)) (by first | assumption | exact frozen_alloc _ (by dsimp only; omega) (by assumption) | (simp [go_sem]; done) | exact frozen_alloc _ (by simp; omega) (frozen_alloc _ (by dsimp only; omega) (by assumption)))
  have q2_0_1 := cell_after (a := ⟨w1.heap.size, 1, none⟩) (v := .int .i64 0) k2 (by first | (dsimp only; omega) | (simp; done) | (simp; omega)) (by first | assumption | exact cell_alloc _ (by dsimp only; omega) (by assumption) | (simp [go_sem]; done) | exact cell_alloc _ (by simp; omega) (cell_alloc _ (by dsimp only; omega) (by assumption)))
  have f2_0_1 := frozen_after (a := ⟨w1.heap.size, 1, none⟩) k2 (by first | (dsimp only; omega) | (simp; done) | (simp; omega)) (by first | assumption | exact frozen_alloc _ (by dsimp only; omega) (by assumption) | (simp [go_sem]; done) | exact frozen_alloc _ (by simp; omega) (frozen_alloc _ (by dsimp only; omega) (by assumption)))
  have q2_0_2 := cell_after (a := ⟨w1.heap.size, 2, none⟩) (v := .int .i64 0) k2 (by first | (dsimp only; omega) | (simp; done) | (simp; omega)) (by first | assumption | exact cell_alloc _ (by dsimp only; omega) (by assumption) | (simp [go_sem]; done) | exact cell_alloc _ (by simp; omega) (cell_alloc _ (by dsimp only; omega) (by assumption)))
  have f2_0_2 := frozen_after (a := ⟨w1.heap.size, 2, none⟩) k2 (by first | (dsimp only; omega) | (simp; done) | (simp; omega)) (by first | assumption | exact frozen_alloc _ (by dsimp only; omega) (by assumption) | (simp [go_sem]; done) | exact frozen_alloc _ (by simp; omega) (frozen_alloc _ (by dsimp only; omega) (by assumption)))
  have z2 := k2.size
  try simp only [World.heap_drewN] at z2
  try simp only [World.size_alloc] at z2
  have t2_0 : w1.heap.size < w2.heap.size := by omega
  have tw2 : w.heap.size ≤ w2.heap.size := by omega
  have K2 : Below w.heap.size w w2 := (by repeat (first | exact Below.refl _ _ | assumption | refine bel_drew ?_ | refine bel_drewN ?_ _ | refine bel_alloc ?_ _ | refine bel_set ?_ (by first | (dsimp only; omega) | (simp; done) | (simp; omega)) _ | refine bel_trans ?_ (by assumption)))
  clear k2 z2 tw1 K1
  go_wp2_with fail
  refine (C3.out _).mono ?_
  rintro e w3 ⟨rfl, k3⟩
  have q3_0_0 := cell_after (a := ⟨w1.heap.size, 0, none⟩) (v := .int .i64 5) k3 (by first | (dsimp only; omega) | (simp; done) | (simp; omega)) (by first | assumption | exact cell_alloc _ (by dsimp only; omega) (by assumption) | (simp [go_sem]; done) | exact cell_alloc _ (by simp; omega) (cell_alloc _ (by dsimp only; omega) (by assumption)))
  have f3_0_0 := frozen_after (a := ⟨w1.heap.size, 0, none⟩) k3 (by first | (dsimp only; omega) | (simp; done) | (simp; omega)) (by first | assumption | exact frozen_alloc _ (by dsimp only; omega) (by assumption) | (simp [go_sem]; done) | exact frozen_alloc _ (by simp; omega) (frozen_alloc _ (by dsimp only; omega) (by assumption)))
  have q3_0_1 := cell_after (a := ⟨w1.heap.size, 1, none⟩) (v := .int .i64 0) k3 (by first | (dsimp only; omega) | (simp; done) | (simp; omega)) (by first | assumption | exact cell_alloc _ (by dsimp only; omega) (by assumption) | (simp [go_sem]; done) | exact cell_alloc _ (by simp; omega) (cell_alloc _ (by dsimp only; omega) (by assumption)))
  have f3_0_1 := frozen_after (a := ⟨w1.heap.size, 1, none⟩) k3 (by first | (dsimp only; omega) | (simp; done) | (simp; omega)) (by first | assumption | exact frozen_alloc _ (by dsimp only; omega) (by assumption) | (simp [go_sem]; done) | exact frozen_alloc _ (by simp; omega) (frozen_alloc _ (by dsimp only; omega) (by assumption)))
  have q3_0_2 := cell_after (a := ⟨w1.heap.size, 2, none⟩) (v := .int .i64 0) k3 (by first | (dsimp only; omega) | (simp; done) | (simp; omega)) (by first | assumption | exact cell_alloc _ (by dsimp only; omega) (by assumption) | (simp [go_sem]; done) | exact cell_alloc _ (by simp; omega) (cell_alloc _ (by dsimp only; omega) (by assumption)))
  have f3_0_2 := frozen_after (a := ⟨w1.heap.size, 2, none⟩) k3 (by first | (dsimp only; omega) | (simp; done) | (simp; omega)) (by first | assumption | exact frozen_alloc _ (by dsimp only; omega) (by assumption) | (simp [go_sem]; done) | exact frozen_alloc _ (by simp; omega) (frozen_alloc _ (by dsimp only; omega) (by assumption)))
  have q3_1_0 := cell_after (a := ⟨w2.heap.size, 0, none⟩) (v := .int .i64 5) k3 (by first | (dsimp only; omega) | (simp; done) | (simp; omega)) (by first | assumption | exact cell_alloc _ (by dsimp only; omega) (by assumption) | (simp [go_sem]; done) | exact cell_alloc _ (by simp; omega) (cell_alloc _ (by dsimp only; omega) (by assumption)))
  have f3_1_0 := frozen_after (a := ⟨w2.heap.size, 0, none⟩) k3 (by first | (dsimp only; omega) | (simp; done) | (simp; omega)) (by first | assumption | exact frozen_alloc _ (by dsimp only; omega) (by assumption) | (simp [go_sem]; done) | exact frozen_alloc _ (by simp; omega) (frozen_alloc _ (by dsimp only; omega) (by assumption)))
  have q3_1_1 := cell_after (a := ⟨w2.heap.size, 1, none⟩) (v := .int .i64 0) k3 (by first | (dsimp only; omega) | (simp; done) | (simp; omega)) (by first | assumption | exact cell_alloc _ (by dsimp only; omega) (by assumption) | (simp [go_sem]; done) | exact cell_alloc _ (by simp; omega) (cell_alloc _ (by dsimp only; omega) (by assumption)))
  have f3_1_1 := frozen_after (a := ⟨w2.heap.size, 1, none⟩) k3 (by first | (dsimp only; omega) | (simp; done) | (simp; omega)) (by first | assumption | exact frozen_alloc _ (by dsimp only; omega) (by assumption) | (simp [go_sem]; done) | exact frozen_alloc _ (by simp; omega) (frozen_alloc _ (by dsimp only; omega) (by assumption)))
  have q3_1_2 := cell_after (a := ⟨w2.heap.size, 2, none⟩) (v := .int .i64 3) k3 (by first | (dsimp only; omega) | (simp; done) | (simp; omega)) (by first | assumption | exact cell_alloc _ (by dsimp only; omega) (by assumption) | (simp [go_sem]; done) | exact cell_alloc _ (by simp; omega) (cell_alloc _ (by dsimp only; omega) (by assumption)))
  have f3_1_2 := frozen_after (a := ⟨w2.heap.size, 2, none⟩) k3 (by first | (dsimp only; omega) | (simp; done) | (simp; omega)) (by first | assumption | exact frozen_alloc _ (by dsimp only; omega) (by assumption) | (simp [go_sem]; done) | exact frozen_alloc _ (by simp; omega) (frozen_alloc _ (by dsimp only; omega) (by assumption)))
  have z3 := k3.size
  try simp only [World.heap_drewN] at z3
  try simp only [World.size_alloc] at z3
  have t3_0 : w1.heap.size < w3.heap.size := by omega
  have t3_1 : w2.heap.size < w3.heap.size := by omega
  have tw3 : w.heap.size ≤ w3.heap.size := by omega
  have K3 : Below w.heap.size w w3 := (by repeat (first | exact Below.refl _ _ | assumption | refine bel_drew ?_ | refine bel_drewN ?_ _ | refine bel_alloc ?_ _ | refine bel_set ?_ (by first | (dsimp only; omega) | (simp; done) | (simp; omega)) _ | refine bel_trans ?_ (by assumption)))
  clear k3 z3 q2_0_0 f2_0_0 q2_0_1 f2_0_1 q2_0_2 f2_0_2 t2_0 tw2 K2
  go_wp2_with fail
  refine (C4.out _).mono ?_
  rintro e w4 ⟨rfl, k4⟩
  have q4_0_0 := cell_after (a := ⟨w1.heap.size, 0, none⟩) (v := .int .i64 5) k4 (by first | (dsimp only; omega) | (simp; done) | (simp; omega)) (by first | assumption | exact cell_alloc _ (by dsimp only; omega) (by assumption) | (simp [go_sem]; done) | exact cell_alloc _ (by simp; omega) (cell_alloc _ (by dsimp only; omega) (by assumption)))
  have f4_0_0 := frozen_after (a := ⟨w1.heap.size, 0, none⟩) k4 (by first | (dsimp only; omega) | (simp; done) | (simp; omega)) (by first | assumption | exact frozen_alloc _ (by dsimp only; omega) (by assumption) | (simp [go_sem]; done) | exact frozen_alloc _ (by simp; omega) (frozen_alloc _ (by dsimp only; omega) (by assumption)))
  have q4_0_1 := cell_after (a := ⟨w1.heap.size, 1, none⟩) (v := .int .i64 0) k4 (by first | (dsimp only; omega) | (simp; done) | (simp; omega)) (by first | assumption | exact cell_alloc _ (by dsimp only; omega) (by assumption) | (simp [go_sem]; done) | exact cell_alloc _ (by simp; omega) (cell_alloc _ (by dsimp only; omega) (by assumption)))
  have f4_0_1 := frozen_after (a := ⟨w1.heap.size, 1, none⟩) k4 (by first | (dsimp only; omega) | (simp; done) | (simp; omega)) (by first | assumption | exact frozen_alloc _ (by dsimp only; omega) (by assumption) | (simp [go_sem]; done) | exact frozen_alloc _ (by simp; omega) (frozen_alloc _ (by dsimp only; omega) (by assumption)))
  have q4_0_2 := cell_after (a := ⟨w1.heap.size, 2, none⟩) (v := .int .i64 0) k4 (by first | (dsimp only; omega) | (simp; done) | (simp; omega)) (by first | assumption | exact cell_alloc _ (by dsimp only; omega) (by assumption) | (simp [go_sem]; done) | exact cell_alloc _ (by simp; omega) (cell_alloc _ (by dsimp only; omega) (by assumption)))
  have f4_0_2 := frozen_after (a := ⟨w1.heap.size, 2, none⟩) k4 (by first | (dsimp only; omega) | (simp; done) | (simp; omega)) (by first | assumption | exact frozen_alloc _ (by dsimp only; omega) (by assumption) | (simp [go_sem]; done) | exact frozen_alloc _ (by simp; omega) (frozen_alloc _ (by dsimp only; omega) (by assumption)))
  have q4_1_0 := cell_after (a := ⟨w2.heap.size, 0, none⟩) (v := .int .i64 5) k4 (by first | (dsimp only; omega) | (simp; done) | (simp; omega)) (by first | assumption | exact cell_alloc _ (by dsimp only; omega) (by assumption) | (simp [go_sem]; done) | exact cell_alloc _ (by simp; omega) (cell_alloc _ (by dsimp only; omega) (by assumption)))
  have f4_1_0 := frozen_after (a := ⟨w2.heap.size, 0, none⟩) k4 (by first | (dsimp only; omega) | (simp; done) | (simp; omega)) (by first | assumption | exact frozen_alloc _ (by dsimp only; omega) (by assumption) | (simp [go_sem]; done) | exact frozen_alloc _ (by simp; omega) (frozen_alloc _ (by dsimp only; omega) (by assumption)))
  have q4_1_1 := cell_after (a := ⟨w2.heap.size, 1, none⟩) (v := .int .i64 0) k4 (by first | (dsimp only; omega) | (simp; done) | (simp; omega)) (by first | assumption | exact cell_alloc _ (by dsimp only; omega) (by assumption) | (simp [go_sem]; done) | exact cell_alloc _ (by simp; omega) (cell_alloc _ (by dsimp only; omega) (by assumption)))
  have f4_1_1 := frozen_after (a := ⟨w2.heap.size, 1, none⟩) k4 (by first | (dsimp only; omega) | (simp; done) | (simp; omega)) (by first | assumption | exact frozen_alloc _ (by dsimp only; omega) (by assumption) | (simp [go_sem]; done) | exact frozen_alloc _ (by simp; omega) (frozen_alloc _ (by dsimp only; omega) (by assumption)))
  have q4_1_2 := cell_after (a := ⟨w2.heap.size, 2, none⟩) (v := .int .i64 3) k4 (by first | (dsimp only; omega) | (simp; done) | (simp; omega)) (by first | assumption | exact cell_alloc _ (by dsimp only; omega) (by assumption) | (simp [go_sem]; done) | exact cell_alloc _ (by simp; omega) (cell_alloc _ (by dsimp only; omega) (by assumption)))
  have f4_1_2 := frozen_after (a := ⟨w2.heap.size, 2, none⟩) k4 (by first | (dsimp only; omega) | (simp; done) | (simp; omega)) (by first | assumption | exact frozen_alloc _ (by dsimp only; omega) (by assumption) | (simp [go_sem]; done) | exact frozen_alloc _ (by simp; omega) (frozen_alloc _ (by dsimp only; omega) (by assumption)))
  have q4_2_0 := cell_after (a := ⟨w3.heap.size, 0, none⟩) (v := .int .i64 5) k4 (by first | (dsimp only; omega) | (simp; done) | (simp; omega)) (by first | assumption | exact cell_alloc _ (by dsimp only; omega) (by assumption) | (simp [go_sem]; done) | exact cell_alloc _ (by simp; omega) (cell_alloc _ (by dsimp only; omega) (by assumption)))
  have f4_2_0 := frozen_after (a := ⟨w3.heap.size, 0, none⟩) k4 (by first | (dsimp only; omega) | (simp; done) | (simp; omega)) (by first | assumption | exact frozen_alloc _ (by dsimp only; omega) (by assumption) | (simp [go_sem]; done) | exact frozen_alloc _ (by simp; omega) (frozen_alloc _ (by dsimp only; omega) (by assumption)))
  have q4_2_1 := cell_after (a := ⟨w3.heap.size, 1, none⟩) (v := .int .i64 2) k4 (by first | (dsimp only; omega) | (simp; done) | (simp; omega)) (by first | assumption | exact cell_alloc _ (by dsimp only; omega) (by assumption) | (simp [go_sem]; done) | exact cell_alloc _ (by simp; omega) (cell_alloc _ (by dsimp only; omega) (by assumption)))
  have f4_2_1 := frozen_after (a := ⟨w3.heap.size, 1, none⟩) k4 (by first | (dsimp only; omega) | (simp; done) | (simp; omega)) (by first | assumption | exact frozen_alloc _ (by dsimp only; omega) (by assumption) | (simp [go_sem]; done) | exact frozen_alloc _ (by simp; omega) (frozen_alloc _ (by dsimp only; omega) (by assumption)))
  have q4_2_2 := cell_after (a := ⟨w3.heap.size, 2, none⟩) (v := .int .i64 1) k4 (by first | (dsimp only; omega) | (simp; done) | (simp; omega)) (by first | assumption | exact cell_alloc _ (by dsimp only; omega) (by assumption) | (simp [go_sem]; done) | exact cell_alloc _ (by simp; omega) (cell_alloc _ (by dsimp only; omega) (by assumption)))
  have f4_2_2 := frozen_after (a := ⟨w3.heap.size, 2, none⟩) k4 (by first | (dsimp only; omega) | (simp; done) | (simp; omega)) (by first | assumption | exact frozen_alloc _ (by dsimp only; omega) (by assumption) | (simp [go_sem]; done) | exact frozen_alloc _ (by simp; omega) (frozen_alloc _ (by dsimp only; omega) (by assumption)))
  have z4 := k4.size
  try simp only [World.heap_drewN] at z4
  try simp only [World.size_alloc] at z4
  have t4_0 : w1.heap.size < w4.heap.size := by omega
  have t4_1 : w2.heap.size < w4.heap.size := by omega
  have t4_2 : w3.heap.size < w4.heap.size := by omega
  have tw4 : w.heap.size ≤ w4.heap.size := by omega
  have K4 : Below w.heap.size w w4 := (by repeat (first | exact Below.refl _ _ | assumption | refine bel_drew ?_ | refine bel_drewN ?_ _ | refine bel_alloc ?_ _ | refine bel_set ?_ (by first | (dsimp only; omega) | (simp; done) | (simp; omega)) _ | refine bel_trans ?_ (by assumption)))
  clear k4 z4 q3_0_0 f3_0_0 q3_0_1 f3_0_1 q3_0_2 f3_0_2 q3_1_0 f3_1_0 q3_1_1 f3_1_1 q3_1_2 f3_1_2 t3_0 t3_1 tw3 K3
  go_wp2_with fail
  refine (C5.out _).mono ?_
  rintro e w5 ⟨rfl, k5⟩
  have q5_0_0 := cell_after (a := ⟨w1.heap.size, 0, none⟩) (v := .int .i64 5) k5 (by first | (dsimp only; omega) | (simp; done) | (simp; omega)) (by first | assumption | exact cell_alloc _ (by dsimp only; omega) (by assumption) | (simp [go_sem]; done) | exact cell_alloc _ (by simp; omega) (cell_alloc _ (by dsimp only; omega) (by assumption)))
  have f5_0_0 := frozen_after (a := ⟨w1.heap.size, 0, none⟩) k5 (by first | (dsimp only; omega) | (simp; done) | (simp; omega)) (by first | assumption | exact frozen_alloc _ (by dsimp only; omega) (by assumption) | (simp [go_sem]; done) | exact frozen_alloc _ (by simp; omega) (frozen_alloc _ (by dsimp only; omega) (by assumption)))
  have q5_0_1 := cell_after (a := ⟨w1.heap.size, 1, none⟩) (v := .int .i64 0) k5 (by first | (dsimp only; omega) | (simp; done) | (simp; omega)) (by first | assumption | exact cell_alloc _ (by dsimp only; omega) (by assumption) | (simp [go_sem]; done) | exact cell_alloc _ (by simp; omega) (cell_alloc _ (by dsimp only; omega) (by assumption)))
  have f5_0_1 := frozen_after (a := ⟨w1.heap.size, 1, none⟩) k5 (by first | (dsimp only; omega) | (simp; done) | (simp; omega)) (by first | assumption | exact frozen_alloc _ (by dsimp only; omega) (by assumption) | (simp [go_sem]; done) | exact frozen_alloc _ (by simp; omega) (frozen_alloc _ (by dsimp only; omega) (by assumption)))
  have q5_0_2 := cell_after (a := ⟨w1.heap.size, 2, none⟩) (v := .int .i64 0) k5 (by first | (dsimp only; omega) | (simp; done) | (simp; omega)) (by first | assumption | exact cell_alloc _ (by dsimp only; omega) (by assumption) | (simp [go_sem]; done) | exact cell_alloc _ (by simp; omega) (cell_alloc _ (by dsimp only; omega) (by assumption)))
  have f5_0_2 := frozen_after (a := ⟨w1.heap.size, 2, none⟩) k5 (by first | (dsimp only; omega) | (simp; done) | (simp; omega)) (by first | assumption | exact frozen_alloc _ (by dsimp only; omega) (by assumption) | (simp [go_sem]; done) | exact frozen_alloc _ (by simp; omega) (frozen_alloc _ (by dsimp only; omega) (by assumption)))
  have q5_1_0 := cell_after (a := ⟨w2.heap.size, 0, none⟩) (v := .int .i64 5) k5 (by first | (dsimp only; omega) | (simp; done) | (simp; omega)) (by first | assumption | exact cell_alloc _ (by dsimp only; omega) (by assumption) | (simp [go_sem]; done) | exact cell_alloc _ (by simp; omega) (cell_alloc _ (by dsimp only; omega) (by assumption)))
  have f5_1_0 := frozen_after (a := ⟨w2.heap.size, 0, none⟩) k5 (by first | (dsimp only; omega) | (simp; done) | (simp; omega)) (by first | assumption | exact frozen_alloc _ (by dsimp only; omega) (by assumption) | (simp [go_sem]; done) | exact frozen_alloc _ (by simp; omega) (frozen_alloc _ (by dsimp only; omega) (by assumption)))
  have q5_1_1 := cell_after (a := ⟨w2.heap.size, 1, none⟩) (v := .int .i64 0) k5 (by first | (dsimp only; omega) | (simp; done) | (simp; omega)) (by first | assumption | exact cell_alloc _ (by dsimp only; omega) (by assumption) | (simp [go_sem]; done) | exact cell_alloc _ (by simp; omega) (cell_alloc _ (by dsimp only; omega) (by assumption)))
  have f5_1_1 := frozen_after (a := ⟨w2.heap.size, 1, none⟩) k5 (by first | (dsimp only; omega) | (simp; done) | (simp; omega)) (by first | assumption | exact frozen_alloc _ (by dsimp only; omega) (by assumption) | (simp [go_sem]; done) | exact frozen_alloc _ (by simp; omega) (frozen_alloc _ (by dsimp only; omega) (by assumption)))
  have q5_1_2 := cell_after (a := ⟨w2.heap.size, 2, none⟩) (v := .int .i64 3) k5 (by first | (dsimp only; omega) | (simp; done) | (simp; omega)) (by first | assumption | exact cell_alloc _ (by dsimp only; omega) (by assumption) | (simp [go_sem]; done) | exact cell_alloc _ (by simp; omega) (cell_alloc _ (by dsimp only; omega) (by assumption)))
  have f5_1_2 := frozen_after (a := ⟨w2.heap.size, 2, none⟩) k5 (by first | (dsimp only; omega) | (simp; done) | (simp; omega)) (by first | assumption | exact frozen_alloc _ (by dsimp only; omega) (by assumption) | (simp [go_sem]; done) | exact frozen_alloc _ (by simp; omega) (frozen_alloc _ (by dsimp only; omega) (by assumption)))
  have q5_2_0 := cell_after (a := ⟨w3.heap.size, 0, none⟩) (v := .int .i64 5) k5 (by first | (dsimp only; omega) | (simp; done) | (simp; omega)) (by first | assumption | exact cell_alloc _ (by dsimp only; omega) (by assumption) | (simp [go_sem]; done) | exact cell_alloc _ (by simp; omega) (cell_alloc _ (by dsimp only; omega) (by assumption)))
  have f5_2_0 := frozen_after (a := ⟨w3.heap.size, 0, none⟩) k5 (by first | (dsimp only; omega) | (simp; done) | (simp; omega)) (by first | assumption | exact frozen_alloc _ (by dsimp only; omega) (by assumption) | (simp [go_sem]; done) | exact frozen_alloc _ (by simp; omega) (frozen_alloc _ (by dsimp only; omega) (by assumption)))
  have q5_2_1 := cell_after (a := ⟨w3.heap.size, 1, none⟩) (v := .int .i64 2) k5 (by first | (dsimp only; omega) | (simp; done) | (simp; omega)) (by first | assumption | exact cell_alloc _ (by dsimp only; omega) (by assumption) | (simp [go_sem]; done) | exact cell_alloc _ (by simp; omega) (cell_alloc _ (by dsimp only; omega) (by assumption)))
  have f5_2_1 := frozen_after (a := ⟨w3.heap.size, 1, none⟩) k5 (by first | (dsimp only; omega) | (simp; done) | (simp; omega)) (by first | assumption | exact frozen_alloc _ (by dsimp only; omega) (by assumption) | (simp [go_sem]; done) | exact frozen_alloc _ (by simp; omega) (frozen_alloc _ (by dsimp only; omega) (by assumption)))
  have q5_2_2 := cell_after (a := ⟨w3.heap.size, 2, none⟩) (v := .int .i64 1) k5 (by first | (dsimp only; omega) | (simp; done) | (simp; omega)) (by first | assumption | exact cell_alloc _ (by dsimp only; omega) (by assumption) | (simp [go_sem]; done) | exact cell_alloc _ (by simp; omega) (cell_alloc _ (by dsimp only; omega) (by assumption)))
  have f5_2_2 := frozen_after (a := ⟨w3.heap.size, 2, none⟩) k5 (by first | (dsimp only; omega) | (simp; done) | (simp; omega)) (by first | assumption | exact frozen_alloc _ (by dsimp only; omega) (by assumption) | (simp [go_sem]; done) | exact frozen_alloc _ (by simp; omega) (frozen_alloc _ (by dsimp only; omega) (by assumption)))
  have z5 := k5.size
  try simp only [World.heap_drewN] at z5
  try simp only [World.size_alloc] at z5
  have t5_0 : w1.heap.size < w5.heap.size := by omega
  have t5_1 : w2.heap.size < w5.heap.size := by omega
  have t5_2 : w3.heap.size < w5.heap.size := by omega
  have tw5 : w.heap.size ≤ w5.heap.size := by omega
  have K5 : Below w.heap.size w w5 := (by repeat (first | exact Below.refl _ _ | assumption | refine bel_drew ?_ | refine bel_drewN ?_ _ | refine bel_alloc ?_ _ | refine bel_set ?_ (by first | (dsimp only; omega) | (simp; done) | (simp; omega)) _ | refine bel_trans ?_ (by assumption)))
  clear k5 z5 q4_0_0 f4_0_0 q4_0_1 f4_0_1 q4_0_2 f4_0_2 q4_1_0 f4_1_0 q4_1_1 f4_1_1 q4_1_2 f4_1_2 q4_2_0 f4_2_0 q4_2_1 f4_2_1 q4_2_2 f4_2_2 t4_0 t4_1 t4_2 tw4 K4
  go_wp2_with fail
  go_ret
  exact ⟨rfl, (by repeat (first | exact Below.refl _ _ | assumption | refine bel_drew ?_ | refine bel_drewN ?_ _ | refine bel_alloc ?_ _ | refine bel_set ?_ (by first | (dsimp only; omega) | (simp; done) | (simp; omega)) _ | refine bel_trans ?_ (by assumption)))⟩
  
end Go.Proofs.Ytbgohgligponiaa
