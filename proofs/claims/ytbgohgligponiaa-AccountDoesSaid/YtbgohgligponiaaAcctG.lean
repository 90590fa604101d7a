/-
  The walks of the laws AccountDoes and AccountBack.
-/
import Derived.Test.YtbgohgligponiaaAcctF
import Derived.Deep.RegionHeld3
namespace Go.Proofs.Ytbgohgligponiaa
open Go.RowKit
set_option linter.unusedVariables false
attribute [local go_sem] drewN_alloc drewN_setCell

set_option maxRecDepth 100000 in
set_option maxHeartbeats 4000000 in
theorem law26_AccountDoes (c h r n : Int) (w : World) (bc : -9223372036854775808 ≤ c ∧ c ≤ 9223372036854775807) (bh : -9223372036854775808 ≤ h ∧ h ≤ 9223372036854775807) (br : -9223372036854775808 ≤ r ∧ r ≤ 9223372036854775807) (bn : -9223372036854775808 ≤ n ∧ n ≤ 9223372036854775807) :
    Calls Try.prog 5 #[.agg #[.int .i64 c, .int .i64 h, .int .i64 r], .int .i64 n] w fun e w' => e = .returned (.bool true) ∧ Below w.heap.size w w' := by
  go_enter Try.func5, Try.ntmps5
  have E := eql_acct_same
  go_wp2_with fail
  refine wp_loop_rounds 5 ?_
  rw [rounds_succ]
  go_wp2_with fail
  refine (law26_one1 c h r n _ bc bh br bn).mono ?_
  rintro e w1 ⟨rfl, k1⟩
  have q1_0_0 := cell_after (a := ⟨w.heap.size, 0, none⟩) (v := .int .i64 c) k1 (by first | (dsimp only; omega) | (simp; done) | (simp; omega)) (by first | assumption | exact cell_alloc _ (by dsimp only; omega) (by assumption) | (simp [go_sem]; done) | exact cell_alloc _ (by simp; omega) (cell_alloc _ (by dsimp only; omega) (by assumption)))
  have f1_0_0 := frozen_after (a := ⟨w.heap.size, 0, none⟩) k1 (by first | (dsimp only; omega) | (simp; done) | (simp; omega)) (by first | assumption | exact frozen_alloc _ (by dsimp only; omega) (by assumption) | (simp [go_sem]; done) | exact frozen_alloc _ (by simp; omega) (frozen_alloc _ (by dsimp only; omega) (by assumption)))
  have q1_0_1 := cell_after (a := ⟨w.heap.size, 1, none⟩) (v := .int .i64 h) k1 (by first | (dsimp only; omega) | (simp; done) | (simp; omega)) (by first | assumption | exact cell_alloc _ (by dsimp only; omega) (by assumption) | (simp [go_sem]; done) | exact cell_alloc _ (by simp; omega) (cell_alloc _ (by dsimp only; omega) (by assumption)))
  have f1_0_1 := frozen_after (a := ⟨w.heap.size, 1, none⟩) k1 (by first | (dsimp only; omega) | (simp; done) | (simp; omega)) (by first | assumption | exact frozen_alloc _ (by dsimp only; omega) (by assumption) | (simp [go_sem]; done) | exact frozen_alloc _ (by simp; omega) (frozen_alloc _ (by dsimp only; omega) (by assumption)))
  have q1_0_2 := cell_after (a := ⟨w.heap.size, 2, none⟩) (v := .int .i64 r) k1 (by first | (dsimp only; omega) | (simp; done) | (simp; omega)) (by first | assumption | exact cell_alloc _ (by dsimp only; omega) (by assumption) | (simp [go_sem]; done) | exact cell_alloc _ (by simp; omega) (cell_alloc _ (by dsimp only; omega) (by assumption)))
  have f1_0_2 := frozen_after (a := ⟨w.heap.size, 2, none⟩) k1 (by first | (dsimp only; omega) | (simp; done) | (simp; omega)) (by first | assumption | exact frozen_alloc _ (by dsimp only; omega) (by assumption) | (simp [go_sem]; done) | exact frozen_alloc _ (by simp; omega) (frozen_alloc _ (by dsimp only; omega) (by assumption)))
  have z1 := k1.size
  try simp only [World.heap_drewN] at z1
  try simp only [World.size_alloc] at z1
  have t1_0 : w.heap.size < w1.heap.size := by omega
  have tw1 : w.heap.size ≤ w1.heap.size := by omega
  have K1 : Below w.heap.size w w1 := (by repeat (first | exact Below.refl _ _ | assumption | refine bel_drew ?_ | refine bel_drewN ?_ _ | refine bel_alloc ?_ _ | refine bel_set ?_ (by first | (dsimp only; omega) | (simp; done) | (simp; omega)) _ | refine bel_trans ?_ (by assumption)))
  clear k1 z1
  go_wp2_with fail
  refine (ref26_Do1 c h r n _ bc bh br bn).mono ?_
  rintro e w2 ⟨rfl, k2⟩
  have q2_0_0 := cell_after (a := ⟨w.heap.size, 0, none⟩) (v := .int .i64 c) k2 (by first | (dsimp only; omega) | (simp; done) | (simp; omega)) (by first | assumption | exact cell_alloc _ (by dsimp only; omega) (by assumption) | (simp [go_sem]; done) | exact cell_alloc _ (by simp; omega) (cell_alloc _ (by dsimp only; omega) (by assumption)))
  have f2_0_0 := frozen_after (a := ⟨w.heap.size, 0, none⟩) k2 (by first | (dsimp only; omega) | (simp; done) | (simp; omega)) (by first | assumption | exact frozen_alloc _ (by dsimp only; omega) (by assumption) | (simp [go_sem]; done) | exact frozen_alloc _ (by simp; omega) (frozen_alloc _ (by dsimp only; omega) (by assumption)))
  have q2_0_1 := cell_after (a := ⟨w.heap.size, 1, none⟩) (v := .int .i64 h) k2 (by first | (dsimp only; omega) | (simp; done) | (simp; omega)) (by first | assumption | exact cell_alloc _ (by dsimp only; omega) (by assumption) | (simp [go_sem]; done) | exact cell_alloc _ (by simp; omega) (cell_alloc _ (by dsimp only; omega) (by assumption)))
  have f2_0_1 := frozen_after (a := ⟨w.heap.size, 1, none⟩) k2 (by first | (dsimp only; omega) | (simp; done) | (simp; omega)) (by first | assumption | exact frozen_alloc _ (by dsimp only; omega) (by assumption) | (simp [go_sem]; done) | exact frozen_alloc _ (by simp; omega) (frozen_alloc _ (by dsimp only; omega) (by assumption)))
  have q2_0_2 := cell_after (a := ⟨w.heap.size, 2, none⟩) (v := .int .i64 r) k2 (by first | (dsimp only; omega) | (simp; done) | (simp; omega)) (by first | assumption | exact cell_alloc _ (by dsimp only; omega) (by assumption) | (simp [go_sem]; done) | exact cell_alloc _ (by simp; omega) (cell_alloc _ (by dsimp only; omega) (by assumption)))
  have f2_0_2 := frozen_after (a := ⟨w.heap.size, 2, none⟩) k2 (by first | (dsimp only; omega) | (simp; done) | (simp; omega)) (by first | assumption | exact frozen_alloc _ (by dsimp only; omega) (by assumption) | (simp [go_sem]; done) | exact frozen_alloc _ (by simp; omega) (frozen_alloc _ (by dsimp only; omega) (by assumption)))
  have q2_1_0 := cell_after (a := ⟨w1.heap.size, 0, none⟩) (v := .int .i64 (PA.doo 1 c h r n).1.1) k2 (by first | (dsimp only; omega) | (simp; done) | (simp; omega)) (by first | assumption | exact cell_alloc _ (by dsimp only; omega) (by assumption) | (simp [go_sem]; done) | exact cell_alloc _ (by simp; omega) (cell_alloc _ (by dsimp only; omega) (by assumption)))
  have f2_1_0 := frozen_after (a := ⟨w1.heap.size, 0, none⟩) k2 (by first | (dsimp only; omega) | (simp; done) | (simp; omega)) (by first | assumption | exact frozen_alloc _ (by dsimp only; omega) (by assumption) | (simp [go_sem]; done) | exact frozen_alloc _ (by simp; omega) (frozen_alloc _ (by dsimp only; omega) (by assumption)))
  have q2_1_1 := cell_after (a := ⟨w1.heap.size, 1, none⟩) (v := .int .i64 (PA.doo 1 c h r n).1.2.1) k2 (by first | (dsimp only; omega) | (simp; done) | (simp; omega)) (by first | assumption | exact cell_alloc _ (by dsimp only; omega) (by assumption) | (simp [go_sem]; done) | exact cell_alloc _ (by simp; omega) (cell_alloc _ (by dsimp only; omega) (by assumption)))
  have f2_1_1 := frozen_after (a := ⟨w1.heap.size, 1, none⟩) k2 (by first | (dsimp only; omega) | (simp; done) | (simp; omega)) (by first | assumption | exact frozen_alloc _ (by dsimp only; omega) (by assumption) | (simp [go_sem]; done) | exact frozen_alloc _ (by simp; omega) (frozen_alloc _ (by dsimp only; omega) (by assumption)))
  have q2_1_2 := cell_after (a := ⟨w1.heap.size, 2, none⟩) (v := .int .i64 (PA.doo 1 c h r n).1.2.2) k2 (by first | (dsimp only; omega) | (simp; done) | (simp; omega)) (by first | assumption | exact cell_alloc _ (by dsimp only; omega) (by assumption) | (simp [go_sem]; done) | exact cell_alloc _ (by simp; omega) (cell_alloc _ (by dsimp only; omega) (by assumption)))
  have f2_1_2 := frozen_after (a := ⟨w1.heap.size, 2, none⟩) k2 (by first | (dsimp only; omega) | (simp; done) | (simp; omega)) (by first | assumption | exact frozen_alloc _ (by dsimp only; omega) (by assumption) | (simp [go_sem]; done) | exact frozen_alloc _ (by simp; omega) (frozen_alloc _ (by dsimp only; omega) (by assumption)))
  have z2 := k2.size
  try simp only [World.heap_drewN] at z2
  try simp only [World.size_alloc] at z2
  have t2_0 : w.heap.size < w2.heap.size := by omega
  have t2_1 : w1.heap.size < w2.heap.size := by omega
  have tw2 : w.heap.size ≤ w2.heap.size := by omega
  have K2 : Below w.heap.size w w2 := (by repeat (first | exact Below.refl _ _ | assumption | refine bel_drew ?_ | refine bel_drewN ?_ _ | refine bel_alloc ?_ _ | refine bel_set ?_ (by first | (dsimp only; omega) | (simp; done) | (simp; omega)) _ | refine bel_trans ?_ (by assumption)))
  clear k2 z2 q1_0_0 f1_0_0 q1_0_1 f1_0_1 q1_0_2 f1_0_2 t1_0 tw1 K1
  go_wp2_with fail
  rw [rounds_succ]
  go_wp2_with fail
  refine (law26_one2 c h r n _ bc bh br bn).mono ?_
  rintro e w3 ⟨rfl, k3⟩
  have q3_0_0 := cell_after (a := ⟨w.heap.size, 0, none⟩) (v := .int .i64 c) k3 (by first | (dsimp only; omega) | (simp; done) | (simp; omega)) (by first | assumption | exact cell_alloc _ (by dsimp only; omega) (by assumption) | (simp [go_sem]; done) | exact cell_alloc _ (by simp; omega) (cell_alloc _ (by dsimp only; omega) (by assumption)))
  have f3_0_0 := frozen_after (a := ⟨w.heap.size, 0, none⟩) k3 (by first | (dsimp only; omega) | (simp; done) | (simp; omega)) (by first | assumption | exact frozen_alloc _ (by dsimp only; omega) (by assumption) | (simp [go_sem]; done) | exact frozen_alloc _ (by simp; omega) (frozen_alloc _ (by dsimp only; omega) (by assumption)))
  have q3_0_1 := cell_after (a := ⟨w.heap.size, 1, none⟩) (v := .int .i64 h) k3 (by first | (dsimp only; omega) | (simp; done) | (simp; omega)) (by first | assumption | exact cell_alloc _ (by dsimp only; omega) (by assumption) | (simp [go_sem]; done) | exact cell_alloc _ (by simp; omega) (cell_alloc _ (by dsimp only; omega) (by assumption)))
  have f3_0_1 := frozen_after (a := ⟨w.heap.size, 1, none⟩) k3 (by first | (dsimp only; omega) | (simp; done) | (simp; omega)) (by first | assumption | exact frozen_alloc _ (by dsimp only; omega) (by assumption) | (simp [go_sem]; done) | exact frozen_alloc _ (by simp; omega) (frozen_alloc _ (by dsimp only; omega) (by assumption)))
  have q3_0_2 := cell_after (a := ⟨w.heap.size, 2, none⟩) (v := .int .i64 r) k3 (by first | (dsimp only; omega) | (simp; done) | (simp; omega)) (by first | assumption | exact cell_alloc _ (by dsimp only; omega) (by assumption) | (simp [go_sem]; done) | exact cell_alloc _ (by simp; omega) (cell_alloc _ (by dsimp only; omega) (by assumption)))
  have f3_0_2 := frozen_after (a := ⟨w.heap.size, 2, none⟩) k3 (by first | (dsimp only; omega) | (simp; done) | (simp; omega)) (by first | assumption | exact frozen_alloc _ (by dsimp only; omega) (by assumption) | (simp [go_sem]; done) | exact frozen_alloc _ (by simp; omega) (frozen_alloc _ (by dsimp only; omega) (by assumption)))
  have z3 := k3.size
  try simp only [World.heap_drewN] at z3
  try simp only [World.size_alloc] at z3
  have t3_0 : w.heap.size < w3.heap.size := by omega
  have tw3 : w.heap.size ≤ w3.heap.size := by omega
  have K3 : Below w.heap.size w w3 := (by repeat (first | exact Below.refl _ _ | assumption | refine bel_drew ?_ | refine bel_drewN ?_ _ | refine bel_alloc ?_ _ | refine bel_set ?_ (by first | (dsimp only; omega) | (simp; done) | (simp; omega)) _ | refine bel_trans ?_ (by assumption)))
  clear k3 z3 q2_0_0 f2_0_0 q2_0_1 f2_0_1 q2_0_2 f2_0_2 q2_1_0 f2_1_0 q2_1_1 f2_1_1 q2_1_2 f2_1_2 t2_0 t2_1 tw2 K2
  go_wp2_with fail
  refine (ref26_Do2 c h r n _ bc bh br bn).mono ?_
  rintro e w4 ⟨rfl, k4⟩
  have q4_0_0 := cell_after (a := ⟨w.heap.size, 0, none⟩) (v := .int .i64 c) k4 (by first | (dsimp only; omega) | (simp; done) | (simp; omega)) (by first | assumption | exact cell_alloc _ (by dsimp only; omega) (by assumption) | (simp [go_sem]; done) | exact cell_alloc _ (by simp; omega) (cell_alloc _ (by dsimp only; omega) (by assumption)))
  have f4_0_0 := frozen_after (a := ⟨w.heap.size, 0, none⟩) k4 (by first | (dsimp only; omega) | (simp; done) | (simp; omega)) (by first | assumption | exact frozen_alloc _ (by dsimp only; omega) (by assumption) | (simp [go_sem]; done) | exact frozen_alloc _ (by simp; omega) (frozen_alloc _ (by dsimp only; omega) (by assumption)))
  have q4_0_1 := cell_after (a := ⟨w.heap.size, 1, none⟩) (v := .int .i64 h) k4 (by first | (dsimp only; omega) | (simp; done) | (simp; omega)) (by first | assumption | exact cell_alloc _ (by dsimp only; omega) (by assumption) | (simp [go_sem]; done) | exact cell_alloc _ (by simp; omega) (cell_alloc _ (by dsimp only; omega) (by assumption)))
  have f4_0_1 := frozen_after (a := ⟨w.heap.size, 1, none⟩) k4 (by first | (dsimp only; omega) | (simp; done) | (simp; omega)) (by first | assumption | exact frozen_alloc _ (by dsimp only; omega) (by assumption) | (simp [go_sem]; done) | exact frozen_alloc _ (by simp; omega) (frozen_alloc _ (by dsimp only; omega) (by assumption)))
  have q4_0_2 := cell_after (a := ⟨w.heap.size, 2, none⟩) (v := .int .i64 r) k4 (by first | (dsimp only; omega) | (simp; done) | (simp; omega)) (by first | assumption | exact cell_alloc _ (by dsimp only; omega) (by assumption) | (simp [go_sem]; done) | exact cell_alloc _ (by simp; omega) (cell_alloc _ (by dsimp only; omega) (by assumption)))
  have f4_0_2 := frozen_after (a := ⟨w.heap.size, 2, none⟩) k4 (by first | (dsimp only; omega) | (simp; done) | (simp; omega)) (by first | assumption | exact frozen_alloc _ (by dsimp only; omega) (by assumption) | (simp [go_sem]; done) | exact frozen_alloc _ (by simp; omega) (frozen_alloc _ (by dsimp only; omega) (by assumption)))
  have q4_3_0 := cell_after (a := ⟨w3.heap.size, 0, none⟩) (v := .int .i64 (PA.doo 2 c h r n).1.1) k4 (by first | (dsimp only; omega) | (simp; done) | (simp; omega)) (by first | assumption | exact cell_alloc _ (by dsimp only; omega) (by assumption) | (simp [go_sem]; done) | exact cell_alloc _ (by simp; omega) (cell_alloc _ (by dsimp only; omega) (by assumption)))
  have f4_3_0 := frozen_after (a := ⟨w3.heap.size, 0, none⟩) k4 (by first | (dsimp only; omega) | (simp; done) | (simp; omega)) (by first | assumption | exact frozen_alloc _ (by dsimp only; omega) (by assumption) | (simp [go_sem]; done) | exact frozen_alloc _ (by simp; omega) (frozen_alloc _ (by dsimp only; omega) (by assumption)))
  have q4_3_1 := cell_after (a := ⟨w3.heap.size, 1, none⟩) (v := .int .i64 (PA.doo 2 c h r n).1.2.1) k4 (by first | (dsimp only; omega) | (simp; done) | (simp; omega)) (by first | assumption | exact cell_alloc _ (by dsimp only; omega) (by assumption) | (simp [go_sem]; done) | exact cell_alloc _ (by simp; omega) (cell_alloc _ (by dsimp only; omega) (by assumption)))
  have f4_3_1 := frozen_after (a := ⟨w3.heap.size, 1, none⟩) k4 (by first | (dsimp only; omega) | (simp; done) | (simp; omega)) (by first | assumption | exact frozen_alloc _ (by dsimp only; omega) (by assumption) | (simp [go_sem]; done) | exact frozen_alloc _ (by simp; omega) (frozen_alloc _ (by dsimp only; omega) (by assumption)))
  have q4_3_2 := cell_after (a := ⟨w3.heap.size, 2, none⟩) (v := .int .i64 (PA.doo 2 c h r n).1.2.2) k4 (by first | (dsimp only; omega) | (simp; done) | (simp; omega)) (by first | assumption | exact cell_alloc _ (by dsimp only; omega) (by assumption) | (simp [go_sem]; done) | exact cell_alloc _ (by simp; omega) (cell_alloc _ (by dsimp only; omega) (by assumption)))
  have f4_3_2 := frozen_after (a := ⟨w3.heap.size, 2, none⟩) k4 (by first | (dsimp only; omega) | (simp; done) | (simp; omega)) (by first | assumption | exact frozen_alloc _ (by dsimp only; omega) (by assumption) | (simp [go_sem]; done) | exact frozen_alloc _ (by simp; omega) (frozen_alloc _ (by dsimp only; omega) (by assumption)))
  have z4 := k4.size
  try simp only [World.heap_drewN] at z4
  try simp only [World.size_alloc] at z4
  have t4_0 : w.heap.size < w4.heap.size := by omega
  have t4_3 : w3.heap.size < w4.heap.size := by omega
  have tw4 : w.heap.size ≤ w4.heap.size := by omega
  have K4 : Below w.heap.size w w4 := (by repeat (first | exact Below.refl _ _ | assumption | refine bel_drew ?_ | refine bel_drewN ?_ _ | refine bel_alloc ?_ _ | refine bel_set ?_ (by first | (dsimp only; omega) | (simp; done) | (simp; omega)) _ | refine bel_trans ?_ (by assumption)))
  clear k4 z4 q3_0_0 f3_0_0 q3_0_1 f3_0_1 q3_0_2 f3_0_2 t3_0 tw3 K3
  go_wp2_with fail
  rw [rounds_succ]
  go_wp2_with fail
  refine (law26_one3 c h r n _ bc bh br bn).mono ?_
  rintro e w5 ⟨rfl, k5⟩
  have q5_0_0 := cell_after (a := ⟨w.heap.size, 0, none⟩) (v := .int .i64 c) k5 (by first | (dsimp only; omega) | (simp; done) | (simp; omega)) (by first | assumption | exact cell_alloc _ (by dsimp only; omega) (by assumption) | (simp [go_sem]; done) | exact cell_alloc _ (by simp; omega) (cell_alloc _ (by dsimp only; omega) (by assumption)))
  have f5_0_0 := frozen_after (a := ⟨w.heap.size, 0, none⟩) k5 (by first | (dsimp only; omega) | (simp; done) | (simp; omega)) (by first | assumption | exact frozen_alloc _ (by dsimp only; omega) (by assumption) | (simp [go_sem]; done) | exact frozen_alloc _ (by simp; omega) (frozen_alloc _ (by dsimp only; omega) (by assumption)))
  have q5_0_1 := cell_after (a := ⟨w.heap.size, 1, none⟩) (v := .int .i64 h) k5 (by first | (dsimp only; omega) | (simp; done) | (simp; omega)) (by first | assumption | exact cell_alloc _ (by dsimp only; omega) (by assumption) | (simp [go_sem]; done) | exact cell_alloc _ (by simp; omega) (cell_alloc _ (by dsimp only; omega) (by assumption)))
  have f5_0_1 := frozen_after (a := ⟨w.heap.size, 1, none⟩) k5 (by first | (dsimp only; omega) | (simp; done) | (simp; omega)) (by first | assumption | exact frozen_alloc _ (by dsimp only; omega) (by assumption) | (simp [go_sem]; done) | exact frozen_alloc _ (by simp; omega) (frozen_alloc _ (by dsimp only; omega) (by assumption)))
  have q5_0_2 := cell_after (a := ⟨w.heap.size, 2, none⟩) (v := .int .i64 r) k5 (by first | (dsimp only; omega) | (simp; done) | (simp; omega)) (by first | assumption | exact cell_alloc _ (by dsimp only; omega) (by assumption) | (simp [go_sem]; done) | exact cell_alloc _ (by simp; omega) (cell_alloc _ (by dsimp only; omega) (by assumption)))
  have f5_0_2 := frozen_after (a := ⟨w.heap.size, 2, none⟩) k5 (by first | (dsimp only; omega) | (simp; done) | (simp; omega)) (by first | assumption | exact frozen_alloc _ (by dsimp only; omega) (by assumption) | (simp [go_sem]; done) | exact frozen_alloc _ (by simp; omega) (frozen_alloc _ (by dsimp only; omega) (by assumption)))
  have z5 := k5.size
  try simp only [World.heap_drewN] at z5
  try simp only [World.size_alloc] at z5
  have t5_0 : w.heap.size < w5.heap.size := by omega
  have tw5 : w.heap.size ≤ w5.heap.size := by omega
  have K5 : Below w.heap.size w w5 := (by repeat (first | exact Below.refl _ _ | assumption | refine bel_drew ?_ | refine bel_drewN ?_ _ | refine bel_alloc ?_ _ | refine bel_set ?_ (by first | (dsimp only; omega) | (simp; done) | (simp; omega)) _ | refine bel_trans ?_ (by assumption)))
  clear k5 z5 q4_0_0 f4_0_0 q4_0_1 f4_0_1 q4_0_2 f4_0_2 q4_3_0 f4_3_0 q4_3_1 f4_3_1 q4_3_2 f4_3_2 t4_0 t4_3 tw4 K4
  go_wp2_with fail
  refine (ref26_Do3 c h r n _ bc bh br bn).mono ?_
  rintro e w6 ⟨rfl, k6⟩
  have q6_0_0 := cell_after (a := ⟨w.heap.size, 0, none⟩) (v := .int .i64 c) k6 (by first | (dsimp only; omega) | (simp; done) | (simp; omega)) (by first | assumption | exact cell_alloc _ (by dsimp only; omega) (by assumption) | (simp [go_sem]; done) | exact cell_alloc _ (by simp; omega) (cell_alloc _ (by dsimp only; omega) (by assumption)))
  have f6_0_0 := frozen_after (a := ⟨w.heap.size, 0, none⟩) k6 (by first | (dsimp only; omega) | (simp; done) | (simp; omega)) (by first | assumption | exact frozen_alloc _ (by dsimp only; omega) (by assumption) | (simp [go_sem]; done) | exact frozen_alloc _ (by simp; omega) (frozen_alloc _ (by dsimp only; omega) (by assumption)))
  have q6_0_1 := cell_after (a := ⟨w.heap.size, 1, none⟩) (v := .int .i64 h) k6 (by first | (dsimp only; omega) | (simp; done) | (simp; omega)) (by first | assumption | exact cell_alloc _ (by dsimp only; omega) (by assumption) | (simp [go_sem]; done) | exact cell_alloc _ (by simp; omega) (cell_alloc _ (by dsimp only; omega) (by assumption)))
  have f6_0_1 := frozen_after (a := ⟨w.heap.size, 1, none⟩) k6 (by first | (dsimp only; omega) | (simp; done) | (simp; omega)) (by first | assumption | exact frozen_alloc _ (by dsimp only; omega) (by assumption) | (simp [go_sem]; done) | exact frozen_alloc _ (by simp; omega) (frozen_alloc _ (by dsimp only; omega) (by assumption)))
  have q6_0_2 := cell_after (a := ⟨w.heap.size, 2, none⟩) (v := .int .i64 r) k6 (by first | (dsimp only; omega) | (simp; done) | (simp; omega)) (by first | assumption | exact cell_alloc _ (by dsimp only; omega) (by assumption) | (simp [go_sem]; done) | exact cell_alloc _ (by simp; omega) (cell_alloc _ (by dsimp only; omega) (by assumption)))
  have f6_0_2 := frozen_after (a := ⟨w.heap.size, 2, none⟩) k6 (by first | (dsimp only; omega) | (simp; done) | (simp; omega)) (by first | assumption | exact frozen_alloc _ (by dsimp only; omega) (by assumption) | (simp [go_sem]; done) | exact frozen_alloc _ (by simp; omega) (frozen_alloc _ (by dsimp only; omega) (by assumption)))
  have q6_5_0 := cell_after (a := ⟨w5.heap.size, 0, none⟩) (v := .int .i64 (PA.doo 3 c h r n).1.1) k6 (by first | (dsimp only; omega) | (simp; done) | (simp; omega)) (by first | assumption | exact cell_alloc _ (by dsimp only; omega) (by assumption) | (simp [go_sem]; done) | exact cell_alloc _ (by simp; omega) (cell_alloc _ (by dsimp only; omega) (by assumption)))
  have f6_5_0 := frozen_after (a := ⟨w5.heap.size, 0, none⟩) k6 (by first | (dsimp only; omega) | (simp; done) | (simp; omega)) (by first | assumption | exact frozen_alloc _ (by dsimp only; omega) (by assumption) | (simp [go_sem]; done) | exact frozen_alloc _ (by simp; omega) (frozen_alloc _ (by dsimp only; omega) (by assumption)))
  have q6_5_1 := cell_after (a := ⟨w5.heap.size, 1, none⟩) (v := .int .i64 (PA.doo 3 c h r n).1.2.1) k6 (by first | (dsimp only; omega) | (simp; done) | (simp; omega)) (by first | assumption | exact cell_alloc _ (by dsimp only; omega) (by assumption) | (simp [go_sem]; done) | exact cell_alloc _ (by simp; omega) (cell_alloc _ (by dsimp only; omega) (by assumption)))
  have f6_5_1 := frozen_after (a := ⟨w5.heap.size, 1, none⟩) k6 (by first | (dsimp only; omega) | (simp; done) | (simp; omega)) (by first | assumption | exact frozen_alloc _ (by dsimp only; omega) (by assumption) | (simp [go_sem]; done) | exact frozen_alloc _ (by simp; omega) (frozen_alloc _ (by dsimp only; omega) (by assumption)))
  have q6_5_2 := cell_after (a := ⟨w5.heap.size, 2, none⟩) (v := .int .i64 (PA.doo 3 c h r n).1.2.2) k6 (by first | (dsimp only; omega) | (simp; done) | (simp; omega)) (by first | assumption | exact cell_alloc _ (by dsimp only; omega) (by assumption) | (simp [go_sem]; done) | exact cell_alloc _ (by simp; omega) (cell_alloc _ (by dsimp only; omega) (by assumption)))
  have f6_5_2 := frozen_after (a := ⟨w5.heap.size, 2, none⟩) k6 (by first | (dsimp only; omega) | (simp; done) | (simp; omega)) (by first | assumption | exact frozen_alloc _ (by dsimp only; omega) (by assumption) | (simp [go_sem]; done) | exact frozen_alloc _ (by simp; omega) (frozen_alloc _ (by dsimp only; omega) (by assumption)))
  have z6 := k6.size
  try simp only [World.heap_drewN] at z6
  try simp only [World.size_alloc] at z6
  have t6_0 : w.heap.size < w6.heap.size := by omega
  have t6_5 : w5.heap.size < w6.heap.size := by omega
  have tw6 : w.heap.size ≤ w6.heap.size := by omega
  have K6 : Below w.heap.size w w6 := (by repeat (first | exact Below.refl _ _ | assumption | refine bel_drew ?_ | refine bel_drewN ?_ _ | refine bel_alloc ?_ _ | refine bel_set ?_ (by first | (dsimp only; omega) | (simp; done) | (simp; omega)) _ | refine bel_trans ?_ (by assumption)))
  clear k6 z6 q5_0_0 f5_0_0 q5_0_1 f5_0_1 q5_0_2 f5_0_2 t5_0 tw5 K5
  go_wp2_with fail
  rw [rounds_succ]
  go_wp2_with fail
  refine (law26_one4 c h r n _ bc bh br bn).mono ?_
  rintro e w7 ⟨rfl, k7⟩
  have q7_0_0 := cell_after (a := ⟨w.heap.size, 0, none⟩) (v := .int .i64 c) k7 (by first | (dsimp only; omega) | (simp; done) | (simp; omega)) (by first | assumption | exact cell_alloc _ (by dsimp only; omega) (by assumption) | (simp [go_sem]; done) | exact cell_alloc _ (by simp; omega) (cell_alloc _ (by dsimp only; omega) (by assumption)))
  have f7_0_0 := frozen_after (a := ⟨w.heap.size, 0, none⟩) k7 (by first | (dsimp only; omega) | (simp; done) | (simp; omega)) (by first | assumption | exact frozen_alloc _ (by dsimp only; omega) (by assumption) | (simp [go_sem]; done) | exact frozen_alloc _ (by simp; omega) (frozen_alloc _ (by dsimp only; omega) (by assumption)))
  have q7_0_1 := cell_after (a := ⟨w.heap.size, 1, none⟩) (v := .int .i64 h) k7 (by first | (dsimp only; omega) | (simp; done) | (simp; omega)) (by first | assumption | exact cell_alloc _ (by dsimp only; omega) (by assumption) | (simp [go_sem]; done) | exact cell_alloc _ (by simp; omega) (cell_alloc _ (by dsimp only; omega) (by assumption)))
  have f7_0_1 := frozen_after (a := ⟨w.heap.size, 1, none⟩) k7 (by first | (dsimp only; omega) | (simp; done) | (simp; omega)) (by first | assumption | exact frozen_alloc _ (by dsimp only; omega) (by assumption) | (simp [go_sem]; done) | exact frozen_alloc _ (by simp; omega) (frozen_alloc _ (by dsimp only; omega) (by assumption)))
  have q7_0_2 := cell_after (a := ⟨w.heap.size, 2, none⟩) (v := .int .i64 r) k7 (by first | (dsimp only; omega) | (simp; done) | (simp; omega)) (by first | assumption | exact cell_alloc _ (by dsimp only; omega) (by assumption) | (simp [go_sem]; done) | exact cell_alloc _ (by simp; omega) (cell_alloc _ (by dsimp only; omega) (by assumption)))
  have f7_0_2 := frozen_after (a := ⟨w.heap.size, 2, none⟩) k7 (by first | (dsimp only; omega) | (simp; done) | (simp; omega)) (by first | assumption | exact frozen_alloc _ (by dsimp only; omega) (by assumption) | (simp [go_sem]; done) | exact frozen_alloc _ (by simp; omega) (frozen_alloc _ (by dsimp only; omega) (by assumption)))
  have z7 := k7.size
  try simp only [World.heap_drewN] at z7
  try simp only [World.size_alloc] at z7
  have t7_0 : w.heap.size < w7.heap.size := by omega
  have tw7 : w.heap.size ≤ w7.heap.size := by omega
  have K7 : Below w.heap.size w w7 := (by repeat (first | exact Below.refl _ _ | assumption | refine bel_drew ?_ | refine bel_drewN ?_ _ | refine bel_alloc ?_ _ | refine bel_set ?_ (by first | (dsimp only; omega) | (simp; done) | (simp; omega)) _ | refine bel_trans ?_ (by assumption)))
  clear k7 z7 q6_0_0 f6_0_0 q6_0_1 f6_0_1 q6_0_2 f6_0_2 q6_5_0 f6_5_0 q6_5_1 f6_5_1 q6_5_2 f6_5_2 t6_0 t6_5 tw6 K6
  go_wp2_with fail
  refine (ref26_Do4 c h r n _ bc bh br bn).mono ?_
  rintro e w8 ⟨rfl, k8⟩
  have q8_0_0 := cell_after (a := ⟨w.heap.size, 0, none⟩) (v := .int .i64 c) k8 (by first | (dsimp only; omega) | (simp; done) | (simp; omega)) (by first | assumption | exact cell_alloc _ (by dsimp only; omega) (by assumption) | (simp [go_sem]; done) | exact cell_alloc _ (by simp; omega) (cell_alloc _ (by dsimp only; omega) (by assumption)))
  have f8_0_0 := frozen_after (a := ⟨w.heap.size, 0, none⟩) k8 (by first | (dsimp only; omega) | (simp; done) | (simp; omega)) (by first | assumption | exact frozen_alloc _ (by dsimp only; omega) (by assumption) | (simp [go_sem]; done) | exact frozen_alloc _ (by simp; omega) (frozen_alloc _ (by dsimp only; omega) (by assumption)))
  have q8_0_1 := cell_after (a := ⟨w.heap.size, 1, none⟩) (v := .int .i64 h) k8 (by first | (dsimp only; omega) | (simp; done) | (simp; omega)) (by first | assumption | exact cell_alloc _ (by dsimp only; omega) (by assumption) | (simp [go_sem]; done) | exact cell_alloc _ (by simp; omega) (cell_alloc _ (by dsimp only; omega) (by assumption)))
  have f8_0_1 := frozen_after (a := ⟨w.heap.size, 1, none⟩) k8 (by first | (dsimp only; omega) | (simp; done) | (simp; omega)) (by first | assumption | exact frozen_alloc _ (by dsimp only; omega) (by assumption) | (simp [go_sem]; done) | exact frozen_alloc _ (by simp; omega) (frozen_alloc _ (by dsimp only; omega) (by assumption)))
  have q8_0_2 := cell_after (a := ⟨w.heap.size, 2, none⟩) (v := .int .i64 r) k8 (by first | (dsimp only; omega) | (simp; done) | (simp; omega)) (by first | assumption | exact cell_alloc _ (by dsimp only; omega) (by assumption) | (simp [go_sem]; done) | exact cell_alloc _ (by simp; omega) (cell_alloc _ (by dsimp only; omega) (by assumption)))
  have f8_0_2 := frozen_after (a := ⟨w.heap.size, 2, none⟩) k8 (by first | (dsimp only; omega) | (simp; done) | (simp; omega)) (by first | assumption | exact frozen_alloc _ (by dsimp only; omega) (by assumption) | (simp [go_sem]; done) | exact frozen_alloc _ (by simp; omega) (frozen_alloc _ (by dsimp only; omega) (by assumption)))
  have q8_7_0 := cell_after (a := ⟨w7.heap.size, 0, none⟩) (v := .int .i64 (PA.doo 4 c h r n).1.1) k8 (by first | (dsimp only; omega) | (simp; done) | (simp; omega)) (by first | assumption | exact cell_alloc _ (by dsimp only; omega) (by assumption) | (simp [go_sem]; done) | exact cell_alloc _ (by simp; omega) (cell_alloc _ (by dsimp only; omega) (by assumption)))
  have f8_7_0 := frozen_after (a := ⟨w7.heap.size, 0, none⟩) k8 (by first | (dsimp only; omega) | (simp; done) | (simp; omega)) (by first | assumption | exact frozen_alloc _ (by dsimp only; omega) (by assumption) | (simp [go_sem]; done) | exact frozen_alloc _ (by simp; omega) (frozen_alloc _ (by dsimp only; omega) (by assumption)))
  have q8_7_1 := cell_after (a := ⟨w7.heap.size, 1, none⟩) (v := .int .i64 (PA.doo 4 c h r n).1.2.1) k8 (by first | (dsimp only; omega) | (simp; done) | (simp; omega)) (by first | assumption | exact cell_alloc _ (by dsimp only; omega) (by assumption) | (simp [go_sem]; done) | exact cell_alloc _ (by simp; omega) (cell_alloc _ (by dsimp only; omega) (by assumption)))
  have f8_7_1 := frozen_after (a := ⟨w7.heap.size, 1, none⟩) k8 (by first | (dsimp only; omega) | (simp; done) | (simp; omega)) (by first | assumption | exact frozen_alloc _ (by dsimp only; omega) (by assumption) | (simp [go_sem]; done) | exact frozen_alloc _ (by simp; omega) (frozen_alloc _ (by dsimp only; omega) (by assumption)))
  have q8_7_2 := cell_after (a := ⟨w7.heap.size, 2, none⟩) (v := .int .i64 (PA.doo 4 c h r n).1.2.2) k8 (by first | (dsimp only; omega) | (simp; done) | (simp; omega)) (by first | assumption | exact cell_alloc _ (by dsimp only; omega) (by assumption) | (simp [go_sem]; done) | exact cell_alloc _ (by simp; omega) (cell_alloc _ (by dsimp only; omega) (by assumption)))
  have f8_7_2 := frozen_after (a := ⟨w7.heap.size, 2, none⟩) k8 (by first | (dsimp only; omega) | (simp; done) | (simp; omega)) (by first | assumption | exact frozen_alloc _ (by dsimp only; omega) (by assumption) | (simp [go_sem]; done) | exact frozen_alloc _ (by simp; omega) (frozen_alloc _ (by dsimp only; omega) (by assumption)))
  have z8 := k8.size
  try simp only [World.heap_drewN] at z8
  try simp only [World.size_alloc] at z8
  have t8_0 : w.heap.size < w8.heap.size := by omega
  have t8_7 : w7.heap.size < w8.heap.size := by omega
  have tw8 : w.heap.size ≤ w8.heap.size := by omega
  have K8 : Below w.heap.size w w8 := (by repeat (first | exact Below.refl _ _ | assumption | refine bel_drew ?_ | refine bel_drewN ?_ _ | refine bel_alloc ?_ _ | refine bel_set ?_ (by first | (dsimp only; omega) | (simp; done) | (simp; omega)) _ | refine bel_trans ?_ (by assumption)))
  clear k8 z8 q7_0_0 f7_0_0 q7_0_1 f7_0_1 q7_0_2 f7_0_2 t7_0 tw7 K7
  go_wp2_with fail
  rw [rounds_succ]
  go_wp2_with fail
  refine (account_New n _ bn).mono ?_
  rintro e w9 ⟨rfl, k9⟩
  have q9_0_0 := cell_after (a := ⟨w.heap.size, 0, none⟩) (v := .int .i64 c) k9 (by first | (dsimp only; omega) | (simp; done) | (simp; omega)) (by first | assumption | exact cell_alloc _ (by dsimp only; omega) (by assumption) | (simp [go_sem]; done) | exact cell_alloc _ (by simp; omega) (cell_alloc _ (by dsimp only; omega) (by assumption)))
  have f9_0_0 := frozen_after (a := ⟨w.heap.size, 0, none⟩) k9 (by first | (dsimp only; omega) | (simp; done) | (simp; omega)) (by first | assumption | exact frozen_alloc _ (by dsimp only; omega) (by assumption) | (simp [go_sem]; done) | exact frozen_alloc _ (by simp; omega) (frozen_alloc _ (by dsimp only; omega) (by assumption)))
  have q9_0_1 := cell_after (a := ⟨w.heap.size, 1, none⟩) (v := .int .i64 h) k9 (by first | (dsimp only; omega) | (simp; done) | (simp; omega)) (by first | assumption | exact cell_alloc _ (by dsimp only; omega) (by assumption) | (simp [go_sem]; done) | exact cell_alloc _ (by simp; omega) (cell_alloc _ (by dsimp only; omega) (by assumption)))
  have f9_0_1 := frozen_after (a := ⟨w.heap.size, 1, none⟩) k9 (by first | (dsimp only; omega) | (simp; done) | (simp; omega)) (by first | assumption | exact frozen_alloc _ (by dsimp only; omega) (by assumption) | (simp [go_sem]; done) | exact frozen_alloc _ (by simp; omega) (frozen_alloc _ (by dsimp only; omega) (by assumption)))
  have q9_0_2 := cell_after (a := ⟨w.heap.size, 2, none⟩) (v := .int .i64 r) k9 (by first | (dsimp only; omega) | (simp; done) | (simp; omega)) (by first | assumption | exact cell_alloc _ (by dsimp only; omega) (by assumption) | (simp [go_sem]; done) | exact cell_alloc _ (by simp; omega) (cell_alloc _ (by dsimp only; omega) (by assumption)))
  have f9_0_2 := frozen_after (a := ⟨w.heap.size, 2, none⟩) k9 (by first | (dsimp only; omega) | (simp; done) | (simp; omega)) (by first | assumption | exact frozen_alloc _ (by dsimp only; omega) (by assumption) | (simp [go_sem]; done) | exact frozen_alloc _ (by simp; omega) (frozen_alloc _ (by dsimp only; omega) (by assumption)))
  have z9 := k9.size
  try simp only [World.heap_drewN] at z9
  try simp only [World.size_alloc] at z9
  have t9_0 : w.heap.size < w9.heap.size := by omega
  have tw9 : w.heap.size ≤ w9.heap.size := by omega
  have K9 : Below w.heap.size w w9 := (by repeat (first | exact Below.refl _ _ | assumption | refine bel_drew ?_ | refine bel_drewN ?_ _ | refine bel_alloc ?_ _ | refine bel_set ?_ (by first | (dsimp only; omega) | (simp; done) | (simp; omega)) _ | refine bel_trans ?_ (by assumption)))
  clear k9 z9 q8_0_0 f8_0_0 q8_0_1 f8_0_1 q8_0_2 f8_0_2 q8_7_0 f8_7_0 q8_7_1 f8_7_1 q8_7_2 f8_7_2 t8_0 t8_7 tw8 K8
  go_wp2_with fail
  refine (ref26_New n _ bn).mono ?_
  rintro e w10 ⟨rfl, k10⟩
  have q10_0_0 := cell_after (a := ⟨w.heap.size, 0, none⟩) (v := .int .i64 c) k10 (by first | (dsimp only; omega) | (simp; done) | (simp; omega)) (by first | assumption | exact cell_alloc _ (by dsimp only; omega) (by assumption) | (simp [go_sem]; done) | exact cell_alloc _ (by simp; omega) (cell_alloc _ (by dsimp only; omega) (by assumption)))
  have f10_0_0 := frozen_after (a := ⟨w.heap.size, 0, none⟩) k10 (by first | (dsimp only; omega) | (simp; done) | (simp; omega)) (by first | assumption | exact frozen_alloc _ (by dsimp only; omega) (by assumption) | (simp [go_sem]; done) | exact frozen_alloc _ (by simp; omega) (frozen_alloc _ (by dsimp only; omega) (by assumption)))
  have q10_0_1 := cell_after (a := ⟨w.heap.size, 1, none⟩) (v := .int .i64 h) k10 (by first | (dsimp only; omega) | (simp; done) | (simp; omega)) (by first | assumption | exact cell_alloc _ (by dsimp only; omega) (by assumption) | (simp [go_sem]; done) | exact cell_alloc _ (by simp; omega) (cell_alloc _ (by dsimp only; omega) (by assumption)))
  have f10_0_1 := frozen_after (a := ⟨w.heap.size, 1, none⟩) k10 (by first | (dsimp only; omega) | (simp; done) | (simp; omega)) (by first | assumption | exact frozen_alloc _ (by dsimp only; omega) (by assumption) | (simp [go_sem]; done) | exact frozen_alloc _ (by simp; omega) (frozen_alloc _ (by dsimp only; omega) (by assumption)))
  have q10_0_2 := cell_after (a := ⟨w.heap.size, 2, none⟩) (v := .int .i64 r) k10 (by first | (dsimp only; omega) | (simp; done) | (simp; omega)) (by first | assumption | exact cell_alloc _ (by dsimp only; omega) (by assumption) | (simp [go_sem]; done) | exact cell_alloc _ (by simp; omega) (cell_alloc _ (by dsimp only; omega) (by assumption)))
  have f10_0_2 := frozen_after (a := ⟨w.heap.size, 2, none⟩) k10 (by first | (dsimp only; omega) | (simp; done) | (simp; omega)) (by first | assumption | exact frozen_alloc _ (by dsimp only; omega) (by assumption) | (simp [go_sem]; done) | exact frozen_alloc _ (by simp; omega) (frozen_alloc _ (by dsimp only; omega) (by assumption)))
  have q10_9_0 := cell_after (a := ⟨w9.heap.size, 0, none⟩) (v := .int .i64 (PA.new n).1.1) k10 (by first | (dsimp only; omega) | (simp; done) | (simp; omega)) (by first | assumption | exact cell_alloc _ (by dsimp only; omega) (by assumption) | (simp [go_sem]; done) | exact cell_alloc _ (by simp; omega) (cell_alloc _ (by dsimp only; omega) (by assumption)))
  have f10_9_0 := frozen_after (a := ⟨w9.heap.size, 0, none⟩) k10 (by first | (dsimp only; omega) | (simp; done) | (simp; omega)) (by first | assumption | exact frozen_alloc _ (by dsimp only; omega) (by assumption) | (simp [go_sem]; done) | exact frozen_alloc _ (by simp; omega) (frozen_alloc _ (by dsimp only; omega) (by assumption)))
  have q10_9_1 := cell_after (a := ⟨w9.heap.size, 1, none⟩) (v := .int .i64 (PA.new n).1.2.1) k10 (by first | (dsimp only; omega) | (simp; done) | (simp; omega)) (by first | assumption | exact cell_alloc _ (by dsimp only; omega) (by assumption) | (simp [go_sem]; done) | exact cell_alloc _ (by simp; omega) (cell_alloc _ (by dsimp only; omega) (by assumption)))
  have f10_9_1 := frozen_after (a := ⟨w9.heap.size, 1, none⟩) k10 (by first | (dsimp only; omega) | (simp; done) | (simp; omega)) (by first | assumption | exact frozen_alloc _ (by dsimp only; omega) (by assumption) | (simp [go_sem]; done) | exact frozen_alloc _ (by simp; omega) (frozen_alloc _ (by dsimp only; omega) (by assumption)))
  have q10_9_2 := cell_after (a := ⟨w9.heap.size, 2, none⟩) (v := .int .i64 (PA.new n).1.2.2) k10 (by first | (dsimp only; omega) | (simp; done) | (simp; omega)) (by first | assumption | exact cell_alloc _ (by dsimp only; omega) (by assumption) | (simp [go_sem]; done) | exact cell_alloc _ (by simp; omega) (cell_alloc _ (by dsimp only; omega) (by assumption)))
  have f10_9_2 := frozen_after (a := ⟨w9.heap.size, 2, none⟩) k10 (by first | (dsimp only; omega) | (simp; done) | (simp; omega)) (by first | assumption | exact frozen_alloc _ (by dsimp only; omega) (by assumption) | (simp [go_sem]; done) | exact frozen_alloc _ (by simp; omega) (frozen_alloc _ (by dsimp only; omega) (by assumption)))
  have z10 := k10.size
  try simp only [World.heap_drewN] at z10
  try simp only [World.size_alloc] at z10
  have t10_0 : w.heap.size < w10.heap.size := by omega
  have t10_9 : w9.heap.size < w10.heap.size := by omega
  have tw10 : w.heap.size ≤ w10.heap.size := by omega
  have K10 : Below w.heap.size w w10 := (by repeat (first | exact Below.refl _ _ | assumption | refine bel_drew ?_ | refine bel_drewN ?_ _ | refine bel_alloc ?_ _ | refine bel_set ?_ (by first | (dsimp only; omega) | (simp; done) | (simp; omega)) _ | refine bel_trans ?_ (by assumption)))
  clear k10 z10 q9_0_0 f9_0_0 q9_0_1 f9_0_1 q9_0_2 f9_0_2 t9_0 tw9 K9
  go_wp2_with fail
  refine region_name ?_
  intro W hW
  have l_0 : w.heap.size < W.heap.size := by rw [hW]; first | assumption | (simp; done) | (simp; omega)
  have r_0_0 : W.cell? ⟨w.heap.size, 0, none⟩ = some (.int .i64 c) := by rw [hW]; exact (by first | assumption | exact cell_alloc _ (by dsimp only; omega) (by assumption) | (simp [go_sem]; done) | exact cell_alloc _ (by simp; omega) (cell_alloc _ (by dsimp only; omega) (by assumption)))
  have r_0_1 : W.cell? ⟨w.heap.size, 1, none⟩ = some (.int .i64 h) := by rw [hW]; exact (by first | assumption | exact cell_alloc _ (by dsimp only; omega) (by assumption) | (simp [go_sem]; done) | exact cell_alloc _ (by simp; omega) (cell_alloc _ (by dsimp only; omega) (by assumption)))
  have r_0_2 : W.cell? ⟨w.heap.size, 2, none⟩ = some (.int .i64 r) := by rw [hW]; exact (by first | assumption | exact cell_alloc _ (by dsimp only; omega) (by assumption) | (simp [go_sem]; done) | exact cell_alloc _ (by simp; omega) (cell_alloc _ (by dsimp only; omega) (by assumption)))
  have l_9 : w9.heap.size < W.heap.size := by rw [hW]; first | assumption | (simp; done) | (simp; omega)
  have r_9_0 : W.cell? ⟨w9.heap.size, 0, none⟩ = some (.int .i64 (PA.new n).1.1) := by rw [hW]; exact (by first | assumption | exact cell_alloc _ (by dsimp only; omega) (by assumption) | (simp [go_sem]; done) | exact cell_alloc _ (by simp; omega) (cell_alloc _ (by dsimp only; omega) (by assumption)))
  have r_9_1 : W.cell? ⟨w9.heap.size, 1, none⟩ = some (.int .i64 (PA.new n).1.2.1) := by rw [hW]; exact (by first | assumption | exact cell_alloc _ (by dsimp only; omega) (by assumption) | (simp [go_sem]; done) | exact cell_alloc _ (by simp; omega) (cell_alloc _ (by dsimp only; omega) (by assumption)))
  have r_9_2 : W.cell? ⟨w9.heap.size, 2, none⟩ = some (.int .i64 (PA.new n).1.2.2) := by rw [hW]; exact (by first | assumption | exact cell_alloc _ (by dsimp only; omega) (by assumption) | (simp [go_sem]; done) | exact cell_alloc _ (by simp; omega) (cell_alloc _ (by dsimp only; omega) (by assumption)))
  have l_10 : w10.heap.size < W.heap.size := by rw [hW]; first | assumption | (simp; done) | (simp; omega)
  have r_10_0 : W.cell? ⟨w10.heap.size, 0, none⟩ = some (.int .i64 (PA.new n).1.1) := by rw [hW]; exact (by first | assumption | exact cell_alloc _ (by dsimp only; omega) (by assumption) | (simp [go_sem]; done) | exact cell_alloc _ (by simp; omega) (cell_alloc _ (by dsimp only; omega) (by assumption)))
  have r_10_1 : W.cell? ⟨w10.heap.size, 1, none⟩ = some (.int .i64 (PA.new n).1.2.1) := by rw [hW]; exact (by first | assumption | exact cell_alloc _ (by dsimp only; omega) (by assumption) | (simp [go_sem]; done) | exact cell_alloc _ (by simp; omega) (cell_alloc _ (by dsimp only; omega) (by assumption)))
  have r_10_2 : W.cell? ⟨w10.heap.size, 2, none⟩ = some (.int .i64 (PA.new n).1.2.2) := by rw [hW]; exact (by first | assumption | exact cell_alloc _ (by dsimp only; omega) (by assumption) | (simp [go_sem]; done) | exact cell_alloc _ (by simp; omega) (cell_alloc _ (by dsimp only; omega) (by assumption)))
  have hBW : Below w.heap.size w W := by rw [hW]; exact (by repeat (first | exact Below.refl _ _ | assumption | refine bel_drew ?_ | refine bel_drewN ?_ _ | refine bel_alloc ?_ _ | refine bel_set ?_ (by first | (dsimp only; omega) | (simp; done) | (simp; omega)) _ | refine bel_trans ?_ (by assumption)))
  clear hW q10_0_0 f10_0_0 q10_0_1 f10_0_1 q10_0_2 f10_0_2 q10_9_0 f10_9_0 q10_9_1 f10_9_1 q10_9_2 f10_9_2 t10_0 t10_9 tw10 K10
  have KS : ∀ w', Below W.heap.size W w' → (Below W.heap.size W w' ∧ w'.cell? ⟨w.heap.size, 0, none⟩ = some (.int .i64 c) ∧ w'.cell? ⟨w.heap.size, 1, none⟩ = some (.int .i64 h) ∧ w'.cell? ⟨w.heap.size, 2, none⟩ = some (.int .i64 r) ∧ w'.cell? ⟨w9.heap.size, 0, none⟩ = some (.int .i64 (PA.new n).1.1) ∧ w'.cell? ⟨w9.heap.size, 1, none⟩ = some (.int .i64 (PA.new n).1.2.1) ∧ w'.cell? ⟨w9.heap.size, 2, none⟩ = some (.int .i64 (PA.new n).1.2.2) ∧ w'.cell? ⟨w10.heap.size, 0, none⟩ = some (.int .i64 (PA.new n).1.1) ∧ w'.cell? ⟨w10.heap.size, 1, none⟩ = some (.int .i64 (PA.new n).1.2.1) ∧ w'.cell? ⟨w10.heap.size, 2, none⟩ = some (.int .i64 (PA.new n).1.2.2)) := fun w' hb => ⟨hb, (hb.cell l_0).trans r_0_0, (hb.cell l_0).trans r_0_1, (hb.cell l_0).trans r_0_2, (hb.cell l_9).trans r_9_0, (hb.cell l_9).trans r_9_1, (hb.cell l_9).trans r_9_2, (hb.cell l_10).trans r_10_0, (hb.cell l_10).trans r_10_1, (hb.cell l_10).trans r_10_2⟩
  have HKS := Lib.hid KS
  have HBW := Lib.hid hBW
  clear KS hBW r_0_0 r_0_1 r_0_2 r_9_0 r_9_1 r_9_2 r_10_0 r_10_1 r_10_2 l_0 l_9 l_10
  go_region_held3 (fun w' => Below W.heap.size W w' ∧ w'.cell? ⟨w.heap.size, 0, none⟩ = some (.int .i64 c) ∧ w'.cell? ⟨w.heap.size, 1, none⟩ = some (.int .i64 h) ∧ w'.cell? ⟨w.heap.size, 2, none⟩ = some (.int .i64 r) ∧ w'.cell? ⟨w9.heap.size, 0, none⟩ = some (.int .i64 (PA.new n).1.1) ∧ w'.cell? ⟨w9.heap.size, 1, none⟩ = some (.int .i64 (PA.new n).1.2.1) ∧ w'.cell? ⟨w9.heap.size, 2, none⟩ = some (.int .i64 (PA.new n).1.2.2) ∧ w'.cell? ⟨w10.heap.size, 0, none⟩ = some (.int .i64 (PA.new n).1.1) ∧ w'.cell? ⟨w10.heap.size, 1, none⟩ = some (.int .i64 (PA.new n).1.2.1) ∧ w'.cell? ⟨w10.heap.size, 2, none⟩ = some (.int .i64 (PA.new n).1.2.2))
    (exact HKS.out _ (by repeat (first | exact Below.refl _ _ | assumption | refine bel_drew ?_ | refine bel_drewN ?_ _ | refine bel_alloc ?_ _ | refine bel_set ?_ (by first | (dsimp only; omega) | (simp; done) | (simp; omega)) _ | refine bel_trans ?_ (by assumption))))
    (first | (go_at_call 24; refine (account_Right c h r _ bc bh br).mono ?_; rintro e w5 ⟨rfl, h5⟩) | (go_at_call 25; refine (ref26_Right c h r _ bc bh br).mono ?_; rintro e w5 ⟨rfl, h5⟩) | (go_at_call 26; refine (account_Need c h r _ bc bh br).mono ?_; rintro e w5 ⟨rfl, h5⟩) | (go_at_call 27; refine (ref26_Need c h r _ bc bh br).mono ?_; rintro e w5 ⟨rfl, h5⟩) | (go_at_call 28; refine (account_Room c h r _ bc bh br).mono ?_; rintro e w5 ⟨rfl, h5⟩) | (go_at_call 29; refine (ref26_Room c h r _ bc bh br).mono ?_; rintro e w5 ⟨rfl, h5⟩) | (go_at_call 30; refine (law26_works _).mono ?_; rintro e w5 ⟨rfl, h5⟩))
  go_wp2
  go_ret
  exact ⟨rfl, bel_trans HBW.out (by repeat (first | exact Below.refl _ _ | assumption | refine bel_drew ?_ | refine bel_drewN ?_ _ | refine bel_alloc ?_ _ | refine bel_set ?_ (by first | (dsimp only; omega) | (simp; done) | (simp; omega)) _ | refine bel_trans ?_ (by assumption)))⟩
end Go.Proofs.Ytbgohgligponiaa
