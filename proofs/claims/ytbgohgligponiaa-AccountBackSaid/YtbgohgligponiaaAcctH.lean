/-
  The walk of the law AccountBack.
-/
import Derived.Test.YtbgohgligponiaaAcctF
import Derived.Deep.RegionHeld3
namespace Go.Proofs.Ytbgohgligponiaa
open Go.RowKit
set_option linter.unusedVariables false
attribute [local go_sem] drewN_alloc drewN_setCell

set_option maxHeartbeats 1000000 in
theorem law26_AccountBack_no (c h r n : Int) (w : World) (bc : -9223372036854775808 ≤ c ∧ c ≤ 9223372036854775807) (bh : -9223372036854775808 ≤ h ∧ h ≤ 9223372036854775807) (br : -9223372036854775808 ≤ r ∧ r ≤ 9223372036854775807) (bn : -9223372036854775808 ≤ n ∧ n ≤ 9223372036854775807) (hne : (PA.doo 1 c h r n).2 ≠ 0) :
    Calls Try.prog 7 #[.agg #[.int .i64 c, .int .i64 h, .int .i64 r], .int .i64 n] w fun e w' => e = .returned (.bool true) ∧ Below w.heap.size w w' := by
  have hnb : ((PA.doo 1 c h r n).2 == 0) = false := by simpa using hne
  have hnb' : ((PA.doo 1 c h r n).2 != 0) = true := by simpa using hne
  clear hne
  go_enter Try.func7, Try.ntmps7
  go_wp2_with fail
  refine (account_Reserve c h r n _ bc bh br bn).mono ?_
  rintro e w1 ⟨rfl, k1⟩
  have q1_0_0 := cell_after (a := ⟨w.heap.size, 0, none⟩) (v := .int .i64 c) k1 (by first | (dsimp only; omega) | (simp; done) | (simp; omega)) (by first | assumption | exact cell_alloc _ (by dsimp only; omega) (by assumption) | (simp [go_sem]; done) | exact cell_alloc _ (by simp; omega) (cell_alloc _ (by dsimp only; omega) (by assumption)))
  have f1_0_0 := frozen_after (a := ⟨w.heap.size, 0, none⟩) k1 (by first | (dsimp only; omega) | (simp; done) | (simp; omega)) (by first | assumption | exact frozen_alloc _ (by dsimp only; omega) (by assumption) | (simp [go_sem]; done) | exact frozen_alloc _ (by simp; omega) (frozen_alloc _ (by dsimp only; omega) (by assumption)))
  have q1_0_1 := cell_after (a := ⟨w.heap.size, 1, none⟩) (v := .int .i64 h) k1 (by first | (dsimp only; omega) | (simp; done) | (simp; omega)) (by first | assumption | exact cell_alloc _ (by dsimp only; omega) (by assumption) | (simp [go_sem]; done) | exact cell_alloc _ (by simp; omega) (cell_alloc _ (by dsimp only; omega) (by assumption)))
  have f1_0_1 := frozen_after (a := ⟨w.heap.size, 1, none⟩) k1 (by first | (dsimp only; omega) | (simp; done) | (simp; omega)) (by first | assumption | exact frozen_alloc _ (by dsimp only; omega) (by assumption) | (simp [go_sem]; done) | exact frozen_alloc _ (by simp; omega) (frozen_alloc _ (by dsimp only; omega) (by assumption)))
  have q1_0_2 := cell_after (a := ⟨w.heap.size, 2, none⟩) (v := .int .i64 r) k1 (by first | (dsimp only; omega) | (simp; done) | (simp; omega)) (by first | assumption | exact cell_alloc _ (by dsimp only; omega) (by assumption) | (simp [go_sem]; done) | exact cell_alloc _ (by simp; omega) (cell_alloc _ (by dsimp only; omega) (by assumption)))
  have f1_0_2 := frozen_after (a := ⟨w.heap.size, 2, none⟩) k1 (by first | (dsimp only; omega) | (simp; done) | (simp; omega)) (by first | assumption | exact frozen_alloc _ (by dsimp only; omega) (by assumption) | (simp [go_sem]; done) | exact frozen_alloc _ (by simp; omega) (frozen_alloc _ (by dsimp only; omega) (by assumption)))
  have z1 := k1.size
  try simp only [World.heap_drewN] at z1
  try simp only [World.size_alloc] at z1
  have t1_0 : w.heap.size < w1.heap.size := by omega
  have tw1 : w.heap.size ≤ w1.heap.size := by omega
  have K1 : Below w.heap.size w w1 := (by repeat (first | exact Below.refl _ _ | assumption | refine bel_drew ?_ | refine bel_drewN ?_ _ | refine bel_alloc ?_ _ | refine bel_set ?_ (by first | (dsimp only; omega) | (simp; done) | (simp; omega)) _ | refine bel_trans ?_ (by assumption)))
  clear k1 z1
  go_wp2_with fail
  refine (law26_works _).mono ?_
  rintro e w2 ⟨rfl, k2⟩
  have q2_0_0 := cell_after (a := ⟨w.heap.size, 0, none⟩) (v := .int .i64 c) k2 (by first | (dsimp only; omega) | (simp; done) | (simp; omega)) (by first | assumption | exact cell_alloc _ (by dsimp only; omega) (by assumption) | (simp [go_sem]; done) | exact cell_alloc _ (by simp; omega) (cell_alloc _ (by dsimp only; omega) (by assumption)))
  have f2_0_0 := frozen_after (a := ⟨w.heap.size, 0, none⟩) k2 (by first | (dsimp only; omega) | (simp; done) | (simp; omega)) (by first | assumption | exact frozen_alloc _ (by dsimp only; omega) (by assumption) | (simp [go_sem]; done) | exact frozen_alloc _ (by simp; omega) (frozen_alloc _ (by dsimp only; omega) (by assumption)))
  have q2_0_1 := cell_after (a := ⟨w.heap.size, 1, none⟩) (v := .int .i64 h) k2 (by first | (dsimp only; omega) | (simp; done) | (simp; omega)) (by first | assumption | exact cell_alloc _ (by dsimp only; omega) (by assumption) | (simp [go_sem]; done) | exact cell_alloc _ (by simp; omega) (cell_alloc _ (by dsimp only; omega) (by assumption)))
  have f2_0_1 := frozen_after (a := ⟨w.heap.size, 1, none⟩) k2 (by first | (dsimp only; omega) | (simp; done) | (simp; omega)) (by first | assumption | exact frozen_alloc _ (by dsimp only; omega) (by assumption) | (simp [go_sem]; done) | exact frozen_alloc _ (by simp; omega) (frozen_alloc _ (by dsimp only; omega) (by assumption)))
  have q2_0_2 := cell_after (a := ⟨w.heap.size, 2, none⟩) (v := .int .i64 r) k2 (by first | (dsimp only; omega) | (simp; done) | (simp; omega)) (by first | assumption | exact cell_alloc _ (by dsimp only; omega) (by assumption) | (simp [go_sem]; done) | exact cell_alloc _ (by simp; omega) (cell_alloc _ (by dsimp only; omega) (by assumption)))
  have f2_0_2 := frozen_after (a := ⟨w.heap.size, 2, none⟩) k2 (by first | (dsimp only; omega) | (simp; done) | (simp; omega)) (by first | assumption | exact frozen_alloc _ (by dsimp only; omega) (by assumption) | (simp [go_sem]; done) | exact frozen_alloc _ (by simp; omega) (frozen_alloc _ (by dsimp only; omega) (by assumption)))
  have q2_1_0 := cell_after (a := ⟨w1.heap.size, 0, none⟩) (v := .int .i64 (PA.doo 1 c h r n).1.1) k2 (by first | (dsimp only; omega) | (simp; done) | (simp; omega)) (by first | assumption | exact cell_alloc _ (by dsimp only; omega) (by assumption) | (simp [go_sem]; done) | exact cell_alloc _ (by simp; omega) (cell_alloc _ (by dsimp only; omega) (by assumption)))
  have f2_1_0 := frozen_after (a := ⟨w1.heap.size, 0, none⟩) k2 (by first | (dsimp only; omega) | (simp; done) | (simp; omega)) (by first | assumption | exact frozen_alloc _ (by dsimp only; omega) (by assumption) | (simp [go_sem]; done) | exact frozen_alloc _ (by simp; omega) (frozen_alloc _ (by dsimp only; omega) (by assumption)))
  have q2_1_1 := cell_after (a := ⟨w1.heap.size, 1, none⟩) (v := .int .i64 (PA.doo 1 c h r n).1.2.1) k2 (by first | (dsimp only; omega) | (simp; done) | (simp; omega)) (by first | assumption | exact cell_alloc _ (by dsimp only; omega) (by assumption) | (simp [go_sem]; done) | exact cell_alloc _ (by simp; omega) (cell_alloc _ (by dsimp only; omega) (by assumption)))
  have f2_1_1 := frozen_after (a := ⟨w1.heap.size, 1, none⟩) k2 (by first | (dsimp only; omega) | (simp; done) | (simp; omega)) (by first | assumption | exact frozen_alloc _ (by dsimp only; omega) (by assumption) | (simp [go_sem]; done) | exact frozen_alloc _ (by simp; omega) (frozen_alloc _ (by dsimp only; omega) (by assumption)))
  have q2_1_2 := cell_after (a := ⟨w1.heap.size, 2, none⟩) (v := .int .i64 (PA.doo 1 c h r n).1.2.2) k2 (by first | (dsimp only; omega) | (simp; done) | (simp; omega)) (by first | assumption | exact cell_alloc _ (by dsimp only; omega) (by assumption) | (simp [go_sem]; done) | exact cell_alloc _ (by simp; omega) (cell_alloc _ (by dsimp only; omega) (by assumption)))
  have f2_1_2 := frozen_after (a := ⟨w1.heap.size, 2, none⟩) k2 (by first | (dsimp only; omega) | (simp; done) | (simp; omega)) (by first | assumption | exact frozen_alloc _ (by dsimp only; omega) (by assumption) | (simp [go_sem]; done) | exact frozen_alloc _ (by simp; omega) (frozen_alloc _ (by dsimp only; omega) (by assumption)))
  have z2 := k2.size
  try simp only [World.heap_drewN] at z2
  try simp only [World.size_alloc] at z2
  have t2_0 : w.heap.size < w2.heap.size := by omega
  have t2_1 : w1.heap.size < w2.heap.size := by omega
  have tw2 : w.heap.size ≤ w2.heap.size := by omega
  have K2 : Below w.heap.size w w2 := (by repeat (first | exact Below.refl _ _ | assumption | refine bel_drew ?_ | refine bel_drewN ?_ _ | refine bel_alloc ?_ _ | refine bel_set ?_ (by first | (dsimp only; omega) | (simp; done) | (simp; omega)) _ | refine bel_trans ?_ (by assumption)))
  clear k2 z2 q1_0_0 f1_0_0 q1_0_1 f1_0_1 q1_0_2 f1_0_2 t1_0 tw1 K1
  go_wp2_with fail
  go_ret
  exact ⟨rfl, (by repeat (first | exact Below.refl _ _ | assumption | refine bel_drew ?_ | refine bel_drewN ?_ _ | refine bel_alloc ?_ _ | refine bel_set ?_ (by first | (dsimp only; omega) | (simp; done) | (simp; omega)) _ | refine bel_trans ?_ (by assumption)))⟩
  
set_option maxHeartbeats 1000000 in
theorem law26_AccountBack_ok (c h r n : Int) (w : World) (bc : -9223372036854775808 ≤ c ∧ c ≤ 9223372036854775807) (bh : -9223372036854775808 ≤ h ∧ h ≤ 9223372036854775807) (br : -9223372036854775808 ≤ r ∧ r ≤ 9223372036854775807) (bn : -9223372036854775808 ≤ n ∧ n ≤ 9223372036854775807) (hr : PA.right c h r = true) (n1 : 1 ≤ n) (n2 : n ≤ c - h - r) :
    Calls Try.prog 7 #[.agg #[.int .i64 c, .int .i64 h, .int .i64 r], .int .i64 n] w fun e w' => e = .returned (.bool true) ∧ Below w.heap.size w w' := by
  have hi := (PA.right_iff c h r).1 hr
  have g1 : PA.right c h (r + n) = true := (PA.right_iff _ _ _).2 (by omega)
  have g2 : PA.right c (h + n) (r + n - n) = true := (PA.right_iff _ _ _).2 (by omega)
  have e1 := PA.doo1_yes hr n1 n2
  have e2 : PA.doo 3 c h (r + n) n = ((c, h, r), 0) := by rw [PA.doo3_yes g1 n1 (by omega)]; congr; omega
  have e3 : PA.doo 2 c h (r + n) n = ((c, h + n, r), 0) := by rw [PA.doo2_yes g1 n1 (by omega)]; congr; omega
  have g3 : PA.right c (h + n) r = true := (PA.right_iff _ _ _).2 (by omega)
  have e4 : PA.doo 4 c (h + n) r n = ((c, h, r), 0) := by rw [PA.doo4_yes g3 n1 (by omega)]; congr; omega
  have d1 := fun W => account_Reserve c h r n W bc bh br bn
  have d2 := fun W => account_Cancel c h (r + n) n W bc bh (by omega) bn
  have d3 := fun W => account_Grant c h (r + n) n W bc bh (by omega) bn
  have d4 := fun W => account_Give c (h + n) r n W bc (by omega) br bn
  rw [e1] at d1
  rw [e2] at d2
  rw [e3] at d3
  rw [e4] at d4
  have D1 := Lib.hid d1
  have D2 := Lib.hid d2
  have D3 := Lib.hid d3
  have D4 := Lib.hid d4
  have E := eql_acct_same c h r
  clear d1 d2 d3 d4 e1 e2 e3 e4 g1 g2 g3 hi hr
  go_enter Try.func7, Try.ntmps7
  go_wp2_with fail
  refine (D1.out _).mono ?_
  rintro e w1 ⟨rfl, k1⟩
  have q1_0_0 := cell_after (a := ⟨w.heap.size, 0, none⟩) (v := .int .i64 c) k1 (by first | (dsimp only; omega) | (simp; done) | (simp; omega)) (by first | assumption | exact cell_alloc _ (by dsimp only; omega) (by assumption) | (simp [go_sem]; done) | exact cell_alloc _ (by simp; omega) (cell_alloc _ (by dsimp only; omega) (by assumption)))
  have f1_0_0 := frozen_after (a := ⟨w.heap.size, 0, none⟩) k1 (by first | (dsimp only; omega) | (simp; done) | (simp; omega)) (by first | assumption | exact frozen_alloc _ (by dsimp only; omega) (by assumption) | (simp [go_sem]; done) | exact frozen_alloc _ (by simp; omega) (frozen_alloc _ (by dsimp only; omega) (by assumption)))
  have q1_0_1 := cell_after (a := ⟨w.heap.size, 1, none⟩) (v := .int .i64 h) k1 (by first | (dsimp only; omega) | (simp; done) | (simp; omega)) (by first | assumption | exact cell_alloc _ (by dsimp only; omega) (by assumption) | (simp [go_sem]; done) | exact cell_alloc _ (by simp; omega) (cell_alloc _ (by dsimp only; omega) (by assumption)))
  have f1_0_1 := frozen_after (a := ⟨w.heap.size, 1, none⟩) k1 (by first | (dsimp only; omega) | (simp; done) | (simp; omega)) (by first | assumption | exact frozen_alloc _ (by dsimp only; omega) (by assumption) | (simp [go_sem]; done) | exact frozen_alloc _ (by simp; omega) (frozen_alloc _ (by dsimp only; omega) (by assumption)))
  have q1_0_2 := cell_after (a := ⟨w.heap.size, 2, none⟩) (v := .int .i64 r) k1 (by first | (dsimp only; omega) | (simp; done) | (simp; omega)) (by first | assumption | exact cell_alloc _ (by dsimp only; omega) (by assumption) | (simp [go_sem]; done) | exact cell_alloc _ (by simp; omega) (cell_alloc _ (by dsimp only; omega) (by assumption)))
  have f1_0_2 := frozen_after (a := ⟨w.heap.size, 2, none⟩) k1 (by first | (dsimp only; omega) | (simp; done) | (simp; omega)) (by first | assumption | exact frozen_alloc _ (by dsimp only; omega) (by assumption) | (simp [go_sem]; done) | exact frozen_alloc _ (by simp; omega) (frozen_alloc _ (by dsimp only; omega) (by assumption)))
  have z1 := k1.size
  try simp only [World.heap_drewN] at z1
  try simp only [World.size_alloc] at z1
  have t1_0 : w.heap.size < w1.heap.size := by omega
  have tw1 : w.heap.size ≤ w1.heap.size := by omega
  have K1 : Below w.heap.size w w1 := (by repeat (first | exact Below.refl _ _ | assumption | refine bel_drew ?_ | refine bel_drewN ?_ _ | refine bel_alloc ?_ _ | refine bel_set ?_ (by first | (dsimp only; omega) | (simp; done) | (simp; omega)) _ | refine bel_trans ?_ (by assumption)))
  clear k1 z1
  go_wp2_with fail
  refine (D2.out _).mono ?_
  rintro e w2 ⟨rfl, k2⟩
  have q2_0_0 := cell_after (a := ⟨w.heap.size, 0, none⟩) (v := .int .i64 c) k2 (by first | (dsimp only; omega) | (simp; done) | (simp; omega)) (by first | assumption | exact cell_alloc _ (by dsimp only; omega) (by assumption) | (simp [go_sem]; done) | exact cell_alloc _ (by simp; omega) (cell_alloc _ (by dsimp only; omega) (by assumption)))
  have f2_0_0 := frozen_after (a := ⟨w.heap.size, 0, none⟩) k2 (by first | (dsimp only; omega) | (simp; done) | (simp; omega)) (by first | assumption | exact frozen_alloc _ (by dsimp only; omega) (by assumption) | (simp [go_sem]; done) | exact frozen_alloc _ (by simp; omega) (frozen_alloc _ (by dsimp only; omega) (by assumption)))
  have q2_0_1 := cell_after (a := ⟨w.heap.size, 1, none⟩) (v := .int .i64 h) k2 (by first | (dsimp only; omega) | (simp; done) | (simp; omega)) (by first | assumption | exact cell_alloc _ (by dsimp only; omega) (by assumption) | (simp [go_sem]; done) | exact cell_alloc _ (by simp; omega) (cell_alloc _ (by dsimp only; omega) (by assumption)))
  have f2_0_1 := frozen_after (a := ⟨w.heap.size, 1, none⟩) k2 (by first | (dsimp only; omega) | (simp; done) | (simp; omega)) (by first | assumption | exact frozen_alloc _ (by dsimp only; omega) (by assumption) | (simp [go_sem]; done) | exact frozen_alloc _ (by simp; omega) (frozen_alloc _ (by dsimp only; omega) (by assumption)))
  have q2_0_2 := cell_after (a := ⟨w.heap.size, 2, none⟩) (v := .int .i64 r) k2 (by first | (dsimp only; omega) | (simp; done) | (simp; omega)) (by first | assumption | exact cell_alloc _ (by dsimp only; omega) (by assumption) | (simp [go_sem]; done) | exact cell_alloc _ (by simp; omega) (cell_alloc _ (by dsimp only; omega) (by assumption)))
  have f2_0_2 := frozen_after (a := ⟨w.heap.size, 2, none⟩) k2 (by first | (dsimp only; omega) | (simp; done) | (simp; omega)) (by first | assumption | exact frozen_alloc _ (by dsimp only; omega) (by assumption) | (simp [go_sem]; done) | exact frozen_alloc _ (by simp; omega) (frozen_alloc _ (by dsimp only; omega) (by assumption)))
  have q2_1_0 := cell_after (a := ⟨w1.heap.size, 0, none⟩) (v := .int .i64 c) k2 (by first | (dsimp only; omega) | (simp; done) | (simp; omega)) (by first | assumption | exact cell_alloc _ (by dsimp only; omega) (by assumption) | (simp [go_sem]; done) | exact cell_alloc _ (by simp; omega) (cell_alloc _ (by dsimp only; omega) (by assumption)))
  have f2_1_0 := frozen_after (a := ⟨w1.heap.size, 0, none⟩) k2 (by first | (dsimp only; omega) | (simp; done) | (simp; omega)) (by first | assumption | exact frozen_alloc _ (by dsimp only; omega) (by assumption) | (simp [go_sem]; done) | exact frozen_alloc _ (by simp; omega) (frozen_alloc _ (by dsimp only; omega) (by assumption)))
  have q2_1_1 := cell_after (a := ⟨w1.heap.size, 1, none⟩) (v := .int .i64 h) k2 (by first | (dsimp only; omega) | (simp; done) | (simp; omega)) (by first | assumption | exact cell_alloc _ (by dsimp only; omega) (by assumption) | (simp [go_sem]; done) | exact cell_alloc _ (by simp; omega) (cell_alloc _ (by dsimp only; omega) (by assumption)))
  have f2_1_1 := frozen_after (a := ⟨w1.heap.size, 1, none⟩) k2 (by first | (dsimp only; omega) | (simp; done) | (simp; omega)) (by first | assumption | exact frozen_alloc _ (by dsimp only; omega) (by assumption) | (simp [go_sem]; done) | exact frozen_alloc _ (by simp; omega) (frozen_alloc _ (by dsimp only; omega) (by assumption)))
  have q2_1_2 := cell_after (a := ⟨w1.heap.size, 2, none⟩) (v := .int .i64 (r + n)) k2 (by first | (dsimp only; omega) | (simp; done) | (simp; omega)) (by first | assumption | exact cell_alloc _ (by dsimp only; omega) (by assumption) | (simp [go_sem]; done) | exact cell_alloc _ (by simp; omega) (cell_alloc _ (by dsimp only; omega) (by assumption)))
  have f2_1_2 := frozen_after (a := ⟨w1.heap.size, 2, none⟩) k2 (by first | (dsimp only; omega) | (simp; done) | (simp; omega)) (by first | assumption | exact frozen_alloc _ (by dsimp only; omega) (by assumption) | (simp [go_sem]; done) | exact frozen_alloc _ (by simp; omega) (frozen_alloc _ (by dsimp only; omega) (by assumption)))
  have z2 := k2.size
  try simp only [World.heap_drewN] at z2
  try simp only [World.size_alloc] at z2
  have t2_0 : w.heap.size < w2.heap.size := by omega
  have t2_1 : w1.heap.size < w2.heap.size := by omega
  have tw2 : w.heap.size ≤ w2.heap.size := by omega
  have K2 : Below w.heap.size w w2 := (by repeat (first | exact Below.refl _ _ | assumption | refine bel_drew ?_ | refine bel_drewN ?_ _ | refine bel_alloc ?_ _ | refine bel_set ?_ (by first | (dsimp only; omega) | (simp; done) | (simp; omega)) _ | refine bel_trans ?_ (by assumption)))
  clear k2 z2 q1_0_0 f1_0_0 q1_0_1 f1_0_1 q1_0_2 f1_0_2 t1_0 tw1 K1
  go_wp2_with fail
  refine (D3.out _).mono ?_
  rintro e w3 ⟨rfl, k3⟩
  have q3_0_0 := cell_after (a := ⟨w.heap.size, 0, none⟩) (v := .int .i64 c) k3 (by first | (dsimp only; omega) | (simp; done) | (simp; omega)) (by first | assumption | exact cell_alloc _ (by dsimp only; omega) (by assumption) | (simp [go_sem]; done) | exact cell_alloc _ (by simp; omega) (cell_alloc _ (by dsimp only; omega) (by assumption)))
  have f3_0_0 := frozen_after (a := ⟨w.heap.size, 0, none⟩) k3 (by first | (dsimp only; omega) | (simp; done) | (simp; omega)) (by first | assumption | exact frozen_alloc _ (by dsimp only; omega) (by assumption) | (simp [go_sem]; done) | exact frozen_alloc _ (by simp; omega) (frozen_alloc _ (by dsimp only; omega) (by assumption)))
  have q3_0_1 := cell_after (a := ⟨w.heap.size, 1, none⟩) (v := .int .i64 h) k3 (by first | (dsimp only; omega) | (simp; done) | (simp; omega)) (by first | assumption | exact cell_alloc _ (by dsimp only; omega) (by assumption) | (simp [go_sem]; done) | exact cell_alloc _ (by simp; omega) (cell_alloc _ (by dsimp only; omega) (by assumption)))
  have f3_0_1 := frozen_after (a := ⟨w.heap.size, 1, none⟩) k3 (by first | (dsimp only; omega) | (simp; done) | (simp; omega)) (by first | assumption | exact frozen_alloc _ (by dsimp only; omega) (by assumption) | (simp [go_sem]; done) | exact frozen_alloc _ (by simp; omega) (frozen_alloc _ (by dsimp only; omega) (by assumption)))
  have q3_0_2 := cell_after (a := ⟨w.heap.size, 2, none⟩) (v := .int .i64 r) k3 (by first | (dsimp only; omega) | (simp; done) | (simp; omega)) (by first | assumption | exact cell_alloc _ (by dsimp only; omega) (by assumption) | (simp [go_sem]; done) | exact cell_alloc _ (by simp; omega) (cell_alloc _ (by dsimp only; omega) (by assumption)))
  have f3_0_2 := frozen_after (a := ⟨w.heap.size, 2, none⟩) k3 (by first | (dsimp only; omega) | (simp; done) | (simp; omega)) (by first | assumption | exact frozen_alloc _ (by dsimp only; omega) (by assumption) | (simp [go_sem]; done) | exact frozen_alloc _ (by simp; omega) (frozen_alloc _ (by dsimp only; omega) (by assumption)))
  have q3_1_0 := cell_after (a := ⟨w1.heap.size, 0, none⟩) (v := .int .i64 c) k3 (by first | (dsimp only; omega) | (simp; done) | (simp; omega)) (by first | assumption | exact cell_alloc _ (by dsimp only; omega) (by assumption) | (simp [go_sem]; done) | exact cell_alloc _ (by simp; omega) (cell_alloc _ (by dsimp only; omega) (by assumption)))
  have f3_1_0 := frozen_after (a := ⟨w1.heap.size, 0, none⟩) k3 (by first | (dsimp only; omega) | (simp; done) | (simp; omega)) (by first | assumption | exact frozen_alloc _ (by dsimp only; omega) (by assumption) | (simp [go_sem]; done) | exact frozen_alloc _ (by simp; omega) (frozen_alloc _ (by dsimp only; omega) (by assumption)))
  have q3_1_1 := cell_after (a := ⟨w1.heap.size, 1, none⟩) (v := .int .i64 h) k3 (by first | (dsimp only; omega) | (simp; done) | (simp; omega)) (by first | assumption | exact cell_alloc _ (by dsimp only; omega) (by assumption) | (simp [go_sem]; done) | exact cell_alloc _ (by simp; omega) (cell_alloc _ (by dsimp only; omega) (by assumption)))
  have f3_1_1 := frozen_after (a := ⟨w1.heap.size, 1, none⟩) k3 (by first | (dsimp only; omega) | (simp; done) | (simp; omega)) (by first | assumption | exact frozen_alloc _ (by dsimp only; omega) (by assumption) | (simp [go_sem]; done) | exact frozen_alloc _ (by simp; omega) (frozen_alloc _ (by dsimp only; omega) (by assumption)))
  have q3_1_2 := cell_after (a := ⟨w1.heap.size, 2, none⟩) (v := .int .i64 (r + n)) k3 (by first | (dsimp only; omega) | (simp; done) | (simp; omega)) (by first | assumption | exact cell_alloc _ (by dsimp only; omega) (by assumption) | (simp [go_sem]; done) | exact cell_alloc _ (by simp; omega) (cell_alloc _ (by dsimp only; omega) (by assumption)))
  have f3_1_2 := frozen_after (a := ⟨w1.heap.size, 2, none⟩) k3 (by first | (dsimp only; omega) | (simp; done) | (simp; omega)) (by first | assumption | exact frozen_alloc _ (by dsimp only; omega) (by assumption) | (simp [go_sem]; done) | exact frozen_alloc _ (by simp; omega) (frozen_alloc _ (by dsimp only; omega) (by assumption)))
  have q3_2_0 := cell_after (a := ⟨w2.heap.size, 0, none⟩) (v := .int .i64 c) k3 (by first | (dsimp only; omega) | (simp; done) | (simp; omega)) (by first | assumption | exact cell_alloc _ (by dsimp only; omega) (by assumption) | (simp [go_sem]; done) | exact cell_alloc _ (by simp; omega) (cell_alloc _ (by dsimp only; omega) (by assumption)))
  have f3_2_0 := frozen_after (a := ⟨w2.heap.size, 0, none⟩) k3 (by first | (dsimp only; omega) | (simp; done) | (simp; omega)) (by first | assumption | exact frozen_alloc _ (by dsimp only; omega) (by assumption) | (simp [go_sem]; done) | exact frozen_alloc _ (by simp; omega) (frozen_alloc _ (by dsimp only; omega) (by assumption)))
  have q3_2_1 := cell_after (a := ⟨w2.heap.size, 1, none⟩) (v := .int .i64 h) k3 (by first | (dsimp only; omega) | (simp; done) | (simp; omega)) (by first | assumption | exact cell_alloc _ (by dsimp only; omega) (by assumption) | (simp [go_sem]; done) | exact cell_alloc _ (by simp; omega) (cell_alloc _ (by dsimp only; omega) (by assumption)))
  have f3_2_1 := frozen_after (a := ⟨w2.heap.size, 1, none⟩) k3 (by first | (dsimp only; omega) | (simp; done) | (simp; omega)) (by first | assumption | exact frozen_alloc _ (by dsimp only; omega) (by assumption) | (simp [go_sem]; done) | exact frozen_alloc _ (by simp; omega) (frozen_alloc _ (by dsimp only; omega) (by assumption)))
  have q3_2_2 := cell_after (a := ⟨w2.heap.size, 2, none⟩) (v := .int .i64 r) k3 (by first | (dsimp only; omega) | (simp; done) | (simp; omega)) (by first | assumption | exact cell_alloc _ (by dsimp only; omega) (by assumption) | (simp [go_sem]; done) | exact cell_alloc _ (by simp; omega) (cell_alloc _ (by dsimp only; omega) (by assumption)))
  have f3_2_2 := frozen_after (a := ⟨w2.heap.size, 2, none⟩) k3 (by first | (dsimp only; omega) | (simp; done) | (simp; omega)) (by first | assumption | exact frozen_alloc _ (by dsimp only; omega) (by assumption) | (simp [go_sem]; done) | exact frozen_alloc _ (by simp; omega) (frozen_alloc _ (by dsimp only; omega) (by assumption)))
  have z3 := k3.size
  try simp only [World.heap_drewN] at z3
  try simp only [World.size_alloc] at z3
  have t3_0 : w.heap.size < w3.heap.size := by omega
  have t3_1 : w1.heap.size < w3.heap.size := by omega
  have t3_2 : w2.heap.size < w3.heap.size := by omega
  have tw3 : w.heap.size ≤ w3.heap.size := by omega
  have K3 : Below w.heap.size w w3 := (by repeat (first | exact Below.refl _ _ | assumption | refine bel_drew ?_ | refine bel_drewN ?_ _ | refine bel_alloc ?_ _ | refine bel_set ?_ (by first | (dsimp only; omega) | (simp; done) | (simp; omega)) _ | refine bel_trans ?_ (by assumption)))
  clear k3 z3 q2_0_0 f2_0_0 q2_0_1 f2_0_1 q2_0_2 f2_0_2 q2_1_0 f2_1_0 q2_1_1 f2_1_1 q2_1_2 f2_1_2 t2_0 t2_1 tw2 K2
  go_wp2_with fail
  refine (D4.out _).mono ?_
  rintro e w4 ⟨rfl, k4⟩
  have q4_0_0 := cell_after (a := ⟨w.heap.size, 0, none⟩) (v := .int .i64 c) k4 (by first | (dsimp only; omega) | (simp; done) | (simp; omega)) (by first | assumption | exact cell_alloc _ (by dsimp only; omega) (by assumption) | (simp [go_sem]; done) | exact cell_alloc _ (by simp; omega) (cell_alloc _ (by dsimp only; omega) (by assumption)))
  have f4_0_0 := frozen_after (a := ⟨w.heap.size, 0, none⟩) k4 (by first | (dsimp only; omega) | (simp; done) | (simp; omega)) (by first | assumption | exact frozen_alloc _ (by dsimp only; omega) (by assumption) | (simp [go_sem]; done) | exact frozen_alloc _ (by simp; omega) (frozen_alloc _ (by dsimp only; omega) (by assumption)))
  have q4_0_1 := cell_after (a := ⟨w.heap.size, 1, none⟩) (v := .int .i64 h) k4 (by first | (dsimp only; omega) | (simp; done) | (simp; omega)) (by first | assumption | exact cell_alloc _ (by dsimp only; omega) (by assumption) | (simp [go_sem]; done) | exact cell_alloc _ (by simp; omega) (cell_alloc _ (by dsimp only; omega) (by assumption)))
  have f4_0_1 := frozen_after (a := ⟨w.heap.size, 1, none⟩) k4 (by first | (dsimp only; omega) | (simp; done) | (simp; omega)) (by first | assumption | exact frozen_alloc _ (by dsimp only; omega) (by assumption) | (simp [go_sem]; done) | exact frozen_alloc _ (by simp; omega) (frozen_alloc _ (by dsimp only; omega) (by assumption)))
  have q4_0_2 := cell_after (a := ⟨w.heap.size, 2, none⟩) (v := .int .i64 r) k4 (by first | (dsimp only; omega) | (simp; done) | (simp; omega)) (by first | assumption | exact cell_alloc _ (by dsimp only; omega) (by assumption) | (simp [go_sem]; done) | exact cell_alloc _ (by simp; omega) (cell_alloc _ (by dsimp only; omega) (by assumption)))
  have f4_0_2 := frozen_after (a := ⟨w.heap.size, 2, none⟩) k4 (by first | (dsimp only; omega) | (simp; done) | (simp; omega)) (by first | assumption | exact frozen_alloc _ (by dsimp only; omega) (by assumption) | (simp [go_sem]; done) | exact frozen_alloc _ (by simp; omega) (frozen_alloc _ (by dsimp only; omega) (by assumption)))
  have q4_1_0 := cell_after (a := ⟨w1.heap.size, 0, none⟩) (v := .int .i64 c) k4 (by first | (dsimp only; omega) | (simp; done) | (simp; omega)) (by first | assumption | exact cell_alloc _ (by dsimp only; omega) (by assumption) | (simp [go_sem]; done) | exact cell_alloc _ (by simp; omega) (cell_alloc _ (by dsimp only; omega) (by assumption)))
  have f4_1_0 := frozen_after (a := ⟨w1.heap.size, 0, none⟩) k4 (by first | (dsimp only; omega) | (simp; done) | (simp; omega)) (by first | assumption | exact frozen_alloc _ (by dsimp only; omega) (by assumption) | (simp [go_sem]; done) | exact frozen_alloc _ (by simp; omega) (frozen_alloc _ (by dsimp only; omega) (by assumption)))
  have q4_1_1 := cell_after (a := ⟨w1.heap.size, 1, none⟩) (v := .int .i64 h) k4 (by first | (dsimp only; omega) | (simp; done) | (simp; omega)) (by first | assumption | exact cell_alloc _ (by dsimp only; omega) (by assumption) | (simp [go_sem]; done) | exact cell_alloc _ (by simp; omega) (cell_alloc _ (by dsimp only; omega) (by assumption)))
  have f4_1_1 := frozen_after (a := ⟨w1.heap.size, 1, none⟩) k4 (by first | (dsimp only; omega) | (simp; done) | (simp; omega)) (by first | assumption | exact frozen_alloc _ (by dsimp only; omega) (by assumption) | (simp [go_sem]; done) | exact frozen_alloc _ (by simp; omega) (frozen_alloc _ (by dsimp only; omega) (by assumption)))
  have q4_1_2 := cell_after (a := ⟨w1.heap.size, 2, none⟩) (v := .int .i64 (r + n)) k4 (by first | (dsimp only; omega) | (simp; done) | (simp; omega)) (by first | assumption | exact cell_alloc _ (by dsimp only; omega) (by assumption) | (simp [go_sem]; done) | exact cell_alloc _ (by simp; omega) (cell_alloc _ (by dsimp only; omega) (by assumption)))
  have f4_1_2 := frozen_after (a := ⟨w1.heap.size, 2, none⟩) k4 (by first | (dsimp only; omega) | (simp; done) | (simp; omega)) (by first | assumption | exact frozen_alloc _ (by dsimp only; omega) (by assumption) | (simp [go_sem]; done) | exact frozen_alloc _ (by simp; omega) (frozen_alloc _ (by dsimp only; omega) (by assumption)))
  have q4_2_0 := cell_after (a := ⟨w2.heap.size, 0, none⟩) (v := .int .i64 c) k4 (by first | (dsimp only; omega) | (simp; done) | (simp; omega)) (by first | assumption | exact cell_alloc _ (by dsimp only; omega) (by assumption) | (simp [go_sem]; done) | exact cell_alloc _ (by simp; omega) (cell_alloc _ (by dsimp only; omega) (by assumption)))
  have f4_2_0 := frozen_after (a := ⟨w2.heap.size, 0, none⟩) k4 (by first | (dsimp only; omega) | (simp; done) | (simp; omega)) (by first | assumption | exact frozen_alloc _ (by dsimp only; omega) (by assumption) | (simp [go_sem]; done) | exact frozen_alloc _ (by simp; omega) (frozen_alloc _ (by dsimp only; omega) (by assumption)))
  have q4_2_1 := cell_after (a := ⟨w2.heap.size, 1, none⟩) (v := .int .i64 h) k4 (by first | (dsimp only; omega) | (simp; done) | (simp; omega)) (by first | assumption | exact cell_alloc _ (by dsimp only; omega) (by assumption) | (simp [go_sem]; done) | exact cell_alloc _ (by simp; omega) (cell_alloc _ (by dsimp only; omega) (by assumption)))
  have f4_2_1 := frozen_after (a := ⟨w2.heap.size, 1, none⟩) k4 (by first | (dsimp only; omega) | (simp; done) | (simp; omega)) (by first | assumption | exact frozen_alloc _ (by dsimp only; omega) (by assumption) | (simp [go_sem]; done) | exact frozen_alloc _ (by simp; omega) (frozen_alloc _ (by dsimp only; omega) (by assumption)))
  have q4_2_2 := cell_after (a := ⟨w2.heap.size, 2, none⟩) (v := .int .i64 r) k4 (by first | (dsimp only; omega) | (simp; done) | (simp; omega)) (by first | assumption | exact cell_alloc _ (by dsimp only; omega) (by assumption) | (simp [go_sem]; done) | exact cell_alloc _ (by simp; omega) (cell_alloc _ (by dsimp only; omega) (by assumption)))
  have f4_2_2 := frozen_after (a := ⟨w2.heap.size, 2, none⟩) k4 (by first | (dsimp only; omega) | (simp; done) | (simp; omega)) (by first | assumption | exact frozen_alloc _ (by dsimp only; omega) (by assumption) | (simp [go_sem]; done) | exact frozen_alloc _ (by simp; omega) (frozen_alloc _ (by dsimp only; omega) (by assumption)))
  have q4_3_0 := cell_after (a := ⟨w3.heap.size, 0, none⟩) (v := .int .i64 c) k4 (by first | (dsimp only; omega) | (simp; done) | (simp; omega)) (by first | assumption | exact cell_alloc _ (by dsimp only; omega) (by assumption) | (simp [go_sem]; done) | exact cell_alloc _ (by simp; omega) (cell_alloc _ (by dsimp only; omega) (by assumption)))
  have f4_3_0 := frozen_after (a := ⟨w3.heap.size, 0, none⟩) k4 (by first | (dsimp only; omega) | (simp; done) | (simp; omega)) (by first | assumption | exact frozen_alloc _ (by dsimp only; omega) (by assumption) | (simp [go_sem]; done) | exact frozen_alloc _ (by simp; omega) (frozen_alloc _ (by dsimp only; omega) (by assumption)))
  have q4_3_1 := cell_after (a := ⟨w3.heap.size, 1, none⟩) (v := .int .i64 (h + n)) k4 (by first | (dsimp only; omega) | (simp; done) | (simp; omega)) (by first | assumption | exact cell_alloc _ (by dsimp only; omega) (by assumption) | (simp [go_sem]; done) | exact cell_alloc _ (by simp; omega) (cell_alloc _ (by dsimp only; omega) (by assumption)))
  have f4_3_1 := frozen_after (a := ⟨w3.heap.size, 1, none⟩) k4 (by first | (dsimp only; omega) | (simp; done) | (simp; omega)) (by first | assumption | exact frozen_alloc _ (by dsimp only; omega) (by assumption) | (simp [go_sem]; done) | exact frozen_alloc _ (by simp; omega) (frozen_alloc _ (by dsimp only; omega) (by assumption)))
  have q4_3_2 := cell_after (a := ⟨w3.heap.size, 2, none⟩) (v := .int .i64 r) k4 (by first | (dsimp only; omega) | (simp; done) | (simp; omega)) (by first | assumption | exact cell_alloc _ (by dsimp only; omega) (by assumption) | (simp [go_sem]; done) | exact cell_alloc _ (by simp; omega) (cell_alloc _ (by dsimp only; omega) (by assumption)))
  have f4_3_2 := frozen_after (a := ⟨w3.heap.size, 2, none⟩) k4 (by first | (dsimp only; omega) | (simp; done) | (simp; omega)) (by first | assumption | exact frozen_alloc _ (by dsimp only; omega) (by assumption) | (simp [go_sem]; done) | exact frozen_alloc _ (by simp; omega) (frozen_alloc _ (by dsimp only; omega) (by assumption)))
  have z4 := k4.size
  try simp only [World.heap_drewN] at z4
  try simp only [World.size_alloc] at z4
  have t4_0 : w.heap.size < w4.heap.size := by omega
  have t4_1 : w1.heap.size < w4.heap.size := by omega
  have t4_2 : w2.heap.size < w4.heap.size := by omega
  have t4_3 : w3.heap.size < w4.heap.size := by omega
  have tw4 : w.heap.size ≤ w4.heap.size := by omega
  have K4 : Below w.heap.size w w4 := (by repeat (first | exact Below.refl _ _ | assumption | refine bel_drew ?_ | refine bel_drewN ?_ _ | refine bel_alloc ?_ _ | refine bel_set ?_ (by first | (dsimp only; omega) | (simp; done) | (simp; omega)) _ | refine bel_trans ?_ (by assumption)))
  clear k4 z4 q3_0_0 f3_0_0 q3_0_1 f3_0_1 q3_0_2 f3_0_2 q3_1_0 f3_1_0 q3_1_1 f3_1_1 q3_1_2 f3_1_2 q3_2_0 f3_2_0 q3_2_1 f3_2_1 q3_2_2 f3_2_2 t3_0 t3_1 t3_2 tw3 K3
  go_wp2_with fail
  refine (law26_works _).mono ?_
  rintro e w5 ⟨rfl, k5⟩
  have q5_0_0 := cell_after (a := ⟨w.heap.size, 0, none⟩) (v := .int .i64 c) k5 (by first | (dsimp only; omega) | (simp; done) | (simp; omega)) (by first | assumption | exact cell_alloc _ (by dsimp only; omega) (by assumption) | (simp [go_sem]; done) | exact cell_alloc _ (by simp; omega) (cell_alloc _ (by dsimp only; omega) (by assumption)))
  have f5_0_0 := frozen_after (a := ⟨w.heap.size, 0, none⟩) k5 (by first | (dsimp only; omega) | (simp; done) | (simp; omega)) (by first | assumption | exact frozen_alloc _ (by dsimp only; omega) (by assumption) | (simp [go_sem]; done) | exact frozen_alloc _ (by simp; omega) (frozen_alloc _ (by dsimp only; omega) (by assumption)))
  have q5_0_1 := cell_after (a := ⟨w.heap.size, 1, none⟩) (v := .int .i64 h) k5 (by first | (dsimp only; omega) | (simp; done) | (simp; omega)) (by first | assumption | exact cell_alloc _ (by dsimp only; omega) (by assumption) | (simp [go_sem]; done) | exact cell_alloc _ (by simp; omega) (cell_alloc _ (by dsimp only; omega) (by assumption)))
  have f5_0_1 := frozen_after (a := ⟨w.heap.size, 1, none⟩) k5 (by first | (dsimp only; omega) | (simp; done) | (simp; omega)) (by first | assumption | exact frozen_alloc _ (by dsimp only; omega) (by assumption) | (simp [go_sem]; done) | exact frozen_alloc _ (by simp; omega) (frozen_alloc _ (by dsimp only; omega) (by assumption)))
  have q5_0_2 := cell_after (a := ⟨w.heap.size, 2, none⟩) (v := .int .i64 r) k5 (by first | (dsimp only; omega) | (simp; done) | (simp; omega)) (by first | assumption | exact cell_alloc _ (by dsimp only; omega) (by assumption) | (simp [go_sem]; done) | exact cell_alloc _ (by simp; omega) (cell_alloc _ (by dsimp only; omega) (by assumption)))
  have f5_0_2 := frozen_after (a := ⟨w.heap.size, 2, none⟩) k5 (by first | (dsimp only; omega) | (simp; done) | (simp; omega)) (by first | assumption | exact frozen_alloc _ (by dsimp only; omega) (by assumption) | (simp [go_sem]; done) | exact frozen_alloc _ (by simp; omega) (frozen_alloc _ (by dsimp only; omega) (by assumption)))
  have q5_1_0 := cell_after (a := ⟨w1.heap.size, 0, none⟩) (v := .int .i64 c) k5 (by first | (dsimp only; omega) | (simp; done) | (simp; omega)) (by first | assumption | exact cell_alloc _ (by dsimp only; omega) (by assumption) | (simp [go_sem]; done) | exact cell_alloc _ (by simp; omega) (cell_alloc _ (by dsimp only; omega) (by assumption)))
  have f5_1_0 := frozen_after (a := ⟨w1.heap.size, 0, none⟩) k5 (by first | (dsimp only; omega) | (simp; done) | (simp; omega)) (by first | assumption | exact frozen_alloc _ (by dsimp only; omega) (by assumption) | (simp [go_sem]; done) | exact frozen_alloc _ (by simp; omega) (frozen_alloc _ (by dsimp only; omega) (by assumption)))
  have q5_1_1 := cell_after (a := ⟨w1.heap.size, 1, none⟩) (v := .int .i64 h) k5 (by first | (dsimp only; omega) | (simp; done) | (simp; omega)) (by first | assumption | exact cell_alloc _ (by dsimp only; omega) (by assumption) | (simp [go_sem]; done) | exact cell_alloc _ (by simp; omega) (cell_alloc _ (by dsimp only; omega) (by assumption)))
  have f5_1_1 := frozen_after (a := ⟨w1.heap.size, 1, none⟩) k5 (by first | (dsimp only; omega) | (simp; done) | (simp; omega)) (by first | assumption | exact frozen_alloc _ (by dsimp only; omega) (by assumption) | (simp [go_sem]; done) | exact frozen_alloc _ (by simp; omega) (frozen_alloc _ (by dsimp only; omega) (by assumption)))
  have q5_1_2 := cell_after (a := ⟨w1.heap.size, 2, none⟩) (v := .int .i64 (r + n)) k5 (by first | (dsimp only; omega) | (simp; done) | (simp; omega)) (by first | assumption | exact cell_alloc _ (by dsimp only; omega) (by assumption) | (simp [go_sem]; done) | exact cell_alloc _ (by simp; omega) (cell_alloc _ (by dsimp only; omega) (by assumption)))
  have f5_1_2 := frozen_after (a := ⟨w1.heap.size, 2, none⟩) k5 (by first | (dsimp only; omega) | (simp; done) | (simp; omega)) (by first | assumption | exact frozen_alloc _ (by dsimp only; omega) (by assumption) | (simp [go_sem]; done) | exact frozen_alloc _ (by simp; omega) (frozen_alloc _ (by dsimp only; omega) (by assumption)))
  have q5_2_0 := cell_after (a := ⟨w2.heap.size, 0, none⟩) (v := .int .i64 c) k5 (by first | (dsimp only; omega) | (simp; done) | (simp; omega)) (by first | assumption | exact cell_alloc _ (by dsimp only; omega) (by assumption) | (simp [go_sem]; done) | exact cell_alloc _ (by simp; omega) (cell_alloc _ (by dsimp only; omega) (by assumption)))
  have f5_2_0 := frozen_after (a := ⟨w2.heap.size, 0, none⟩) k5 (by first | (dsimp only; omega) | (simp; done) | (simp; omega)) (by first | assumption | exact frozen_alloc _ (by dsimp only; omega) (by assumption) | (simp [go_sem]; done) | exact frozen_alloc _ (by simp; omega) (frozen_alloc _ (by dsimp only; omega) (by assumption)))
  have q5_2_1 := cell_after (a := ⟨w2.heap.size, 1, none⟩) (v := .int .i64 h) k5 (by first | (dsimp only; omega) | (simp; done) | (simp; omega)) (by first | assumption | exact cell_alloc _ (by dsimp only; omega) (by assumption) | (simp [go_sem]; done) | exact cell_alloc _ (by simp; omega) (cell_alloc _ (by dsimp only; omega) (by assumption)))
  have f5_2_1 := frozen_after (a := ⟨w2.heap.size, 1, none⟩) k5 (by first | (dsimp only; omega) | (simp; done) | (simp; omega)) (by first | assumption | exact frozen_alloc _ (by dsimp only; omega) (by assumption) | (simp [go_sem]; done) | exact frozen_alloc _ (by simp; omega) (frozen_alloc _ (by dsimp only; omega) (by assumption)))
  have q5_2_2 := cell_after (a := ⟨w2.heap.size, 2, none⟩) (v := .int .i64 r) k5 (by first | (dsimp only; omega) | (simp; done) | (simp; omega)) (by first | assumption | exact cell_alloc _ (by dsimp only; omega) (by assumption) | (simp [go_sem]; done) | exact cell_alloc _ (by simp; omega) (cell_alloc _ (by dsimp only; omega) (by assumption)))
  have f5_2_2 := frozen_after (a := ⟨w2.heap.size, 2, none⟩) k5 (by first | (dsimp only; omega) | (simp; done) | (simp; omega)) (by first | assumption | exact frozen_alloc _ (by dsimp only; omega) (by assumption) | (simp [go_sem]; done) | exact frozen_alloc _ (by simp; omega) (frozen_alloc _ (by dsimp only; omega) (by assumption)))
  have q5_3_0 := cell_after (a := ⟨w3.heap.size, 0, none⟩) (v := .int .i64 c) k5 (by first | (dsimp only; omega) | (simp; done) | (simp; omega)) (by first | assumption | exact cell_alloc _ (by dsimp only; omega) (by assumption) | (simp [go_sem]; done) | exact cell_alloc _ (by simp; omega) (cell_alloc _ (by dsimp only; omega) (by assumption)))
  have f5_3_0 := frozen_after (a := ⟨w3.heap.size, 0, none⟩) k5 (by first | (dsimp only; omega) | (simp; done) | (simp; omega)) (by first | assumption | exact frozen_alloc _ (by dsimp only; omega) (by assumption) | (simp [go_sem]; done) | exact frozen_alloc _ (by simp; omega) (frozen_alloc _ (by dsimp only; omega) (by assumption)))
  have q5_3_1 := cell_after (a := ⟨w3.heap.size, 1, none⟩) (v := .int .i64 (h + n)) k5 (by first | (dsimp only; omega) | (simp; done) | (simp; omega)) (by first | assumption | exact cell_alloc _ (by dsimp only; omega) (by assumption) | (simp [go_sem]; done) | exact cell_alloc _ (by simp; omega) (cell_alloc _ (by dsimp only; omega) (by assumption)))
  have f5_3_1 := frozen_after (a := ⟨w3.heap.size, 1, none⟩) k5 (by first | (dsimp only; omega) | (simp; done) | (simp; omega)) (by first | assumption | exact frozen_alloc _ (by dsimp only; omega) (by assumption) | (simp [go_sem]; done) | exact frozen_alloc _ (by simp; omega) (frozen_alloc _ (by dsimp only; omega) (by assumption)))
  have q5_3_2 := cell_after (a := ⟨w3.heap.size, 2, none⟩) (v := .int .i64 r) k5 (by first | (dsimp only; omega) | (simp; done) | (simp; omega)) (by first | assumption | exact cell_alloc _ (by dsimp only; omega) (by assumption) | (simp [go_sem]; done) | exact cell_alloc _ (by simp; omega) (cell_alloc _ (by dsimp only; omega) (by assumption)))
  have f5_3_2 := frozen_after (a := ⟨w3.heap.size, 2, none⟩) k5 (by first | (dsimp only; omega) | (simp; done) | (simp; omega)) (by first | assumption | exact frozen_alloc _ (by dsimp only; omega) (by assumption) | (simp [go_sem]; done) | exact frozen_alloc _ (by simp; omega) (frozen_alloc _ (by dsimp only; omega) (by assumption)))
  have q5_4_0 := cell_after (a := ⟨w4.heap.size, 0, none⟩) (v := .int .i64 c) k5 (by first | (dsimp only; omega) | (simp; done) | (simp; omega)) (by first | assumption | exact cell_alloc _ (by dsimp only; omega) (by assumption) | (simp [go_sem]; done) | exact cell_alloc _ (by simp; omega) (cell_alloc _ (by dsimp only; omega) (by assumption)))
  have f5_4_0 := frozen_after (a := ⟨w4.heap.size, 0, none⟩) k5 (by first | (dsimp only; omega) | (simp; done) | (simp; omega)) (by first | assumption | exact frozen_alloc _ (by dsimp only; omega) (by assumption) | (simp [go_sem]; done) | exact frozen_alloc _ (by simp; omega) (frozen_alloc _ (by dsimp only; omega) (by assumption)))
  have q5_4_1 := cell_after (a := ⟨w4.heap.size, 1, none⟩) (v := .int .i64 h) k5 (by first | (dsimp only; omega) | (simp; done) | (simp; omega)) (by first | assumption | exact cell_alloc _ (by dsimp only; omega) (by assumption) | (simp [go_sem]; done) | exact cell_alloc _ (by simp; omega) (cell_alloc _ (by dsimp only; omega) (by assumption)))
  have f5_4_1 := frozen_after (a := ⟨w4.heap.size, 1, none⟩) k5 (by first | (dsimp only; omega) | (simp; done) | (simp; omega)) (by first | assumption | exact frozen_alloc _ (by dsimp only; omega) (by assumption) | (simp [go_sem]; done) | exact frozen_alloc _ (by simp; omega) (frozen_alloc _ (by dsimp only; omega) (by assumption)))
  have q5_4_2 := cell_after (a := ⟨w4.heap.size, 2, none⟩) (v := .int .i64 r) k5 (by first | (dsimp only; omega) | (simp; done) | (simp; omega)) (by first | assumption | exact cell_alloc _ (by dsimp only; omega) (by assumption) | (simp [go_sem]; done) | exact cell_alloc _ (by simp; omega) (cell_alloc _ (by dsimp only; omega) (by assumption)))
  have f5_4_2 := frozen_after (a := ⟨w4.heap.size, 2, none⟩) k5 (by first | (dsimp only; omega) | (simp; done) | (simp; omega)) (by first | assumption | exact frozen_alloc _ (by dsimp only; omega) (by assumption) | (simp [go_sem]; done) | exact frozen_alloc _ (by simp; omega) (frozen_alloc _ (by dsimp only; omega) (by assumption)))
  have z5 := k5.size
  try simp only [World.heap_drewN] at z5
  try simp only [World.size_alloc] at z5
  have t5_0 : w.heap.size < w5.heap.size := by omega
  have t5_1 : w1.heap.size < w5.heap.size := by omega
  have t5_2 : w2.heap.size < w5.heap.size := by omega
  have t5_3 : w3.heap.size < w5.heap.size := by omega
  have t5_4 : w4.heap.size < w5.heap.size := by omega
  have tw5 : w.heap.size ≤ w5.heap.size := by omega
  have K5 : Below w.heap.size w w5 := (by repeat (first | exact Below.refl _ _ | assumption | refine bel_drew ?_ | refine bel_drewN ?_ _ | refine bel_alloc ?_ _ | refine bel_set ?_ (by first | (dsimp only; omega) | (simp; done) | (simp; omega)) _ | refine bel_trans ?_ (by assumption)))
  clear k5 z5 q4_0_0 f4_0_0 q4_0_1 f4_0_1 q4_0_2 f4_0_2 q4_1_0 f4_1_0 q4_1_1 f4_1_1 q4_1_2 f4_1_2 q4_2_0 f4_2_0 q4_2_1 f4_2_1 q4_2_2 f4_2_2 q4_3_0 f4_3_0 q4_3_1 f4_3_1 q4_3_2 f4_3_2 t4_0 t4_1 t4_2 t4_3 tw4 K4
  go_wp2_with fail
  go_ret
  exact ⟨rfl, (by repeat (first | exact Below.refl _ _ | assumption | refine bel_drew ?_ | refine bel_drewN ?_ _ | refine bel_alloc ?_ _ | refine bel_set ?_ (by first | (dsimp only; omega) | (simp; done) | (simp; omega)) _ | refine bel_trans ?_ (by assumption)))⟩
  
theorem law26_AccountBack (c h r n : Int) (w : World) (bc : -9223372036854775808 ≤ c ∧ c ≤ 9223372036854775807) (bh : -9223372036854775808 ≤ h ∧ h ≤ 9223372036854775807) (br : -9223372036854775808 ≤ r ∧ r ≤ 9223372036854775807) (bn : -9223372036854775808 ≤ n ∧ n ≤ 9223372036854775807) :
    Calls Try.prog 7 #[.agg #[.int .i64 c, .int .i64 h, .int .i64 r], .int .i64 n] w fun e w' => e = .returned (.bool true) ∧ Below w.heap.size w w' := by
  by_cases hne : (PA.doo 1 c h r n).2 = 0
  · cases hr : PA.right c h r
    · rw [PA.doo_arg (Or.inl hr)] at hne; exact absurd hne (by decide)
    · by_cases n1 : 1 ≤ n
      · by_cases n2 : n ≤ c - h - r
        · exact law26_AccountBack_ok c h r n w bc bh br bn hr n1 n2
        · rw [PA.doo1_no hr n1 (by omega)] at hne; exact absurd hne (by decide)
      · rw [PA.doo_arg (Or.inr (by omega))] at hne; exact absurd hne (by decide)
  · exact law26_AccountBack_no c h r n w bc bh br bn hne
end Go.Proofs.Ytbgohgligponiaa
