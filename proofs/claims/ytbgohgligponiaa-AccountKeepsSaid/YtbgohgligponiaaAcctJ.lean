/-
  AccountKeeps at a nil slice.
-/
import Derived.Test.YtbgohgligponiaaAcctI
namespace Go.Proofs.Ytbgohgligponiaa
open Go.RowKit
set_option linter.unusedVariables false
attribute [local go_sem] drewN_alloc drewN_setCell

set_option maxHeartbeats 1000000 in
theorem law26_AccountKeeps_nil (c : Int) (w : World) (bc : -9223372036854775808 ≤ c ∧ c ≤ 9223372036854775807) (g1 : 1 ≤ c) (g2 : c ≤ 1048576) :
    Calls Try.prog 6 #[.int .i64 c, .slice none 0 0] w fun e w' => e = .returned (.bool true) ∧ Below w.heap.size w w' := by
  have d1 := fun W => account_New c W bc
  have e1 : PA.new c = ((c, 0, 0), 0) := by unfold PA.new; rw [if_neg (by omega)]
  rw [e1] at d1
  have D1 := Lib.hid d1
  clear d1 e1
  go_enter Try.func6, Try.ntmps6
  go_wp2_with fail
  refine (D1.out _).mono ?_
  rintro e w1 ⟨rfl, k1⟩
  have z1 := k1.size
  try simp only [World.heap_drewN] at z1
  try simp only [World.size_alloc] at z1
  have tw1 : w.heap.size ≤ w1.heap.size := by omega
  have K1 : Below w.heap.size w w1 := (by repeat (first | exact Below.refl _ _ | assumption | refine bel_drew ?_ | refine bel_drewN ?_ _ | refine bel_alloc ?_ _ | refine bel_set ?_ (by first | (dsimp only; omega) | (simp; done) | (simp; omega)) _ | refine bel_trans ?_ (by assumption)))
  clear k1 z1
  go_wp2_with fail
  refine wp_loop_rounds 1 ?_
  rw [rounds_succ]
  go_wp2_with fail
  refine (law26_works _).mono ?_
  rintro e w2 ⟨rfl, k2⟩
  have q2_0_0 := cell_after (a := ⟨w1.heap.size, 0, none⟩) (v := .int .i64 c) k2 (by first | (dsimp only; omega) | (simp; done) | (simp; omega)) (by first | assumption | exact cell_alloc _ (by dsimp only; omega) (by assumption) | (simp [go_sem]; done) | exact cell_alloc _ (by simp; omega) (cell_alloc _ (by dsimp only; omega) (by assumption)))
  have f2_0_0 := frozen_after (a := ⟨w1.heap.size, 0, none⟩) k2 (by first | (dsimp only; omega) | (simp; done) | (simp; omega)) (by first | assumption | exact frozen_alloc _ (by dsimp only; omega) (by assumption) | (simp [go_sem]; done) | exact frozen_alloc _ (by simp; omega) (frozen_alloc _ (by dsimp only; omega) (by assumption)))
  have q2_0_1 := cell_after (a := ⟨w1.heap.size, 1, none⟩) (v := .int .i64 0) k2 (by first | (dsimp only; omega) | (simp; done) | (simp; omega)) (by first | assumption | exact cell_alloc _ (by dsimp only; omega) (by assumption) | (simp [go_sem]; done) | exact cell_alloc _ (by simp; omega) (cell_alloc _ (by dsimp only; omega) (by assumption)))
  have f2_0_1 := frozen_after (a := ⟨w1.heap.size, 1, none⟩) k2 (by first | (dsimp only; omega) | (simp; done) | (simp; omega)) (by first | assumption | exact frozen_alloc _ (by dsimp only; omega) (by assumption) | (simp [go_sem]; done) | exact frozen_alloc _ (by simp; omega) (frozen_alloc _ (by dsimp only; omega) (by assumption)))
  have q2_0_2 := cell_after (a := ⟨w1.heap.size, 2, none⟩) (v := .int .i64 0) k2 (by first | (dsimp only; omega) | (simp; done) | (simp; omega)) (by first | assumption | exact cell_alloc _ (by dsimp only; omega) (by assumption) | (simp [go_sem]; done) | exact cell_alloc _ (by simp; omega) (cell_alloc _ (by dsimp only; omega) (by assumption)))
  have f2_0_2 := frozen_after (a := ⟨w1.heap.size, 2, none⟩) k2 (by first | (dsimp only; omega) | (simp; done) | (simp; omega)) (by first | assumption | exact frozen_alloc _ (by dsimp only; omega) (by assumption) | (simp [go_sem]; done) | exact frozen_alloc _ (by simp; omega) (frozen_alloc _ (by dsimp only; omega) (by assumption)))
  have z2 := k2.size
  try simp only [World.heap_drewN] at z2
  try simp only [World.size_alloc] at z2
  have t2_0 : w1.heap.size < w2.heap.size := by omega
  have tw2 : w.heap.size ≤ w2.heap.size := by omega
  have K2 : Below w.heap.size w w2 := (by repeat (first | exact Below.refl _ _ | assumption | refine bel_drew ?_ | refine bel_drewN ?_ _ | refine bel_alloc ?_ _ | refine bel_set ?_ (by first | (dsimp only; omega) | (simp; done) | (simp; omega)) _ | refine bel_trans ?_ (by assumption)))
  clear k2 z2 tw1 K1
  go_wp2_with fail
  go_ret
  exact ⟨rfl, (by repeat (first | exact Below.refl _ _ | assumption | refine bel_drew ?_ | refine bel_drewN ?_ _ | refine bel_alloc ?_ _ | refine bel_set ?_ (by first | (dsimp only; omega) | (simp; done) | (simp; omega)) _ | refine bel_trans ?_ (by assumption)))⟩
  
theorem law26_AccountKeeps (c : Int) (a : Option Addr) (len cap : Nat) (F : Nat → Nat → Int) (w : World) (bc : -9223372036854775808 ≤ c ∧ c ≤ 9223372036854775807) (hs : Fr.IsRows w 2 a len cap F) :
    Calls Try.prog 6 #[.int .i64 c, .slice a len cap] w fun e w' => e = .returned (.bool true) ∧ Below w.heap.size w w' := by
  rcases hs with ⟨rfl, rfl, rfl⟩ | ⟨b, off, rfl, hbw, hlc, hm, hcell⟩
  · by_cases hb : c < 1 ∨ 1048576 < c
    · exact law26_AccountKeeps_bad c none 0 0 w (by omega) bc hb
    · exact law26_AccountKeeps_nil c w bc (by omega) (by omega)
  · unfold maxLen at hm
    by_cases hl : 60 < (len : Int)
    · exact law26_AccountKeeps_long c _ len cap w hl (by omega)
    · by_cases hb : c < 1 ∨ 1048576 < c
      · exact law26_AccountKeeps_bad c _ len cap w (by omega) bc hb
      · exact law26_AccountKeeps_ok c b off len cap F w (by omega) bc (by omega) (by omega) hlc (by omega) hbw hcell
end Go.Proofs.Ytbgohgligponiaa
