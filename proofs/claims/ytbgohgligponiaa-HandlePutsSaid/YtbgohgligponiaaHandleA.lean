/-
  Walks of handle.Put.
-/
import Derived.Test.YtbgohgligponiaaBase
import Derived.Test.YtbgohgligponiaaHandleParts
namespace Go.Proofs.Ytbgohgligponiaa
open Go.RowKit

set_option maxHeartbeats 1000000 in
theorem handle_Put_good (k p g o : Int) (w : World) (k1 : 1 ≤ k) (k2 : k ≤ 3) (p1 : 0 ≤ p) (p2 : p ≤ 1048575) (g1 : 0 ≤ g) (g2 : g ≤ 1048575) (o1 : 0 ≤ o) (o2 : o ≤ 1048575) :
    Calls Try.prog 13 #[.int .i64 k, .int .i64 p, .int .i64 g, .int .i64 o] w fun e w' =>
      e = .returned (.tuple #[.int .i64 (k * 1152921504606846976 + p * 1099511627776 + g * 1048576 + o), .int .i64 0]) ∧ Below w.heap.size w w' := by
  go_enter Try.func13, Try.ntmps13
  go_wp2
  have i0 := parts0
  have i1 := parts1
  have i2 := parts2
  have i3 := parts3
  unfold partsV at i0 i1 i2 i3
  refine wp_loop_rounds 5 ?_
  rw [rounds_succ]
  go_wp2
  go_quiet (fail)
  go_wp2
  go_quiet (fail)
  go_wp2
  rw [rounds_succ]
  go_wp2
  go_quiet (fail)
  go_wp2
  go_quiet (fail)
  go_wp2
  rw [rounds_succ]
  go_wp2
  go_quiet (fail)
  go_wp2
  go_quiet (fail)
  go_wp2
  rw [rounds_succ]
  go_wp2
  go_quiet (fail)
  go_wp2
  go_quiet (fail)
  go_wp2
  rw [rounds_succ]
  go_wp2
  go_ret2
  exact ⟨rfl, (by repeat (first | exact Below.refl _ _ | assumption | refine bel_drew ?_ | refine bel_drewN ?_ _ | refine bel_alloc ?_ _ | refine bel_set ?_ (by simp; omega) _ | refine bel_trans ?_ (by assumption)))⟩

set_option maxHeartbeats 1000000 in
theorem handle_Put_k1 (k p g o : Int) (w : World) (k1 : decide (1 ≤ k) = false) :
    Calls Try.prog 13 #[.int .i64 k, .int .i64 p, .int .i64 g, .int .i64 o] w fun e w' =>
      e = .returned (.tuple #[.int .i64 0, .int .i64 1]) ∧ Below w.heap.size w w' := by
  go_enter Try.func13, Try.ntmps13
  go_wp2
  have i0 := parts0
  have i1 := parts1
  have i2 := parts2
  have i3 := parts3
  unfold partsV at i0 i1 i2 i3
  refine wp_loop_rounds 5 ?_
  rw [rounds_succ]
  go_wp2
  go_quiet (fail)
  go_wp2
  go_ret2
  exact ⟨rfl, (by repeat (first | exact Below.refl _ _ | assumption | refine bel_drew ?_ | refine bel_drewN ?_ _ | refine bel_alloc ?_ _ | refine bel_set ?_ (by simp; omega) _ | refine bel_trans ?_ (by assumption)))⟩

set_option maxHeartbeats 1000000 in
theorem handle_Put_k2 (k p g o : Int) (w : World) (k1 : 1 ≤ k) (k2 : decide (k ≤ 3) = false) :
    Calls Try.prog 13 #[.int .i64 k, .int .i64 p, .int .i64 g, .int .i64 o] w fun e w' =>
      e = .returned (.tuple #[.int .i64 0, .int .i64 1]) ∧ Below w.heap.size w w' := by
  go_enter Try.func13, Try.ntmps13
  go_wp2
  have i0 := parts0
  have i1 := parts1
  have i2 := parts2
  have i3 := parts3
  unfold partsV at i0 i1 i2 i3
  refine wp_loop_rounds 5 ?_
  rw [rounds_succ]
  go_wp2
  go_quiet (fail)
  go_wp2
  go_ret2
  exact ⟨rfl, (by repeat (first | exact Below.refl _ _ | assumption | refine bel_drew ?_ | refine bel_drewN ?_ _ | refine bel_alloc ?_ _ | refine bel_set ?_ (by simp; omega) _ | refine bel_trans ?_ (by assumption)))⟩

set_option maxHeartbeats 1000000 in
theorem handle_Put_p1 (k p g o : Int) (w : World) (k1 : 1 ≤ k) (k2 : k ≤ 3) (p1 : decide (0 ≤ p) = false) :
    Calls Try.prog 13 #[.int .i64 k, .int .i64 p, .int .i64 g, .int .i64 o] w fun e w' =>
      e = .returned (.tuple #[.int .i64 0, .int .i64 6]) ∧ Below w.heap.size w w' := by
  go_enter Try.func13, Try.ntmps13
  go_wp2
  have i0 := parts0
  have i1 := parts1
  have i2 := parts2
  have i3 := parts3
  unfold partsV at i0 i1 i2 i3
  refine wp_loop_rounds 5 ?_
  rw [rounds_succ]
  go_wp2
  go_quiet (fail)
  go_wp2
  go_quiet (fail)
  go_wp2
  rw [rounds_succ]
  go_wp2
  go_quiet (fail)
  go_wp2
  go_ret2
  exact ⟨rfl, (by repeat (first | exact Below.refl _ _ | assumption | refine bel_drew ?_ | refine bel_drewN ?_ _ | refine bel_alloc ?_ _ | refine bel_set ?_ (by simp; omega) _ | refine bel_trans ?_ (by assumption)))⟩

set_option maxHeartbeats 1000000 in
theorem handle_Put_p2 (k p g o : Int) (w : World) (k1 : 1 ≤ k) (k2 : k ≤ 3) (p1 : 0 ≤ p) (p2 : decide (p ≤ 1048575) = false) :
    Calls Try.prog 13 #[.int .i64 k, .int .i64 p, .int .i64 g, .int .i64 o] w fun e w' =>
      e = .returned (.tuple #[.int .i64 0, .int .i64 6]) ∧ Below w.heap.size w w' := by
  go_enter Try.func13, Try.ntmps13
  go_wp2
  have i0 := parts0
  have i1 := parts1
  have i2 := parts2
  have i3 := parts3
  unfold partsV at i0 i1 i2 i3
  refine wp_loop_rounds 5 ?_
  rw [rounds_succ]
  go_wp2
  go_quiet (fail)
  go_wp2
  go_quiet (fail)
  go_wp2
  rw [rounds_succ]
  go_wp2
  go_quiet (fail)
  go_wp2
  go_ret2
  exact ⟨rfl, (by repeat (first | exact Below.refl _ _ | assumption | refine bel_drew ?_ | refine bel_drewN ?_ _ | refine bel_alloc ?_ _ | refine bel_set ?_ (by simp; omega) _ | refine bel_trans ?_ (by assumption)))⟩

set_option maxHeartbeats 1000000 in
theorem handle_Put_g1 (k p g o : Int) (w : World) (k1 : 1 ≤ k) (k2 : k ≤ 3) (p1 : 0 ≤ p) (p2 : p ≤ 1048575) (g1 : decide (0 ≤ g) = false) :
    Calls Try.prog 13 #[.int .i64 k, .int .i64 p, .int .i64 g, .int .i64 o] w fun e w' =>
      e = .returned (.tuple #[.int .i64 0, .int .i64 6]) ∧ Below w.heap.size w w' := by
  go_enter Try.func13, Try.ntmps13
  go_wp2
  have i0 := parts0
  have i1 := parts1
  have i2 := parts2
  have i3 := parts3
  unfold partsV at i0 i1 i2 i3
  refine wp_loop_rounds 5 ?_
  rw [rounds_succ]
  go_wp2
  go_quiet (fail)
  go_wp2
  go_quiet (fail)
  go_wp2
  rw [rounds_succ]
  go_wp2
  go_quiet (fail)
  go_wp2
  go_quiet (fail)
  go_wp2
  rw [rounds_succ]
  go_wp2
  go_quiet (fail)
  go_wp2
  go_ret2
  exact ⟨rfl, (by repeat (first | exact Below.refl _ _ | assumption | refine bel_drew ?_ | refine bel_drewN ?_ _ | refine bel_alloc ?_ _ | refine bel_set ?_ (by simp; omega) _ | refine bel_trans ?_ (by assumption)))⟩

set_option maxHeartbeats 1000000 in
theorem handle_Put_g2 (k p g o : Int) (w : World) (k1 : 1 ≤ k) (k2 : k ≤ 3) (p1 : 0 ≤ p) (p2 : p ≤ 1048575) (g1 : 0 ≤ g) (g2 : decide (g ≤ 1048575) = false) :
    Calls Try.prog 13 #[.int .i64 k, .int .i64 p, .int .i64 g, .int .i64 o] w fun e w' =>
      e = .returned (.tuple #[.int .i64 0, .int .i64 6]) ∧ Below w.heap.size w w' := by
  go_enter Try.func13, Try.ntmps13
  go_wp2
  have i0 := parts0
  have i1 := parts1
  have i2 := parts2
  have i3 := parts3
  unfold partsV at i0 i1 i2 i3
  refine wp_loop_rounds 5 ?_
  rw [rounds_succ]
  go_wp2
  go_quiet (fail)
  go_wp2
  go_quiet (fail)
  go_wp2
  rw [rounds_succ]
  go_wp2
  go_quiet (fail)
  go_wp2
  go_quiet (fail)
  go_wp2
  rw [rounds_succ]
  go_wp2
  go_quiet (fail)
  go_wp2
  go_ret2
  exact ⟨rfl, (by repeat (first | exact Below.refl _ _ | assumption | refine bel_drew ?_ | refine bel_drewN ?_ _ | refine bel_alloc ?_ _ | refine bel_set ?_ (by simp; omega) _ | refine bel_trans ?_ (by assumption)))⟩

set_option maxHeartbeats 1000000 in
theorem handle_Put_o1 (k p g o : Int) (w : World) (k1 : 1 ≤ k) (k2 : k ≤ 3) (p1 : 0 ≤ p) (p2 : p ≤ 1048575) (g1 : 0 ≤ g) (g2 : g ≤ 1048575) (o1 : decide (0 ≤ o) = false) :
    Calls Try.prog 13 #[.int .i64 k, .int .i64 p, .int .i64 g, .int .i64 o] w fun e w' =>
      e = .returned (.tuple #[.int .i64 0, .int .i64 6]) ∧ Below w.heap.size w w' := by
  go_enter Try.func13, Try.ntmps13
  go_wp2
  have i0 := parts0
  have i1 := parts1
  have i2 := parts2
  have i3 := parts3
  unfold partsV at i0 i1 i2 i3
  refine wp_loop_rounds 5 ?_
  rw [rounds_succ]
  go_wp2
  go_quiet (fail)
  go_wp2
  go_quiet (fail)
  go_wp2
  rw [rounds_succ]
  go_wp2
  go_quiet (fail)
  go_wp2
  go_quiet (fail)
  go_wp2
  rw [rounds_succ]
  go_wp2
  go_quiet (fail)
  go_wp2
  go_quiet (fail)
  go_wp2
  rw [rounds_succ]
  go_wp2
  go_quiet (fail)
  go_wp2
  go_ret2
  exact ⟨rfl, (by repeat (first | exact Below.refl _ _ | assumption | refine bel_drew ?_ | refine bel_drewN ?_ _ | refine bel_alloc ?_ _ | refine bel_set ?_ (by simp; omega) _ | refine bel_trans ?_ (by assumption)))⟩

set_option maxHeartbeats 1000000 in
theorem handle_Put_o2 (k p g o : Int) (w : World) (k1 : 1 ≤ k) (k2 : k ≤ 3) (p1 : 0 ≤ p) (p2 : p ≤ 1048575) (g1 : 0 ≤ g) (g2 : g ≤ 1048575) (o1 : 0 ≤ o) (o2 : decide (o ≤ 1048575) = false) :
    Calls Try.prog 13 #[.int .i64 k, .int .i64 p, .int .i64 g, .int .i64 o] w fun e w' =>
      e = .returned (.tuple #[.int .i64 0, .int .i64 6]) ∧ Below w.heap.size w w' := by
  go_enter Try.func13, Try.ntmps13
  go_wp2
  have i0 := parts0
  have i1 := parts1
  have i2 := parts2
  have i3 := parts3
  unfold partsV at i0 i1 i2 i3
  refine wp_loop_rounds 5 ?_
  rw [rounds_succ]
  go_wp2
  go_quiet (fail)
  go_wp2
  go_quiet (fail)
  go_wp2
  rw [rounds_succ]
  go_wp2
  go_quiet (fail)
  go_wp2
  go_quiet (fail)
  go_wp2
  rw [rounds_succ]
  go_wp2
  go_quiet (fail)
  go_wp2
  go_quiet (fail)
  go_wp2
  rw [rounds_succ]
  go_wp2
  go_quiet (fail)
  go_wp2
  go_ret2
  exact ⟨rfl, (by repeat (first | exact Below.refl _ _ | assumption | refine bel_drew ?_ | refine bel_drewN ?_ _ | refine bel_alloc ?_ _ | refine bel_set ?_ (by simp; omega) _ | refine bel_trans ?_ (by assumption)))⟩

end Go.Proofs.Ytbgohgligponiaa
