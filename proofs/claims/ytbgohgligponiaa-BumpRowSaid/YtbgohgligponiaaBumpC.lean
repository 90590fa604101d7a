/-
  Layer 9's example, and the walk of the law BumpPlaces.
-/
import Derived.Test.YtbgohgligponiaaBumpA
import Derived.Test.YtbgohgligponiaaBumpB
import Derived.Deep.RegionHeld3
import Derived.Test.YtbgohgligponiaaBase3
namespace Go.Proofs.Ytbgohgligponiaa
open Go.RowKit
set_option linter.unusedVariables false
attribute [local go_sem] drewN_alloc drewN_setCell

theorem law09_works (w : World) : Calls Try.prog 44 #[] w fun e w' => e = .returned (.bool true) ∧ Below w.heap.size w w' := by
  have c1 : ∀ W, Calls Try.prog 40 #[.int .i64 5, .int .i64 3, .int .i64 4, .int .i64 64] W fun e w' => e = .returned (.tuple #[.int .i64 8, .int .i64 11, .int .i64 0]) ∧ W = w' := fun W => by
    have := bump_Place 5 3 4 64 W (by omega) (by omega) (by omega) (by omega)
    rwa [show PB.place 5 3 4 64 = (8, 11, 0) by decide +kernel] at this
  have c2 : ∀ W, Calls Try.prog 40 #[.int .i64 60, .int .i64 5, .int .i64 1, .int .i64 64] W fun e w' => e = .returned (.tuple #[.int .i64 0, .int .i64 0, .int .i64 9]) ∧ W = w' := fun W => by
    have := bump_Place 60 5 1 64 W (by omega) (by omega) (by omega) (by omega)
    rwa [show PB.place 60 5 1 64 = (0, 0, 9) by decide +kernel] at this
  have c3 : ∀ W, Calls Try.prog 40 #[.int .i64 0, .int .i64 65, .int .i64 1, .int .i64 64] W fun e w' => e = .returned (.tuple #[.int .i64 0, .int .i64 0, .int .i64 5]) ∧ W = w' := fun W => by
    have := bump_Place 0 65 1 64 W (by omega) (by omega) (by omega) (by omega)
    rwa [show PB.place 0 65 1 64 = (0, 0, 5) by decide +kernel] at this
  have c4 : ∀ W, Calls Try.prog 42 #[.int .i64 5, .int .i64 4] W fun e w' => e = .returned (.int .i64 3) ∧ W = w' := fun W => by
    have := bump_Waste 5 4 W (by omega) (by omega)
    rwa [show PB.waste 5 4 = 3 by decide +kernel] at this
  have C1 := Lib.hid c1
  have C2 := Lib.hid c2
  have C3 := Lib.hid c3
  have C4 := Lib.hid c4
  clear c1 c2 c3 c4
  go_enter Try.func44, Try.ntmps44
  go_wp2_with fail
  refine (C1.out _).mono ?_
  rintro e w1 ⟨rfl, rfl⟩
  go_wp2_with fail
  refine (C2.out _).mono ?_
  rintro e w2 ⟨rfl, rfl⟩
  go_wp2_with fail
  refine (C3.out _).mono ?_
  rintro e w3 ⟨rfl, rfl⟩
  go_wp2_with fail
  refine (C4.out _).mono ?_
  rintro e w4 ⟨rfl, rfl⟩
  go_wp2_with fail
  go_ret
  exact ⟨rfl, (by repeat (first | exact Below.refl _ _ | assumption | refine bel_drew ?_ | refine bel_drewN ?_ _ | refine bel_alloc ?_ _ | refine bel_set ?_ (by first | (dsimp only; omega) | (simp; done) | (simp; omega)) _ | refine bel_trans ?_ (by assumption)))⟩
  
set_option maxHeartbeats 1000000 in
theorem law09_BumpPlaces (x0 x1 x2 x3 : Int) (w : World) (b0 : -9223372036854775808 ≤ x0 ∧ x0 ≤ 9223372036854775807) (b1 : -9223372036854775808 ≤ x1 ∧ x1 ≤ 9223372036854775807) (b2 : -9223372036854775808 ≤ x2 ∧ x2 ≤ 9223372036854775807) (b3 : -9223372036854775808 ≤ x3 ∧ x3 ≤ 9223372036854775807) :
    Calls Try.prog 9 #[.agg #[.int .i64 x0, .int .i64 x1, .int .i64 x2, .int .i64 x3]] w fun e w' => e = .returned (.bool true) ∧ Below w.heap.size w w' := by
  have d1 := fun W => bump_Place x0 x1 x2 x3 W b0 b1 b2 b3
  have d2 := fun W => ref09_Place x0 x1 x2 x3 W b0 b1 b2 b3
  have d3 := fun W => bump_Waste x0 x2 W b0 b2
  have d4 := fun W => ref09_Waste x0 x2 W b0 b2
  generalize (PB.place x0 x1 x2 x3).1 = p at *
  generalize (PB.place x0 x1 x2 x3).2.1 = q at *
  generalize (PB.place x0 x1 x2 x3).2.2 = r at *
  generalize PB.waste x0 x2 = s at *
  have D1 := Lib.hid d1
  have D2 := Lib.hid d2
  have D3 := Lib.hid d3
  have D4 := Lib.hid d4
  clear d1 d2 d3 d4
  go_enter Try.func9, Try.ntmps9
  go_wp2_with fail
  refine (D1.out _).mono ?_
  rintro e w1 ⟨rfl, rfl⟩
  go_wp2_with fail
  refine (D2.out _).mono ?_
  rintro e w2 ⟨rfl, rfl⟩
  go_wp2_with fail
  refine region_name ?_
  intro W hW
  have l_0 : w.heap.size < W.heap.size := by rw [hW]; first | assumption | (simp; done) | (simp; omega)
  have r_0_0 : W.cell? ⟨w.heap.size, 0, none⟩ = some (.int .i64 x0) := by rw [hW]; exact (by first | assumption | exact cell_alloc _ (by dsimp only; omega) (by assumption) | (simp [go_sem]; done) | exact cell_alloc _ (by simp; omega) (cell_alloc _ (by dsimp only; omega) (by assumption)))
  have r_0_2 : W.cell? ⟨w.heap.size, 2, none⟩ = some (.int .i64 x2) := by rw [hW]; exact (by first | assumption | exact cell_alloc _ (by dsimp only; omega) (by assumption) | (simp [go_sem]; done) | exact cell_alloc _ (by simp; omega) (cell_alloc _ (by dsimp only; omega) (by assumption)))
  have hBW : Below w.heap.size w W := by rw [hW]; exact (by repeat (first | exact Below.refl _ _ | assumption | refine bel_drew ?_ | refine bel_drewN ?_ _ | refine bel_alloc ?_ _ | refine bel_set ?_ (by first | (dsimp only; omega) | (simp; done) | (simp; omega)) _ | refine bel_trans ?_ (by assumption)))
  clear hW
  have KS : ∀ w', Below W.heap.size W w' → (Below W.heap.size W w' ∧ w'.cell? ⟨w.heap.size, 0, none⟩ = some (.int .i64 x0) ∧ w'.cell? ⟨w.heap.size, 2, none⟩ = some (.int .i64 x2)) := fun w' hb => ⟨hb, (hb.cell l_0).trans r_0_0, (hb.cell l_0).trans r_0_2⟩
  have HKS := Lib.hid KS
  have HBW := Lib.hid hBW
  clear KS hBW r_0_0 r_0_2 l_0
  go_region_held3 (fun w' => Below W.heap.size W w' ∧ w'.cell? ⟨w.heap.size, 0, none⟩ = some (.int .i64 x0) ∧ w'.cell? ⟨w.heap.size, 2, none⟩ = some (.int .i64 x2))
    (exact HKS.out _ (by repeat (first | exact Below.refl _ _ | assumption | refine bel_drew ?_ | refine bel_drewN ?_ _ | refine bel_alloc ?_ _ | refine bel_set ?_ (by first | (dsimp only; omega) | (simp; done) | (simp; omega)) _ | refine bel_trans ?_ (by assumption))))
    (first | (go_at_call 42; refine (D3.out _).mono ?_; rintro e w5 ⟨rfl, rfl⟩) | (go_at_call 43; refine (D4.out _).mono ?_; rintro e w5 ⟨rfl, rfl⟩) | (go_at_call 44; refine (law09_works _).mono ?_; rintro e w5 ⟨rfl, h5⟩))
  go_wp2
  go_ret
  exact ⟨rfl, bel_trans HBW.out (by repeat (first | exact Below.refl _ _ | assumption | refine bel_drew ?_ | refine bel_drewN ?_ _ | refine bel_alloc ?_ _ | refine bel_set ?_ (by first | (dsimp only; omega) | (simp; done) | (simp; omega)) _ | refine bel_trans ?_ (by assumption)))⟩
end Go.Proofs.Ytbgohgligponiaa
