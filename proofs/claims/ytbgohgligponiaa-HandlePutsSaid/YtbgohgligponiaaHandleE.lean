/-
  Layer 7's example, and the walks of both laws.
-/
import Derived.Test.YtbgohgligponiaaHandleD
import Derived.Test.YtbgohgligponiaaEq
import Derived.Deep.RegionHeld3
namespace Go.Proofs.Ytbgohgligponiaa
open Go.RowKit
attribute [local go_sem] drewN_alloc drewN_setCell

theorem law07_works (w : World) : Calls Try.prog 19 #[] w fun e w' => e = .returned (.bool true) ∧ Below w.heap.size w w' := by
  have c1 : ∀ W, Calls Try.prog 13 #[.int .i64 1, .int .i64 2, .int .i64 3, .int .i64 0] W fun e w' => e = .returned (.tuple #[.int .i64 1152923703633248256, .int .i64 0]) ∧ Below W.heap.size W w' := fun W => handle_Put 1 2 3 0 W
  have c2 : ∀ W, Calls Try.prog 15 #[.int .i64 1152923703633248256] W fun e w' => e = .returned (.tuple #[.int .i64 1, .int .i64 2, .int .i64 3, .int .i64 0, .bool true]) ∧ Below W.heap.size W w' := fun W => handle_Get 1152923703633248256 W (by omega) (by omega)
  have c3 : ∀ W, Calls Try.prog 17 #[.int .i64 1152923703633248256, .int .i64 1] W fun e w' => e = .returned (.bool true) ∧ Below W.heap.size W w' := fun W => handle_Is 1152923703633248256 1 W (by omega) (by omega)
  have c4 : ∀ W, Calls Try.prog 17 #[.int .i64 1152923703633248256, .int .i64 2] W fun e w' => e = .returned (.bool false) ∧ Below W.heap.size W w' := fun W => handle_Is 1152923703633248256 2 W (by omega) (by omega)
  have c5 : ∀ W, Calls Try.prog 17 #[.int .i64 0, .int .i64 0] W fun e w' => e = .returned (.bool false) ∧ Below W.heap.size W w' := fun W => handle_Is 0 0 W (by omega) (by omega)
  have C1 := Lib.hid c1
  have C2 := Lib.hid c2
  have C3 := Lib.hid c3
  have C4 := Lib.hid c4
  have C5 := Lib.hid c5
  clear c1 c2 c3 c4 c5
  go_enter Try.func19, Try.ntmps19
  go_wp2_with fail
  refine (C1.out _).mono ?_
  rintro e w1 ⟨rfl, h1⟩
  go_wp2_with fail
  refine (C2.out _).mono ?_
  rintro e w2 ⟨rfl, h2⟩
  go_wp2_with fail
  refine (C3.out _).mono ?_
  rintro e w3 ⟨rfl, h3⟩
  go_wp2_with fail
  refine (C4.out _).mono ?_
  rintro e w4 ⟨rfl, h4⟩
  go_wp2_with fail
  refine (C5.out _).mono ?_
  rintro e w5 ⟨rfl, h5⟩
  go_wp2_with fail
  go_ret
  exact ⟨rfl, bel_trans (bel_trans (bel_trans (bel_trans h1 h2) h3) h4) h5⟩

set_option maxHeartbeats 1000000 in
theorem law07_HandlePuts (k p g o h : Int) (w : World) (hl : -9223372036854775808 ≤ h) (hm : h ≤ 9223372036854775807) :
    Calls Try.prog 3 #[.agg #[.int .i64 k, .int .i64 p, .int .i64 g, .int .i64 o], .int .i64 h] w fun e w' => e = .returned (.bool true) ∧ Below w.heap.size w w' := by
  go_enter Try.func3, Try.ntmps3
  go_wp2_with fail
  refine (handle_Put k p g o _).mono ?_
  rintro e w1 ⟨rfl, h1⟩
  obtain ⟨c1, f1⟩ := bel_cells h1
  simp only [World.size_alloc] at c1 f1
  go_wp2_with fail
  refine (ref07_Put k p g o _).mono ?_
  rintro e w1' ⟨rfl, rfl⟩
  go_wp2_with fail
  refine (handle_Get h _ hl hm).mono ?_
  rintro e w2 ⟨rfl, h2⟩
  obtain ⟨c2, f2⟩ := bel_cells h2
  go_wp2_with fail
  refine (ref07_Get h _ hl hm).mono ?_
  rintro e w3 ⟨rfl, h3⟩
  obtain ⟨c3, f3⟩ := bel_cells h3
  go_wp2_with fail
  have hS1 := h1.size
  have hS2 := h2.size
  have hS3 := h3.size
  have hS4 : w.heap.size < w3.heap.size := by simp at hS1; omega
  have q0 : w3.cell? ⟨w.heap.size, 0, none⟩ = some (.int .i64 k) := by simp at hS1; rw [h3.cell (by simp; omega), h2.cell (by simp; omega), h1.cell (by simp)]; simp [go_sem]
  have hB3 : Below w.heap.size w w3 := bel_trans (bel_trans (bel_trans (bel_alloc (Below.refl _ _) _) h1) h2) h3
  clear c1 c2 c3 f1 f2 f3 h1 h2 h3 hS1 hS2 hS3
  generalize hm0 : PH.get h = m
  clear hm0
  obtain ⟨⟨m0, m1, m2, m3⟩, mi⟩ := m
  dsimp only
  generalize hW : w3.alloc (Obj.cells #[Value.int IntKind.i64 m0, Value.int IntKind.i64 m1, Value.int IntKind.i64 m2, Value.int IntKind.i64 m3] 22) = W
  have r0 : W.cell? ⟨w.heap.size, 0, none⟩ = some (.int .i64 k) := by rw [← hW, World.cell?_alloc_lt _ _ _ (by simpa using hS4)]; exact q0
  have r1 : W.cell? ⟨w3.heap.size, 0, none⟩ = some (.int .i64 m0) := by rw [← hW]; simp [go_sem]
  have r2 : W.cell? ⟨w3.heap.size, 1, none⟩ = some (.int .i64 m1) := by rw [← hW]; simp [go_sem]
  have r3 : W.cell? ⟨w3.heap.size, 2, none⟩ = some (.int .i64 m2) := by rw [← hW]; simp [go_sem]
  have r4 : W.cell? ⟨w3.heap.size, 3, none⟩ = some (.int .i64 m3) := by rw [← hW]; simp [go_sem]
  have l0 : w.heap.size < W.heap.size := by rw [← hW]; simp; omega
  have l1 : w3.heap.size < W.heap.size := by rw [← hW]; simp
  have hBW : Below w.heap.size w W := by rw [← hW]; exact bel_alloc hB3 _
  clear hW q0 hB3
  generalize w3.heap.size = g3 at *
  have KS : ∀ w', Below W.heap.size W w' → (Below W.heap.size W w' ∧ w'.cell? ⟨w.heap.size, 0, none⟩ = some (.int .i64 k) ∧ w'.cell? ⟨g3, 0, none⟩ = some (.int .i64 m0) ∧ w'.cell? ⟨g3, 1, none⟩ = some (.int .i64 m1) ∧ w'.cell? ⟨g3, 2, none⟩ = some (.int .i64 m2) ∧ w'.cell? ⟨g3, 3, none⟩ = some (.int .i64 m3)) :=
    fun w' hb => ⟨hb, (hb.cell l0).trans r0, (hb.cell l1).trans r1, (hb.cell l1).trans r2, (hb.cell l1).trans r3, (hb.cell l1).trans r4⟩
  have HKS := Lib.hid KS
  have HBW := Lib.hid hBW
  clear KS r0 r1 r2 r3 r4 l0 l1 hBW hS4
  have E4 : ∀ W : World, (Op.equalIn 10000 22 (.agg #[.int .i64 m0, .int .i64 m1, .int .i64 m2, .int .i64 m3]) (.agg #[.int .i64 m0, .int .i64 m1, .int .i64 m2, .int .i64 m3])).run Try.prog W = .ok true W := fun W => by rw [eql_arr4]; simp
  go_region_held3 (fun w' => Below W.heap.size W w' ∧ w'.cell? ⟨w.heap.size, 0, none⟩ = some (.int .i64 k) ∧ w'.cell? ⟨g3, 0, none⟩ = some (.int .i64 m0) ∧ w'.cell? ⟨g3, 1, none⟩ = some (.int .i64 m1) ∧ w'.cell? ⟨g3, 2, none⟩ = some (.int .i64 m2) ∧ w'.cell? ⟨g3, 3, none⟩ = some (.int .i64 m3))
    (exact HKS.out _ (by repeat (first | exact Below.refl _ _ | assumption | refine bel_drew ?_ | refine bel_drewN ?_ _ | refine bel_alloc ?_ _ | refine bel_set ?_ (by simp; omega) _ | refine bel_trans ?_ (by assumption))))
    (first | (go_at_call 17; refine (handle_Is h k _ hl hm).mono ?_; rintro e w5 ⟨rfl, h5⟩) | (go_at_call 18; refine (ref07_Is h k _ hl hm).mono ?_; rintro e w5 ⟨rfl, h5⟩) | (go_at_call 19; refine (law07_works _).mono ?_; rintro e w5 ⟨rfl, h5⟩))
  go_wp2
  go_ret
  exact ⟨rfl, bel_trans HBW.out (by repeat (first | exact Below.refl _ _ | assumption | refine bel_drew ?_ | refine bel_drewN ?_ _ | refine bel_alloc ?_ _ | refine bel_set ?_ (by simp; omega) _ | refine bel_trans ?_ (by assumption)))⟩
end Go.Proofs.Ytbgohgligponiaa
