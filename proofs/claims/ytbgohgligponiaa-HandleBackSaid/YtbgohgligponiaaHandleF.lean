/-
  The walk of the law HandleBack.
-/
import Derived.Test.YtbgohgligponiaaHandleE
namespace Go.Proofs.Ytbgohgligponiaa
open Go.RowKit
attribute [local go_sem] drewN_alloc drewN_setCell

set_option maxHeartbeats 1000000 in
theorem law07_HandleBack_n (k p g o k' p' g' o' h : Int) (w : World) (hl : -9223372036854775808 ≤ h) (hm : h ≤ 9223372036854775807) (hE : ¬ (PH.put k p g o).2 = 0) :
    Calls Try.prog 4 #[.agg #[.int .i64 k, .int .i64 p, .int .i64 g, .int .i64 o], .agg #[.int .i64 k', .int .i64 p', .int .i64 g', .int .i64 o'], .int .i64 h] w fun e w' => e = .returned (.bool true) ∧ Below w.heap.size w w' := by
  have hEb : ((PH.put k p g o).2 == 0) = false := by simpa using hE
  clear hE
  go_enter Try.func4, Try.ntmps4
  go_wp2_with fail
  refine (handle_Put k p g o _).mono ?_
  rintro e w1 ⟨rfl, h1⟩
  obtain ⟨c1, f1⟩ := bel_cells h1
  have s1 := h1.size
  simp only [World.size_alloc] at c1 f1 s1
  go_wp2_with fail
  refine (handle_Put k' p' g' o' _).mono ?_
  rintro e w2 ⟨rfl, h2⟩
  obtain ⟨c2, f2⟩ := bel_cells h2
  have s2 := h2.size
  go_wp2_with fail
  refine (handle_Get h _ hl hm).mono ?_
  rintro e w4 ⟨rfl, h4⟩
  cases hg : (PH.get h).2
  · go_wp2_with fail
    refine (handle_Put _ _ _ _ _).mono ?_
    rintro e w5 ⟨rfl, h5⟩
    go_wp2_with fail
    refine (law07_works _).mono ?_
    rintro e w6 ⟨rfl, h6⟩
    go_wp2_with fail
    go_ret
    exact ⟨rfl, (by repeat (first | exact Below.refl _ _ | assumption | refine bel_drew ?_ | refine bel_drewN ?_ _ | refine bel_alloc ?_ _ | refine bel_set ?_ (by simp; omega) _ | refine bel_trans ?_ (by assumption)))⟩
  · have hp := PH.put_get hg
    have HP := Lib.hid hp
    clear hp
    go_wp2_with fail
    refine (handle_Put _ _ _ _ _).mono ?_
    rw [HP.out]
    rintro e w5 ⟨rfl, h5⟩
    go_wp2_with fail
    refine (law07_works _).mono ?_
    rintro e w6 ⟨rfl, h6⟩
    go_wp2_with fail
    go_ret
    exact ⟨rfl, (by repeat (first | exact Below.refl _ _ | assumption | refine bel_drew ?_ | refine bel_drewN ?_ _ | refine bel_alloc ?_ _ | refine bel_set ?_ (by simp; omega) _ | refine bel_trans ?_ (by assumption)))⟩

set_option maxHeartbeats 1000000 in
theorem law07_HandleBack_yn (k p g o k' p' g' o' h : Int) (w : World) (hl : -9223372036854775808 ≤ h) (hm : h ≤ 9223372036854775807) (hE : (PH.put k p g o).2 = 0) (hF : ¬ (PH.put k' p' g' o').2 = 0) :
    Calls Try.prog 4 #[.agg #[.int .i64 k, .int .i64 p, .int .i64 g, .int .i64 o], .agg #[.int .i64 k', .int .i64 p', .int .i64 g', .int .i64 o'], .int .i64 h] w fun e w' => e = .returned (.bool true) ∧ Below w.heap.size w w' := by
  have hA := (PH.get_put hE).1
  have hA0 := (PH.get_put hE).2
  have hA3 : PH.get (PH.put k p g o).1 = ((k, p, g, o), true) := hA
  have hr := PH.put_range k p g o
  have hA1 : -9223372036854775808 ≤ (PH.put k p g o).1 := by omega
  have hA2 := hr.2.1
  clear hA hr
  have E4 : ∀ W : World, (Op.equalIn 10000 22 (.agg #[.int .i64 k, .int .i64 p, .int .i64 g, .int .i64 o]) (.agg #[.int .i64 k, .int .i64 p, .int .i64 g, .int .i64 o])).run Try.prog W = .ok true W := fun W => by rw [eql_arr4]; simp
  have hEb : ((PH.put k p g o).2 == 0) = true := by simpa using hE
  have hFb : ((PH.put k' p' g' o').2 == 0) = false := by simpa using hF
  clear hE hF
  have HA3 := Lib.hid hA3
  clear hA3
  go_enter Try.func4, Try.ntmps4
  go_wp2_with fail
  refine (handle_Put k p g o _).mono ?_
  rintro e w1 ⟨rfl, h1⟩
  obtain ⟨c1, f1⟩ := bel_cells h1
  have s1 := h1.size
  simp only [World.size_alloc] at c1 f1 s1
  go_wp2_with fail
  refine (handle_Put k' p' g' o' _).mono ?_
  rintro e w2 ⟨rfl, h2⟩
  obtain ⟨c2, f2⟩ := bel_cells h2
  have s2 := h2.size
  go_wp2_with fail
  refine (handle_Get _ _ hA1 hA2).mono ?_
  rw [HA3.out]
  rintro e w3 ⟨rfl, h3⟩
  obtain ⟨c3, f3⟩ := bel_cells h3
  have s3 := h3.size
  have z1 : w.heap.size < w1.heap.size := by omega
  have z1' : w.heap.size + 1 < w1.heap.size := by omega
  have z2 : w.heap.size < w2.heap.size := by omega
  have z2' : w.heap.size + 1 < w2.heap.size := by omega
  go_wp2_with fail
  refine (handle_Get h _ hl hm).mono ?_
  rintro e w4 ⟨rfl, h4⟩
  cases hg : (PH.get h).2
  · go_wp2_with fail
    refine (handle_Put _ _ _ _ _).mono ?_
    rintro e w5 ⟨rfl, h5⟩
    go_wp2_with fail
    refine (law07_works _).mono ?_
    rintro e w6 ⟨rfl, h6⟩
    go_wp2_with fail
    go_ret
    exact ⟨rfl, (by repeat (first | exact Below.refl _ _ | assumption | refine bel_drew ?_ | refine bel_drewN ?_ _ | refine bel_alloc ?_ _ | refine bel_set ?_ (by simp; omega) _ | refine bel_trans ?_ (by assumption)))⟩
  · have hp := PH.put_get hg
    have HP := Lib.hid hp
    clear hp
    go_wp2_with fail
    refine (handle_Put _ _ _ _ _).mono ?_
    rw [HP.out]
    rintro e w5 ⟨rfl, h5⟩
    go_wp2_with fail
    refine (law07_works _).mono ?_
    rintro e w6 ⟨rfl, h6⟩
    go_wp2_with fail
    go_ret
    exact ⟨rfl, (by repeat (first | exact Below.refl _ _ | assumption | refine bel_drew ?_ | refine bel_drewN ?_ _ | refine bel_alloc ?_ _ | refine bel_set ?_ (by simp; omega) _ | refine bel_trans ?_ (by assumption)))⟩

set_option maxHeartbeats 1000000 in
theorem law07_HandleBack_yy (k p g o k' p' g' o' h : Int) (w : World) (hl : -9223372036854775808 ≤ h) (hm : h ≤ 9223372036854775807) (hE : (PH.put k p g o).2 = 0) (hF : (PH.put k' p' g' o').2 = 0) :
    Calls Try.prog 4 #[.agg #[.int .i64 k, .int .i64 p, .int .i64 g, .int .i64 o], .agg #[.int .i64 k', .int .i64 p', .int .i64 g', .int .i64 o'], .int .i64 h] w fun e w' => e = .returned (.bool true) ∧ Below w.heap.size w w' := by
  have hA := (PH.get_put hE).1
  have hA0 := (PH.get_put hE).2
  have hA3 : PH.get (PH.put k p g o).1 = ((k, p, g, o), true) := hA
  have hr := PH.put_range k p g o
  have hA1 : -9223372036854775808 ≤ (PH.put k p g o).1 := by omega
  have hA2 := hr.2.1
  clear hA hr
  have E4 : ∀ W : World, (Op.equalIn 10000 22 (.agg #[.int .i64 k, .int .i64 p, .int .i64 g, .int .i64 o]) (.agg #[.int .i64 k, .int .i64 p, .int .i64 g, .int .i64 o])).run Try.prog W = .ok true W := fun W => by rw [eql_arr4]; simp
  have E5 : ∀ W : World, (Op.equalIn 10000 22 (.agg #[.int .i64 k, .int .i64 p, .int .i64 g, .int .i64 o]) (.agg #[.int .i64 k', .int .i64 p', .int .i64 g', .int .i64 o'])).run Try.prog W = .ok ((PH.put k p g o).1 == (PH.put k' p' g' o').1) W := fun W => by
    rw [eql_arr4]
    congr 1
    have := PH.put_inj hE hF
    rw [Bool.eq_iff_iff]
    simp only [Bool.and_eq_true, beq_iff_eq, this]
  have hEb : ((PH.put k p g o).2 == 0) = true := by simpa using hE
  have hFb : ((PH.put k' p' g' o').2 == 0) = true := by simpa using hF
  clear hE hF
  have HA3 := Lib.hid hA3
  clear hA3
  go_enter Try.func4, Try.ntmps4
  go_wp2_with fail
  refine (handle_Put k p g o _).mono ?_
  rintro e w1 ⟨rfl, h1⟩
  obtain ⟨c1, f1⟩ := bel_cells h1
  have s1 := h1.size
  simp only [World.size_alloc] at c1 f1 s1
  go_wp2_with fail
  refine (handle_Put k' p' g' o' _).mono ?_
  rintro e w2 ⟨rfl, h2⟩
  obtain ⟨c2, f2⟩ := bel_cells h2
  have s2 := h2.size
  go_wp2_with fail
  refine (handle_Get _ _ hA1 hA2).mono ?_
  rw [HA3.out]
  rintro e w3 ⟨rfl, h3⟩
  obtain ⟨c3, f3⟩ := bel_cells h3
  have s3 := h3.size
  have z1 : w.heap.size < w1.heap.size := by omega
  have z1' : w.heap.size + 1 < w1.heap.size := by omega
  have z2 : w.heap.size < w2.heap.size := by omega
  have z2' : w.heap.size + 1 < w2.heap.size := by omega
  go_wp2_with fail
  refine (handle_Get h _ hl hm).mono ?_
  rintro e w4 ⟨rfl, h4⟩
  cases hg : (PH.get h).2
  · go_wp2_with fail
    refine (handle_Put _ _ _ _ _).mono ?_
    rintro e w5 ⟨rfl, h5⟩
    go_wp2_with fail
    refine (law07_works _).mono ?_
    rintro e w6 ⟨rfl, h6⟩
    go_wp2_with fail
    go_ret
    exact ⟨rfl, (by repeat (first | exact Below.refl _ _ | assumption | refine bel_drew ?_ | refine bel_drewN ?_ _ | refine bel_alloc ?_ _ | refine bel_set ?_ (by simp; omega) _ | refine bel_trans ?_ (by assumption)))⟩
  · have hp := PH.put_get hg
    have HP := Lib.hid hp
    clear hp
    go_wp2_with fail
    refine (handle_Put _ _ _ _ _).mono ?_
    rw [HP.out]
    rintro e w5 ⟨rfl, h5⟩
    go_wp2_with fail
    refine (law07_works _).mono ?_
    rintro e w6 ⟨rfl, h6⟩
    go_wp2_with fail
    go_ret
    exact ⟨rfl, (by repeat (first | exact Below.refl _ _ | assumption | refine bel_drew ?_ | refine bel_drewN ?_ _ | refine bel_alloc ?_ _ | refine bel_set ?_ (by simp; omega) _ | refine bel_trans ?_ (by assumption)))⟩

end Go.Proofs.Ytbgohgligponiaa
