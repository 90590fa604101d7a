/-
  Layer 22's examples, and the walk of the law DrainSum.
-/
import Derived.Test.YtbgohgligponiaaDrainB
namespace Go.Proofs.Ytbgohgligponiaa
open Go.RowKit
set_option linter.unusedVariables false
attribute [local go_sem] drewN_alloc drewN_setCell

theorem law22_works (w : World) : Calls Try.prog 35 #[] w fun e w' => e = .returned (.bool true) ∧ Below w.heap.size w w' := by
  have c1 : ∀ W, Calls Try.prog 36 #[.int .i64 2, .int .i64 3] W fun e w' => e = .returned (.tuple #[.int .i64 1, .bool true]) ∧ W = w' := fun W => drain_Ticks 2 3 W (by omega) (by omega)
  have c2 : ∀ W, Calls Try.prog 36 #[.int .i64 3, .int .i64 3] W fun e w' => e = .returned (.tuple #[.int .i64 2, .bool true]) ∧ W = w' := fun W => drain_Ticks 3 3 W (by omega) (by omega)
  have c3 : ∀ W, Calls Try.prog 38 #[.int .i64 7, .int .i64 3] W (GivesInts W [3, 3, 1]) := fun W => by
    have := drain_Plan 7 3 W (by omega) (by omega)
    rwa [show PD.plan 7 3 = [3, 3, 1] by decide +kernel] at this
  have C1 := Lib.hid c1
  have C2 := Lib.hid c2
  have C3 := Lib.hid c3
  clear c1 c2 c3
  go_enter Try.func35, Try.ntmps35
  go_wp2_with fail
  refine (C1.out _).mono ?_
  rintro e w1 ⟨rfl, rfl⟩
  go_wp2_with fail
  refine (C2.out _).mono ?_
  rintro e w1 ⟨rfl, rfl⟩
  go_wp2_with fail
  refine (C3.out _).mono ?_
  rintro e w1 ⟨A, n, c, rfl, hi, hb⟩
  have HI := Lib.hid hi
  clear hi
  go_wp2_with fail
  refine (base_SameInts (xs := [3, 3, 1]) (ys := [3, 3, 1]) c 3 (HI.out.keep (by exact (by repeat (first | exact Below.refl _ _ | assumption | refine bel_drew ?_ | refine bel_drewN ?_ _ | refine bel_alloc ?_ _ | refine bel_set ?_ (by first | (dsimp only; omega) | (simp; done) | (simp; omega)) _ | refine bel_trans ?_ (by assumption))))) (by exact ⟨rfl, by omega, fun _ => ⟨_, _, rfl, by simp, fun i hi => by match i, hi with | 0, _ => simp [go_sem] | 1, _ => simp [go_sem] | 2, _ => simp [go_sem]⟩⟩)).mono ?_
  rintro e w2 ⟨rfl, k2⟩
  go_wp2_with fail
  go_ret
  exact ⟨rfl, (by repeat (first | exact Below.refl _ _ | assumption | refine bel_drew ?_ | refine bel_drewN ?_ _ | refine bel_alloc ?_ _ | refine bel_set ?_ (by first | (dsimp only; omega) | (simp; done) | (simp; omega)) _ | refine bel_trans ?_ (by assumption)))⟩

theorem PD_sum {n q t : Int} (hm : PD.may n q t = true) (hn : n ≤ 9223372036854775807) (ht : t ≤ 9223372036854775806) :
    PD.may n q (t + 1) = true ∧ 0 ≤ (PD.taken n q t).1 ∧ (PD.taken n q t).1 ≤ (PD.taken n q (t + 1)).1 ∧ (PD.taken n q (t + 1)).1 ≤ n ∧ (PD.taken n q (t + 1)).1 - (PD.taken n q t).1 ≤ q ∧
      ((PD.taken n q (t + 1)).1 = n ∨ (PD.taken n q (t + 1)).1 - (PD.taken n q t).1 = q) := by
  obtain ⟨g1, g2, g3⟩ := (PD.may_iff _ _ _).1 hm
  have hm' : PD.may n q (t + 1) = true := (PD.may_iff _ _ _).2 (by omega)
  have hp : 0 ≤ q * t := Int.mul_nonneg (by omega) g3
  rw [PD.taken_min n q t hm hn, PD.taken_min n q (t + 1) hm' hn, Int.mul_add, Int.mul_one]
  refine ⟨hm', ?_, ?_, ?_, ?_, ?_⟩ <;> omega

theorem law22_DrainSum_no (n q t : Int) (w : World) (hn : -9223372036854775808 ≤ n ∧ n ≤ 9223372036854775807) (hq : -9223372036854775808 ≤ q ∧ q ≤ 9223372036854775807) (ht : -9223372036854775808 ≤ t ∧ t ≤ 9223372036854775807) (hm : PD.may n q t = false) :
    Calls Try.prog 12 #[.int .i64 n, .int .i64 q, .int .i64 t] w fun e w' => e = .returned (.bool true) ∧ Below w.heap.size w w' := by
  have c1 := fun W => drain_Taken n q t W hn hq ht
  have c2 := fun W => drain_Left n q t W hn hq ht
  rw [show PD.taken n q t = (0, false) by unfold PD.taken; rw [if_neg (by rw [hm]; simp)]] at c1
  rw [show PD.left n q t = (0, false) by unfold PD.left; rw [if_neg (by rw [hm]; simp)]] at c2
  have C1 := Lib.hid c1
  have C2 := Lib.hid c2
  clear c1 c2 hm
  go_enter Try.func12, Try.ntmps12
  go_wp2_with fail
  refine (C1.out _).mono ?_
  rintro e w1 ⟨rfl, rfl⟩
  go_wp2_with fail
  refine (C2.out _).mono ?_
  rintro e w1 ⟨rfl, rfl⟩
  go_wp2_with fail
  refine (law22_works _).mono ?_
  rintro e w1 ⟨rfl, k1⟩
  go_wp2_with fail
  go_ret
  exact ⟨rfl, (by repeat (first | exact Below.refl _ _ | assumption | refine bel_drew ?_ | refine bel_drewN ?_ _ | refine bel_alloc ?_ _ | refine bel_set ?_ (by first | (dsimp only; omega) | (simp; done) | (simp; omega)) _ | refine bel_trans ?_ (by assumption)))⟩

theorem law22_DrainSum_yes (n q t : Int) (w : World) (hn : -9223372036854775808 ≤ n ∧ n ≤ 9223372036854775807) (hq : -9223372036854775808 ≤ q ∧ q ≤ 9223372036854775807) (ht : -9223372036854775808 ≤ t ∧ t ≤ 9223372036854775807) (hm : PD.may n q t = true) :
    Calls Try.prog 12 #[.int .i64 n, .int .i64 q, .int .i64 t] w fun e w' => e = .returned (.bool true) ∧ Below w.heap.size w w' := by
  have c1 := fun W => drain_Taken n q t W hn hq ht
  have c2 := fun W => drain_Left n q t W hn hq ht
  obtain ⟨g1, g2, g3⟩ := (PD.may_iff _ _ _).1 hm
  obtain ⟨a, ha⟩ : ∃ a, (PD.taken n q t).1 = a := ⟨_, rfl⟩
  have hl : PD.left n q t = (n - a, true) := by unfold PD.left; rw [if_pos hm, ha]
  have htk : PD.taken n q t = (a, true) := Prod.ext ha ((PD.taken_is _ _ _).trans hm)
  have a0 : 0 ≤ a ∧ a ≤ n := by
    have hp : 0 ≤ q * t := Int.mul_nonneg (by omega) g3
    rw [← ha, PD.taken_min n q t hm hn.2]; omega
  obtain ⟨a0, a1⟩ := a0
  rw [htk] at c1
  rw [hl] at c2
  have C1 := Lib.hid c1
  have C2 := Lib.hid c2
  by_cases h : t = 9223372036854775807
  · have hb : (t == 9223372036854775807) = true := by simpa using h
    clear c1 c2 hm ha hl htk h
    go_enter Try.func12, Try.ntmps12
    go_wp2_with fail
    refine (C1.out _).mono ?_
    rintro e w1 ⟨rfl, rfl⟩
    go_wp2_with fail
    refine (C2.out _).mono ?_
    rintro e w1 ⟨rfl, rfl⟩
    go_wp2_with fail
    refine (law22_works _).mono ?_
    rintro e w1 ⟨rfl, k1⟩
    go_wp2_with fail
    go_ret
    exact ⟨rfl, (by repeat (first | exact Below.refl _ _ | assumption | refine bel_drew ?_ | refine bel_drewN ?_ _ | refine bel_alloc ?_ _ | refine bel_set ?_ (by first | (dsimp only; omega) | (simp; done) | (simp; omega)) _ | refine bel_trans ?_ (by assumption)))⟩
  · have hb : (t == 9223372036854775807) = false := by simpa using h
    have ht2 : t ≤ 9223372036854775806 := by omega
    obtain ⟨m1, m2, m3, m4, m5, m6⟩ := PD_sum hm hn.2 ht2
    have c3 := fun W => drain_Taken n q (t + 1) W hn hq (by omega)
    rw [show PD.taken n q (t + 1) = ((PD.taken n q (t + 1)).1, true) from Prod.ext rfl ((PD.taken_is _ _ _).trans m1)] at c3
    generalize (PD.taken n q (t + 1)).1 = c at *
    rw [ha] at m3 m5 m6
    have C3 := Lib.hid c3
    have m6' : (c == n) = true ∨ ((c == n) = false ∧ (c - a == q) = true) := by
      by_cases x : c = n
      · left; simpa using x
      · right; refine ⟨by simpa using x, ?_⟩; simp; omega
    clear c1 c2 c3 hm ha hl htk h m1 m2 m6
    rcases m6' with m6 | ⟨m6, m7⟩
    all_goals
      go_enter Try.func12, Try.ntmps12
      go_wp2_with fail
      refine (C1.out _).mono ?_
      rintro e w1 ⟨rfl, rfl⟩
      go_wp2_with fail
      refine (C2.out _).mono ?_
      rintro e w1 ⟨rfl, rfl⟩
      go_wp2_with fail
      refine (C3.out _).mono ?_
      rintro e w1 ⟨rfl, rfl⟩
      go_wp2_with fail
      refine (law22_works _).mono ?_
      rintro e w1 ⟨rfl, k1⟩
      go_wp2_with fail
      go_ret
      exact ⟨rfl, (by repeat (first | exact Below.refl _ _ | assumption | refine bel_drew ?_ | refine bel_drewN ?_ _ | refine bel_alloc ?_ _ | refine bel_set ?_ (by first | (dsimp only; omega) | (simp; done) | (simp; omega)) _ | refine bel_trans ?_ (by assumption)))⟩

theorem law22_DrainSum (n q t : Int) (w : World) (hn : -9223372036854775808 ≤ n ∧ n ≤ 9223372036854775807) (hq : -9223372036854775808 ≤ q ∧ q ≤ 9223372036854775807) (ht : -9223372036854775808 ≤ t ∧ t ≤ 9223372036854775807) :
    Calls Try.prog 12 #[.int .i64 n, .int .i64 q, .int .i64 t] w fun e w' => e = .returned (.bool true) ∧ Below w.heap.size w w' := by
  cases hm : PD.may n q t
  · exact law22_DrainSum_no n q t w hn hq ht hm
  · exact law22_DrainSum_yes n q t w hn hq ht hm
end Go.Proofs.Ytbgohgligponiaa
