/-
  Layer 8 (spans): Meet, and the reference's.
-/
import Derived.Test.YtfgfnfjeopjbgaaSpanA
namespace Go.Proofs.Ytfgfnfjeopjbgaa
open Go.RowKit
set_option linter.unusedVariables false
attribute [local go_sem] drewN_alloc drewN_setCell

def spV (s : PS.Sp) : Value := .agg #[.int .i64 s.1, .int .i64 s.2]
theorem spans_Meet_n (x n y m : Int) (w : World) (hx : -9223372036854775808 ≤ x ∧ x ≤ 9223372036854775807) (hn : -9223372036854775808 ≤ n ∧ n ≤ 9223372036854775807) (hy : -9223372036854775808 ≤ y ∧ y ≤ 9223372036854775807) (hm : -9223372036854775808 ≤ m ∧ m ≤ 9223372036854775807) (ha : PS.whole (x, n) = false) :
    Calls Try.prog 35 #[.agg #[.int .i64 x, .int .i64 n], .agg #[.int .i64 y, .int .i64 m]] w fun e w' => e = .returned (.bool false) ∧ Below w.heap.size w w' := by
  have K1 := fun W => spans_whole x n W hx hn
  have K2 := fun W => spans_whole y m W hy hm
  rw [ha] at K1
  clear ha
  replace K1 := Lib.hid K1
  replace K2 := Lib.hid K2
  go_enter Try.func35, Try.ntmps35
  go_wp2_with fail
  refine (K1.out _).mono ?_
  rintro e w1 ⟨rfl, rfl⟩
  go_wp2_with fail
  go_ret
  first | exact ⟨rfl, (by repeat (first | exact Below.refl _ _ | assumption | refine bel_drew ?_ | refine bel_drewN ?_ _ | refine bel_alloc ?_ _ | refine bel_set ?_ (by first | (dsimp only; omega) | (simp; done) | (simp; omega)) _ | refine bel_trans ?_ (by assumption)))⟩ | exact ⟨ret_bool (decide_eq_true (by omega)), (by repeat (first | exact Below.refl _ _ | assumption | refine bel_drew ?_ | refine bel_drewN ?_ _ | refine bel_alloc ?_ _ | refine bel_set ?_ (by first | (dsimp only; omega) | (simp; done) | (simp; omega)) _ | refine bel_trans ?_ (by assumption)))⟩ | exact ⟨ret_bool (decide_eq_false (by omega)), (by repeat (first | exact Below.refl _ _ | assumption | refine bel_drew ?_ | refine bel_drewN ?_ _ | refine bel_alloc ?_ _ | refine bel_set ?_ (by first | (dsimp only; omega) | (simp; done) | (simp; omega)) _ | refine bel_trans ?_ (by assumption)))⟩

theorem spans_Meet_m (x n y m : Int) (w : World) (hx : -9223372036854775808 ≤ x ∧ x ≤ 9223372036854775807) (hn : -9223372036854775808 ≤ n ∧ n ≤ 9223372036854775807) (hy : -9223372036854775808 ≤ y ∧ y ≤ 9223372036854775807) (hm : -9223372036854775808 ≤ m ∧ m ≤ 9223372036854775807) (ha : PS.whole (x, n) = true) (hb : PS.whole (y, m) = false) :
    Calls Try.prog 35 #[.agg #[.int .i64 x, .int .i64 n], .agg #[.int .i64 y, .int .i64 m]] w fun e w' => e = .returned (.bool false) ∧ Below w.heap.size w w' := by
  have K1 := fun W => spans_whole x n W hx hn
  have K2 := fun W => spans_whole y m W hy hm
  rw [ha] at K1
  rw [hb] at K2
  clear ha hb
  replace K1 := Lib.hid K1
  replace K2 := Lib.hid K2
  go_enter Try.func35, Try.ntmps35
  go_wp2_with fail
  refine (K1.out _).mono ?_
  rintro e w1 ⟨rfl, rfl⟩
  go_wp2_with fail
  refine (K2.out _).mono ?_
  rintro e w1 ⟨rfl, rfl⟩
  go_wp2_with fail
  go_ret
  first | exact ⟨rfl, (by repeat (first | exact Below.refl _ _ | assumption | refine bel_drew ?_ | refine bel_drewN ?_ _ | refine bel_alloc ?_ _ | refine bel_set ?_ (by first | (dsimp only; omega) | (simp; done) | (simp; omega)) _ | refine bel_trans ?_ (by assumption)))⟩ | exact ⟨ret_bool (decide_eq_true (by omega)), (by repeat (first | exact Below.refl _ _ | assumption | refine bel_drew ?_ | refine bel_drewN ?_ _ | refine bel_alloc ?_ _ | refine bel_set ?_ (by first | (dsimp only; omega) | (simp; done) | (simp; omega)) _ | refine bel_trans ?_ (by assumption)))⟩ | exact ⟨ret_bool (decide_eq_false (by omega)), (by repeat (first | exact Below.refl _ _ | assumption | refine bel_drew ?_ | refine bel_drewN ?_ _ | refine bel_alloc ?_ _ | refine bel_set ?_ (by first | (dsimp only; omega) | (simp; done) | (simp; omega)) _ | refine bel_trans ?_ (by assumption)))⟩

theorem spans_Meet_w (x n y m : Int) (w : World) (hx : -9223372036854775808 ≤ x ∧ x ≤ 9223372036854775807) (hn : -9223372036854775808 ≤ n ∧ n ≤ 9223372036854775807) (hy : -9223372036854775808 ≤ y ∧ y ≤ 9223372036854775807) (hm : -9223372036854775808 ≤ m ∧ m ≤ 9223372036854775807) (ha : PS.whole (x, n) = true) (hb : PS.whole (y, m) = true) :
    Calls Try.prog 35 #[.agg #[.int .i64 x, .int .i64 n], .agg #[.int .i64 y, .int .i64 m]] w fun e w' => e = .returned (.bool (decide (x < y + m) && decide (y < x + n))) ∧ Below w.heap.size w w' := by
  have K1 := fun W => spans_whole x n W hx hn
  have K2 := fun W => spans_whole y m W hy hm
  rw [ha] at K1
  rw [hb] at K2
  obtain ⟨a1, a2, a3⟩ := (PS.whole_iff _).1 ha
  obtain ⟨b1, b2, b3⟩ := (PS.whole_iff _).1 hb
  dsimp only at a1 a2 a3 b1 b2 b3
  clear ha hb
  by_cases h1 : x < y + m
  · rw [decide_eq_true h1, Bool.true_and]
    by_cases h2 : y < x + n
    · rw [decide_eq_true h2]
      replace K1 := Lib.hid K1
      replace K2 := Lib.hid K2
      go_enter Try.func35, Try.ntmps35
      go_wp2_with fail
      refine (K1.out _).mono ?_
      rintro e w1 ⟨rfl, rfl⟩
      go_wp2_with fail
      refine (K2.out _).mono ?_
      rintro e w1 ⟨rfl, rfl⟩
      go_wp2_with fail
      go_ret
      first | exact ⟨rfl, (by repeat (first | exact Below.refl _ _ | assumption | refine bel_drew ?_ | refine bel_drewN ?_ _ | refine bel_alloc ?_ _ | refine bel_set ?_ (by first | (dsimp only; omega) | (simp; done) | (simp; omega)) _ | refine bel_trans ?_ (by assumption)))⟩ | exact ⟨ret_bool (decide_eq_true (by omega)), (by repeat (first | exact Below.refl _ _ | assumption | refine bel_drew ?_ | refine bel_drewN ?_ _ | refine bel_alloc ?_ _ | refine bel_set ?_ (by first | (dsimp only; omega) | (simp; done) | (simp; omega)) _ | refine bel_trans ?_ (by assumption)))⟩ | exact ⟨ret_bool (decide_eq_false (by omega)), (by repeat (first | exact Below.refl _ _ | assumption | refine bel_drew ?_ | refine bel_drewN ?_ _ | refine bel_alloc ?_ _ | refine bel_set ?_ (by first | (dsimp only; omega) | (simp; done) | (simp; omega)) _ | refine bel_trans ?_ (by assumption)))⟩
    · rw [decide_eq_false h2]
      replace h2 : x + n ≤ y := by omega
      replace K1 := Lib.hid K1
      replace K2 := Lib.hid K2
      go_enter Try.func35, Try.ntmps35
      go_wp2_with fail
      refine (K1.out _).mono ?_
      rintro e w1 ⟨rfl, rfl⟩
      go_wp2_with fail
      refine (K2.out _).mono ?_
      rintro e w1 ⟨rfl, rfl⟩
      go_wp2_with fail
      go_ret
      first | exact ⟨rfl, (by repeat (first | exact Below.refl _ _ | assumption | refine bel_drew ?_ | refine bel_drewN ?_ _ | refine bel_alloc ?_ _ | refine bel_set ?_ (by first | (dsimp only; omega) | (simp; done) | (simp; omega)) _ | refine bel_trans ?_ (by assumption)))⟩ | exact ⟨ret_bool (decide_eq_true (by omega)), (by repeat (first | exact Below.refl _ _ | assumption | refine bel_drew ?_ | refine bel_drewN ?_ _ | refine bel_alloc ?_ _ | refine bel_set ?_ (by first | (dsimp only; omega) | (simp; done) | (simp; omega)) _ | refine bel_trans ?_ (by assumption)))⟩ | exact ⟨ret_bool (decide_eq_false (by omega)), (by repeat (first | exact Below.refl _ _ | assumption | refine bel_drew ?_ | refine bel_drewN ?_ _ | refine bel_alloc ?_ _ | refine bel_set ?_ (by first | (dsimp only; omega) | (simp; done) | (simp; omega)) _ | refine bel_trans ?_ (by assumption)))⟩
  · rw [decide_eq_false h1, Bool.false_and]
    replace h1 : y + m ≤ x := by omega
    replace K1 := Lib.hid K1
    replace K2 := Lib.hid K2
    go_enter Try.func35, Try.ntmps35
    go_wp2_with fail
    refine (K1.out _).mono ?_
    rintro e w1 ⟨rfl, rfl⟩
    go_wp2_with fail
    refine (K2.out _).mono ?_
    rintro e w1 ⟨rfl, rfl⟩
    go_wp2_with fail
    go_ret
    first | exact ⟨rfl, (by repeat (first | exact Below.refl _ _ | assumption | refine bel_drew ?_ | refine bel_drewN ?_ _ | refine bel_alloc ?_ _ | refine bel_set ?_ (by first | (dsimp only; omega) | (simp; done) | (simp; omega)) _ | refine bel_trans ?_ (by assumption)))⟩ | exact ⟨ret_bool (decide_eq_true (by omega)), (by repeat (first | exact Below.refl _ _ | assumption | refine bel_drew ?_ | refine bel_drewN ?_ _ | refine bel_alloc ?_ _ | refine bel_set ?_ (by first | (dsimp only; omega) | (simp; done) | (simp; omega)) _ | refine bel_trans ?_ (by assumption)))⟩ | exact ⟨ret_bool (decide_eq_false (by omega)), (by repeat (first | exact Below.refl _ _ | assumption | refine bel_drew ?_ | refine bel_drewN ?_ _ | refine bel_alloc ?_ _ | refine bel_set ?_ (by first | (dsimp only; omega) | (simp; done) | (simp; omega)) _ | refine bel_trans ?_ (by assumption)))⟩

theorem spans_Meet (a b : PS.Sp) (w : World) (ha : SpBd a) (hb : SpBd b) :
    Calls Try.prog 35 #[spV a, spV b] w fun e w' => e = .returned (.bool (PS.meet a b)) ∧ Below w.heap.size w w' := by
  obtain ⟨x, n⟩ := a
  obtain ⟨y, m⟩ := b
  unfold PS.meet PS.fin
  rcases e1 : PS.whole (x, n) with _ | _
  · exact spans_Meet_n x n y m w ha.1 ha.2 hb.1 hb.2 e1
  · rcases e2 : PS.whole (y, m) with _ | _
    · exact spans_Meet_m x n y m w ha.1 ha.2 hb.1 hb.2 e1 e2
    · exact spans_Meet_w x n y m w ha.1 ha.2 hb.1 hb.2 e1 e2

theorem ref08_Meet_n (x n y m : Int) (w : World) (hx : -9223372036854775808 ≤ x ∧ x ≤ 9223372036854775807) (hn : -9223372036854775808 ≤ n ∧ n ≤ 9223372036854775807) (hy : -9223372036854775808 ≤ y ∧ y ≤ 9223372036854775807) (hm : -9223372036854775808 ≤ m ∧ m ≤ 9223372036854775807) (ha : PS.whole (x, n) = false) :
    Calls Try.prog 36 #[.agg #[.int .i64 x, .int .i64 n], .agg #[.int .i64 y, .int .i64 m]] w fun e w' => e = .returned (.bool false) ∧ Below w.heap.size w w' := by
  have K1 := fun W => ref08_One x n W hx hn
  have K2 := fun W => ref08_One y m W hy hm
  rw [ha] at K1
  clear ha
  replace K1 := Lib.hid K1
  replace K2 := Lib.hid K2
  go_enter Try.func36, Try.ntmps36
  go_wp2_with fail
  refine (K1.out _).mono ?_
  rintro e w1 ⟨rfl, rfl⟩
  go_wp2_with fail
  go_ret
  first | exact ⟨rfl, (by repeat (first | exact Below.refl _ _ | assumption | refine bel_drew ?_ | refine bel_drewN ?_ _ | refine bel_alloc ?_ _ | refine bel_set ?_ (by first | (dsimp only; omega) | (simp; done) | (simp; omega)) _ | refine bel_trans ?_ (by assumption)))⟩ | exact ⟨ret_bool (decide_eq_true (by omega)), (by repeat (first | exact Below.refl _ _ | assumption | refine bel_drew ?_ | refine bel_drewN ?_ _ | refine bel_alloc ?_ _ | refine bel_set ?_ (by first | (dsimp only; omega) | (simp; done) | (simp; omega)) _ | refine bel_trans ?_ (by assumption)))⟩ | exact ⟨ret_bool (decide_eq_false (by omega)), (by repeat (first | exact Below.refl _ _ | assumption | refine bel_drew ?_ | refine bel_drewN ?_ _ | refine bel_alloc ?_ _ | refine bel_set ?_ (by first | (dsimp only; omega) | (simp; done) | (simp; omega)) _ | refine bel_trans ?_ (by assumption)))⟩

theorem ref08_Meet_m (x n y m : Int) (w : World) (hx : -9223372036854775808 ≤ x ∧ x ≤ 9223372036854775807) (hn : -9223372036854775808 ≤ n ∧ n ≤ 9223372036854775807) (hy : -9223372036854775808 ≤ y ∧ y ≤ 9223372036854775807) (hm : -9223372036854775808 ≤ m ∧ m ≤ 9223372036854775807) (ha : PS.whole (x, n) = true) (hb : PS.whole (y, m) = false) :
    Calls Try.prog 36 #[.agg #[.int .i64 x, .int .i64 n], .agg #[.int .i64 y, .int .i64 m]] w fun e w' => e = .returned (.bool false) ∧ Below w.heap.size w w' := by
  have K1 := fun W => ref08_One x n W hx hn
  have K2 := fun W => ref08_One y m W hy hm
  rw [ha] at K1
  rw [hb] at K2
  clear ha hb
  replace K1 := Lib.hid K1
  replace K2 := Lib.hid K2
  go_enter Try.func36, Try.ntmps36
  go_wp2_with fail
  refine (K1.out _).mono ?_
  rintro e w1 ⟨rfl, rfl⟩
  go_wp2_with fail
  refine (K2.out _).mono ?_
  rintro e w1 ⟨rfl, rfl⟩
  go_wp2_with fail
  go_ret
  first | exact ⟨rfl, (by repeat (first | exact Below.refl _ _ | assumption | refine bel_drew ?_ | refine bel_drewN ?_ _ | refine bel_alloc ?_ _ | refine bel_set ?_ (by first | (dsimp only; omega) | (simp; done) | (simp; omega)) _ | refine bel_trans ?_ (by assumption)))⟩ | exact ⟨ret_bool (decide_eq_true (by omega)), (by repeat (first | exact Below.refl _ _ | assumption | refine bel_drew ?_ | refine bel_drewN ?_ _ | refine bel_alloc ?_ _ | refine bel_set ?_ (by first | (dsimp only; omega) | (simp; done) | (simp; omega)) _ | refine bel_trans ?_ (by assumption)))⟩ | exact ⟨ret_bool (decide_eq_false (by omega)), (by repeat (first | exact Below.refl _ _ | assumption | refine bel_drew ?_ | refine bel_drewN ?_ _ | refine bel_alloc ?_ _ | refine bel_set ?_ (by first | (dsimp only; omega) | (simp; done) | (simp; omega)) _ | refine bel_trans ?_ (by assumption)))⟩

theorem ref08_Meet_w (x n y m : Int) (w : World) (hx : -9223372036854775808 ≤ x ∧ x ≤ 9223372036854775807) (hn : -9223372036854775808 ≤ n ∧ n ≤ 9223372036854775807) (hy : -9223372036854775808 ≤ y ∧ y ≤ 9223372036854775807) (hm : -9223372036854775808 ≤ m ∧ m ≤ 9223372036854775807) (ha : PS.whole (x, n) = true) (hb : PS.whole (y, m) = true) :
    Calls Try.prog 36 #[.agg #[.int .i64 x, .int .i64 n], .agg #[.int .i64 y, .int .i64 m]] w fun e w' => e = .returned (.bool (decide (x < y + m) && decide (y < x + n))) ∧ Below w.heap.size w w' := by
  have K1 := fun W => ref08_One x n W hx hn
  have K2 := fun W => ref08_One y m W hy hm
  rw [ha] at K1
  rw [hb] at K2
  obtain ⟨a1, a2, a3⟩ := (PS.whole_iff _).1 ha
  obtain ⟨b1, b2, b3⟩ := (PS.whole_iff _).1 hb
  dsimp only at a1 a2 a3 b1 b2 b3
  clear ha hb
  by_cases h0 : x ≤ y
  · by_cases h1 : y - x < n
    · rw [decide_eq_true (show x < y + m by omega), decide_eq_true (show y < x + n by omega), Bool.and_self]
      replace K1 := Lib.hid K1
      replace K2 := Lib.hid K2
      go_enter Try.func36, Try.ntmps36
      go_wp2_with fail
      refine (K1.out _).mono ?_
      rintro e w1 ⟨rfl, rfl⟩
      go_wp2_with fail
      refine (K2.out _).mono ?_
      rintro e w1 ⟨rfl, rfl⟩
      go_wp2_with fail
      go_ret
      first | exact ⟨rfl, (by repeat (first | exact Below.refl _ _ | assumption | refine bel_drew ?_ | refine bel_drewN ?_ _ | refine bel_alloc ?_ _ | refine bel_set ?_ (by first | (dsimp only; omega) | (simp; done) | (simp; omega)) _ | refine bel_trans ?_ (by assumption)))⟩ | exact ⟨ret_bool (decide_eq_true (by omega)), (by repeat (first | exact Below.refl _ _ | assumption | refine bel_drew ?_ | refine bel_drewN ?_ _ | refine bel_alloc ?_ _ | refine bel_set ?_ (by first | (dsimp only; omega) | (simp; done) | (simp; omega)) _ | refine bel_trans ?_ (by assumption)))⟩ | exact ⟨ret_bool (decide_eq_false (by omega)), (by repeat (first | exact Below.refl _ _ | assumption | refine bel_drew ?_ | refine bel_drewN ?_ _ | refine bel_alloc ?_ _ | refine bel_set ?_ (by first | (dsimp only; omega) | (simp; done) | (simp; omega)) _ | refine bel_trans ?_ (by assumption)))⟩
    · rw [decide_eq_false (show ¬ y < x + n by omega), Bool.and_false]
      replace h1 : n ≤ y - x := by omega
      replace K1 := Lib.hid K1
      replace K2 := Lib.hid K2
      go_enter Try.func36, Try.ntmps36
      go_wp2_with fail
      refine (K1.out _).mono ?_
      rintro e w1 ⟨rfl, rfl⟩
      go_wp2_with fail
      refine (K2.out _).mono ?_
      rintro e w1 ⟨rfl, rfl⟩
      go_wp2_with fail
      go_ret
      first | exact ⟨rfl, (by repeat (first | exact Below.refl _ _ | assumption | refine bel_drew ?_ | refine bel_drewN ?_ _ | refine bel_alloc ?_ _ | refine bel_set ?_ (by first | (dsimp only; omega) | (simp; done) | (simp; omega)) _ | refine bel_trans ?_ (by assumption)))⟩ | exact ⟨ret_bool (decide_eq_true (by omega)), (by repeat (first | exact Below.refl _ _ | assumption | refine bel_drew ?_ | refine bel_drewN ?_ _ | refine bel_alloc ?_ _ | refine bel_set ?_ (by first | (dsimp only; omega) | (simp; done) | (simp; omega)) _ | refine bel_trans ?_ (by assumption)))⟩ | exact ⟨ret_bool (decide_eq_false (by omega)), (by repeat (first | exact Below.refl _ _ | assumption | refine bel_drew ?_ | refine bel_drewN ?_ _ | refine bel_alloc ?_ _ | refine bel_set ?_ (by first | (dsimp only; omega) | (simp; done) | (simp; omega)) _ | refine bel_trans ?_ (by assumption)))⟩
  · replace h0 : y < x := by omega
    by_cases h1 : x - y < m
    · rw [decide_eq_true (show x < y + m by omega), decide_eq_true (show y < x + n by omega), Bool.and_self]
      replace K1 := Lib.hid K1
      replace K2 := Lib.hid K2
      go_enter Try.func36, Try.ntmps36
      go_wp2_with fail
      refine (K1.out _).mono ?_
      rintro e w1 ⟨rfl, rfl⟩
      go_wp2_with fail
      refine (K2.out _).mono ?_
      rintro e w1 ⟨rfl, rfl⟩
      go_wp2_with fail
      go_ret
      first | exact ⟨rfl, (by repeat (first | exact Below.refl _ _ | assumption | refine bel_drew ?_ | refine bel_drewN ?_ _ | refine bel_alloc ?_ _ | refine bel_set ?_ (by first | (dsimp only; omega) | (simp; done) | (simp; omega)) _ | refine bel_trans ?_ (by assumption)))⟩ | exact ⟨ret_bool (decide_eq_true (by omega)), (by repeat (first | exact Below.refl _ _ | assumption | refine bel_drew ?_ | refine bel_drewN ?_ _ | refine bel_alloc ?_ _ | refine bel_set ?_ (by first | (dsimp only; omega) | (simp; done) | (simp; omega)) _ | refine bel_trans ?_ (by assumption)))⟩ | exact ⟨ret_bool (decide_eq_false (by omega)), (by repeat (first | exact Below.refl _ _ | assumption | refine bel_drew ?_ | refine bel_drewN ?_ _ | refine bel_alloc ?_ _ | refine bel_set ?_ (by first | (dsimp only; omega) | (simp; done) | (simp; omega)) _ | refine bel_trans ?_ (by assumption)))⟩
    · rw [decide_eq_false (show ¬ x < y + m by omega), Bool.false_and]
      replace h1 : m ≤ x - y := by omega
      replace K1 := Lib.hid K1
      replace K2 := Lib.hid K2
      go_enter Try.func36, Try.ntmps36
      go_wp2_with fail
      refine (K1.out _).mono ?_
      rintro e w1 ⟨rfl, rfl⟩
      go_wp2_with fail
      refine (K2.out _).mono ?_
      rintro e w1 ⟨rfl, rfl⟩
      go_wp2_with fail
      go_ret
      first | exact ⟨rfl, (by repeat (first | exact Below.refl _ _ | assumption | refine bel_drew ?_ | refine bel_drewN ?_ _ | refine bel_alloc ?_ _ | refine bel_set ?_ (by first | (dsimp only; omega) | (simp; done) | (simp; omega)) _ | refine bel_trans ?_ (by assumption)))⟩ | exact ⟨ret_bool (decide_eq_true (by omega)), (by repeat (first | exact Below.refl _ _ | assumption | refine bel_drew ?_ | refine bel_drewN ?_ _ | refine bel_alloc ?_ _ | refine bel_set ?_ (by first | (dsimp only; omega) | (simp; done) | (simp; omega)) _ | refine bel_trans ?_ (by assumption)))⟩ | exact ⟨ret_bool (decide_eq_false (by omega)), (by repeat (first | exact Below.refl _ _ | assumption | refine bel_drew ?_ | refine bel_drewN ?_ _ | refine bel_alloc ?_ _ | refine bel_set ?_ (by first | (dsimp only; omega) | (simp; done) | (simp; omega)) _ | refine bel_trans ?_ (by assumption)))⟩

theorem ref08_Meet (a b : PS.Sp) (w : World) (ha : SpBd a) (hb : SpBd b) :
    Calls Try.prog 36 #[spV a, spV b] w fun e w' => e = .returned (.bool (PS.meet a b)) ∧ Below w.heap.size w w' := by
  obtain ⟨x, n⟩ := a
  obtain ⟨y, m⟩ := b
  unfold PS.meet PS.fin
  rcases e1 : PS.whole (x, n) with _ | _
  · exact ref08_Meet_n x n y m w ha.1 ha.2 hb.1 hb.2 e1
  · rcases e2 : PS.whole (y, m) with _ | _
    · exact ref08_Meet_m x n y m w ha.1 ha.2 hb.1 hb.2 e1 e2
    · exact ref08_Meet_w x n y m w ha.1 ha.2 hb.1 hb.2 e1 e2
end Go.Proofs.Ytfgfnfjeopjbgaa
