/-
  Layer 47 (bound): must, plus, times, Right.
-/
import Derived.Test.YtfgfnfjeopjbgaaNumC
import Derived.Test.YtfgfnfjeopjbgaaNumD
import Derived.Test.YtfgfnfjeopjbgaaBase3
import Derived.Test.YtfgfnfjeopjbgaaPlainBound
import Derived.WalkLawsBesides
namespace Go.Proofs.Ytfgfnfjeopjbgaa
open Go.RowKit
set_option linter.unusedVariables false
attribute [local go_sem] drewN_alloc drewN_setCell

/-- How a number that does not fit ends a call. -/
def Over (e : Ending) : Prop := e = .panicked [{ v := .iface 102 (.agg #[]), recovered := false }]

theorem bound_must_yes (n : Int) (w : World) : Calls Try.prog 94 #[.int .i64 n, .bool true] w fun e w' => e = .returned (.int .i64 n) ∧ w = w' := by
  go_enter Try.func94, Try.ntmps94
  go_wp2_with fail
  go_ret
  exact ⟨rfl, rfl⟩
theorem bound_must_no (n : Int) (w : World) : Calls Try.prog 94 #[.int .i64 n, .bool false] w fun e w' => Over e ∧ w = w' := by
  go_enter Try.func94, Try.ntmps94
  go_wp2_with fail
  exact ⟨rfl, rfl, rfl⟩

theorem bound_plus (b : Nat) (x y : Int) (w : World) (hx : -9223372036854775808 ≤ x ∧ x ≤ 9223372036854775807) (hy : -9223372036854775808 ≤ y ∧ y ≤ 9223372036854775807) (hxy : -9223372036854775808 ≤ x + y ∧ x + y ≤ 9223372036854775807)
    (c0 : w.cell? ⟨b, 0, none⟩ = some (.int .i64 x)) (c1 : w.cell? ⟨b, 1, none⟩ = some (.int .i64 y)) :
    Calls Try.prog 75 #[.slice (some ⟨b, 0, none⟩) 2 2] w fun e w' => e = .returned (.int .i64 (x + y)) ∧ w = w' := by
  have a1 := num_Add 0 x w (by omega) hx
  rw [show PN.add 0 x = (x, true) by unfold PN.add; rw [Int.zero_add, (PN.fits_iff x).2 hx]; rfl] at a1
  have a2 := num_Add x y w hx hy
  rw [PN.add_yes ((PN.fits_iff _).2 hxy)] at a2
  have A1 := Lib.hid a1
  have A2 := Lib.hid a2
  clear a1 a2 hxy
  go_enter Try.func75, Try.ntmps75
  go_wp2_with fail
  refine wp_loop_rounds 3 ?_
  rw [rounds_succ]
  go_wp2_with fail
  refine A1.out.mono ?_
  rintro e w1 ⟨rfl, rfl⟩
  go_wp2_with fail
  refine (bound_must_yes _ _).mono ?_
  rintro e w1 ⟨rfl, rfl⟩
  go_wp2_with fail
  rw [rounds_succ]
  go_wp2_with fail
  refine A2.out.mono ?_
  rintro e w1 ⟨rfl, rfl⟩
  go_wp2_with fail
  refine (bound_must_yes _ _).mono ?_
  rintro e w1 ⟨rfl, rfl⟩
  go_wp2_with fail
  rw [rounds_succ]
  go_wp2_with fail
  go_ret
  exact ⟨rfl, rfl⟩

theorem bound_plus_no (b : Nat) (x y : Int) (w : World) (hx : -9223372036854775808 ≤ x ∧ x ≤ 9223372036854775807) (hy : -9223372036854775808 ≤ y ∧ y ≤ 9223372036854775807) (hxy : 9223372036854775807 < x + y)
    (c0 : w.cell? ⟨b, 0, none⟩ = some (.int .i64 x)) (c1 : w.cell? ⟨b, 1, none⟩ = some (.int .i64 y)) :
    Calls Try.prog 75 #[.slice (some ⟨b, 0, none⟩) 2 2] w fun e w' => Over e ∧ w = w' := by
  have a1 := num_Add 0 x w (by omega) hx
  rw [show PN.add 0 x = (x, true) by unfold PN.add; rw [Int.zero_add, (PN.fits_iff x).2 hx]; rfl] at a1
  have a2 := num_Add x y w hx hy
  rw [PN.add_no ((PN.fits_not _).2 (Or.inr hxy))] at a2
  have A1 := Lib.hid a1
  have A2 := Lib.hid a2
  clear a1 a2 hxy
  go_enter Try.func75, Try.ntmps75
  go_wp2_with fail
  refine wp_loop_rounds 3 ?_
  rw [rounds_succ]
  go_wp2_with fail
  refine A1.out.mono ?_
  rintro e w1 ⟨rfl, rfl⟩
  go_wp2_with fail
  refine (bound_must_yes _ _).mono ?_
  rintro e w1 ⟨rfl, rfl⟩
  go_wp2_with fail
  rw [rounds_succ]
  go_wp2_with fail
  refine A2.out.mono ?_
  rintro e w1 ⟨rfl, rfl⟩
  go_wp2_with fail
  refine (bound_must_no _ _).mono ?_
  rintro e w1 ⟨rfl, rfl⟩
  go_wp2_with fail
  exact ⟨rfl, rfl, rfl⟩

theorem bound_times (b : Nat) (x y : Int) (w : World) (hx : -9223372036854775808 ≤ x ∧ x ≤ 9223372036854775807) (hy : -9223372036854775808 ≤ y ∧ y ≤ 9223372036854775807) (hxy : -9223372036854775808 ≤ x * y ∧ x * y ≤ 9223372036854775807)
    (c0 : w.cell? ⟨b, 0, none⟩ = some (.int .i64 x)) (c1 : w.cell? ⟨b, 1, none⟩ = some (.int .i64 y)) :
    Calls Try.prog 74 #[.slice (some ⟨b, 0, none⟩) 2 2] w fun e w' => e = .returned (.int .i64 (x * y)) ∧ w = w' := by
  have a1 := num_Mul 1 x w (by omega) hx
  rw [show PN.mul 1 x = (x, true) by unfold PN.mul; rw [Int.one_mul, (PN.fits_iff x).2 hx]; rfl] at a1
  have a2 := num_Mul x y w hx hy
  rw [PN.mul_yes ((PN.fits_iff _).2 hxy)] at a2
  have A1 := Lib.hid a1
  have A2 := Lib.hid a2
  clear a1 a2 hxy
  go_enter Try.func74, Try.ntmps74
  go_wp2_with fail
  refine wp_loop_rounds 3 ?_
  rw [rounds_succ]
  go_wp2_with fail
  refine A1.out.mono ?_
  rintro e w1 ⟨rfl, rfl⟩
  go_wp2_with fail
  refine (bound_must_yes _ _).mono ?_
  rintro e w1 ⟨rfl, rfl⟩
  go_wp2_with fail
  rw [rounds_succ]
  go_wp2_with fail
  refine A2.out.mono ?_
  rintro e w1 ⟨rfl, rfl⟩
  go_wp2_with fail
  refine (bound_must_yes _ _).mono ?_
  rintro e w1 ⟨rfl, rfl⟩
  go_wp2_with fail
  rw [rounds_succ]
  go_wp2_with fail
  go_ret
  exact ⟨rfl, rfl⟩

theorem bound_times_no (b : Nat) (x y : Int) (w : World) (hx : -9223372036854775808 ≤ x ∧ x ≤ 9223372036854775807) (hy : -9223372036854775808 ≤ y ∧ y ≤ 9223372036854775807) (hxy : 9223372036854775807 < x * y)
    (c0 : w.cell? ⟨b, 0, none⟩ = some (.int .i64 x)) (c1 : w.cell? ⟨b, 1, none⟩ = some (.int .i64 y)) :
    Calls Try.prog 74 #[.slice (some ⟨b, 0, none⟩) 2 2] w fun e w' => Over e ∧ w = w' := by
  have a1 := num_Mul 1 x w (by omega) hx
  rw [show PN.mul 1 x = (x, true) by unfold PN.mul; rw [Int.one_mul, (PN.fits_iff x).2 hx]; rfl] at a1
  have a2 := num_Mul x y w hx hy
  rw [PN.mul_no ((PN.fits_not _).2 (Or.inr hxy))] at a2
  have A1 := Lib.hid a1
  have A2 := Lib.hid a2
  clear a1 a2 hxy
  go_enter Try.func74, Try.ntmps74
  go_wp2_with fail
  refine wp_loop_rounds 3 ?_
  rw [rounds_succ]
  go_wp2_with fail
  refine A1.out.mono ?_
  rintro e w1 ⟨rfl, rfl⟩
  go_wp2_with fail
  refine (bound_must_yes _ _).mono ?_
  rintro e w1 ⟨rfl, rfl⟩
  go_wp2_with fail
  rw [rounds_succ]
  go_wp2_with fail
  refine A2.out.mono ?_
  rintro e w1 ⟨rfl, rfl⟩
  go_wp2_with fail
  refine (bound_must_no _ _).mono ?_
  rintro e w1 ⟨rfl, rfl⟩
  go_wp2_with fail
  exact ⟨rfl, rfl, rfl⟩

/-- A case in memory or in an argument. -/
def caseV (c : PBd.Case) : Value := .agg #[.int .i64 c.ch, .int .i64 c.q, .int .i64 c.cl, .int .i64 c.wi, .int .i64 c.ah]
theorem bound_Right_0 (a q l i h : Int) (w : World)  (h0 : a < 1) :
    Calls Try.prog 16 #[.agg #[.int .i64 a, .int .i64 q, .int .i64 l, .int .i64 i, .int .i64 h]] w fun e w' => e = .returned (.bool false) ∧ w.alloc (.cells #[.int .i64 a, .int .i64 q, .int .i64 l, .int .i64 i, .int .i64 h] 23) = w' := by
  go_enter Try.func16, Try.ntmps16
  go_wp2_with fail
  go_ret
  first | exact ⟨rfl, rfl⟩ | exact ⟨ret_bool (by simp; omega), rfl⟩
theorem bound_Right_1 (a q l i h : Int) (w : World) (h0 : 1 ≤ a) (h1 : 1048576 < a) :
    Calls Try.prog 16 #[.agg #[.int .i64 a, .int .i64 q, .int .i64 l, .int .i64 i, .int .i64 h]] w fun e w' => e = .returned (.bool false) ∧ w.alloc (.cells #[.int .i64 a, .int .i64 q, .int .i64 l, .int .i64 i, .int .i64 h] 23) = w' := by
  go_enter Try.func16, Try.ntmps16
  go_wp2_with fail
  go_ret
  first | exact ⟨rfl, rfl⟩ | exact ⟨ret_bool (by simp; omega), rfl⟩
theorem bound_Right_2 (a q l i h : Int) (w : World) (h0 : 1 ≤ a) (h1 : a ≤ 1048576) (h2 : q < 1) :
    Calls Try.prog 16 #[.agg #[.int .i64 a, .int .i64 q, .int .i64 l, .int .i64 i, .int .i64 h]] w fun e w' => e = .returned (.bool false) ∧ w.alloc (.cells #[.int .i64 a, .int .i64 q, .int .i64 l, .int .i64 i, .int .i64 h] 23) = w' := by
  go_enter Try.func16, Try.ntmps16
  go_wp2_with fail
  go_ret
  first | exact ⟨rfl, rfl⟩ | exact ⟨ret_bool (by simp; omega), rfl⟩
theorem bound_Right_3 (a q l i h : Int) (w : World) (h0 : 1 ≤ a) (h1 : a ≤ 1048576) (h2 : 1 ≤ q) (h3 : l < 1) :
    Calls Try.prog 16 #[.agg #[.int .i64 a, .int .i64 q, .int .i64 l, .int .i64 i, .int .i64 h]] w fun e w' => e = .returned (.bool false) ∧ w.alloc (.cells #[.int .i64 a, .int .i64 q, .int .i64 l, .int .i64 i, .int .i64 h] 23) = w' := by
  go_enter Try.func16, Try.ntmps16
  go_wp2_with fail
  go_ret
  first | exact ⟨rfl, rfl⟩ | exact ⟨ret_bool (by simp; omega), rfl⟩
theorem bound_Right_4 (a q l i h : Int) (w : World) (h0 : 1 ≤ a) (h1 : a ≤ 1048576) (h2 : 1 ≤ q) (h3 : 1 ≤ l) (h4 : 64 < l) :
    Calls Try.prog 16 #[.agg #[.int .i64 a, .int .i64 q, .int .i64 l, .int .i64 i, .int .i64 h]] w fun e w' => e = .returned (.bool false) ∧ w.alloc (.cells #[.int .i64 a, .int .i64 q, .int .i64 l, .int .i64 i, .int .i64 h] 23) = w' := by
  go_enter Try.func16, Try.ntmps16
  go_wp2_with fail
  go_ret
  first | exact ⟨rfl, rfl⟩ | exact ⟨ret_bool (by simp; omega), rfl⟩
theorem bound_Right_5 (a q l i h : Int) (w : World) (h0 : 1 ≤ a) (h1 : a ≤ 1048576) (h2 : 1 ≤ q) (h3 : 1 ≤ l) (h4 : l ≤ 64) (h5 : i < 1) :
    Calls Try.prog 16 #[.agg #[.int .i64 a, .int .i64 q, .int .i64 l, .int .i64 i, .int .i64 h]] w fun e w' => e = .returned (.bool false) ∧ w.alloc (.cells #[.int .i64 a, .int .i64 q, .int .i64 l, .int .i64 i, .int .i64 h] 23) = w' := by
  go_enter Try.func16, Try.ntmps16
  go_wp2_with fail
  go_ret
  first | exact ⟨rfl, rfl⟩ | exact ⟨ret_bool (by simp; omega), rfl⟩
theorem bound_Right_6 (a q l i h : Int) (w : World) (h0 : 1 ≤ a) (h1 : a ≤ 1048576) (h2 : 1 ≤ q) (h3 : 1 ≤ l) (h4 : l ≤ 64) (h5 : 1 ≤ i) (h6 : h < 0) :
    Calls Try.prog 16 #[.agg #[.int .i64 a, .int .i64 q, .int .i64 l, .int .i64 i, .int .i64 h]] w fun e w' => e = .returned (.bool false) ∧ w.alloc (.cells #[.int .i64 a, .int .i64 q, .int .i64 l, .int .i64 i, .int .i64 h] 23) = w' := by
  go_enter Try.func16, Try.ntmps16
  go_wp2_with fail
  go_ret
  first | exact ⟨rfl, rfl⟩ | exact ⟨ret_bool (by simp; omega), rfl⟩
theorem bound_Right_7 (a q l i h : Int) (w : World) (h0 : 1 ≤ a) (h1 : a ≤ 1048576) (h2 : 1 ≤ q) (h3 : 1 ≤ l) (h4 : l ≤ 64) (h5 : 1 ≤ i) (h6 : 0 ≤ h) (h7 : 256 < h) :
    Calls Try.prog 16 #[.agg #[.int .i64 a, .int .i64 q, .int .i64 l, .int .i64 i, .int .i64 h]] w fun e w' => e = .returned (.bool false) ∧ w.alloc (.cells #[.int .i64 a, .int .i64 q, .int .i64 l, .int .i64 i, .int .i64 h] 23) = w' := by
  go_enter Try.func16, Try.ntmps16
  go_wp2_with fail
  go_ret
  first | exact ⟨rfl, rfl⟩ | exact ⟨ret_bool (by simp; omega), rfl⟩
theorem bound_Right_8 (a q l i h : Int) (w : World) (h0 : 1 ≤ a) (h1 : a ≤ 1048576) (h2 : 1 ≤ q) (h3 : 1 ≤ l) (h4 : l ≤ 64) (h5 : 1 ≤ i) (h6 : 0 ≤ h) (h7 : h ≤ 256) :
    Calls Try.prog 16 #[.agg #[.int .i64 a, .int .i64 q, .int .i64 l, .int .i64 i, .int .i64 h]] w fun e w' => e = .returned (.bool true) ∧ w.alloc (.cells #[.int .i64 a, .int .i64 q, .int .i64 l, .int .i64 i, .int .i64 h] 23) = w' := by
  go_enter Try.func16, Try.ntmps16
  go_wp2_with fail
  go_ret
  first | exact ⟨rfl, rfl⟩ | exact ⟨ret_bool (by simp; omega), rfl⟩
/-- The block into which a case is boxed. -/
def caseBox (c : PBd.Case) : Obj := .cells #[.int .i64 c.ch, .int .i64 c.q, .int .i64 c.cl, .int .i64 c.wi, .int .i64 c.ah] 23
theorem bound_Right (c : PBd.Case) (w : World) :
    Calls Try.prog 16 #[caseV c] w fun e w' => e = .returned (.bool (decide c.right)) ∧ w.alloc (caseBox c) = w' := by
  obtain ⟨a, q, l, i, h⟩ := c
  by_cases g0 : a < 1
  · rw [decide_eq_false (by unfold PBd.Case.right; dsimp only; omega)]
    exact bound_Right_0 a q l i h w (by omega)
  by_cases g1 : 1048576 < a
  · rw [decide_eq_false (by unfold PBd.Case.right; dsimp only; omega)]
    exact bound_Right_1 a q l i h w (by omega) (by omega)
  by_cases g2 : q < 1
  · rw [decide_eq_false (by unfold PBd.Case.right; dsimp only; omega)]
    exact bound_Right_2 a q l i h w (by omega) (by omega) (by omega)
  by_cases g3 : l < 1
  · rw [decide_eq_false (by unfold PBd.Case.right; dsimp only; omega)]
    exact bound_Right_3 a q l i h w (by omega) (by omega) (by omega) (by omega)
  by_cases g4 : 64 < l
  · rw [decide_eq_false (by unfold PBd.Case.right; dsimp only; omega)]
    exact bound_Right_4 a q l i h w (by omega) (by omega) (by omega) (by omega) (by omega)
  by_cases g5 : i < 1
  · rw [decide_eq_false (by unfold PBd.Case.right; dsimp only; omega)]
    exact bound_Right_5 a q l i h w (by omega) (by omega) (by omega) (by omega) (by omega) (by omega)
  by_cases g6 : h < 0
  · rw [decide_eq_false (by unfold PBd.Case.right; dsimp only; omega)]
    exact bound_Right_6 a q l i h w (by omega) (by omega) (by omega) (by omega) (by omega) (by omega) (by omega)
  by_cases g7 : 256 < h
  · rw [decide_eq_false (by unfold PBd.Case.right; dsimp only; omega)]
    exact bound_Right_7 a q l i h w (by omega) (by omega) (by omega) (by omega) (by omega) (by omega) (by omega) (by omega)
  rw [decide_eq_true (by unfold PBd.Case.right; dsimp only; omega)]
  exact bound_Right_8 a q l i h w (by omega) (by omega) (by omega) (by omega) (by omega) (by omega) (by omega) (by omega)
end Go.Proofs.Ytfgfnfjeopjbgaa
