/-
  The contracts of account.Grant, Need, and of the reference's Right, Do (2), Need: those of the texts Acct* that this seat has.
-/
import Derived.Test.YthmjbfocpdiikaaAcctA
import Derived.Test.YthmjbfocpdiikaaBase2
import Derived.RegionTactic
import Derived.ChangeAlike
namespace Go.Proofs.Ythmjbfocpdiikaa
open Go.RowKit
set_option linter.unusedVariables false
attribute [local go_sem] drewN_alloc drewN_setCell

set_option maxHeartbeats 1000000 in
theorem apply_nr (c h r n : Int) (w : World) (bc : -9223372036854775808 ≤ c ∧ c ≤ 9223372036854775807) (bh : -9223372036854775808 ≤ h ∧ h ≤ 9223372036854775807) (br : -9223372036854775808 ≤ r ∧ r ≤ 9223372036854775807) (bn : -9223372036854775808 ≤ n ∧ n ≤ 9223372036854775807) (K : Nat) (err : Int) (hr : PA.right c h r = false) :
    Calls Try.prog 77 #[.agg #[.int .i64 c, .int .i64 h, .int .i64 r], .int .i64 n, .agg #[.func (Fn.func K) #[] #[], .int .i64 err]] w fun e w' => e = .returned (.tuple #[.agg #[.int .i64 0, .int .i64 0, .int .i64 0], .int .i64 2]) ∧ Below w.heap.size w w' := by
  go_enter Try.func77, Try.ntmps77
  go_wp2_with fail
  refine (account_Right c h r _ bc bh br).mono ?_
  rintro e w1 ⟨rfl, k1⟩
  have qk1_0 := cell_after (a := ⟨w.heap.size, 0, none⟩) (v := .int .i64 c) k1 (by first | (dsimp only; omega) | (simp; done) | (simp; omega)) (by first | assumption | exact cell_alloc _ (by dsimp only; omega) (by assumption) | (simp [go_sem]; done))
  have fqk1_0 := frozen_after (a := ⟨w.heap.size, 0, none⟩) k1 (by first | (dsimp only; omega) | (simp; done) | (simp; omega)) (by first | assumption | exact frozen_alloc _ (by dsimp only; omega) (by assumption) | (simp [go_sem]; done))
  have qk1_1 := cell_after (a := ⟨w.heap.size, 1, none⟩) (v := .int .i64 h) k1 (by first | (dsimp only; omega) | (simp; done) | (simp; omega)) (by first | assumption | exact cell_alloc _ (by dsimp only; omega) (by assumption) | (simp [go_sem]; done))
  have fqk1_1 := frozen_after (a := ⟨w.heap.size, 1, none⟩) k1 (by first | (dsimp only; omega) | (simp; done) | (simp; omega)) (by first | assumption | exact frozen_alloc _ (by dsimp only; omega) (by assumption) | (simp [go_sem]; done))
  have qk1_2 := cell_after (a := ⟨w.heap.size, 2, none⟩) (v := .int .i64 r) k1 (by first | (dsimp only; omega) | (simp; done) | (simp; omega)) (by first | assumption | exact cell_alloc _ (by dsimp only; omega) (by assumption) | (simp [go_sem]; done))
  have fqk1_2 := frozen_after (a := ⟨w.heap.size, 2, none⟩) k1 (by first | (dsimp only; omega) | (simp; done) | (simp; omega)) (by first | assumption | exact frozen_alloc _ (by dsimp only; omega) (by assumption) | (simp [go_sem]; done))
  have qk1_3 := cell_after (a := ⟨w.heap.size + 1, 0, none⟩) (v := .func (Fn.func K) #[] #[]) k1 (by first | (dsimp only; omega) | (simp; done) | (simp; omega)) (by first | assumption | exact cell_alloc _ (by dsimp only; omega) (by assumption) | (simp [go_sem]; done))
  have fqk1_3 := frozen_after (a := ⟨w.heap.size + 1, 0, none⟩) k1 (by first | (dsimp only; omega) | (simp; done) | (simp; omega)) (by first | assumption | exact frozen_alloc _ (by dsimp only; omega) (by assumption) | (simp [go_sem]; done))
  have qk1_4 := cell_after (a := ⟨w.heap.size + 1, 1, none⟩) (v := .int .i64 err) k1 (by first | (dsimp only; omega) | (simp; done) | (simp; omega)) (by first | assumption | exact cell_alloc _ (by dsimp only; omega) (by assumption) | (simp [go_sem]; done))
  have fqk1_4 := frozen_after (a := ⟨w.heap.size + 1, 1, none⟩) k1 (by first | (dsimp only; omega) | (simp; done) | (simp; omega)) (by first | assumption | exact frozen_alloc _ (by dsimp only; omega) (by assumption) | (simp [go_sem]; done))
  have qk1_5 := cell_after (a := ⟨w.heap.size + 1 + 1, 0, none⟩) (v := .int .i64 0) k1 (by first | (dsimp only; omega) | (simp; done) | (simp; omega)) (by first | assumption | exact cell_alloc _ (by dsimp only; omega) (by assumption) | (simp [go_sem]; done))
  have fqk1_5 := frozen_after (a := ⟨w.heap.size + 1 + 1, 0, none⟩) k1 (by first | (dsimp only; omega) | (simp; done) | (simp; omega)) (by first | assumption | exact frozen_alloc _ (by dsimp only; omega) (by assumption) | (simp [go_sem]; done))
  have qk1_6 := cell_after (a := ⟨w.heap.size + 1 + 1, 1, none⟩) (v := .int .i64 0) k1 (by first | (dsimp only; omega) | (simp; done) | (simp; omega)) (by first | assumption | exact cell_alloc _ (by dsimp only; omega) (by assumption) | (simp [go_sem]; done))
  have fqk1_6 := frozen_after (a := ⟨w.heap.size + 1 + 1, 1, none⟩) k1 (by first | (dsimp only; omega) | (simp; done) | (simp; omega)) (by first | assumption | exact frozen_alloc _ (by dsimp only; omega) (by assumption) | (simp [go_sem]; done))
  have qk1_7 := cell_after (a := ⟨w.heap.size + 1 + 1, 2, none⟩) (v := .int .i64 0) k1 (by first | (dsimp only; omega) | (simp; done) | (simp; omega)) (by first | assumption | exact cell_alloc _ (by dsimp only; omega) (by assumption) | (simp [go_sem]; done))
  have fqk1_7 := frozen_after (a := ⟨w.heap.size + 1 + 1, 2, none⟩) k1 (by first | (dsimp only; omega) | (simp; done) | (simp; omega)) (by first | assumption | exact frozen_alloc _ (by dsimp only; omega) (by assumption) | (simp [go_sem]; done))
  have s1 := k1.size
  simp only [World.size_alloc] at s1
  have s1' : w.heap.size + 1 + 1 < w1.heap.size := by omega
  have s1'' : w.heap.size + 1 < w1.heap.size := by omega
  have s1a : w.heap.size < w1.heap.size := by omega
  have K1 : Below w.heap.size w w1 := (by repeat (first | exact Below.refl _ _ | assumption | refine bel_drew ?_ | refine bel_drewN ?_ _ | refine bel_alloc ?_ _ | refine bel_set ?_ (by first | (dsimp only; omega) | (simp; done) | (simp; omega)) _ | refine bel_trans ?_ (by assumption)))
  clear k1 s1
  go_wp2_with fail
  refine bodyPost_ret (v := .tuple #[.agg #[.int .i64 0, .int .i64 0, .int .i64 0], .int .i64 2]) (by simp [results, Try.results77, go_sem, *]) rfl ⟨rfl, (by repeat (first | exact Below.refl _ _ | assumption | refine bel_drew ?_ | refine bel_drewN ?_ _ | refine bel_alloc ?_ _ | refine bel_set ?_ (by first | (dsimp only; omega) | (simp; done) | (simp; omega)) _ | refine bel_trans ?_ (by assumption)))⟩

set_option maxHeartbeats 1000000 in
theorem apply_n0 (c h r n : Int) (w : World) (bc : -9223372036854775808 ≤ c ∧ c ≤ 9223372036854775807) (bh : -9223372036854775808 ≤ h ∧ h ≤ 9223372036854775807) (br : -9223372036854775808 ≤ r ∧ r ≤ 9223372036854775807) (bn : -9223372036854775808 ≤ n ∧ n ≤ 9223372036854775807) (K : Nat) (err : Int) (hr : PA.right c h r = true) (n1 : n < 1) :
    Calls Try.prog 77 #[.agg #[.int .i64 c, .int .i64 h, .int .i64 r], .int .i64 n, .agg #[.func (Fn.func K) #[] #[], .int .i64 err]] w fun e w' => e = .returned (.tuple #[.agg #[.int .i64 0, .int .i64 0, .int .i64 0], .int .i64 2]) ∧ Below w.heap.size w w' := by
  go_enter Try.func77, Try.ntmps77
  go_wp2_with fail
  refine (account_Right c h r _ bc bh br).mono ?_
  rintro e w1 ⟨rfl, k1⟩
  have qk1_0 := cell_after (a := ⟨w.heap.size, 0, none⟩) (v := .int .i64 c) k1 (by first | (dsimp only; omega) | (simp; done) | (simp; omega)) (by first | assumption | exact cell_alloc _ (by dsimp only; omega) (by assumption) | (simp [go_sem]; done))
  have fqk1_0 := frozen_after (a := ⟨w.heap.size, 0, none⟩) k1 (by first | (dsimp only; omega) | (simp; done) | (simp; omega)) (by first | assumption | exact frozen_alloc _ (by dsimp only; omega) (by assumption) | (simp [go_sem]; done))
  have qk1_1 := cell_after (a := ⟨w.heap.size, 1, none⟩) (v := .int .i64 h) k1 (by first | (dsimp only; omega) | (simp; done) | (simp; omega)) (by first | assumption | exact cell_alloc _ (by dsimp only; omega) (by assumption) | (simp [go_sem]; done))
  have fqk1_1 := frozen_after (a := ⟨w.heap.size, 1, none⟩) k1 (by first | (dsimp only; omega) | (simp; done) | (simp; omega)) (by first | assumption | exact frozen_alloc _ (by dsimp only; omega) (by assumption) | (simp [go_sem]; done))
  have qk1_2 := cell_after (a := ⟨w.heap.size, 2, none⟩) (v := .int .i64 r) k1 (by first | (dsimp only; omega) | (simp; done) | (simp; omega)) (by first | assumption | exact cell_alloc _ (by dsimp only; omega) (by assumption) | (simp [go_sem]; done))
  have fqk1_2 := frozen_after (a := ⟨w.heap.size, 2, none⟩) k1 (by first | (dsimp only; omega) | (simp; done) | (simp; omega)) (by first | assumption | exact frozen_alloc _ (by dsimp only; omega) (by assumption) | (simp [go_sem]; done))
  have qk1_3 := cell_after (a := ⟨w.heap.size + 1, 0, none⟩) (v := .func (Fn.func K) #[] #[]) k1 (by first | (dsimp only; omega) | (simp; done) | (simp; omega)) (by first | assumption | exact cell_alloc _ (by dsimp only; omega) (by assumption) | (simp [go_sem]; done))
  have fqk1_3 := frozen_after (a := ⟨w.heap.size + 1, 0, none⟩) k1 (by first | (dsimp only; omega) | (simp; done) | (simp; omega)) (by first | assumption | exact frozen_alloc _ (by dsimp only; omega) (by assumption) | (simp [go_sem]; done))
  have qk1_4 := cell_after (a := ⟨w.heap.size + 1, 1, none⟩) (v := .int .i64 err) k1 (by first | (dsimp only; omega) | (simp; done) | (simp; omega)) (by first | assumption | exact cell_alloc _ (by dsimp only; omega) (by assumption) | (simp [go_sem]; done))
  have fqk1_4 := frozen_after (a := ⟨w.heap.size + 1, 1, none⟩) k1 (by first | (dsimp only; omega) | (simp; done) | (simp; omega)) (by first | assumption | exact frozen_alloc _ (by dsimp only; omega) (by assumption) | (simp [go_sem]; done))
  have qk1_5 := cell_after (a := ⟨w.heap.size + 1 + 1, 0, none⟩) (v := .int .i64 0) k1 (by first | (dsimp only; omega) | (simp; done) | (simp; omega)) (by first | assumption | exact cell_alloc _ (by dsimp only; omega) (by assumption) | (simp [go_sem]; done))
  have fqk1_5 := frozen_after (a := ⟨w.heap.size + 1 + 1, 0, none⟩) k1 (by first | (dsimp only; omega) | (simp; done) | (simp; omega)) (by first | assumption | exact frozen_alloc _ (by dsimp only; omega) (by assumption) | (simp [go_sem]; done))
  have qk1_6 := cell_after (a := ⟨w.heap.size + 1 + 1, 1, none⟩) (v := .int .i64 0) k1 (by first | (dsimp only; omega) | (simp; done) | (simp; omega)) (by first | assumption | exact cell_alloc _ (by dsimp only; omega) (by assumption) | (simp [go_sem]; done))
  have fqk1_6 := frozen_after (a := ⟨w.heap.size + 1 + 1, 1, none⟩) k1 (by first | (dsimp only; omega) | (simp; done) | (simp; omega)) (by first | assumption | exact frozen_alloc _ (by dsimp only; omega) (by assumption) | (simp [go_sem]; done))
  have qk1_7 := cell_after (a := ⟨w.heap.size + 1 + 1, 2, none⟩) (v := .int .i64 0) k1 (by first | (dsimp only; omega) | (simp; done) | (simp; omega)) (by first | assumption | exact cell_alloc _ (by dsimp only; omega) (by assumption) | (simp [go_sem]; done))
  have fqk1_7 := frozen_after (a := ⟨w.heap.size + 1 + 1, 2, none⟩) k1 (by first | (dsimp only; omega) | (simp; done) | (simp; omega)) (by first | assumption | exact frozen_alloc _ (by dsimp only; omega) (by assumption) | (simp [go_sem]; done))
  have s1 := k1.size
  simp only [World.size_alloc] at s1
  have s1' : w.heap.size + 1 + 1 < w1.heap.size := by omega
  have s1'' : w.heap.size + 1 < w1.heap.size := by omega
  have s1a : w.heap.size < w1.heap.size := by omega
  have K1 : Below w.heap.size w w1 := (by repeat (first | exact Below.refl _ _ | assumption | refine bel_drew ?_ | refine bel_drewN ?_ _ | refine bel_alloc ?_ _ | refine bel_set ?_ (by first | (dsimp only; omega) | (simp; done) | (simp; omega)) _ | refine bel_trans ?_ (by assumption)))
  clear k1 s1
  go_wp2_with fail
  refine bodyPost_ret (v := .tuple #[.agg #[.int .i64 0, .int .i64 0, .int .i64 0], .int .i64 2]) (by simp [results, Try.results77, go_sem, *]) rfl ⟨rfl, (by repeat (first | exact Below.refl _ _ | assumption | refine bel_drew ?_ | refine bel_drewN ?_ _ | refine bel_alloc ?_ _ | refine bel_set ?_ (by first | (dsimp only; omega) | (simp; done) | (simp; omega)) _ | refine bel_trans ?_ (by assumption)))⟩

set_option maxHeartbeats 1000000 in
theorem apply_big (c h r n : Int) (w : World) (bc : -9223372036854775808 ≤ c ∧ c ≤ 9223372036854775807) (bh : -9223372036854775808 ≤ h ∧ h ≤ 9223372036854775807) (br : -9223372036854775808 ≤ r ∧ r ≤ 9223372036854775807) (bn : -9223372036854775808 ≤ n ∧ n ≤ 9223372036854775807) (K : Nat) (err : Int) (hr : PA.right c h r = true) (n1 : 1048576 < n) :
    Calls Try.prog 77 #[.agg #[.int .i64 c, .int .i64 h, .int .i64 r], .int .i64 n, .agg #[.func (Fn.func K) #[] #[], .int .i64 err]] w fun e w' => e = .returned (.tuple #[.agg #[.int .i64 0, .int .i64 0, .int .i64 0], .int .i64 err]) ∧ Below w.heap.size w w' := by
  have n2 : 1 ≤ n := by omega
  go_enter Try.func77, Try.ntmps77
  go_wp2_with fail
  refine (account_Right c h r _ bc bh br).mono ?_
  rintro e w1 ⟨rfl, k1⟩
  have qk1_0 := cell_after (a := ⟨w.heap.size, 0, none⟩) (v := .int .i64 c) k1 (by first | (dsimp only; omega) | (simp; done) | (simp; omega)) (by first | assumption | exact cell_alloc _ (by dsimp only; omega) (by assumption) | (simp [go_sem]; done))
  have fqk1_0 := frozen_after (a := ⟨w.heap.size, 0, none⟩) k1 (by first | (dsimp only; omega) | (simp; done) | (simp; omega)) (by first | assumption | exact frozen_alloc _ (by dsimp only; omega) (by assumption) | (simp [go_sem]; done))
  have qk1_1 := cell_after (a := ⟨w.heap.size, 1, none⟩) (v := .int .i64 h) k1 (by first | (dsimp only; omega) | (simp; done) | (simp; omega)) (by first | assumption | exact cell_alloc _ (by dsimp only; omega) (by assumption) | (simp [go_sem]; done))
  have fqk1_1 := frozen_after (a := ⟨w.heap.size, 1, none⟩) k1 (by first | (dsimp only; omega) | (simp; done) | (simp; omega)) (by first | assumption | exact frozen_alloc _ (by dsimp only; omega) (by assumption) | (simp [go_sem]; done))
  have qk1_2 := cell_after (a := ⟨w.heap.size, 2, none⟩) (v := .int .i64 r) k1 (by first | (dsimp only; omega) | (simp; done) | (simp; omega)) (by first | assumption | exact cell_alloc _ (by dsimp only; omega) (by assumption) | (simp [go_sem]; done))
  have fqk1_2 := frozen_after (a := ⟨w.heap.size, 2, none⟩) k1 (by first | (dsimp only; omega) | (simp; done) | (simp; omega)) (by first | assumption | exact frozen_alloc _ (by dsimp only; omega) (by assumption) | (simp [go_sem]; done))
  have qk1_3 := cell_after (a := ⟨w.heap.size + 1, 0, none⟩) (v := .func (Fn.func K) #[] #[]) k1 (by first | (dsimp only; omega) | (simp; done) | (simp; omega)) (by first | assumption | exact cell_alloc _ (by dsimp only; omega) (by assumption) | (simp [go_sem]; done))
  have fqk1_3 := frozen_after (a := ⟨w.heap.size + 1, 0, none⟩) k1 (by first | (dsimp only; omega) | (simp; done) | (simp; omega)) (by first | assumption | exact frozen_alloc _ (by dsimp only; omega) (by assumption) | (simp [go_sem]; done))
  have qk1_4 := cell_after (a := ⟨w.heap.size + 1, 1, none⟩) (v := .int .i64 err) k1 (by first | (dsimp only; omega) | (simp; done) | (simp; omega)) (by first | assumption | exact cell_alloc _ (by dsimp only; omega) (by assumption) | (simp [go_sem]; done))
  have fqk1_4 := frozen_after (a := ⟨w.heap.size + 1, 1, none⟩) k1 (by first | (dsimp only; omega) | (simp; done) | (simp; omega)) (by first | assumption | exact frozen_alloc _ (by dsimp only; omega) (by assumption) | (simp [go_sem]; done))
  have qk1_5 := cell_after (a := ⟨w.heap.size + 1 + 1, 0, none⟩) (v := .int .i64 0) k1 (by first | (dsimp only; omega) | (simp; done) | (simp; omega)) (by first | assumption | exact cell_alloc _ (by dsimp only; omega) (by assumption) | (simp [go_sem]; done))
  have fqk1_5 := frozen_after (a := ⟨w.heap.size + 1 + 1, 0, none⟩) k1 (by first | (dsimp only; omega) | (simp; done) | (simp; omega)) (by first | assumption | exact frozen_alloc _ (by dsimp only; omega) (by assumption) | (simp [go_sem]; done))
  have qk1_6 := cell_after (a := ⟨w.heap.size + 1 + 1, 1, none⟩) (v := .int .i64 0) k1 (by first | (dsimp only; omega) | (simp; done) | (simp; omega)) (by first | assumption | exact cell_alloc _ (by dsimp only; omega) (by assumption) | (simp [go_sem]; done))
  have fqk1_6 := frozen_after (a := ⟨w.heap.size + 1 + 1, 1, none⟩) k1 (by first | (dsimp only; omega) | (simp; done) | (simp; omega)) (by first | assumption | exact frozen_alloc _ (by dsimp only; omega) (by assumption) | (simp [go_sem]; done))
  have qk1_7 := cell_after (a := ⟨w.heap.size + 1 + 1, 2, none⟩) (v := .int .i64 0) k1 (by first | (dsimp only; omega) | (simp; done) | (simp; omega)) (by first | assumption | exact cell_alloc _ (by dsimp only; omega) (by assumption) | (simp [go_sem]; done))
  have fqk1_7 := frozen_after (a := ⟨w.heap.size + 1 + 1, 2, none⟩) k1 (by first | (dsimp only; omega) | (simp; done) | (simp; omega)) (by first | assumption | exact frozen_alloc _ (by dsimp only; omega) (by assumption) | (simp [go_sem]; done))
  have s1 := k1.size
  simp only [World.size_alloc] at s1
  have s1' : w.heap.size + 1 + 1 < w1.heap.size := by omega
  have s1'' : w.heap.size + 1 < w1.heap.size := by omega
  have s1a : w.heap.size < w1.heap.size := by omega
  have K1 : Below w.heap.size w w1 := (by repeat (first | exact Below.refl _ _ | assumption | refine bel_drew ?_ | refine bel_drewN ?_ _ | refine bel_alloc ?_ _ | refine bel_set ?_ (by first | (dsimp only; omega) | (simp; done) | (simp; omega)) _ | refine bel_trans ?_ (by assumption)))
  clear k1 s1
  go_wp2_with fail
  go_region
  all_goals go_wp2
  all_goals (refine bodyPost_ret (v := .tuple #[.agg #[.int .i64 0, .int .i64 0, .int .i64 0], .int .i64 err]) (by simp [results, Try.results77, go_sem, *]) rfl ⟨rfl, (by repeat (first | exact Below.refl _ _ | assumption | refine bel_drew ?_ | refine bel_drewN ?_ _ | refine bel_alloc ?_ _ | refine bel_set ?_ (by first | (dsimp only; omega) | (simp; done) | (simp; omega)) _ | refine bel_trans ?_ (by assumption)))⟩)

theorem closure_Grant (c h r n : Int) (w : World) (n1 : 1 ≤ n) (n2 : n ≤ 1048576) (i3 : 0 ≤ h) (i4 : 0 ≤ r) (i5 : h ≤ 1048576) (i6 : r ≤ 1048576) :
    Calls Try.prog 78 #[.agg #[.int .i64 c, .int .i64 h, .int .i64 r], .int .i64 n] w fun e w' => e = .returned (.agg #[.int .i64 c, .int .i64 (h + n), .int .i64 (r - n)]) ∧ Below w.heap.size w w' := by
  go_enter Try.func78, Try.ntmps78
  go_wp2_with fail
  refine bodyPost_ret (v := .agg #[.int .i64 c, .int .i64 (h + n), .int .i64 (r - n)]) (by simp [results, Try.results78, go_sem]) rfl ⟨rfl, (by repeat (first | exact Below.refl _ _ | assumption | refine bel_drew ?_ | refine bel_drewN ?_ _ | refine bel_alloc ?_ _ | refine bel_set ?_ (by first | (dsimp only; omega) | (simp; done) | (simp; omega)) _ | refine bel_trans ?_ (by assumption)))⟩

set_option maxHeartbeats 1000000 in
theorem apply_Grant_ok (c h r n : Int) (w : World) (bc : -9223372036854775808 ≤ c ∧ c ≤ 9223372036854775807) (bh : -9223372036854775808 ≤ h ∧ h ≤ 9223372036854775807) (br : -9223372036854775808 ≤ r ∧ r ≤ 9223372036854775807) (bn : -9223372036854775808 ≤ n ∧ n ≤ 9223372036854775807) (hr : PA.right c h r = true) (n1 : 1 ≤ n) (n2 : n ≤ 1048576) (hr2 : PA.right c (h + n) (r - n) = true) :
    Calls Try.prog 77 #[.agg #[.int .i64 c, .int .i64 h, .int .i64 r], .int .i64 n, .agg #[.func (Fn.func 78) #[] #[], .int .i64 20]] w fun e w' => e = .returned (.tuple #[.agg #[.int .i64 c, .int .i64 (h + n), .int .i64 (r - n)], .int .i64 0]) ∧ Below w.heap.size w w' := by
  have hi := (PA.right_iff c h r).1 hr
  have i1 := hi.1; have i2 := hi.2.1; have i3 := hi.2.2.1; have i4 := hi.2.2.2.1; have i5 := hi.2.2.2.2
  have i6 : h ≤ 1048576 := by omega
  have i7 : r ≤ 1048576 := by omega
  clear hi
  go_enter Try.func77, Try.ntmps77
  go_wp2_with fail
  refine (account_Right c h r _ bc bh br).mono ?_
  rintro e w1 ⟨rfl, k1⟩
  have qk1_0 := cell_after (a := ⟨w.heap.size, 0, none⟩) (v := .int .i64 c) k1 (by first | (dsimp only; omega) | (simp; done) | (simp; omega)) (by first | assumption | exact cell_alloc _ (by dsimp only; omega) (by assumption) | (simp [go_sem]; done))
  have fqk1_0 := frozen_after (a := ⟨w.heap.size, 0, none⟩) k1 (by first | (dsimp only; omega) | (simp; done) | (simp; omega)) (by first | assumption | exact frozen_alloc _ (by dsimp only; omega) (by assumption) | (simp [go_sem]; done))
  have qk1_1 := cell_after (a := ⟨w.heap.size, 1, none⟩) (v := .int .i64 h) k1 (by first | (dsimp only; omega) | (simp; done) | (simp; omega)) (by first | assumption | exact cell_alloc _ (by dsimp only; omega) (by assumption) | (simp [go_sem]; done))
  have fqk1_1 := frozen_after (a := ⟨w.heap.size, 1, none⟩) k1 (by first | (dsimp only; omega) | (simp; done) | (simp; omega)) (by first | assumption | exact frozen_alloc _ (by dsimp only; omega) (by assumption) | (simp [go_sem]; done))
  have qk1_2 := cell_after (a := ⟨w.heap.size, 2, none⟩) (v := .int .i64 r) k1 (by first | (dsimp only; omega) | (simp; done) | (simp; omega)) (by first | assumption | exact cell_alloc _ (by dsimp only; omega) (by assumption) | (simp [go_sem]; done))
  have fqk1_2 := frozen_after (a := ⟨w.heap.size, 2, none⟩) k1 (by first | (dsimp only; omega) | (simp; done) | (simp; omega)) (by first | assumption | exact frozen_alloc _ (by dsimp only; omega) (by assumption) | (simp [go_sem]; done))
  have qk1_3 := cell_after (a := ⟨w.heap.size + 1, 0, none⟩) (v := .func (Fn.func 78) #[] #[]) k1 (by first | (dsimp only; omega) | (simp; done) | (simp; omega)) (by first | assumption | exact cell_alloc _ (by dsimp only; omega) (by assumption) | (simp [go_sem]; done))
  have fqk1_3 := frozen_after (a := ⟨w.heap.size + 1, 0, none⟩) k1 (by first | (dsimp only; omega) | (simp; done) | (simp; omega)) (by first | assumption | exact frozen_alloc _ (by dsimp only; omega) (by assumption) | (simp [go_sem]; done))
  have qk1_4 := cell_after (a := ⟨w.heap.size + 1, 1, none⟩) (v := .int .i64 20) k1 (by first | (dsimp only; omega) | (simp; done) | (simp; omega)) (by first | assumption | exact cell_alloc _ (by dsimp only; omega) (by assumption) | (simp [go_sem]; done))
  have fqk1_4 := frozen_after (a := ⟨w.heap.size + 1, 1, none⟩) k1 (by first | (dsimp only; omega) | (simp; done) | (simp; omega)) (by first | assumption | exact frozen_alloc _ (by dsimp only; omega) (by assumption) | (simp [go_sem]; done))
  have qk1_5 := cell_after (a := ⟨w.heap.size + 1 + 1, 0, none⟩) (v := .int .i64 0) k1 (by first | (dsimp only; omega) | (simp; done) | (simp; omega)) (by first | assumption | exact cell_alloc _ (by dsimp only; omega) (by assumption) | (simp [go_sem]; done))
  have fqk1_5 := frozen_after (a := ⟨w.heap.size + 1 + 1, 0, none⟩) k1 (by first | (dsimp only; omega) | (simp; done) | (simp; omega)) (by first | assumption | exact frozen_alloc _ (by dsimp only; omega) (by assumption) | (simp [go_sem]; done))
  have qk1_6 := cell_after (a := ⟨w.heap.size + 1 + 1, 1, none⟩) (v := .int .i64 0) k1 (by first | (dsimp only; omega) | (simp; done) | (simp; omega)) (by first | assumption | exact cell_alloc _ (by dsimp only; omega) (by assumption) | (simp [go_sem]; done))
  have fqk1_6 := frozen_after (a := ⟨w.heap.size + 1 + 1, 1, none⟩) k1 (by first | (dsimp only; omega) | (simp; done) | (simp; omega)) (by first | assumption | exact frozen_alloc _ (by dsimp only; omega) (by assumption) | (simp [go_sem]; done))
  have qk1_7 := cell_after (a := ⟨w.heap.size + 1 + 1, 2, none⟩) (v := .int .i64 0) k1 (by first | (dsimp only; omega) | (simp; done) | (simp; omega)) (by first | assumption | exact cell_alloc _ (by dsimp only; omega) (by assumption) | (simp [go_sem]; done))
  have fqk1_7 := frozen_after (a := ⟨w.heap.size + 1 + 1, 2, none⟩) k1 (by first | (dsimp only; omega) | (simp; done) | (simp; omega)) (by first | assumption | exact frozen_alloc _ (by dsimp only; omega) (by assumption) | (simp [go_sem]; done))
  have s1 := k1.size
  simp only [World.size_alloc] at s1
  have s1' : w.heap.size + 1 + 1 < w1.heap.size := by omega
  have s1'' : w.heap.size + 1 < w1.heap.size := by omega
  have s1a : w.heap.size < w1.heap.size := by omega
  have K1 : Below w.heap.size w w1 := (by repeat (first | exact Below.refl _ _ | assumption | refine bel_drew ?_ | refine bel_drewN ?_ _ | refine bel_alloc ?_ _ | refine bel_set ?_ (by first | (dsimp only; omega) | (simp; done) | (simp; omega)) _ | refine bel_trans ?_ (by assumption)))
  clear k1 s1
  go_wp2_with fail
  refine (closure_Grant c h r n _ n1 n2 i3 i4 i6 i7).mono ?_
  rintro e w2 ⟨rfl, k2⟩
  have qk2_0 := cell_after (a := ⟨w.heap.size, 0, none⟩) (v := .int .i64 c) k2 (by first | (dsimp only; omega) | (simp; done) | (simp; omega)) (by first | assumption | exact cell_alloc _ (by dsimp only; omega) (by assumption) | (simp [go_sem]; done))
  have fqk2_0 := frozen_after (a := ⟨w.heap.size, 0, none⟩) k2 (by first | (dsimp only; omega) | (simp; done) | (simp; omega)) (by first | assumption | exact frozen_alloc _ (by dsimp only; omega) (by assumption) | (simp [go_sem]; done))
  have qk2_1 := cell_after (a := ⟨w.heap.size, 1, none⟩) (v := .int .i64 h) k2 (by first | (dsimp only; omega) | (simp; done) | (simp; omega)) (by first | assumption | exact cell_alloc _ (by dsimp only; omega) (by assumption) | (simp [go_sem]; done))
  have fqk2_1 := frozen_after (a := ⟨w.heap.size, 1, none⟩) k2 (by first | (dsimp only; omega) | (simp; done) | (simp; omega)) (by first | assumption | exact frozen_alloc _ (by dsimp only; omega) (by assumption) | (simp [go_sem]; done))
  have qk2_2 := cell_after (a := ⟨w.heap.size, 2, none⟩) (v := .int .i64 r) k2 (by first | (dsimp only; omega) | (simp; done) | (simp; omega)) (by first | assumption | exact cell_alloc _ (by dsimp only; omega) (by assumption) | (simp [go_sem]; done))
  have fqk2_2 := frozen_after (a := ⟨w.heap.size, 2, none⟩) k2 (by first | (dsimp only; omega) | (simp; done) | (simp; omega)) (by first | assumption | exact frozen_alloc _ (by dsimp only; omega) (by assumption) | (simp [go_sem]; done))
  have qk2_3 := cell_after (a := ⟨w.heap.size + 1, 0, none⟩) (v := .func (Fn.func 78) #[] #[]) k2 (by first | (dsimp only; omega) | (simp; done) | (simp; omega)) (by first | assumption | exact cell_alloc _ (by dsimp only; omega) (by assumption) | (simp [go_sem]; done))
  have fqk2_3 := frozen_after (a := ⟨w.heap.size + 1, 0, none⟩) k2 (by first | (dsimp only; omega) | (simp; done) | (simp; omega)) (by first | assumption | exact frozen_alloc _ (by dsimp only; omega) (by assumption) | (simp [go_sem]; done))
  have qk2_4 := cell_after (a := ⟨w.heap.size + 1, 1, none⟩) (v := .int .i64 20) k2 (by first | (dsimp only; omega) | (simp; done) | (simp; omega)) (by first | assumption | exact cell_alloc _ (by dsimp only; omega) (by assumption) | (simp [go_sem]; done))
  have fqk2_4 := frozen_after (a := ⟨w.heap.size + 1, 1, none⟩) k2 (by first | (dsimp only; omega) | (simp; done) | (simp; omega)) (by first | assumption | exact frozen_alloc _ (by dsimp only; omega) (by assumption) | (simp [go_sem]; done))
  have qk2_5 := cell_after (a := ⟨w.heap.size + 1 + 1, 0, none⟩) (v := .int .i64 0) k2 (by first | (dsimp only; omega) | (simp; done) | (simp; omega)) (by first | assumption | exact cell_alloc _ (by dsimp only; omega) (by assumption) | (simp [go_sem]; done))
  have fqk2_5 := frozen_after (a := ⟨w.heap.size + 1 + 1, 0, none⟩) k2 (by first | (dsimp only; omega) | (simp; done) | (simp; omega)) (by first | assumption | exact frozen_alloc _ (by dsimp only; omega) (by assumption) | (simp [go_sem]; done))
  have qk2_6 := cell_after (a := ⟨w.heap.size + 1 + 1, 1, none⟩) (v := .int .i64 0) k2 (by first | (dsimp only; omega) | (simp; done) | (simp; omega)) (by first | assumption | exact cell_alloc _ (by dsimp only; omega) (by assumption) | (simp [go_sem]; done))
  have fqk2_6 := frozen_after (a := ⟨w.heap.size + 1 + 1, 1, none⟩) k2 (by first | (dsimp only; omega) | (simp; done) | (simp; omega)) (by first | assumption | exact frozen_alloc _ (by dsimp only; omega) (by assumption) | (simp [go_sem]; done))
  have qk2_7 := cell_after (a := ⟨w.heap.size + 1 + 1, 2, none⟩) (v := .int .i64 0) k2 (by first | (dsimp only; omega) | (simp; done) | (simp; omega)) (by first | assumption | exact cell_alloc _ (by dsimp only; omega) (by assumption) | (simp [go_sem]; done))
  have fqk2_7 := frozen_after (a := ⟨w.heap.size + 1 + 1, 2, none⟩) k2 (by first | (dsimp only; omega) | (simp; done) | (simp; omega)) (by first | assumption | exact frozen_alloc _ (by dsimp only; omega) (by assumption) | (simp [go_sem]; done))
  have s2 := k2.size
  have K2 : Below w.heap.size w w2 := bel_trans K1 k2
  have t2 : w.heap.size + 1 + 1 < w2.heap.size := by omega
  have t2' : w.heap.size + 1 < w2.heap.size := by omega
  have t2a : w.heap.size < w2.heap.size := by omega
  clear k2 s2 s1' s1'' s1a K1
  go_wp2_with fail
  refine (account_Right _ _ _ _ (by omega) (by omega) (by omega)).mono ?_
  rintro e w3 ⟨rfl, k3⟩
  have qk3_0 := cell_after (a := ⟨w.heap.size, 0, none⟩) (v := .int .i64 c) k3 (by first | (dsimp only; omega) | (simp; done) | (simp; omega)) (by first | assumption | exact cell_alloc _ (by dsimp only; omega) (by assumption) | (simp [go_sem]; done))
  have fqk3_0 := frozen_after (a := ⟨w.heap.size, 0, none⟩) k3 (by first | (dsimp only; omega) | (simp; done) | (simp; omega)) (by first | assumption | exact frozen_alloc _ (by dsimp only; omega) (by assumption) | (simp [go_sem]; done))
  have qk3_1 := cell_after (a := ⟨w.heap.size, 1, none⟩) (v := .int .i64 h) k3 (by first | (dsimp only; omega) | (simp; done) | (simp; omega)) (by first | assumption | exact cell_alloc _ (by dsimp only; omega) (by assumption) | (simp [go_sem]; done))
  have fqk3_1 := frozen_after (a := ⟨w.heap.size, 1, none⟩) k3 (by first | (dsimp only; omega) | (simp; done) | (simp; omega)) (by first | assumption | exact frozen_alloc _ (by dsimp only; omega) (by assumption) | (simp [go_sem]; done))
  have qk3_2 := cell_after (a := ⟨w.heap.size, 2, none⟩) (v := .int .i64 r) k3 (by first | (dsimp only; omega) | (simp; done) | (simp; omega)) (by first | assumption | exact cell_alloc _ (by dsimp only; omega) (by assumption) | (simp [go_sem]; done))
  have fqk3_2 := frozen_after (a := ⟨w.heap.size, 2, none⟩) k3 (by first | (dsimp only; omega) | (simp; done) | (simp; omega)) (by first | assumption | exact frozen_alloc _ (by dsimp only; omega) (by assumption) | (simp [go_sem]; done))
  have qk3_3 := cell_after (a := ⟨w.heap.size + 1, 0, none⟩) (v := .func (Fn.func 78) #[] #[]) k3 (by first | (dsimp only; omega) | (simp; done) | (simp; omega)) (by first | assumption | exact cell_alloc _ (by dsimp only; omega) (by assumption) | (simp [go_sem]; done))
  have fqk3_3 := frozen_after (a := ⟨w.heap.size + 1, 0, none⟩) k3 (by first | (dsimp only; omega) | (simp; done) | (simp; omega)) (by first | assumption | exact frozen_alloc _ (by dsimp only; omega) (by assumption) | (simp [go_sem]; done))
  have qk3_4 := cell_after (a := ⟨w.heap.size + 1, 1, none⟩) (v := .int .i64 20) k3 (by first | (dsimp only; omega) | (simp; done) | (simp; omega)) (by first | assumption | exact cell_alloc _ (by dsimp only; omega) (by assumption) | (simp [go_sem]; done))
  have fqk3_4 := frozen_after (a := ⟨w.heap.size + 1, 1, none⟩) k3 (by first | (dsimp only; omega) | (simp; done) | (simp; omega)) (by first | assumption | exact frozen_alloc _ (by dsimp only; omega) (by assumption) | (simp [go_sem]; done))
  have qk3_5 := cell_after (a := ⟨w.heap.size + 1 + 1, 0, none⟩) (v := .int .i64 0) k3 (by first | (dsimp only; omega) | (simp; done) | (simp; omega)) (by first | assumption | exact cell_alloc _ (by dsimp only; omega) (by assumption) | (simp [go_sem]; done))
  have fqk3_5 := frozen_after (a := ⟨w.heap.size + 1 + 1, 0, none⟩) k3 (by first | (dsimp only; omega) | (simp; done) | (simp; omega)) (by first | assumption | exact frozen_alloc _ (by dsimp only; omega) (by assumption) | (simp [go_sem]; done))
  have qk3_6 := cell_after (a := ⟨w.heap.size + 1 + 1, 1, none⟩) (v := .int .i64 0) k3 (by first | (dsimp only; omega) | (simp; done) | (simp; omega)) (by first | assumption | exact cell_alloc _ (by dsimp only; omega) (by assumption) | (simp [go_sem]; done))
  have fqk3_6 := frozen_after (a := ⟨w.heap.size + 1 + 1, 1, none⟩) k3 (by first | (dsimp only; omega) | (simp; done) | (simp; omega)) (by first | assumption | exact frozen_alloc _ (by dsimp only; omega) (by assumption) | (simp [go_sem]; done))
  have qk3_7 := cell_after (a := ⟨w.heap.size + 1 + 1, 2, none⟩) (v := .int .i64 0) k3 (by first | (dsimp only; omega) | (simp; done) | (simp; omega)) (by first | assumption | exact cell_alloc _ (by dsimp only; omega) (by assumption) | (simp [go_sem]; done))
  have fqk3_7 := frozen_after (a := ⟨w.heap.size + 1 + 1, 2, none⟩) k3 (by first | (dsimp only; omega) | (simp; done) | (simp; omega)) (by first | assumption | exact frozen_alloc _ (by dsimp only; omega) (by assumption) | (simp [go_sem]; done))
  have qk3_8 := cell_after (a := ⟨w2.heap.size, 0, none⟩) (v := .int .i64 c) k3 (by first | (dsimp only; omega) | (simp; done) | (simp; omega)) (by first | assumption | exact cell_alloc _ (by dsimp only; omega) (by assumption) | (simp [go_sem]; done))
  have fqk3_8 := frozen_after (a := ⟨w2.heap.size, 0, none⟩) k3 (by first | (dsimp only; omega) | (simp; done) | (simp; omega)) (by first | assumption | exact frozen_alloc _ (by dsimp only; omega) (by assumption) | (simp [go_sem]; done))
  have qk3_9 := cell_after (a := ⟨w2.heap.size, 1, none⟩) (v := .int .i64 (h + n)) k3 (by first | (dsimp only; omega) | (simp; done) | (simp; omega)) (by first | assumption | exact cell_alloc _ (by dsimp only; omega) (by assumption) | (simp [go_sem]; done))
  have fqk3_9 := frozen_after (a := ⟨w2.heap.size, 1, none⟩) k3 (by first | (dsimp only; omega) | (simp; done) | (simp; omega)) (by first | assumption | exact frozen_alloc _ (by dsimp only; omega) (by assumption) | (simp [go_sem]; done))
  have qk3_10 := cell_after (a := ⟨w2.heap.size, 2, none⟩) (v := .int .i64 (r - n)) k3 (by first | (dsimp only; omega) | (simp; done) | (simp; omega)) (by first | assumption | exact cell_alloc _ (by dsimp only; omega) (by assumption) | (simp [go_sem]; done))
  have fqk3_10 := frozen_after (a := ⟨w2.heap.size, 2, none⟩) k3 (by first | (dsimp only; omega) | (simp; done) | (simp; omega)) (by first | assumption | exact frozen_alloc _ (by dsimp only; omega) (by assumption) | (simp [go_sem]; done))
  have s3 := k3.size
  simp only [World.size_alloc] at s3
  have K3 : Below w.heap.size w w3 := bel_trans (bel_alloc K2 _) k3
  have t3 : w.heap.size + 1 + 1 < w3.heap.size := by omega
  have t3' : w.heap.size + 1 < w3.heap.size := by omega
  have t4 : w2.heap.size < w3.heap.size := by omega
  clear k3 s3 K2
  go_wp2_with fail
  refine bodyPost_ret (v := .tuple #[.agg #[.int .i64 c, .int .i64 (h + n), .int .i64 (r - n)], .int .i64 0]) (by simp [results, Try.results77, go_sem, *]) rfl ⟨rfl, (by repeat (first | exact Below.refl _ _ | assumption | refine bel_drew ?_ | refine bel_drewN ?_ _ | refine bel_alloc ?_ _ | refine bel_set ?_ (by first | (dsimp only; omega) | (simp; done) | (simp; omega)) _ | refine bel_trans ?_ (by assumption)))⟩

set_option maxHeartbeats 1000000 in
theorem apply_Grant_no (c h r n : Int) (w : World) (bc : -9223372036854775808 ≤ c ∧ c ≤ 9223372036854775807) (bh : -9223372036854775808 ≤ h ∧ h ≤ 9223372036854775807) (br : -9223372036854775808 ≤ r ∧ r ≤ 9223372036854775807) (bn : -9223372036854775808 ≤ n ∧ n ≤ 9223372036854775807) (hr : PA.right c h r = true) (n1 : 1 ≤ n) (n2 : n ≤ 1048576) (hr2 : PA.right c (h + n) (r - n) = false) :
    Calls Try.prog 77 #[.agg #[.int .i64 c, .int .i64 h, .int .i64 r], .int .i64 n, .agg #[.func (Fn.func 78) #[] #[], .int .i64 20]] w fun e w' => e = .returned (.tuple #[.agg #[.int .i64 0, .int .i64 0, .int .i64 0], .int .i64 20]) ∧ Below w.heap.size w w' := by
  have hi := (PA.right_iff c h r).1 hr
  have i1 := hi.1; have i2 := hi.2.1; have i3 := hi.2.2.1; have i4 := hi.2.2.2.1; have i5 := hi.2.2.2.2
  have i6 : h ≤ 1048576 := by omega
  have i7 : r ≤ 1048576 := by omega
  clear hi
  go_enter Try.func77, Try.ntmps77
  go_wp2_with fail
  refine (account_Right c h r _ bc bh br).mono ?_
  rintro e w1 ⟨rfl, k1⟩
  have qk1_0 := cell_after (a := ⟨w.heap.size, 0, none⟩) (v := .int .i64 c) k1 (by first | (dsimp only; omega) | (simp; done) | (simp; omega)) (by first | assumption | exact cell_alloc _ (by dsimp only; omega) (by assumption) | (simp [go_sem]; done))
  have fqk1_0 := frozen_after (a := ⟨w.heap.size, 0, none⟩) k1 (by first | (dsimp only; omega) | (simp; done) | (simp; omega)) (by first | assumption | exact frozen_alloc _ (by dsimp only; omega) (by assumption) | (simp [go_sem]; done))
  have qk1_1 := cell_after (a := ⟨w.heap.size, 1, none⟩) (v := .int .i64 h) k1 (by first | (dsimp only; omega) | (simp; done) | (simp; omega)) (by first | assumption | exact cell_alloc _ (by dsimp only; omega) (by assumption) | (simp [go_sem]; done))
  have fqk1_1 := frozen_after (a := ⟨w.heap.size, 1, none⟩) k1 (by first | (dsimp only; omega) | (simp; done) | (simp; omega)) (by first | assumption | exact frozen_alloc _ (by dsimp only; omega) (by assumption) | (simp [go_sem]; done))
  have qk1_2 := cell_after (a := ⟨w.heap.size, 2, none⟩) (v := .int .i64 r) k1 (by first | (dsimp only; omega) | (simp; done) | (simp; omega)) (by first | assumption | exact cell_alloc _ (by dsimp only; omega) (by assumption) | (simp [go_sem]; done))
  have fqk1_2 := frozen_after (a := ⟨w.heap.size, 2, none⟩) k1 (by first | (dsimp only; omega) | (simp; done) | (simp; omega)) (by first | assumption | exact frozen_alloc _ (by dsimp only; omega) (by assumption) | (simp [go_sem]; done))
  have qk1_3 := cell_after (a := ⟨w.heap.size + 1, 0, none⟩) (v := .func (Fn.func 78) #[] #[]) k1 (by first | (dsimp only; omega) | (simp; done) | (simp; omega)) (by first | assumption | exact cell_alloc _ (by dsimp only; omega) (by assumption) | (simp [go_sem]; done))
  have fqk1_3 := frozen_after (a := ⟨w.heap.size + 1, 0, none⟩) k1 (by first | (dsimp only; omega) | (simp; done) | (simp; omega)) (by first | assumption | exact frozen_alloc _ (by dsimp only; omega) (by assumption) | (simp [go_sem]; done))
  have qk1_4 := cell_after (a := ⟨w.heap.size + 1, 1, none⟩) (v := .int .i64 20) k1 (by first | (dsimp only; omega) | (simp; done) | (simp; omega)) (by first | assumption | exact cell_alloc _ (by dsimp only; omega) (by assumption) | (simp [go_sem]; done))
  have fqk1_4 := frozen_after (a := ⟨w.heap.size + 1, 1, none⟩) k1 (by first | (dsimp only; omega) | (simp; done) | (simp; omega)) (by first | assumption | exact frozen_alloc _ (by dsimp only; omega) (by assumption) | (simp [go_sem]; done))
  have qk1_5 := cell_after (a := ⟨w.heap.size + 1 + 1, 0, none⟩) (v := .int .i64 0) k1 (by first | (dsimp only; omega) | (simp; done) | (simp; omega)) (by first | assumption | exact cell_alloc _ (by dsimp only; omega) (by assumption) | (simp [go_sem]; done))
  have fqk1_5 := frozen_after (a := ⟨w.heap.size + 1 + 1, 0, none⟩) k1 (by first | (dsimp only; omega) | (simp; done) | (simp; omega)) (by first | assumption | exact frozen_alloc _ (by dsimp only; omega) (by assumption) | (simp [go_sem]; done))
  have qk1_6 := cell_after (a := ⟨w.heap.size + 1 + 1, 1, none⟩) (v := .int .i64 0) k1 (by first | (dsimp only; omega) | (simp; done) | (simp; omega)) (by first | assumption | exact cell_alloc _ (by dsimp only; omega) (by assumption) | (simp [go_sem]; done))
  have fqk1_6 := frozen_after (a := ⟨w.heap.size + 1 + 1, 1, none⟩) k1 (by first | (dsimp only; omega) | (simp; done) | (simp; omega)) (by first | assumption | exact frozen_alloc _ (by dsimp only; omega) (by assumption) | (simp [go_sem]; done))
  have qk1_7 := cell_after (a := ⟨w.heap.size + 1 + 1, 2, none⟩) (v := .int .i64 0) k1 (by first | (dsimp only; omega) | (simp; done) | (simp; omega)) (by first | assumption | exact cell_alloc _ (by dsimp only; omega) (by assumption) | (simp [go_sem]; done))
  have fqk1_7 := frozen_after (a := ⟨w.heap.size + 1 + 1, 2, none⟩) k1 (by first | (dsimp only; omega) | (simp; done) | (simp; omega)) (by first | assumption | exact frozen_alloc _ (by dsimp only; omega) (by assumption) | (simp [go_sem]; done))
  have s1 := k1.size
  simp only [World.size_alloc] at s1
  have s1' : w.heap.size + 1 + 1 < w1.heap.size := by omega
  have s1'' : w.heap.size + 1 < w1.heap.size := by omega
  have s1a : w.heap.size < w1.heap.size := by omega
  have K1 : Below w.heap.size w w1 := (by repeat (first | exact Below.refl _ _ | assumption | refine bel_drew ?_ | refine bel_drewN ?_ _ | refine bel_alloc ?_ _ | refine bel_set ?_ (by first | (dsimp only; omega) | (simp; done) | (simp; omega)) _ | refine bel_trans ?_ (by assumption)))
  clear k1 s1
  go_wp2_with fail
  refine (closure_Grant c h r n _ n1 n2 i3 i4 i6 i7).mono ?_
  rintro e w2 ⟨rfl, k2⟩
  have qk2_0 := cell_after (a := ⟨w.heap.size, 0, none⟩) (v := .int .i64 c) k2 (by first | (dsimp only; omega) | (simp; done) | (simp; omega)) (by first | assumption | exact cell_alloc _ (by dsimp only; omega) (by assumption) | (simp [go_sem]; done))
  have fqk2_0 := frozen_after (a := ⟨w.heap.size, 0, none⟩) k2 (by first | (dsimp only; omega) | (simp; done) | (simp; omega)) (by first | assumption | exact frozen_alloc _ (by dsimp only; omega) (by assumption) | (simp [go_sem]; done))
  have qk2_1 := cell_after (a := ⟨w.heap.size, 1, none⟩) (v := .int .i64 h) k2 (by first | (dsimp only; omega) | (simp; done) | (simp; omega)) (by first | assumption | exact cell_alloc _ (by dsimp only; omega) (by assumption) | (simp [go_sem]; done))
  have fqk2_1 := frozen_after (a := ⟨w.heap.size, 1, none⟩) k2 (by first | (dsimp only; omega) | (simp; done) | (simp; omega)) (by first | assumption | exact frozen_alloc _ (by dsimp only; omega) (by assumption) | (simp [go_sem]; done))
  have qk2_2 := cell_after (a := ⟨w.heap.size, 2, none⟩) (v := .int .i64 r) k2 (by first | (dsimp only; omega) | (simp; done) | (simp; omega)) (by first | assumption | exact cell_alloc _ (by dsimp only; omega) (by assumption) | (simp [go_sem]; done))
  have fqk2_2 := frozen_after (a := ⟨w.heap.size, 2, none⟩) k2 (by first | (dsimp only; omega) | (simp; done) | (simp; omega)) (by first | assumption | exact frozen_alloc _ (by dsimp only; omega) (by assumption) | (simp [go_sem]; done))
  have qk2_3 := cell_after (a := ⟨w.heap.size + 1, 0, none⟩) (v := .func (Fn.func 78) #[] #[]) k2 (by first | (dsimp only; omega) | (simp; done) | (simp; omega)) (by first | assumption | exact cell_alloc _ (by dsimp only; omega) (by assumption) | (simp [go_sem]; done))
  have fqk2_3 := frozen_after (a := ⟨w.heap.size + 1, 0, none⟩) k2 (by first | (dsimp only; omega) | (simp; done) | (simp; omega)) (by first | assumption | exact frozen_alloc _ (by dsimp only; omega) (by assumption) | (simp [go_sem]; done))
  have qk2_4 := cell_after (a := ⟨w.heap.size + 1, 1, none⟩) (v := .int .i64 20) k2 (by first | (dsimp only; omega) | (simp; done) | (simp; omega)) (by first | assumption | exact cell_alloc _ (by dsimp only; omega) (by assumption) | (simp [go_sem]; done))
  have fqk2_4 := frozen_after (a := ⟨w.heap.size + 1, 1, none⟩) k2 (by first | (dsimp only; omega) | (simp; done) | (simp; omega)) (by first | assumption | exact frozen_alloc _ (by dsimp only; omega) (by assumption) | (simp [go_sem]; done))
  have qk2_5 := cell_after (a := ⟨w.heap.size + 1 + 1, 0, none⟩) (v := .int .i64 0) k2 (by first | (dsimp only; omega) | (simp; done) | (simp; omega)) (by first | assumption | exact cell_alloc _ (by dsimp only; omega) (by assumption) | (simp [go_sem]; done))
  have fqk2_5 := frozen_after (a := ⟨w.heap.size + 1 + 1, 0, none⟩) k2 (by first | (dsimp only; omega) | (simp; done) | (simp; omega)) (by first | assumption | exact frozen_alloc _ (by dsimp only; omega) (by assumption) | (simp [go_sem]; done))
  have qk2_6 := cell_after (a := ⟨w.heap.size + 1 + 1, 1, none⟩) (v := .int .i64 0) k2 (by first | (dsimp only; omega) | (simp; done) | (simp; omega)) (by first | assumption | exact cell_alloc _ (by dsimp only; omega) (by assumption) | (simp [go_sem]; done))
  have fqk2_6 := frozen_after (a := ⟨w.heap.size + 1 + 1, 1, none⟩) k2 (by first | (dsimp only; omega) | (simp; done) | (simp; omega)) (by first | assumption | exact frozen_alloc _ (by dsimp only; omega) (by assumption) | (simp [go_sem]; done))
  have qk2_7 := cell_after (a := ⟨w.heap.size + 1 + 1, 2, none⟩) (v := .int .i64 0) k2 (by first | (dsimp only; omega) | (simp; done) | (simp; omega)) (by first | assumption | exact cell_alloc _ (by dsimp only; omega) (by assumption) | (simp [go_sem]; done))
  have fqk2_7 := frozen_after (a := ⟨w.heap.size + 1 + 1, 2, none⟩) k2 (by first | (dsimp only; omega) | (simp; done) | (simp; omega)) (by first | assumption | exact frozen_alloc _ (by dsimp only; omega) (by assumption) | (simp [go_sem]; done))
  have s2 := k2.size
  have K2 : Below w.heap.size w w2 := bel_trans K1 k2
  have t2 : w.heap.size + 1 + 1 < w2.heap.size := by omega
  have t2' : w.heap.size + 1 < w2.heap.size := by omega
  have t2a : w.heap.size < w2.heap.size := by omega
  clear k2 s2 s1' s1'' s1a K1
  go_wp2_with fail
  refine (account_Right _ _ _ _ (by omega) (by omega) (by omega)).mono ?_
  rintro e w3 ⟨rfl, k3⟩
  have qk3_0 := cell_after (a := ⟨w.heap.size, 0, none⟩) (v := .int .i64 c) k3 (by first | (dsimp only; omega) | (simp; done) | (simp; omega)) (by first | assumption | exact cell_alloc _ (by dsimp only; omega) (by assumption) | (simp [go_sem]; done))
  have fqk3_0 := frozen_after (a := ⟨w.heap.size, 0, none⟩) k3 (by first | (dsimp only; omega) | (simp; done) | (simp; omega)) (by first | assumption | exact frozen_alloc _ (by dsimp only; omega) (by assumption) | (simp [go_sem]; done))
  have qk3_1 := cell_after (a := ⟨w.heap.size, 1, none⟩) (v := .int .i64 h) k3 (by first | (dsimp only; omega) | (simp; done) | (simp; omega)) (by first | assumption | exact cell_alloc _ (by dsimp only; omega) (by assumption) | (simp [go_sem]; done))
  have fqk3_1 := frozen_after (a := ⟨w.heap.size, 1, none⟩) k3 (by first | (dsimp only; omega) | (simp; done) | (simp; omega)) (by first | assumption | exact frozen_alloc _ (by dsimp only; omega) (by assumption) | (simp [go_sem]; done))
  have qk3_2 := cell_after (a := ⟨w.heap.size, 2, none⟩) (v := .int .i64 r) k3 (by first | (dsimp only; omega) | (simp; done) | (simp; omega)) (by first | assumption | exact cell_alloc _ (by dsimp only; omega) (by assumption) | (simp [go_sem]; done))
  have fqk3_2 := frozen_after (a := ⟨w.heap.size, 2, none⟩) k3 (by first | (dsimp only; omega) | (simp; done) | (simp; omega)) (by first | assumption | exact frozen_alloc _ (by dsimp only; omega) (by assumption) | (simp [go_sem]; done))
  have qk3_3 := cell_after (a := ⟨w.heap.size + 1, 0, none⟩) (v := .func (Fn.func 78) #[] #[]) k3 (by first | (dsimp only; omega) | (simp; done) | (simp; omega)) (by first | assumption | exact cell_alloc _ (by dsimp only; omega) (by assumption) | (simp [go_sem]; done))
  have fqk3_3 := frozen_after (a := ⟨w.heap.size + 1, 0, none⟩) k3 (by first | (dsimp only; omega) | (simp; done) | (simp; omega)) (by first | assumption | exact frozen_alloc _ (by dsimp only; omega) (by assumption) | (simp [go_sem]; done))
  have qk3_4 := cell_after (a := ⟨w.heap.size + 1, 1, none⟩) (v := .int .i64 20) k3 (by first | (dsimp only; omega) | (simp; done) | (simp; omega)) (by first | assumption | exact cell_alloc _ (by dsimp only; omega) (by assumption) | (simp [go_sem]; done))
  have fqk3_4 := frozen_after (a := ⟨w.heap.size + 1, 1, none⟩) k3 (by first | (dsimp only; omega) | (simp; done) | (simp; omega)) (by first | assumption | exact frozen_alloc _ (by dsimp only; omega) (by assumption) | (simp [go_sem]; done))
  have qk3_5 := cell_after (a := ⟨w.heap.size + 1 + 1, 0, none⟩) (v := .int .i64 0) k3 (by first | (dsimp only; omega) | (simp; done) | (simp; omega)) (by first | assumption | exact cell_alloc _ (by dsimp only; omega) (by assumption) | (simp [go_sem]; done))
  have fqk3_5 := frozen_after (a := ⟨w.heap.size + 1 + 1, 0, none⟩) k3 (by first | (dsimp only; omega) | (simp; done) | (simp; omega)) (by first | assumption | exact frozen_alloc _ (by dsimp only; omega) (by assumption) | (simp [go_sem]; done))
  have qk3_6 := cell_after (a := ⟨w.heap.size + 1 + 1, 1, none⟩) (v := .int .i64 0) k3 (by first | (dsimp only; omega) | (simp; done) | (simp; omega)) (by first | assumption | exact cell_alloc _ (by dsimp only; omega) (by assumption) | (simp [go_sem]; done))
  have fqk3_6 := frozen_after (a := ⟨w.heap.size + 1 + 1, 1, none⟩) k3 (by first | (dsimp only; omega) | (simp; done) | (simp; omega)) (by first | assumption | exact frozen_alloc _ (by dsimp only; omega) (by assumption) | (simp [go_sem]; done))
  have qk3_7 := cell_after (a := ⟨w.heap.size + 1 + 1, 2, none⟩) (v := .int .i64 0) k3 (by first | (dsimp only; omega) | (simp; done) | (simp; omega)) (by first | assumption | exact cell_alloc _ (by dsimp only; omega) (by assumption) | (simp [go_sem]; done))
  have fqk3_7 := frozen_after (a := ⟨w.heap.size + 1 + 1, 2, none⟩) k3 (by first | (dsimp only; omega) | (simp; done) | (simp; omega)) (by first | assumption | exact frozen_alloc _ (by dsimp only; omega) (by assumption) | (simp [go_sem]; done))
  have qk3_8 := cell_after (a := ⟨w2.heap.size, 0, none⟩) (v := .int .i64 c) k3 (by first | (dsimp only; omega) | (simp; done) | (simp; omega)) (by first | assumption | exact cell_alloc _ (by dsimp only; omega) (by assumption) | (simp [go_sem]; done))
  have fqk3_8 := frozen_after (a := ⟨w2.heap.size, 0, none⟩) k3 (by first | (dsimp only; omega) | (simp; done) | (simp; omega)) (by first | assumption | exact frozen_alloc _ (by dsimp only; omega) (by assumption) | (simp [go_sem]; done))
  have qk3_9 := cell_after (a := ⟨w2.heap.size, 1, none⟩) (v := .int .i64 (h + n)) k3 (by first | (dsimp only; omega) | (simp; done) | (simp; omega)) (by first | assumption | exact cell_alloc _ (by dsimp only; omega) (by assumption) | (simp [go_sem]; done))
  have fqk3_9 := frozen_after (a := ⟨w2.heap.size, 1, none⟩) k3 (by first | (dsimp only; omega) | (simp; done) | (simp; omega)) (by first | assumption | exact frozen_alloc _ (by dsimp only; omega) (by assumption) | (simp [go_sem]; done))
  have qk3_10 := cell_after (a := ⟨w2.heap.size, 2, none⟩) (v := .int .i64 (r - n)) k3 (by first | (dsimp only; omega) | (simp; done) | (simp; omega)) (by first | assumption | exact cell_alloc _ (by dsimp only; omega) (by assumption) | (simp [go_sem]; done))
  have fqk3_10 := frozen_after (a := ⟨w2.heap.size, 2, none⟩) k3 (by first | (dsimp only; omega) | (simp; done) | (simp; omega)) (by first | assumption | exact frozen_alloc _ (by dsimp only; omega) (by assumption) | (simp [go_sem]; done))
  have s3 := k3.size
  simp only [World.size_alloc] at s3
  have K3 : Below w.heap.size w w3 := bel_trans (bel_alloc K2 _) k3
  have t3 : w.heap.size + 1 + 1 < w3.heap.size := by omega
  have t3' : w.heap.size + 1 < w3.heap.size := by omega
  have t4 : w2.heap.size < w3.heap.size := by omega
  clear k3 s3 K2
  go_wp2_with fail
  go_region
  all_goals go_wp2
  all_goals (refine bodyPost_ret (v := .tuple #[.agg #[.int .i64 0, .int .i64 0, .int .i64 0], .int .i64 20]) (by simp [results, Try.results77, go_sem, *]) rfl ⟨rfl, (by repeat (first | exact Below.refl _ _ | assumption | refine bel_drew ?_ | refine bel_drewN ?_ _ | refine bel_alloc ?_ _ | refine bel_set ?_ (by first | (dsimp only; omega) | (simp; done) | (simp; omega)) _ | refine bel_trans ?_ (by assumption)))⟩)

theorem apply_Grant (c h r n : Int) (w : World) (bc : -9223372036854775808 ≤ c ∧ c ≤ 9223372036854775807) (bh : -9223372036854775808 ≤ h ∧ h ≤ 9223372036854775807) (br : -9223372036854775808 ≤ r ∧ r ≤ 9223372036854775807) (bn : -9223372036854775808 ≤ n ∧ n ≤ 9223372036854775807) :
    Calls Try.prog 77 #[.agg #[.int .i64 c, .int .i64 h, .int .i64 r], .int .i64 n, .agg #[.func (Fn.func 78) #[] #[], .int .i64 20]] w fun e w' => e = .returned (.tuple #[.agg #[.int .i64 (PA.doo 2 c h r n).1.1, .int .i64 (PA.doo 2 c h r n).1.2.1, .int .i64 (PA.doo 2 c h r n).1.2.2], .int .i64 (PA.doo 2 c h r n).2]) ∧ Below w.heap.size w w' := by
  cases hr : PA.right c h r
  · rw [PA.doo_arg (Or.inl hr)]; exact apply_nr c h r n w bc bh br bn _ _ hr
  · have hi := (PA.right_iff c h r).1 hr
    by_cases n1 : 1 ≤ n
    · by_cases n2 : n ≤ 1048576
      · by_cases hy : n ≤ r
        · rw [PA.doo2_yes hr n1 hy]; exact apply_Grant_ok c h r n w bc bh br bn hr n1 n2 ((PA.right_iff _ _ _).2 (by omega))
        · rw [PA.doo2_no hr n1 (by omega)]; exact apply_Grant_no c h r n w bc bh br bn hr n1 n2 ((PA.right_no _ _ _).2 (by omega))
      · rw [PA.doo2_no hr n1 (by omega)]; exact apply_big c h r n w bc bh br bn _ _ hr (by omega)
    · rw [PA.doo_arg (Or.inr (by omega))]; exact apply_n0 c h r n w bc bh br bn _ _ hr (by omega)

set_option maxHeartbeats 1000000 in
theorem account_Grant (c h r n : Int) (w : World) (bc : -9223372036854775808 ≤ c ∧ c ≤ 9223372036854775807) (bh : -9223372036854775808 ≤ h ∧ h ≤ 9223372036854775807) (br : -9223372036854775808 ≤ r ∧ r ≤ 9223372036854775807) (bn : -9223372036854775808 ≤ n ∧ n ≤ 9223372036854775807) :
    Calls Try.prog 59 #[.agg #[.int .i64 c, .int .i64 h, .int .i64 r], .int .i64 n] w fun e w' => e = .returned (.tuple #[.agg #[.int .i64 (PA.doo 2 c h r n).1.1, .int .i64 (PA.doo 2 c h r n).1.2.1, .int .i64 (PA.doo 2 c h r n).1.2.2], .int .i64 (PA.doo 2 c h r n).2]) ∧ Below w.heap.size w w' := by
  go_enter Try.func59, Try.ntmps59
  go_wp2_with fail
  refine (apply_Grant c h r n _ bc bh br bn).mono ?_
  rintro e w1 ⟨rfl, k1⟩
  have qk1_0 := cell_after (a := ⟨w.heap.size + 1, 0, none⟩) (v := .int .i64 0) k1 (by first | (dsimp only; omega) | (simp; done) | (simp; omega)) (by first | assumption | exact cell_alloc _ (by dsimp only; omega) (by assumption) | (simp [go_sem]; done))
  have fqk1_0 := frozen_after (a := ⟨w.heap.size + 1, 0, none⟩) k1 (by first | (dsimp only; omega) | (simp; done) | (simp; omega)) (by first | assumption | exact frozen_alloc _ (by dsimp only; omega) (by assumption) | (simp [go_sem]; done))
  have qk1_1 := cell_after (a := ⟨w.heap.size + 1, 1, none⟩) (v := .int .i64 0) k1 (by first | (dsimp only; omega) | (simp; done) | (simp; omega)) (by first | assumption | exact cell_alloc _ (by dsimp only; omega) (by assumption) | (simp [go_sem]; done))
  have fqk1_1 := frozen_after (a := ⟨w.heap.size + 1, 1, none⟩) k1 (by first | (dsimp only; omega) | (simp; done) | (simp; omega)) (by first | assumption | exact frozen_alloc _ (by dsimp only; omega) (by assumption) | (simp [go_sem]; done))
  have qk1_2 := cell_after (a := ⟨w.heap.size + 1, 2, none⟩) (v := .int .i64 0) k1 (by first | (dsimp only; omega) | (simp; done) | (simp; omega)) (by first | assumption | exact cell_alloc _ (by dsimp only; omega) (by assumption) | (simp [go_sem]; done))
  have fqk1_2 := frozen_after (a := ⟨w.heap.size + 1, 2, none⟩) k1 (by first | (dsimp only; omega) | (simp; done) | (simp; omega)) (by first | assumption | exact frozen_alloc _ (by dsimp only; omega) (by assumption) | (simp [go_sem]; done))
  have s1 := k1.size
  simp only [World.size_alloc] at s1
  have K1 : Below w.heap.size w w1 := (by repeat (first | exact Below.refl _ _ | assumption | refine bel_drew ?_ | refine bel_drewN ?_ _ | refine bel_alloc ?_ _ | refine bel_set ?_ (by first | (dsimp only; omega) | (simp; done) | (simp; omega)) _ | refine bel_trans ?_ (by assumption)))
  clear k1
  go_wp2_with fail
  refine bodyPost_ret (v := .tuple #[.agg #[.int .i64 (PA.doo 2 c h r n).1.1, .int .i64 (PA.doo 2 c h r n).1.2.1, .int .i64 (PA.doo 2 c h r n).1.2.2], .int .i64 (PA.doo 2 c h r n).2]) (by simp [results, Try.results59, go_sem, *]) rfl ⟨rfl, (by repeat (first | exact Below.refl _ _ | assumption | refine bel_drew ?_ | refine bel_drewN ?_ _ | refine bel_alloc ?_ _ | refine bel_set ?_ (by first | (dsimp only; omega) | (simp; done) | (simp; omega)) _ | refine bel_trans ?_ (by assumption)))⟩

theorem ref26_Right (c h r : Int) (w : World) (bc : -9223372036854775808 ≤ c ∧ c ≤ 9223372036854775807) (bh : -9223372036854775808 ≤ h ∧ h ≤ 9223372036854775807) (br : -9223372036854775808 ≤ r ∧ r ≤ 9223372036854775807) :
    Calls Try.prog 22 #[.agg #[.int .i64 c, .int .i64 h, .int .i64 r]] w fun e w' => e = .returned (.bool (PA.right c h r)) ∧ Below w.heap.size w w' := by
  by_cases g : 0 ≤ h ∧ 1 ≤ c ∧ c ≤ 1048576 ∧ h ≤ c
  · obtain ⟨g1, g2, g3, g4⟩ := g
    go_enter Try.func22, Try.ntmps22
    go_wp2
    all_goals (go_ret; exact ⟨ret_bool (by rw [Bool.eq_iff_iff, PA.right_iff]; (try simp); (try omega)), (by repeat (first | exact Below.refl _ _ | assumption | refine bel_drew ?_ | refine bel_drewN ?_ _ | refine bel_alloc ?_ _ | refine bel_set ?_ (by first | (dsimp only; omega) | (simp; done) | (simp; omega)) _ | refine bel_trans ?_ (by assumption)))⟩)
  · have G := Lib.hid g
    clear g
    have hr : PA.right c h r = false := (PA.right_no _ _ _).2 (by have := G.out; omega)
    rw [hr]
    clear hr
    go_enter Try.func22, Try.ntmps22
    go_wp2
    all_goals (go_ret; exact ⟨ret_bool (by first | rfl | (exfalso; have := G.out; omega) | (have := G.out; simp; omega)), (by repeat (first | exact Below.refl _ _ | assumption | refine bel_drew ?_ | refine bel_drewN ?_ _ | refine bel_alloc ?_ _ | refine bel_set ?_ (by first | (dsimp only; omega) | (simp; done) | (simp; omega)) _ | refine bel_trans ?_ (by assumption)))⟩)

theorem ref26_Do2_nr (c h r n : Int) (w : World) (bc : -9223372036854775808 ≤ c ∧ c ≤ 9223372036854775807) (bh : -9223372036854775808 ≤ h ∧ h ≤ 9223372036854775807) (br : -9223372036854775808 ≤ r ∧ r ≤ 9223372036854775807) (bn : -9223372036854775808 ≤ n ∧ n ≤ 9223372036854775807) (hr : PA.right c h r = false) :
    Calls Try.prog 60 #[.int .i64 2, .agg #[.int .i64 c, .int .i64 h, .int .i64 r], .int .i64 n] w fun e w' => e = .returned (.tuple #[.agg #[.int .i64 0, .int .i64 0, .int .i64 0], .int .i64 2]) ∧ Below w.heap.size w w' := by
  go_enter Try.func60, Try.ntmps60
  go_wp2_with fail
  refine (ref26_Right c h r _ bc bh br).mono ?_
  rintro e w1 ⟨rfl, k1⟩
  have qk1_0 := cell_after (a := ⟨w.heap.size, 0, none⟩) (v := .int .i64 c) k1 (by first | (dsimp only; omega) | (simp; done) | (simp; omega)) (by first | assumption | exact cell_alloc _ (by dsimp only; omega) (by assumption) | (simp [go_sem]; done))
  have fqk1_0 := frozen_after (a := ⟨w.heap.size, 0, none⟩) k1 (by first | (dsimp only; omega) | (simp; done) | (simp; omega)) (by first | assumption | exact frozen_alloc _ (by dsimp only; omega) (by assumption) | (simp [go_sem]; done))
  have qk1_1 := cell_after (a := ⟨w.heap.size, 1, none⟩) (v := .int .i64 h) k1 (by first | (dsimp only; omega) | (simp; done) | (simp; omega)) (by first | assumption | exact cell_alloc _ (by dsimp only; omega) (by assumption) | (simp [go_sem]; done))
  have fqk1_1 := frozen_after (a := ⟨w.heap.size, 1, none⟩) k1 (by first | (dsimp only; omega) | (simp; done) | (simp; omega)) (by first | assumption | exact frozen_alloc _ (by dsimp only; omega) (by assumption) | (simp [go_sem]; done))
  have qk1_2 := cell_after (a := ⟨w.heap.size, 2, none⟩) (v := .int .i64 r) k1 (by first | (dsimp only; omega) | (simp; done) | (simp; omega)) (by first | assumption | exact cell_alloc _ (by dsimp only; omega) (by assumption) | (simp [go_sem]; done))
  have fqk1_2 := frozen_after (a := ⟨w.heap.size, 2, none⟩) k1 (by first | (dsimp only; omega) | (simp; done) | (simp; omega)) (by first | assumption | exact frozen_alloc _ (by dsimp only; omega) (by assumption) | (simp [go_sem]; done))
  have qk1_3 := cell_after (a := ⟨w.heap.size + 1, 0, none⟩) (v := .int .i64 0) k1 (by first | (dsimp only; omega) | (simp; done) | (simp; omega)) (by first | assumption | exact cell_alloc _ (by dsimp only; omega) (by assumption) | (simp [go_sem]; done))
  have fqk1_3 := frozen_after (a := ⟨w.heap.size + 1, 0, none⟩) k1 (by first | (dsimp only; omega) | (simp; done) | (simp; omega)) (by first | assumption | exact frozen_alloc _ (by dsimp only; omega) (by assumption) | (simp [go_sem]; done))
  have qk1_4 := cell_after (a := ⟨w.heap.size + 1, 1, none⟩) (v := .int .i64 0) k1 (by first | (dsimp only; omega) | (simp; done) | (simp; omega)) (by first | assumption | exact cell_alloc _ (by dsimp only; omega) (by assumption) | (simp [go_sem]; done))
  have fqk1_4 := frozen_after (a := ⟨w.heap.size + 1, 1, none⟩) k1 (by first | (dsimp only; omega) | (simp; done) | (simp; omega)) (by first | assumption | exact frozen_alloc _ (by dsimp only; omega) (by assumption) | (simp [go_sem]; done))
  have qk1_5 := cell_after (a := ⟨w.heap.size + 1, 2, none⟩) (v := .int .i64 0) k1 (by first | (dsimp only; omega) | (simp; done) | (simp; omega)) (by first | assumption | exact cell_alloc _ (by dsimp only; omega) (by assumption) | (simp [go_sem]; done))
  have fqk1_5 := frozen_after (a := ⟨w.heap.size + 1, 2, none⟩) k1 (by first | (dsimp only; omega) | (simp; done) | (simp; omega)) (by first | assumption | exact frozen_alloc _ (by dsimp only; omega) (by assumption) | (simp [go_sem]; done))
  have s1 := k1.size
  simp only [World.size_alloc] at s1
  have K1 : Below w.heap.size w w1 := (by repeat (first | exact Below.refl _ _ | assumption | refine bel_drew ?_ | refine bel_drewN ?_ _ | refine bel_alloc ?_ _ | refine bel_set ?_ (by first | (dsimp only; omega) | (simp; done) | (simp; omega)) _ | refine bel_trans ?_ (by assumption)))
  clear k1
  go_wp2_with fail
  refine bodyPost_ret (v := .tuple #[.agg #[.int .i64 0, .int .i64 0, .int .i64 0], .int .i64 2]) (by simp [results, Try.results60, go_sem, *]) rfl ⟨rfl, (by repeat (first | exact Below.refl _ _ | assumption | refine bel_drew ?_ | refine bel_drewN ?_ _ | refine bel_alloc ?_ _ | refine bel_set ?_ (by first | (dsimp only; omega) | (simp; done) | (simp; omega)) _ | refine bel_trans ?_ (by assumption)))⟩

theorem ref26_Do2_n0 (c h r n : Int) (w : World) (bc : -9223372036854775808 ≤ c ∧ c ≤ 9223372036854775807) (bh : -9223372036854775808 ≤ h ∧ h ≤ 9223372036854775807) (br : -9223372036854775808 ≤ r ∧ r ≤ 9223372036854775807) (bn : -9223372036854775808 ≤ n ∧ n ≤ 9223372036854775807) (hr : PA.right c h r = true) (n1 : n < 1) :
    Calls Try.prog 60 #[.int .i64 2, .agg #[.int .i64 c, .int .i64 h, .int .i64 r], .int .i64 n] w fun e w' => e = .returned (.tuple #[.agg #[.int .i64 0, .int .i64 0, .int .i64 0], .int .i64 2]) ∧ Below w.heap.size w w' := by
  go_enter Try.func60, Try.ntmps60
  go_wp2_with fail
  refine (ref26_Right c h r _ bc bh br).mono ?_
  rintro e w1 ⟨rfl, k1⟩
  have qk1_0 := cell_after (a := ⟨w.heap.size, 0, none⟩) (v := .int .i64 c) k1 (by first | (dsimp only; omega) | (simp; done) | (simp; omega)) (by first | assumption | exact cell_alloc _ (by dsimp only; omega) (by assumption) | (simp [go_sem]; done))
  have fqk1_0 := frozen_after (a := ⟨w.heap.size, 0, none⟩) k1 (by first | (dsimp only; omega) | (simp; done) | (simp; omega)) (by first | assumption | exact frozen_alloc _ (by dsimp only; omega) (by assumption) | (simp [go_sem]; done))
  have qk1_1 := cell_after (a := ⟨w.heap.size, 1, none⟩) (v := .int .i64 h) k1 (by first | (dsimp only; omega) | (simp; done) | (simp; omega)) (by first | assumption | exact cell_alloc _ (by dsimp only; omega) (by assumption) | (simp [go_sem]; done))
  have fqk1_1 := frozen_after (a := ⟨w.heap.size, 1, none⟩) k1 (by first | (dsimp only; omega) | (simp; done) | (simp; omega)) (by first | assumption | exact frozen_alloc _ (by dsimp only; omega) (by assumption) | (simp [go_sem]; done))
  have qk1_2 := cell_after (a := ⟨w.heap.size, 2, none⟩) (v := .int .i64 r) k1 (by first | (dsimp only; omega) | (simp; done) | (simp; omega)) (by first | assumption | exact cell_alloc _ (by dsimp only; omega) (by assumption) | (simp [go_sem]; done))
  have fqk1_2 := frozen_after (a := ⟨w.heap.size, 2, none⟩) k1 (by first | (dsimp only; omega) | (simp; done) | (simp; omega)) (by first | assumption | exact frozen_alloc _ (by dsimp only; omega) (by assumption) | (simp [go_sem]; done))
  have qk1_3 := cell_after (a := ⟨w.heap.size + 1, 0, none⟩) (v := .int .i64 0) k1 (by first | (dsimp only; omega) | (simp; done) | (simp; omega)) (by first | assumption | exact cell_alloc _ (by dsimp only; omega) (by assumption) | (simp [go_sem]; done))
  have fqk1_3 := frozen_after (a := ⟨w.heap.size + 1, 0, none⟩) k1 (by first | (dsimp only; omega) | (simp; done) | (simp; omega)) (by first | assumption | exact frozen_alloc _ (by dsimp only; omega) (by assumption) | (simp [go_sem]; done))
  have qk1_4 := cell_after (a := ⟨w.heap.size + 1, 1, none⟩) (v := .int .i64 0) k1 (by first | (dsimp only; omega) | (simp; done) | (simp; omega)) (by first | assumption | exact cell_alloc _ (by dsimp only; omega) (by assumption) | (simp [go_sem]; done))
  have fqk1_4 := frozen_after (a := ⟨w.heap.size + 1, 1, none⟩) k1 (by first | (dsimp only; omega) | (simp; done) | (simp; omega)) (by first | assumption | exact frozen_alloc _ (by dsimp only; omega) (by assumption) | (simp [go_sem]; done))
  have qk1_5 := cell_after (a := ⟨w.heap.size + 1, 2, none⟩) (v := .int .i64 0) k1 (by first | (dsimp only; omega) | (simp; done) | (simp; omega)) (by first | assumption | exact cell_alloc _ (by dsimp only; omega) (by assumption) | (simp [go_sem]; done))
  have fqk1_5 := frozen_after (a := ⟨w.heap.size + 1, 2, none⟩) k1 (by first | (dsimp only; omega) | (simp; done) | (simp; omega)) (by first | assumption | exact frozen_alloc _ (by dsimp only; omega) (by assumption) | (simp [go_sem]; done))
  have s1 := k1.size
  simp only [World.size_alloc] at s1
  have K1 : Below w.heap.size w w1 := (by repeat (first | exact Below.refl _ _ | assumption | refine bel_drew ?_ | refine bel_drewN ?_ _ | refine bel_alloc ?_ _ | refine bel_set ?_ (by first | (dsimp only; omega) | (simp; done) | (simp; omega)) _ | refine bel_trans ?_ (by assumption)))
  clear k1
  go_wp2_with fail
  refine bodyPost_ret (v := .tuple #[.agg #[.int .i64 0, .int .i64 0, .int .i64 0], .int .i64 2]) (by simp [results, Try.results60, go_sem, *]) rfl ⟨rfl, (by repeat (first | exact Below.refl _ _ | assumption | refine bel_drew ?_ | refine bel_drewN ?_ _ | refine bel_alloc ?_ _ | refine bel_set ?_ (by first | (dsimp only; omega) | (simp; done) | (simp; omega)) _ | refine bel_trans ?_ (by assumption)))⟩

theorem ref26_Do2_ok (c h r n : Int) (w : World) (bc : -9223372036854775808 ≤ c ∧ c ≤ 9223372036854775807) (bh : -9223372036854775808 ≤ h ∧ h ≤ 9223372036854775807) (br : -9223372036854775808 ≤ r ∧ r ≤ 9223372036854775807) (bn : -9223372036854775808 ≤ n ∧ n ≤ 9223372036854775807) (hr : PA.right c h r = true) (n1 : 1 ≤ n) (n2 : n ≤ r) :
    Calls Try.prog 60 #[.int .i64 2, .agg #[.int .i64 c, .int .i64 h, .int .i64 r], .int .i64 n] w fun e w' => e = .returned (.tuple #[.agg #[.int .i64 c, .int .i64 (h + n), .int .i64 (r - n)], .int .i64 0]) ∧ Below w.heap.size w w' := by
  have hi := (PA.right_iff c h r).1 hr
  have i1 := hi.1; have i2 := hi.2.1; have i3 := hi.2.2.1; have i4 := hi.2.2.2.1; have i5 := hi.2.2.2.2
  have i6 : h ≤ 1048576 := by omega
  have i7 : r ≤ 1048576 := by omega
  have i8 : n ≤ 1048576 := by omega
  clear hi
  go_enter Try.func60, Try.ntmps60
  go_wp2_with fail
  refine (ref26_Right c h r _ bc bh br).mono ?_
  rintro e w1 ⟨rfl, k1⟩
  have qk1_0 := cell_after (a := ⟨w.heap.size, 0, none⟩) (v := .int .i64 c) k1 (by first | (dsimp only; omega) | (simp; done) | (simp; omega)) (by first | assumption | exact cell_alloc _ (by dsimp only; omega) (by assumption) | (simp [go_sem]; done))
  have fqk1_0 := frozen_after (a := ⟨w.heap.size, 0, none⟩) k1 (by first | (dsimp only; omega) | (simp; done) | (simp; omega)) (by first | assumption | exact frozen_alloc _ (by dsimp only; omega) (by assumption) | (simp [go_sem]; done))
  have qk1_1 := cell_after (a := ⟨w.heap.size, 1, none⟩) (v := .int .i64 h) k1 (by first | (dsimp only; omega) | (simp; done) | (simp; omega)) (by first | assumption | exact cell_alloc _ (by dsimp only; omega) (by assumption) | (simp [go_sem]; done))
  have fqk1_1 := frozen_after (a := ⟨w.heap.size, 1, none⟩) k1 (by first | (dsimp only; omega) | (simp; done) | (simp; omega)) (by first | assumption | exact frozen_alloc _ (by dsimp only; omega) (by assumption) | (simp [go_sem]; done))
  have qk1_2 := cell_after (a := ⟨w.heap.size, 2, none⟩) (v := .int .i64 r) k1 (by first | (dsimp only; omega) | (simp; done) | (simp; omega)) (by first | assumption | exact cell_alloc _ (by dsimp only; omega) (by assumption) | (simp [go_sem]; done))
  have fqk1_2 := frozen_after (a := ⟨w.heap.size, 2, none⟩) k1 (by first | (dsimp only; omega) | (simp; done) | (simp; omega)) (by first | assumption | exact frozen_alloc _ (by dsimp only; omega) (by assumption) | (simp [go_sem]; done))
  have qk1_3 := cell_after (a := ⟨w.heap.size + 1, 0, none⟩) (v := .int .i64 0) k1 (by first | (dsimp only; omega) | (simp; done) | (simp; omega)) (by first | assumption | exact cell_alloc _ (by dsimp only; omega) (by assumption) | (simp [go_sem]; done))
  have fqk1_3 := frozen_after (a := ⟨w.heap.size + 1, 0, none⟩) k1 (by first | (dsimp only; omega) | (simp; done) | (simp; omega)) (by first | assumption | exact frozen_alloc _ (by dsimp only; omega) (by assumption) | (simp [go_sem]; done))
  have qk1_4 := cell_after (a := ⟨w.heap.size + 1, 1, none⟩) (v := .int .i64 0) k1 (by first | (dsimp only; omega) | (simp; done) | (simp; omega)) (by first | assumption | exact cell_alloc _ (by dsimp only; omega) (by assumption) | (simp [go_sem]; done))
  have fqk1_4 := frozen_after (a := ⟨w.heap.size + 1, 1, none⟩) k1 (by first | (dsimp only; omega) | (simp; done) | (simp; omega)) (by first | assumption | exact frozen_alloc _ (by dsimp only; omega) (by assumption) | (simp [go_sem]; done))
  have qk1_5 := cell_after (a := ⟨w.heap.size + 1, 2, none⟩) (v := .int .i64 0) k1 (by first | (dsimp only; omega) | (simp; done) | (simp; omega)) (by first | assumption | exact cell_alloc _ (by dsimp only; omega) (by assumption) | (simp [go_sem]; done))
  have fqk1_5 := frozen_after (a := ⟨w.heap.size + 1, 2, none⟩) k1 (by first | (dsimp only; omega) | (simp; done) | (simp; omega)) (by first | assumption | exact frozen_alloc _ (by dsimp only; omega) (by assumption) | (simp [go_sem]; done))
  have s1 := k1.size
  simp only [World.size_alloc] at s1
  have K1 : Below w.heap.size w w1 := (by repeat (first | exact Below.refl _ _ | assumption | refine bel_drew ?_ | refine bel_drewN ?_ _ | refine bel_alloc ?_ _ | refine bel_set ?_ (by first | (dsimp only; omega) | (simp; done) | (simp; omega)) _ | refine bel_trans ?_ (by assumption)))
  clear k1
  go_wp2_with fail
  refine bodyPost_ret (v := .tuple #[.agg #[.int .i64 c, .int .i64 (h + n), .int .i64 (r - n)], .int .i64 0]) (by simp [results, Try.results60, go_sem, *]) rfl ⟨rfl, (by repeat (first | exact Below.refl _ _ | assumption | refine bel_drew ?_ | refine bel_drewN ?_ _ | refine bel_alloc ?_ _ | refine bel_set ?_ (by first | (dsimp only; omega) | (simp; done) | (simp; omega)) _ | refine bel_trans ?_ (by assumption)))⟩

theorem ref26_Do2_no (c h r n : Int) (w : World) (bc : -9223372036854775808 ≤ c ∧ c ≤ 9223372036854775807) (bh : -9223372036854775808 ≤ h ∧ h ≤ 9223372036854775807) (br : -9223372036854775808 ≤ r ∧ r ≤ 9223372036854775807) (bn : -9223372036854775808 ≤ n ∧ n ≤ 9223372036854775807) (hr : PA.right c h r = true) (n1 : 1 ≤ n) (n2 : r < n) :
    Calls Try.prog 60 #[.int .i64 2, .agg #[.int .i64 c, .int .i64 h, .int .i64 r], .int .i64 n] w fun e w' => e = .returned (.tuple #[.agg #[.int .i64 0, .int .i64 0, .int .i64 0], .int .i64 20]) ∧ Below w.heap.size w w' := by
  have hi := (PA.right_iff c h r).1 hr
  have i1 := hi.1; have i2 := hi.2.1; have i3 := hi.2.2.1; have i4 := hi.2.2.2.1; have i5 := hi.2.2.2.2
  have i6 : h ≤ 1048576 := by omega
  have i7 : r ≤ 1048576 := by omega
  clear hi
  go_enter Try.func60, Try.ntmps60
  go_wp2_with fail
  refine (ref26_Right c h r _ bc bh br).mono ?_
  rintro e w1 ⟨rfl, k1⟩
  have qk1_0 := cell_after (a := ⟨w.heap.size, 0, none⟩) (v := .int .i64 c) k1 (by first | (dsimp only; omega) | (simp; done) | (simp; omega)) (by first | assumption | exact cell_alloc _ (by dsimp only; omega) (by assumption) | (simp [go_sem]; done))
  have fqk1_0 := frozen_after (a := ⟨w.heap.size, 0, none⟩) k1 (by first | (dsimp only; omega) | (simp; done) | (simp; omega)) (by first | assumption | exact frozen_alloc _ (by dsimp only; omega) (by assumption) | (simp [go_sem]; done))
  have qk1_1 := cell_after (a := ⟨w.heap.size, 1, none⟩) (v := .int .i64 h) k1 (by first | (dsimp only; omega) | (simp; done) | (simp; omega)) (by first | assumption | exact cell_alloc _ (by dsimp only; omega) (by assumption) | (simp [go_sem]; done))
  have fqk1_1 := frozen_after (a := ⟨w.heap.size, 1, none⟩) k1 (by first | (dsimp only; omega) | (simp; done) | (simp; omega)) (by first | assumption | exact frozen_alloc _ (by dsimp only; omega) (by assumption) | (simp [go_sem]; done))
  have qk1_2 := cell_after (a := ⟨w.heap.size, 2, none⟩) (v := .int .i64 r) k1 (by first | (dsimp only; omega) | (simp; done) | (simp; omega)) (by first | assumption | exact cell_alloc _ (by dsimp only; omega) (by assumption) | (simp [go_sem]; done))
  have fqk1_2 := frozen_after (a := ⟨w.heap.size, 2, none⟩) k1 (by first | (dsimp only; omega) | (simp; done) | (simp; omega)) (by first | assumption | exact frozen_alloc _ (by dsimp only; omega) (by assumption) | (simp [go_sem]; done))
  have qk1_3 := cell_after (a := ⟨w.heap.size + 1, 0, none⟩) (v := .int .i64 0) k1 (by first | (dsimp only; omega) | (simp; done) | (simp; omega)) (by first | assumption | exact cell_alloc _ (by dsimp only; omega) (by assumption) | (simp [go_sem]; done))
  have fqk1_3 := frozen_after (a := ⟨w.heap.size + 1, 0, none⟩) k1 (by first | (dsimp only; omega) | (simp; done) | (simp; omega)) (by first | assumption | exact frozen_alloc _ (by dsimp only; omega) (by assumption) | (simp [go_sem]; done))
  have qk1_4 := cell_after (a := ⟨w.heap.size + 1, 1, none⟩) (v := .int .i64 0) k1 (by first | (dsimp only; omega) | (simp; done) | (simp; omega)) (by first | assumption | exact cell_alloc _ (by dsimp only; omega) (by assumption) | (simp [go_sem]; done))
  have fqk1_4 := frozen_after (a := ⟨w.heap.size + 1, 1, none⟩) k1 (by first | (dsimp only; omega) | (simp; done) | (simp; omega)) (by first | assumption | exact frozen_alloc _ (by dsimp only; omega) (by assumption) | (simp [go_sem]; done))
  have qk1_5 := cell_after (a := ⟨w.heap.size + 1, 2, none⟩) (v := .int .i64 0) k1 (by first | (dsimp only; omega) | (simp; done) | (simp; omega)) (by first | assumption | exact cell_alloc _ (by dsimp only; omega) (by assumption) | (simp [go_sem]; done))
  have fqk1_5 := frozen_after (a := ⟨w.heap.size + 1, 2, none⟩) k1 (by first | (dsimp only; omega) | (simp; done) | (simp; omega)) (by first | assumption | exact frozen_alloc _ (by dsimp only; omega) (by assumption) | (simp [go_sem]; done))
  have s1 := k1.size
  simp only [World.size_alloc] at s1
  have K1 : Below w.heap.size w w1 := (by repeat (first | exact Below.refl _ _ | assumption | refine bel_drew ?_ | refine bel_drewN ?_ _ | refine bel_alloc ?_ _ | refine bel_set ?_ (by first | (dsimp only; omega) | (simp; done) | (simp; omega)) _ | refine bel_trans ?_ (by assumption)))
  clear k1
  go_wp2_with fail
  refine bodyPost_ret (v := .tuple #[.agg #[.int .i64 0, .int .i64 0, .int .i64 0], .int .i64 20]) (by simp [results, Try.results60, go_sem, *]) rfl ⟨rfl, (by repeat (first | exact Below.refl _ _ | assumption | refine bel_drew ?_ | refine bel_drewN ?_ _ | refine bel_alloc ?_ _ | refine bel_set ?_ (by first | (dsimp only; omega) | (simp; done) | (simp; omega)) _ | refine bel_trans ?_ (by assumption)))⟩

theorem ref26_Do2 (c h r n : Int) (w : World) (bc : -9223372036854775808 ≤ c ∧ c ≤ 9223372036854775807) (bh : -9223372036854775808 ≤ h ∧ h ≤ 9223372036854775807) (br : -9223372036854775808 ≤ r ∧ r ≤ 9223372036854775807) (bn : -9223372036854775808 ≤ n ∧ n ≤ 9223372036854775807) :
    Calls Try.prog 60 #[.int .i64 2, .agg #[.int .i64 c, .int .i64 h, .int .i64 r], .int .i64 n] w fun e w' => e = .returned (.tuple #[.agg #[.int .i64 (PA.doo 2 c h r n).1.1, .int .i64 (PA.doo 2 c h r n).1.2.1, .int .i64 (PA.doo 2 c h r n).1.2.2], .int .i64 (PA.doo 2 c h r n).2]) ∧ Below w.heap.size w w' := by
  cases hr : PA.right c h r
  · rw [PA.doo_arg (Or.inl hr)]; exact ref26_Do2_nr c h r n w bc bh br bn hr
  · by_cases n1 : 1 ≤ n
    · by_cases hy : n ≤ r
      · rw [PA.doo2_yes hr n1 hy]; exact ref26_Do2_ok c h r n w bc bh br bn hr n1 hy
      · rw [PA.doo2_no hr n1 (by omega)]; exact ref26_Do2_no c h r n w bc bh br bn hr n1 (by omega)
    · rw [PA.doo_arg (Or.inr (by omega))]; exact ref26_Do2_n0 c h r n w bc bh br bn hr (by omega)

theorem account_Need (c h r : Int) (w : World) (bc : -9223372036854775808 ≤ c ∧ c ≤ 9223372036854775807) (bh : -9223372036854775808 ≤ h ∧ h ≤ 9223372036854775807) (br : -9223372036854775808 ≤ r ∧ r ≤ 9223372036854775807) :
    Calls Try.prog 72 #[.agg #[.int .i64 c, .int .i64 h, .int .i64 r]] w fun e w' => e = .returned (.int .i64 (PA.need c h r)) ∧ Below w.heap.size w w' := by
  cases hr : PA.right c h r
  · have hv : PA.need c h r = 0 := by simp [PA.need, hr]
    rw [hv]
    clear hv
    go_enter Try.func72, Try.ntmps72
    go_wp2_with fail
    refine (account_Right c h r _ bc bh br).mono ?_
    rintro e w1 ⟨rfl, k1⟩
    have qk1_0 := cell_after (a := ⟨w.heap.size, 0, none⟩) (v := .int .i64 c) k1 (by first | (dsimp only; omega) | (simp; done) | (simp; omega)) (by first | assumption | exact cell_alloc _ (by dsimp only; omega) (by assumption) | (simp [go_sem]; done))
    have fqk1_0 := frozen_after (a := ⟨w.heap.size, 0, none⟩) k1 (by first | (dsimp only; omega) | (simp; done) | (simp; omega)) (by first | assumption | exact frozen_alloc _ (by dsimp only; omega) (by assumption) | (simp [go_sem]; done))
    have qk1_1 := cell_after (a := ⟨w.heap.size, 1, none⟩) (v := .int .i64 h) k1 (by first | (dsimp only; omega) | (simp; done) | (simp; omega)) (by first | assumption | exact cell_alloc _ (by dsimp only; omega) (by assumption) | (simp [go_sem]; done))
    have fqk1_1 := frozen_after (a := ⟨w.heap.size, 1, none⟩) k1 (by first | (dsimp only; omega) | (simp; done) | (simp; omega)) (by first | assumption | exact frozen_alloc _ (by dsimp only; omega) (by assumption) | (simp [go_sem]; done))
    have qk1_2 := cell_after (a := ⟨w.heap.size, 2, none⟩) (v := .int .i64 r) k1 (by first | (dsimp only; omega) | (simp; done) | (simp; omega)) (by first | assumption | exact cell_alloc _ (by dsimp only; omega) (by assumption) | (simp [go_sem]; done))
    have fqk1_2 := frozen_after (a := ⟨w.heap.size, 2, none⟩) k1 (by first | (dsimp only; omega) | (simp; done) | (simp; omega)) (by first | assumption | exact frozen_alloc _ (by dsimp only; omega) (by assumption) | (simp [go_sem]; done))
    have s1 := k1.size
    simp only [World.size_alloc] at s1
    have K1 : Below w.heap.size w w1 := (by repeat (first | exact Below.refl _ _ | assumption | refine bel_drew ?_ | refine bel_drewN ?_ _ | refine bel_alloc ?_ _ | refine bel_set ?_ (by first | (dsimp only; omega) | (simp; done) | (simp; omega)) _ | refine bel_trans ?_ (by assumption)))
    clear k1
    go_wp2_with fail
    go_ret
    exact ⟨rfl, (by repeat (first | exact Below.refl _ _ | assumption | refine bel_drew ?_ | refine bel_drewN ?_ _ | refine bel_alloc ?_ _ | refine bel_set ?_ (by first | (dsimp only; omega) | (simp; done) | (simp; omega)) _ | refine bel_trans ?_ (by assumption)))⟩
  · have hv : PA.need c h r = c - h := by simp [PA.need, hr]
    have hi := (PA.right_iff c h r).1 hr
    have i1 := hi.1; have i2 := hi.2.1; have i3 := hi.2.2.1; have i4 := hi.2.2.2.1; have i5 := hi.2.2.2.2
    clear hi
    rw [hv]
    clear hv
    go_enter Try.func72, Try.ntmps72
    go_wp2_with fail
    refine (account_Right c h r _ bc bh br).mono ?_
    rintro e w1 ⟨rfl, k1⟩
    have qk1_0 := cell_after (a := ⟨w.heap.size, 0, none⟩) (v := .int .i64 c) k1 (by first | (dsimp only; omega) | (simp; done) | (simp; omega)) (by first | assumption | exact cell_alloc _ (by dsimp only; omega) (by assumption) | (simp [go_sem]; done))
    have fqk1_0 := frozen_after (a := ⟨w.heap.size, 0, none⟩) k1 (by first | (dsimp only; omega) | (simp; done) | (simp; omega)) (by first | assumption | exact frozen_alloc _ (by dsimp only; omega) (by assumption) | (simp [go_sem]; done))
    have qk1_1 := cell_after (a := ⟨w.heap.size, 1, none⟩) (v := .int .i64 h) k1 (by first | (dsimp only; omega) | (simp; done) | (simp; omega)) (by first | assumption | exact cell_alloc _ (by dsimp only; omega) (by assumption) | (simp [go_sem]; done))
    have fqk1_1 := frozen_after (a := ⟨w.heap.size, 1, none⟩) k1 (by first | (dsimp only; omega) | (simp; done) | (simp; omega)) (by first | assumption | exact frozen_alloc _ (by dsimp only; omega) (by assumption) | (simp [go_sem]; done))
    have qk1_2 := cell_after (a := ⟨w.heap.size, 2, none⟩) (v := .int .i64 r) k1 (by first | (dsimp only; omega) | (simp; done) | (simp; omega)) (by first | assumption | exact cell_alloc _ (by dsimp only; omega) (by assumption) | (simp [go_sem]; done))
    have fqk1_2 := frozen_after (a := ⟨w.heap.size, 2, none⟩) k1 (by first | (dsimp only; omega) | (simp; done) | (simp; omega)) (by first | assumption | exact frozen_alloc _ (by dsimp only; omega) (by assumption) | (simp [go_sem]; done))
    have s1 := k1.size
    simp only [World.size_alloc] at s1
    have K1 : Below w.heap.size w w1 := (by repeat (first | exact Below.refl _ _ | assumption | refine bel_drew ?_ | refine bel_drewN ?_ _ | refine bel_alloc ?_ _ | refine bel_set ?_ (by first | (dsimp only; omega) | (simp; done) | (simp; omega)) _ | refine bel_trans ?_ (by assumption)))
    clear k1
    go_wp2_with fail
    go_ret
    exact ⟨rfl, (by repeat (first | exact Below.refl _ _ | assumption | refine bel_drew ?_ | refine bel_drewN ?_ _ | refine bel_alloc ?_ _ | refine bel_set ?_ (by first | (dsimp only; omega) | (simp; done) | (simp; omega)) _ | refine bel_trans ?_ (by assumption)))⟩

theorem ref26_Need (c h r : Int) (w : World) (bc : -9223372036854775808 ≤ c ∧ c ≤ 9223372036854775807) (bh : -9223372036854775808 ≤ h ∧ h ≤ 9223372036854775807) (br : -9223372036854775808 ≤ r ∧ r ≤ 9223372036854775807) :
    Calls Try.prog 23 #[.agg #[.int .i64 c, .int .i64 h, .int .i64 r]] w fun e w' => e = .returned (.int .i64 (PA.need c h r)) ∧ Below w.heap.size w w' := by
  cases hr : PA.right c h r
  · have hv : PA.need c h r = 0 := by simp [PA.need, hr]
    rw [hv]
    clear hv
    go_enter Try.func23, Try.ntmps23
    go_wp2_with fail
    refine (ref26_Right c h r _ bc bh br).mono ?_
    rintro e w1 ⟨rfl, k1⟩
    have qk1_0 := cell_after (a := ⟨w.heap.size, 0, none⟩) (v := .int .i64 c) k1 (by first | (dsimp only; omega) | (simp; done) | (simp; omega)) (by first | assumption | exact cell_alloc _ (by dsimp only; omega) (by assumption) | (simp [go_sem]; done))
    have fqk1_0 := frozen_after (a := ⟨w.heap.size, 0, none⟩) k1 (by first | (dsimp only; omega) | (simp; done) | (simp; omega)) (by first | assumption | exact frozen_alloc _ (by dsimp only; omega) (by assumption) | (simp [go_sem]; done))
    have qk1_1 := cell_after (a := ⟨w.heap.size, 1, none⟩) (v := .int .i64 h) k1 (by first | (dsimp only; omega) | (simp; done) | (simp; omega)) (by first | assumption | exact cell_alloc _ (by dsimp only; omega) (by assumption) | (simp [go_sem]; done))
    have fqk1_1 := frozen_after (a := ⟨w.heap.size, 1, none⟩) k1 (by first | (dsimp only; omega) | (simp; done) | (simp; omega)) (by first | assumption | exact frozen_alloc _ (by dsimp only; omega) (by assumption) | (simp [go_sem]; done))
    have qk1_2 := cell_after (a := ⟨w.heap.size, 2, none⟩) (v := .int .i64 r) k1 (by first | (dsimp only; omega) | (simp; done) | (simp; omega)) (by first | assumption | exact cell_alloc _ (by dsimp only; omega) (by assumption) | (simp [go_sem]; done))
    have fqk1_2 := frozen_after (a := ⟨w.heap.size, 2, none⟩) k1 (by first | (dsimp only; omega) | (simp; done) | (simp; omega)) (by first | assumption | exact frozen_alloc _ (by dsimp only; omega) (by assumption) | (simp [go_sem]; done))
    have s1 := k1.size
    simp only [World.size_alloc] at s1
    have K1 : Below w.heap.size w w1 := (by repeat (first | exact Below.refl _ _ | assumption | refine bel_drew ?_ | refine bel_drewN ?_ _ | refine bel_alloc ?_ _ | refine bel_set ?_ (by first | (dsimp only; omega) | (simp; done) | (simp; omega)) _ | refine bel_trans ?_ (by assumption)))
    clear k1
    go_wp2_with fail
    go_ret
    exact ⟨rfl, (by repeat (first | exact Below.refl _ _ | assumption | refine bel_drew ?_ | refine bel_drewN ?_ _ | refine bel_alloc ?_ _ | refine bel_set ?_ (by first | (dsimp only; omega) | (simp; done) | (simp; omega)) _ | refine bel_trans ?_ (by assumption)))⟩
  · have hv : PA.need c h r = c - h := by simp [PA.need, hr]
    have hi := (PA.right_iff c h r).1 hr
    have i1 := hi.1; have i2 := hi.2.1; have i3 := hi.2.2.1; have i4 := hi.2.2.2.1; have i5 := hi.2.2.2.2
    clear hi
    rw [hv]
    clear hv
    go_enter Try.func23, Try.ntmps23
    go_wp2_with fail
    refine (ref26_Right c h r _ bc bh br).mono ?_
    rintro e w1 ⟨rfl, k1⟩
    have qk1_0 := cell_after (a := ⟨w.heap.size, 0, none⟩) (v := .int .i64 c) k1 (by first | (dsimp only; omega) | (simp; done) | (simp; omega)) (by first | assumption | exact cell_alloc _ (by dsimp only; omega) (by assumption) | (simp [go_sem]; done))
    have fqk1_0 := frozen_after (a := ⟨w.heap.size, 0, none⟩) k1 (by first | (dsimp only; omega) | (simp; done) | (simp; omega)) (by first | assumption | exact frozen_alloc _ (by dsimp only; omega) (by assumption) | (simp [go_sem]; done))
    have qk1_1 := cell_after (a := ⟨w.heap.size, 1, none⟩) (v := .int .i64 h) k1 (by first | (dsimp only; omega) | (simp; done) | (simp; omega)) (by first | assumption | exact cell_alloc _ (by dsimp only; omega) (by assumption) | (simp [go_sem]; done))
    have fqk1_1 := frozen_after (a := ⟨w.heap.size, 1, none⟩) k1 (by first | (dsimp only; omega) | (simp; done) | (simp; omega)) (by first | assumption | exact frozen_alloc _ (by dsimp only; omega) (by assumption) | (simp [go_sem]; done))
    have qk1_2 := cell_after (a := ⟨w.heap.size, 2, none⟩) (v := .int .i64 r) k1 (by first | (dsimp only; omega) | (simp; done) | (simp; omega)) (by first | assumption | exact cell_alloc _ (by dsimp only; omega) (by assumption) | (simp [go_sem]; done))
    have fqk1_2 := frozen_after (a := ⟨w.heap.size, 2, none⟩) k1 (by first | (dsimp only; omega) | (simp; done) | (simp; omega)) (by first | assumption | exact frozen_alloc _ (by dsimp only; omega) (by assumption) | (simp [go_sem]; done))
    have s1 := k1.size
    simp only [World.size_alloc] at s1
    have K1 : Below w.heap.size w w1 := (by repeat (first | exact Below.refl _ _ | assumption | refine bel_drew ?_ | refine bel_drewN ?_ _ | refine bel_alloc ?_ _ | refine bel_set ?_ (by first | (dsimp only; omega) | (simp; done) | (simp; omega)) _ | refine bel_trans ?_ (by assumption)))
    clear k1
    go_wp2_with fail
    go_ret
    exact ⟨rfl, (by repeat (first | exact Below.refl _ _ | assumption | refine bel_drew ?_ | refine bel_drewN ?_ _ | refine bel_alloc ?_ _ | refine bel_set ?_ (by first | (dsimp only; omega) | (simp; done) | (simp; omega)) _ | refine bel_trans ?_ (by assumption)))⟩

end Go.Proofs.Ythmjbfocpdiikaa
