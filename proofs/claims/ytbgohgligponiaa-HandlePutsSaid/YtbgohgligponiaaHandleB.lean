/-
  Contracts of handle.Get, and of the references' Put and Get.
-/
import Derived.Test.YtbgohgligponiaaBase
import Derived.Test.YtbgohgligponiaaHandleParts
import Derived.Laws.BitsAllLaws
import Derived.Laws.BitsLemmas
namespace Go.Proofs.Ytbgohgligponiaa
open Go.RowKit
attribute [local go_sem] drewN_alloc drewN_setCell

theorem ofInt_i64 (a : Nat) (ha : a < 9223372036854775808) : (BitVec.ofInt 64 (a : Int)).toNat = a := by
  rw [BitVec.ofInt_natCast, BitVec.toNat_ofNat]; exact Nat.mod_eq_of_lt (by omega)
theorem i64_and_nat (a b : Nat) (ha : a < 9223372036854775808) (hb : b < 9223372036854775808) : bits .and .i64 (a : Int) (b : Int) = ((a &&& b : Nat) : Int) := by
  have hx : a &&& b < 2 ^ 63 := Nat.and_lt_two_pow _ (by omega)
  show IntKind.i64.wrap ((BitVec.ofInt 64 (a : Int) &&& BitVec.ofInt 64 (b : Int)).toNat : Int) = _
  rw [BitVec.toNat_and, ofInt_i64 a ha, ofInt_i64 b hb, IntKind.wrap_i64]
  omega
theorem mask20 (a : Int) (h0 : 0 ≤ a) (h1 : a ≤ 9223372036854775807) : bits .and .i64 a 1048575 = a % 1048576 := by
  obtain ⟨n, rfl⟩ := Int.eq_ofNat_of_zero_le h0
  have h := i64_and_nat n 1048575 (by omega) (by omega)
  have e : n &&& 1048575 = n % 1048576 := Nat.and_two_pow_sub_one_eq_mod n 20
  rw [e] at h
  rw [show (1048575 : Int) = ((1048575 : Nat) : Int) from rfl, h]
  omega

set_option maxHeartbeats 1000000 in
theorem handle_Get_good (h : Int) (w : World) (h0 : 0 ≤ h) (hm : h ≤ 9223372036854775807) (k1 : 1 ≤ h / 1152921504606846976) (k2 : h / 1152921504606846976 ≤ 3) :
    Calls Try.prog 15 #[.int .i64 h] w fun e w' =>
      e = .returned (.tuple #[.int .i64 (h / 1152921504606846976), .int .i64 (h / 1099511627776 % 1048576), .int .i64 (h / 1048576 % 1048576), .int .i64 (h % 1048576), .bool true]) ∧ Below w.heap.size w w' := by
  have b1 := mask20 (h / 1099511627776) (by omega) (by omega)
  have b2 := mask20 (h / 1048576) (by omega) (by omega)
  have b3 := mask20 h (by omega) (by omega)
  have f0 : decide (h / 1152921504606846976 < 1) = false := by simp; omega
  have f1 : decide (3 < h / 1152921504606846976) = false := by simp; omega
  have f2 : decide (h / 1099511627776 % 1048576 < 0) = false := by simp; omega
  have f3 : decide (1048575 < h / 1099511627776 % 1048576) = false := by simp; omega
  have f4 : decide (h / 1048576 % 1048576 < 0) = false := by simp; omega
  have f5 : decide (1048575 < h / 1048576 % 1048576) = false := by simp; omega
  have f6 : decide (h % 1048576 < 0) = false := by simp; omega
  have f7 : decide (1048575 < h % 1048576) = false := by simp; omega
  go_enter Try.func15, Try.ntmps15
  go_wp2
  have i0 := parts0
  have i1 := parts1
  have i2 := parts2
  have i3 := parts3
  unfold partsV at i0 i1 i2 i3
  refine wp_loop_rounds 5 ?_
  rw [rounds_succ]
  go_wp2
  go_quiet (fail)
  go_wp2
  rw [rounds_succ]
  go_wp2
  go_quiet (fail)
  go_wp2
  rw [rounds_succ]
  go_wp2
  go_quiet (fail)
  go_wp2
  rw [rounds_succ]
  go_wp2
  go_quiet (fail)
  go_wp2
  rw [rounds_succ]
  go_wp2
  go_quiet (fail)
  go_wp2
  refine bodyPost_ret (results_tmp5 rfl _ _ _) rfl ?_
  exact ⟨rfl, (by repeat (first | exact Below.refl _ _ | assumption | refine bel_drew ?_ | refine bel_drewN ?_ _ | refine bel_alloc ?_ _ | refine bel_set ?_ (by simp; omega) _ | refine bel_trans ?_ (by assumption)))⟩

set_option maxHeartbeats 1000000 in
theorem handle_Get_neg (h : Int) (w : World) (h0 : h < 0) :
    Calls Try.prog 15 #[.int .i64 h] w fun e w' =>
      e = .returned (.tuple #[.int .i64 0, .int .i64 0, .int .i64 0, .int .i64 0, .bool false]) ∧ Below w.heap.size w w' := by
  go_enter Try.func15, Try.ntmps15
  go_wp2
  refine bodyPost_ret (results_tmp5 rfl _ _ _) rfl ?_
  exact ⟨rfl, (by repeat (first | exact Below.refl _ _ | assumption | refine bel_drew ?_ | refine bel_drewN ?_ _ | refine bel_alloc ?_ _ | refine bel_set ?_ (by simp; omega) _ | refine bel_trans ?_ (by assumption)))⟩

set_option maxHeartbeats 1000000 in
theorem handle_Get_low (h : Int) (w : World) (h0 : 0 ≤ h) (hm : h ≤ 9223372036854775807) (k1 : decide (h / 1152921504606846976 < 1) = true) :
    Calls Try.prog 15 #[.int .i64 h] w fun e w' =>
      e = .returned (.tuple #[.int .i64 0, .int .i64 0, .int .i64 0, .int .i64 0, .bool false]) ∧ Below w.heap.size w w' := by
  go_enter Try.func15, Try.ntmps15
  go_wp2
  have i0 := parts0
  have i1 := parts1
  have i2 := parts2
  have i3 := parts3
  unfold partsV at i0 i1 i2 i3
  refine wp_loop_rounds 5 ?_
  rw [rounds_succ]
  go_wp2
  go_quiet (fail)
  go_wp2
  refine bodyPost_ret (results_tmp5 rfl _ _ _) rfl ?_
  exact ⟨rfl, (by repeat (first | exact Below.refl _ _ | assumption | refine bel_drew ?_ | refine bel_drewN ?_ _ | refine bel_alloc ?_ _ | refine bel_set ?_ (by simp; omega) _ | refine bel_trans ?_ (by assumption)))⟩

set_option maxHeartbeats 1000000 in
theorem handle_Get_high (h : Int) (w : World) (h0 : 0 ≤ h) (hm : h ≤ 9223372036854775807) (k1 : decide (h / 1152921504606846976 < 1) = false) (k2 : decide (3 < h / 1152921504606846976) = true) :
    Calls Try.prog 15 #[.int .i64 h] w fun e w' =>
      e = .returned (.tuple #[.int .i64 0, .int .i64 0, .int .i64 0, .int .i64 0, .bool false]) ∧ Below w.heap.size w w' := by
  go_enter Try.func15, Try.ntmps15
  go_wp2
  have i0 := parts0
  have i1 := parts1
  have i2 := parts2
  have i3 := parts3
  unfold partsV at i0 i1 i2 i3
  refine wp_loop_rounds 5 ?_
  rw [rounds_succ]
  go_wp2
  go_quiet (fail)
  go_wp2
  refine bodyPost_ret (results_tmp5 rfl _ _ _) rfl ?_
  exact ⟨rfl, (by repeat (first | exact Below.refl _ _ | assumption | refine bel_drew ?_ | refine bel_drewN ?_ _ | refine bel_alloc ?_ _ | refine bel_set ?_ (by simp; omega) _ | refine bel_trans ?_ (by assumption)))⟩
end Go.Proofs.Ytbgohgligponiaa
