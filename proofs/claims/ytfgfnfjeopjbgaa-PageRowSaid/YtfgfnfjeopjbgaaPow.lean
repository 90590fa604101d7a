/-
  The contracts of math/bits.OnesCount and of num.Power and its reference.
-/
import Derived.Test.YtfgfnfjeopjbgaaProg
import Derived.Test.YtfgfnfjeopjbgaaPlainPop
import Derived.Test.YtfgfnfjeopjbgaaBase
import Derived.WalkKit
import Derived.Outline
import Derived.Below
import Derived.Lib.Hide
import Derived.Laws.Bits64b
import Derived.Laws.BitsAllLaws
import Derived.Laws.BitsLemmas
namespace Go.Proofs.Ytfgfnfjeopjbgaa
open Go.RowKit
set_option linter.unusedVariables false

theorem u64n (a : Nat) (ha : a < 18446744073709551616) : IntKind.u64.wrap (a : Int) = (a : Int) := by rw [IntKind.wrap_u64]; omega
theorem i64_127 (a : Nat) (ha : a < 9223372036854775808) : bits .and .i64 (a : Int) 127 = ((a % 128 : Nat) : Int) := by
  have hb : (BitVec.ofInt 64 (a : Int)).toNat = a := by rw [BitVec.ofInt_natCast, BitVec.toNat_ofNat]; exact Nat.mod_eq_of_lt (by omega)
  have hc : (BitVec.ofInt 64 (127 : Int)).toNat = 127 := by decide +kernel
  have e : a &&& 127 = a % 128 := Nat.and_two_pow_sub_one_eq_mod a 7
  show IntKind.i64.wrap ((BitVec.ofInt 64 (a : Int) &&& BitVec.ofInt 64 (127 : Int)).toNat : Int) = _
  rw [BitVec.toNat_and, hb, hc, e, IntKind.wrap_i64]
  omega

theorem swar_steps (x : Nat) (hx : x < 18446744073709551616) : ∃ A B X1 C D X2 Y X3 X4 X5 X6 : Nat,
    bits .and .u64 ((x : Int) / 2) 6148914691236517205 = (A : Int) ∧ bits .and .u64 (x : Int) 6148914691236517205 = (B : Int) ∧ IntKind.u64.wrap ((A : Int) + (B : Int)) = (X1 : Int) ∧
    bits .and .u64 ((X1 : Int) / 4) 3689348814741910323 = (C : Int) ∧ bits .and .u64 (X1 : Int) 3689348814741910323 = (D : Int) ∧ IntKind.u64.wrap ((C : Int) + (D : Int)) = (X2 : Int) ∧
    IntKind.u64.wrap ((X2 : Int) / 16 + (X2 : Int)) = (Y : Int) ∧ bits .and .u64 (Y : Int) 1085102592571150095 = (X3 : Int) ∧
    IntKind.u64.wrap ((X3 : Int) + (X3 : Int) / 256) = (X4 : Int) ∧ IntKind.u64.wrap ((X4 : Int) + (X4 : Int) / 65536) = (X5 : Int) ∧ IntKind.u64.wrap ((X5 : Int) + (X5 : Int) / 4294967296) = (X6 : Int) ∧
    (X6 : Int) ≤ 9223372036854775807 ∧ bits .and .i64 (X6 : Int) 127 = (PN.pop x : Int) := by
  have hA : (x / 2 &&& PN.m0) ≤ PN.m0 := Nat.and_le_right
  have hB : (x &&& PN.m0) ≤ PN.m0 := Nat.and_le_right
  have q0 : PN.m0 = 6148914691236517205 := rfl
  have q1 : PN.m1 = 3689348814741910323 := rfl
  have q2 : PN.m2 = 1085102592571150095 := rfl
  have hs := PN.swar_pop x hx
  unfold PN.swar at hs
  have a1 := bits_and_u64_nat (x / 2) 6148914691236517205 (by omega) (by omega)
  have a2 := bits_and_u64_nat x 6148914691236517205 hx (by omega)
  rw [← q0] at a1 a2
  generalize hA' : (x / 2 &&& PN.m0) = A at *
  generalize hB' : (x &&& PN.m0) = B at *
  have hC : ((A + B) / 4 &&& PN.m1) ≤ PN.m1 := Nat.and_le_right
  have hD : ((A + B) &&& PN.m1) ≤ PN.m1 := Nat.and_le_right
  have a3 := bits_and_u64_nat ((A + B) / 4) 3689348814741910323 (by omega) (by omega)
  have a4 := bits_and_u64_nat (A + B) 3689348814741910323 (by omega) (by omega)
  rw [← q1] at a3 a4
  generalize hC' : ((A + B) / 4 &&& PN.m1) = C at *
  generalize hD' : ((A + B) &&& PN.m1) = D at *
  have hE : (((C + D) / 16 + (C + D)) &&& PN.m2) ≤ PN.m2 := Nat.and_le_right
  have a5 := bits_and_u64_nat ((C + D) / 16 + (C + D)) 1085102592571150095 (by omega) (by omega)
  rw [← q2] at a5
  generalize hE' : (((C + D) / 16 + (C + D)) &&& PN.m2) = E at *
  have e1 : ((x : Int) / 2) = ((x / 2 : Nat) : Int) := by omega
  have e2 : (((A + B : Nat) : Int) / 4) = (((A + B) / 4 : Nat) : Int) := by omega
  refine ⟨A, B, A + B, C, D, C + D, (C + D) / 16 + (C + D), E, E + E / 256, (E + E / 256) + (E + E / 256) / 65536, ((E + E / 256) + (E + E / 256) / 65536) + ((E + E / 256) + (E + E / 256) / 65536) / 4294967296, ?_, ?_, ?_, ?_, ?_, ?_, ?_, ?_, ?_, ?_, ?_, ?_, ?_⟩
  · rw [e1]; exact a1
  · exact a2
  · rw [IntKind.wrap_u64]; omega
  · rw [e2]; exact a3
  · exact a4
  · rw [IntKind.wrap_u64]; omega
  · rw [IntKind.wrap_u64]; omega
  · exact a5
  · rw [IntKind.wrap_u64]; omega
  · rw [IntKind.wrap_u64]; omega
  · rw [IntKind.wrap_u64]; omega
  · omega
  · dsimp only at hs
    rw [hC', hD', hE'] at hs
    rw [i64_127 _ (by omega), hs]

theorem bits_OnesCount64 (x : Nat) (hx : x < 18446744073709551616) (w : World) :
    Calls Try.prog 99 #[.int .u64 (x : Int)] w fun e w' => e = .returned (.int .i64 (PN.pop x : Int)) ∧ w = w' := by
  obtain ⟨A, B, X1, C, D, X2, Y, X3, X4, X5, X6, r1, r2, r3, r4, r5, r6, r7, r8, r9, r10, r11, r12, r13⟩ := swar_steps x hx
  generalize PN.pop x = p at *
  go_enter Try.func99, Try.ntmps99
  go_wp2
  go_ret
  exact ⟨rfl, rfl⟩

theorem bits_OnesCount (x : Nat) (hx : x < 18446744073709551616) (w : World) :
    Calls Try.prog 82 #[.int .u64 (x : Int)] w fun e w' => e = .returned (.int .i64 (PN.pop x : Int)) ∧ w = w' := by
  generalize hp : PN.pop x = p
  have c := fun W => bits_OnesCount64 x hx W
  rw [hp] at c
  have C := Lib.hid c
  clear c hp
  go_enter Try.func82, Try.ntmps82
  go_wp2_with fail
  refine (C.out _).mono ?_
  rintro e w1 ⟨rfl, rfl⟩
  go_wp2_with fail
  go_ret
  exact ⟨rfl, rfl⟩
end Go.Proofs.Ytfgfnfjeopjbgaa
