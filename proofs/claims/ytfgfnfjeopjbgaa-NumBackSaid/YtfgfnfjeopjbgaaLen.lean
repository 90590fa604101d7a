/-
  The contracts of math/bits.Len64 (after the shelf's template), bits.Len, num.Log and its reference.
-/
import Derived.Test.YtfgfnfjeopjbgaaNumD
import Derived.Lib.Strings
import Derived.Lib.Slices
import Derived.Lib.Small
import Derived.Lib.Walk
import Derived.Lib.BitFns
namespace Go.Proofs.Ytfgfnfjeopjbgaa
open Go.RowKit
set_option linter.unusedVariables false

theorem idx8 (P : Program) (t : TypeId) (h : P.underlying t = some .string) (i : Int) (h0 : 0 ≤ i) (h1 : i < 256) : ∀ W, (Instr.index t (.string Lib.len8tab) (.int .u8 i)).run P W = .ok (.int .u8 (Lib.len8 i)) W :=
  fun W => Lib.run_index_len8tab W t .u8 i h h0 (by omega)
set_option maxHeartbeats 1000000 in
theorem bits_Len64_0 (x : Int) (w : World) (h0 : 0 ≤ x) (h1 : x ≤ 18446744073709551615) (g1 : x < 4294967296) (g2 : x < 65536) (g3 : x < 256) :
    Calls Try.prog 101 #[.int .u64 x] w fun e w' => e = .returned (.int .i64 (Lib.bitLen x.toNat)) ∧ w' = w := by
  have y1 : 0 ≤ x := by omega
  have y2 : 0 ≤ x := by omega
  have y3 : 0 ≤ x := by omega
  have y4 : x < 256 := by omega
  have ix := idx8 Try.prog 9 Try.underlying9 (x) y3 y4
  have hv : (Lib.bitLen x.toNat : Int) = Lib.len8 (x) := by
    rw [Lib.len8_of _ y3 (by omega)]
  have hL : 0 ≤ Lib.len8 (x) ∧ Lib.len8 (x) ≤ 8 := by
    rw [Lib.len8_of _ y3 (by omega)]
    have := Lib.bitLen_le8' (x) y3 (by omega)
    omega
  rw [hv]
  clear hv
  obtain ⟨L0, L1⟩ := hL
  generalize Lib.len8 (x) = L at *
  go_enter Try.func101, Try.ntmps101
  go_wp2_with fail
  go_ret
  exact ⟨rfl, rfl⟩
set_option maxHeartbeats 1000000 in
theorem bits_Len64_1 (x : Int) (w : World) (h0 : 0 ≤ x) (h1 : x ≤ 18446744073709551615) (g1 : x < 4294967296) (g2 : x < 65536) (g3 : 256 ≤ x) :
    Calls Try.prog 101 #[.int .u64 x] w fun e w' => e = .returned (.int .i64 (Lib.bitLen x.toNat)) ∧ w' = w := by
  have y1 : 0 ≤ x := by omega
  have y2 : 0 ≤ x := by omega
  have y3 : 0 ≤ x / 256 := by omega
  have y4 : x / 256 < 256 := by omega
  have ix := idx8 Try.prog 9 Try.underlying9 (x / 256) y3 y4
  have hv : (Lib.bitLen x.toNat : Int) = 8 + Lib.len8 (x / 256) := by
    rw [Lib.len8_of _ y3 (by omega)]
    have e : (x / 256).toNat = x.toNat / 256 := by omega
    have s := Lib.bitLen_shift8 x.toNat (by omega) (by omega)
    rw [e]
    omega
  have hL : 0 ≤ Lib.len8 (x / 256) ∧ Lib.len8 (x / 256) ≤ 8 := by
    rw [Lib.len8_of _ y3 (by omega)]
    have := Lib.bitLen_le8' (x / 256) y3 (by omega)
    omega
  rw [hv]
  clear hv
  obtain ⟨L0, L1⟩ := hL
  generalize Lib.len8 (x / 256) = L at *
  go_enter Try.func101, Try.ntmps101
  go_wp2_with fail
  go_ret
  exact ⟨rfl, rfl⟩
set_option maxHeartbeats 1000000 in
theorem bits_Len64_2 (x : Int) (w : World) (h0 : 0 ≤ x) (h1 : x ≤ 18446744073709551615) (g1 : x < 4294967296) (g2 : 65536 ≤ x) (g3 : x / 65536 < 256) :
    Calls Try.prog 101 #[.int .u64 x] w fun e w' => e = .returned (.int .i64 (Lib.bitLen x.toNat)) ∧ w' = w := by
  have y1 : 0 ≤ x := by omega
  have y2 : 0 ≤ x / 65536 := by omega
  have y3 : 0 ≤ x / 65536 := by omega
  have y4 : x / 65536 < 256 := by omega
  have ix := idx8 Try.prog 9 Try.underlying9 (x / 65536) y3 y4
  have hv : (Lib.bitLen x.toNat : Int) = 16 + Lib.len8 (x / 65536) := by
    rw [Lib.len8_of _ y3 (by omega)]
    have e : (x / 65536).toNat = x.toNat / 65536 := by omega
    have s := Lib.bitLen_shift16 x.toNat (by omega) (by omega)
    rw [e]
    omega
  have hL : 0 ≤ Lib.len8 (x / 65536) ∧ Lib.len8 (x / 65536) ≤ 8 := by
    rw [Lib.len8_of _ y3 (by omega)]
    have := Lib.bitLen_le8' (x / 65536) y3 (by omega)
    omega
  rw [hv]
  clear hv
  obtain ⟨L0, L1⟩ := hL
  generalize Lib.len8 (x / 65536) = L at *
  go_enter Try.func101, Try.ntmps101
  go_wp2_with fail
  go_ret
  exact ⟨rfl, rfl⟩
set_option maxHeartbeats 1000000 in
theorem bits_Len64_3 (x : Int) (w : World) (h0 : 0 ≤ x) (h1 : x ≤ 18446744073709551615) (g1 : x < 4294967296) (g2 : 65536 ≤ x) (g3 : 256 ≤ x / 65536) :
    Calls Try.prog 101 #[.int .u64 x] w fun e w' => e = .returned (.int .i64 (Lib.bitLen x.toNat)) ∧ w' = w := by
  have y1 : 0 ≤ x := by omega
  have y2 : 0 ≤ x / 65536 := by omega
  have y3 : 0 ≤ x / 65536 / 256 := by omega
  have y4 : x / 65536 / 256 < 256 := by omega
  have ix := idx8 Try.prog 9 Try.underlying9 (x / 65536 / 256) y3 y4
  have hv : (Lib.bitLen x.toNat : Int) = 24 + Lib.len8 (x / 65536 / 256) := by
    rw [Lib.len8_of _ y3 (by omega)]
    have e : (x / 65536 / 256).toNat = x.toNat / 16777216 := by omega
    have s := Lib.bitLen_shift24 x.toNat (by omega) (by omega)
    rw [e]
    omega
  have hL : 0 ≤ Lib.len8 (x / 65536 / 256) ∧ Lib.len8 (x / 65536 / 256) ≤ 8 := by
    rw [Lib.len8_of _ y3 (by omega)]
    have := Lib.bitLen_le8' (x / 65536 / 256) y3 (by omega)
    omega
  rw [hv]
  clear hv
  obtain ⟨L0, L1⟩ := hL
  generalize Lib.len8 (x / 65536 / 256) = L at *
  go_enter Try.func101, Try.ntmps101
  go_wp2_with fail
  go_ret
  exact ⟨rfl, rfl⟩
set_option maxHeartbeats 1000000 in
theorem bits_Len64_4 (x : Int) (w : World) (h0 : 0 ≤ x) (h1 : x ≤ 18446744073709551615) (g1 : 4294967296 ≤ x) (g2 : x / 4294967296 < 65536) (g3 : x / 4294967296 < 256) :
    Calls Try.prog 101 #[.int .u64 x] w fun e w' => e = .returned (.int .i64 (Lib.bitLen x.toNat)) ∧ w' = w := by
  have y1 : 0 ≤ x / 4294967296 := by omega
  have y2 : 0 ≤ x / 4294967296 := by omega
  have y3 : 0 ≤ x / 4294967296 := by omega
  have y4 : x / 4294967296 < 256 := by omega
  have ix := idx8 Try.prog 9 Try.underlying9 (x / 4294967296) y3 y4
  have hv : (Lib.bitLen x.toNat : Int) = 32 + Lib.len8 (x / 4294967296) := by
    rw [Lib.len8_of _ y3 (by omega)]
    have e : (x / 4294967296).toNat = x.toNat / 4294967296 := by omega
    have s := Lib.bitLen_shift32 x.toNat (by omega) (by omega)
    rw [e]
    omega
  have hL : 0 ≤ Lib.len8 (x / 4294967296) ∧ Lib.len8 (x / 4294967296) ≤ 8 := by
    rw [Lib.len8_of _ y3 (by omega)]
    have := Lib.bitLen_le8' (x / 4294967296) y3 (by omega)
    omega
  rw [hv]
  clear hv
  obtain ⟨L0, L1⟩ := hL
  generalize Lib.len8 (x / 4294967296) = L at *
  go_enter Try.func101, Try.ntmps101
  go_wp2_with fail
  go_ret
  exact ⟨rfl, rfl⟩
set_option maxHeartbeats 1000000 in
theorem bits_Len64_5 (x : Int) (w : World) (h0 : 0 ≤ x) (h1 : x ≤ 18446744073709551615) (g1 : 4294967296 ≤ x) (g2 : x / 4294967296 < 65536) (g3 : 256 ≤ x / 4294967296) :
    Calls Try.prog 101 #[.int .u64 x] w fun e w' => e = .returned (.int .i64 (Lib.bitLen x.toNat)) ∧ w' = w := by
  have y1 : 0 ≤ x / 4294967296 := by omega
  have y2 : 0 ≤ x / 4294967296 := by omega
  have y3 : 0 ≤ x / 4294967296 / 256 := by omega
  have y4 : x / 4294967296 / 256 < 256 := by omega
  have ix := idx8 Try.prog 9 Try.underlying9 (x / 4294967296 / 256) y3 y4
  have hv : (Lib.bitLen x.toNat : Int) = 40 + Lib.len8 (x / 4294967296 / 256) := by
    rw [Lib.len8_of _ y3 (by omega)]
    have e : (x / 4294967296 / 256).toNat = x.toNat / 1099511627776 := by omega
    have s := Lib.bitLen_shift40 x.toNat (by omega) (by omega)
    rw [e]
    omega
  have hL : 0 ≤ Lib.len8 (x / 4294967296 / 256) ∧ Lib.len8 (x / 4294967296 / 256) ≤ 8 := by
    rw [Lib.len8_of _ y3 (by omega)]
    have := Lib.bitLen_le8' (x / 4294967296 / 256) y3 (by omega)
    omega
  rw [hv]
  clear hv
  obtain ⟨L0, L1⟩ := hL
  generalize Lib.len8 (x / 4294967296 / 256) = L at *
  go_enter Try.func101, Try.ntmps101
  go_wp2_with fail
  go_ret
  exact ⟨rfl, rfl⟩
set_option maxHeartbeats 1000000 in
theorem bits_Len64_6 (x : Int) (w : World) (h0 : 0 ≤ x) (h1 : x ≤ 18446744073709551615) (g1 : 4294967296 ≤ x) (g2 : 65536 ≤ x / 4294967296) (g3 : x / 4294967296 / 65536 < 256) :
    Calls Try.prog 101 #[.int .u64 x] w fun e w' => e = .returned (.int .i64 (Lib.bitLen x.toNat)) ∧ w' = w := by
  have y1 : 0 ≤ x / 4294967296 := by omega
  have y2 : 0 ≤ x / 4294967296 / 65536 := by omega
  have y3 : 0 ≤ x / 4294967296 / 65536 := by omega
  have y4 : x / 4294967296 / 65536 < 256 := by omega
  have ix := idx8 Try.prog 9 Try.underlying9 (x / 4294967296 / 65536) y3 y4
  have hv : (Lib.bitLen x.toNat : Int) = 48 + Lib.len8 (x / 4294967296 / 65536) := by
    rw [Lib.len8_of _ y3 (by omega)]
    have e : (x / 4294967296 / 65536).toNat = x.toNat / 281474976710656 := by omega
    have s := Lib.bitLen_shift48 x.toNat (by omega) (by omega)
    rw [e]
    omega
  have hL : 0 ≤ Lib.len8 (x / 4294967296 / 65536) ∧ Lib.len8 (x / 4294967296 / 65536) ≤ 8 := by
    rw [Lib.len8_of _ y3 (by omega)]
    have := Lib.bitLen_le8' (x / 4294967296 / 65536) y3 (by omega)
    omega
  rw [hv]
  clear hv
  obtain ⟨L0, L1⟩ := hL
  generalize Lib.len8 (x / 4294967296 / 65536) = L at *
  go_enter Try.func101, Try.ntmps101
  go_wp2_with fail
  go_ret
  exact ⟨rfl, rfl⟩
set_option maxHeartbeats 1000000 in
theorem bits_Len64_7 (x : Int) (w : World) (h0 : 0 ≤ x) (h1 : x ≤ 18446744073709551615) (g1 : 4294967296 ≤ x) (g2 : 65536 ≤ x / 4294967296) (g3 : 256 ≤ x / 4294967296 / 65536) :
    Calls Try.prog 101 #[.int .u64 x] w fun e w' => e = .returned (.int .i64 (Lib.bitLen x.toNat)) ∧ w' = w := by
  have y1 : 0 ≤ x / 4294967296 := by omega
  have y2 : 0 ≤ x / 4294967296 / 65536 := by omega
  have y3 : 0 ≤ x / 4294967296 / 65536 / 256 := by omega
  have y4 : x / 4294967296 / 65536 / 256 < 256 := by omega
  have ix := idx8 Try.prog 9 Try.underlying9 (x / 4294967296 / 65536 / 256) y3 y4
  have hv : (Lib.bitLen x.toNat : Int) = 56 + Lib.len8 (x / 4294967296 / 65536 / 256) := by
    rw [Lib.len8_of _ y3 (by omega)]
    have e : (x / 4294967296 / 65536 / 256).toNat = x.toNat / 72057594037927936 := by omega
    have s := Lib.bitLen_shift56 x.toNat (by omega) (by omega)
    rw [e]
    omega
  have hL : 0 ≤ Lib.len8 (x / 4294967296 / 65536 / 256) ∧ Lib.len8 (x / 4294967296 / 65536 / 256) ≤ 8 := by
    rw [Lib.len8_of _ y3 (by omega)]
    have := Lib.bitLen_le8' (x / 4294967296 / 65536 / 256) y3 (by omega)
    omega
  rw [hv]
  clear hv
  obtain ⟨L0, L1⟩ := hL
  generalize Lib.len8 (x / 4294967296 / 65536 / 256) = L at *
  go_enter Try.func101, Try.ntmps101
  go_wp2_with fail
  go_ret
  exact ⟨rfl, rfl⟩
theorem bits_Len64 (x : Int) (w : World) (h0 : 0 ≤ x) (h1 : x ≤ 18446744073709551615) :
    Calls Try.prog 101 #[.int .u64 x] w fun e w' => e = .returned (.int .i64 (Lib.bitLen x.toNat)) ∧ w' = w := by
  by_cases g0 : x < 4294967296
  · skip
    by_cases g1 : x < 65536
    · skip
      by_cases g2 : x < 256
      · skip
        exact bits_Len64_0 x w h0 h1 (by omega) (by omega) (by omega)
      · skip
        exact bits_Len64_1 x w h0 h1 (by omega) (by omega) (by omega)
    · skip
      by_cases g2 : x / 65536 < 256
      · skip
        exact bits_Len64_2 x w h0 h1 (by omega) (by omega) (by omega)
      · skip
        exact bits_Len64_3 x w h0 h1 (by omega) (by omega) (by omega)
  · skip
    by_cases g1 : x / 4294967296 < 65536
    · skip
      by_cases g2 : x / 4294967296 < 256
      · skip
        exact bits_Len64_4 x w h0 h1 (by omega) (by omega) (by omega)
      · skip
        exact bits_Len64_5 x w h0 h1 (by omega) (by omega) (by omega)
    · skip
      by_cases g2 : x / 4294967296 / 65536 < 256
      · skip
        exact bits_Len64_6 x w h0 h1 (by omega) (by omega) (by omega)
      · skip
        exact bits_Len64_7 x w h0 h1 (by omega) (by omega) (by omega)

theorem bits_Len (x : Int) (w : World) (h0 : 0 ≤ x) (h1 : x ≤ 18446744073709551615) :
    Calls Try.prog 83 #[.int .u64 x] w fun e w' => e = .returned (.int .i64 (Lib.bitLen x.toNat)) ∧ w' = w := by
  go_enter Try.func83, Try.ntmps83
  go_wp2_with fail
  refine (bits_Len64 x _ h0 h1).mono ?_
  rintro e w' ⟨rfl, rfl⟩
  go_wp2_with fail
  go_ret
  exact ⟨rfl, rfl⟩

def PN.log (n : Int) : Int := if n < 1 then -1 else (Lib.bitLen n.toNat : Int) - 1
theorem PN.len_le (x : Nat) (h : x < 2 ^ 64) : Lib.bitLen x ≤ 64 := by
  have key : ∀ (f x : Nat), Lib.bitLenAux f x ≤ f := by
    intro f
    induction f with
    | zero => intro x; simp [Lib.bitLenAux]
    | succ f ih => intro x; simp only [Lib.bitLenAux]; split
                   · omega
                   · have := ih (x / 2); omega
  exact key 64 x

theorem num_Log (n : Int) (w : World) (hn : -9223372036854775808 ≤ n ∧ n ≤ 9223372036854775807) : Calls Try.prog 41 #[.int .i64 n] w fun e w' => e = .returned (.int .i64 (PN.log n)) ∧ w = w' := by
  by_cases h : n < 1
  · rw [show PN.log n = -1 by unfold PN.log; rw [if_pos h]]
    go_enter Try.func41, Try.ntmps41
    go_wp2_with fail
    go_ret
    exact ⟨rfl, rfl⟩
  · rw [show PN.log n = (Lib.bitLen n.toNat : Int) - 1 by unfold PN.log; rw [if_neg h]]
    have hl := PN.len_le n.toNat (by omega)
    have x1 : IntKind.u64.wrap n = n := by rw [IntKind.wrap_u64]; omega
    have h1 : 1 ≤ n := by omega
    have h0 : 0 ≤ n := by omega
    have c1 := fun W => bits_Len n W (by omega) (by omega)
    generalize Lib.bitLen n.toNat = L at *
    have C1 := Lib.hid c1
    clear c1 h
    go_enter Try.func41, Try.ntmps41
    go_wp2_with fail
    refine (C1.out _).mono ?_
    rintro e w1 ⟨rfl, rfl⟩
    go_wp2_with fail
    go_ret
    exact ⟨rfl, rfl⟩

/-- What holds at the head of the reference's loop. -/
def LogRel (R : Int) (n k : Value) : Prop := ∃ (m : Nat) (j : Int), m ≤ 9223372036854775807 ∧ -1 ≤ j ∧ j ≤ 63 ∧ n = .int .i64 m ∧ k = .int .i64 j ∧ j + (Lib.bitLen m : Int) = R

theorem ref01_Log (n : Int) (w : World) (hn : -9223372036854775808 ≤ n ∧ n ≤ 9223372036854775807) : Calls Try.prog 42 #[.int .i64 n] w fun e w' => e = .returned (.int .i64 (PN.log n)) ∧ w = w' := by
  by_cases h : n < 1
  · rw [show PN.log n = -1 by unfold PN.log; rw [if_pos h]]
    have h' : n ≤ 0 := by omega
    clear h
    go_enter Try.func42, Try.ntmps42
    go_wp2_with fail
    refine wp_loop_rounds 1 ?_
    rw [rounds_succ]
    go_wp2_with fail
    go_ret
    exact ⟨rfl, rfl⟩
  · rw [show PN.log n = (Lib.bitLen n.toNat : Int) - 1 by unfold PN.log; rw [if_neg h]]
    obtain ⟨x, rfl⟩ := Int.eq_ofNat_of_zero_le (show 0 ≤ n by omega)
    rw [Int.toNat_natCast]
    obtain ⟨R, hR⟩ : ∃ R, (Lib.bitLen x : Int) - 1 = R := ⟨_, rfl⟩
    have hR2 : R ≤ 63 := by have := PN.len_le x (by omega); omega
    rw [hR]
    have HR := Lib.hid hR
    clear hR h
    go_enter Try.func42, Try.ntmps42
    go_wp2_with fail
    go_loop [0, 3] (fun n k => LogRel R n k) (fun n _ => (intOf n).toNat)
    case atStart => exact ⟨x, -1, by omega, by omega, by omega, rfl, rfl, by have := HR.out; omega⟩
    case round =>
      obtain ⟨m, j, hm, hj, hj2, rfl, rfl, hs⟩ := hrel
      by_cases h0 : 0 < (m : Int)
      · have hh := Lib.bitLen_half m (by omega) (by omega)
        have HS : j + 1 + (Lib.bitLen (m / 2) : Int) = R := by omega
        have hj3 : j + 1 ≤ 63 := by omega
        have HS2 := Lib.hid HS
        clear hh HS hs
        go_wp2_with fail
        go_round
        case rel => exact ⟨m / 2, j + 1, by omega, by omega, hj3, by go_num, by go_num, HS2.out⟩
        case measure => simp [intOf]; omega
      · obtain rfl : m = 0 := by omega
        have hz : Lib.bitLen 0 = 0 := by decide
        rw [hz] at hs
        obtain rfl : j = R := by omega
        clear hs hz
        go_wp2_with fail
        go_ret
        exact ⟨rfl, rfl⟩
end Go.Proofs.Ytfgfnfjeopjbgaa
