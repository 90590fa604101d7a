/-
  The contracts of num.Power, num.Align, and of the references' Power, Add, Align.
-/
import Derived.Test.YtfgfnfjeopjbgaaPlainAlign
import Derived.Test.YtfgfnfjeopjbgaaPow
import Derived.Test.YtfgfnfjeopjbgaaNumA
namespace Go.Proofs.Ytfgfnfjeopjbgaa
open Go.RowKit
set_option linter.unusedVariables false

theorem num_Power (n : Int) (w : World) (hn : -9223372036854775808 ≤ n ∧ n ≤ 9223372036854775807) :
    Calls Try.prog 39 #[.int .i64 n] w fun e w' => e = .returned (.bool (PN.power n)) ∧ w = w' := by
  by_cases h : 0 < n
  · obtain ⟨x, rfl⟩ := Int.eq_ofNat_of_zero_le (show 0 ≤ n by omega)
    have hv : PN.power (x : Int) = ((PN.pop x : Int) == 1) := by
      unfold PN.power
      rw [Bool.eq_iff_iff]
      simp only [Bool.and_eq_true, decide_eq_true_eq, beq_iff_eq, Int.toNat_natCast]
      omega
    rw [hv]
    have c := fun W => bits_OnesCount x (by omega) W
    generalize PN.pop x = p at *
    have C := Lib.hid c
    clear c hv
    go_enter Try.func39, Try.ntmps39
    go_wp2_with fail
    refine (C.out _).mono ?_
    rintro e w1 ⟨rfl, rfl⟩
    go_wp2_with fail
    go_ret
    exact ⟨rfl, rfl⟩
  · have hv : PN.power n = false := by unfold PN.power; simp; omega
    rw [hv]
    clear hv
    go_enter Try.func39, Try.ntmps39
    go_wp2
    go_ret
    exact ⟨rfl, rfl⟩

/-- What holds at the head of the reference's loop. -/
def PowRel (n : Nat) (i : Value) : Prop := ∃ m : Nat, 0 < m ∧ m ≤ 9223372036854775807 ∧ i = .int .i64 m ∧ PN.pop m = PN.pop n

theorem ref01_Power (n : Int) (w : World) (hn : -9223372036854775808 ≤ n ∧ n ≤ 9223372036854775807) :
    Calls Try.prog 40 #[.int .i64 n] w fun e w' => e = .returned (.bool (PN.power n)) ∧ w = w' := by
  by_cases h : n < 1
  · have hv : PN.power n = false := by unfold PN.power; simp; omega
    rw [hv]
    clear hv
    go_enter Try.func40, Try.ntmps40
    go_wp2
    go_ret
    exact ⟨rfl, rfl⟩
  · obtain ⟨x, rfl⟩ := Int.eq_ofNat_of_zero_le (show 0 ≤ n by omega)
    have hv : PN.power (x : Int) = decide (PN.pop x = 1) := by
      unfold PN.power
      rw [Bool.eq_iff_iff]
      simp only [Bool.and_eq_true, decide_eq_true_eq, beq_iff_eq, Int.toNat_natCast]
      omega
    have HV := Lib.hid hv
    clear hv
    go_enter Try.func40, Try.ntmps40
    go_wp2
    go_loop [0] (fun i => PowRel x i) (fun i => (intOf i).toNat)
    case atStart => exact ⟨x, by omega, by omega, rfl, rfl⟩
    case round =>
      obtain ⟨m, hm0, hm1, rfl, hp⟩ := hrel
      have HP := Lib.hid hp
      clear hp
      by_cases h1 : 1 < m
      · by_cases h2 : m % 2 = 1
        · have hb : ((m : Int) % 2 == 1) = true := by simp; omega
          have hpop : PN.pop x ≠ 1 := by have := PN.pop_odd m h2 h1; have := HP.out; omega
          have HPOP := Lib.hid hpop
          have H2 := Lib.hid h2
          clear hpop h2
          go_wp2_with fail
          go_ret
          exact ⟨ret_bool (by rw [HV.out]; simp [HPOP.out]), rfl⟩
        · have hb : ((m : Int) % 2 == 1) = false := by simp; omega
          have hh := PN.pop_even m (by omega)
          have HH := Lib.hid hh
          have H2 := Lib.hid h2
          clear hh h2
          go_wp2_with fail
          go_round
          case rel => exact ⟨m / 2, by omega, by omega, by go_num, by rw [← HH.out]; exact HP.out⟩
          case measure => simp [intOf]; omega
      · obtain rfl : m = 1 := by omega
        have hpop : PN.pop x = 1 := by rw [← HP.out]; exact PN.pop_one
        have HPOP := Lib.hid hpop
        clear hpop
        go_wp2_with fail
        go_ret
        exact ⟨ret_bool (by rw [HV.out]; simp [HPOP.out]), rfl⟩

theorem num_Align (n b : Int) (w : World) (hn : -9223372036854775808 ≤ n ∧ n ≤ 9223372036854775807) (hb : -9223372036854775808 ≤ b ∧ b ≤ 9223372036854775807) :
    Calls Try.prog 44 #[.int .i64 n, .int .i64 b] w fun e w' => e = .returned (.tuple #[.int .i64 (PN.align n b).1, .bool (PN.align n b).2]) ∧ w = w' := by
  by_cases h : n < 0
  · rw [PN.align_bad (Or.inl h)]
    go_enter Try.func44, Try.ntmps44
    go_wp2
    go_ret2
    exact ⟨rfl, rfl⟩
  · have h0 : 0 ≤ n := by omega
    cases hp : PN.power b
    · rw [PN.align_bad (Or.inr hp)]
      clear h
      go_enter Try.func44, Try.ntmps44
      go_wp2_with fail
      refine (num_Power b _ hb).mono ?_
      rintro e w1 ⟨rfl, rfl⟩
      go_wp2_with fail
      go_ret2
      exact ⟨rfl, rfl⟩
    · have hb0 := PN.power_pos hp
      rw [PN.align_val h0 hp]
      obtain ⟨u1, u2, u3, u4⟩ := PN.up_bd h0 hb0
      have m0 : 0 ≤ (n + b - 1) % b := Int.emod_nonneg _ (by omega)
      have m1 : (n + b - 1) % b < b := Int.emod_lt_of_pos _ hb0
      have x1 : IntKind.u64.wrap n = n := by rw [IntKind.wrap_u64]; omega
      have x2 : IntKind.u64.wrap b = b := by rw [IntKind.wrap_u64]; omega
      have x3 : IntKind.u64.wrap (n + b) = n + b := by rw [IntKind.wrap_u64]; omega
      have x4 : IntKind.u64.wrap (n + b - 1) = n + b - 1 := by rw [IntKind.wrap_u64]; omega
      have x5 : IntKind.u64.wrap ((n + b - 1) - (n + b - 1) % b) = PN.up n b := by unfold PN.up; rw [IntKind.wrap_u64]; omega
      have x6 : (n + b - 1).tmod b = (n + b - 1) % b := Int.tmod_eq_emod_of_nonneg (by omega)
      generalize PN.up n b = U at *
      by_cases hU : U ≤ 9223372036854775807
      · rw [if_pos hU]
        clear u3 h
        go_enter Try.func44, Try.ntmps44
        go_wp2_with fail
        refine (num_Power b _ hb).mono ?_
        rintro e w1 ⟨rfl, rfl⟩
        go_wp2_with fail
        go_ret2
        exact ⟨rfl, rfl⟩
      · rw [if_neg hU]
        have hU' : 9223372036854775807 < U := by omega
        clear u3 h hU
        go_enter Try.func44, Try.ntmps44
        go_wp2_with fail
        refine (num_Power b _ hb).mono ?_
        rintro e w1 ⟨rfl, rfl⟩
        go_wp2_with fail
        go_ret2
        exact ⟨rfl, rfl⟩

theorem ref01_Add (a b : Int) (w : World) (ha : -9223372036854775808 ≤ a ∧ a ≤ 9223372036854775807) (hb : -9223372036854775808 ≤ b ∧ b ≤ 9223372036854775807) :
    Calls Try.prog 53 #[.int .i64 a, .int .i64 b] w fun e w' => e = .returned (.tuple #[.int .i64 (PN.add a b).1, .bool (PN.add a b).2]) ∧ w = w' := by
  obtain ⟨ha1, ha2⟩ := ha
  obtain ⟨hb1, hb2⟩ := hb
  by_cases hf : PN.fits (a + b) = true
  · rw [PN.add_yes hf]
    obtain ⟨h1, h2⟩ := (PN.fits_iff _).1 hf
    clear hf
    by_cases p : 0 < b
    · have p2 : ¬ b < 0 := by omega
      have p3 : a ≤ 9223372036854775807 - b := by omega
      go_enter Try.func53, Try.ntmps53
      go_wp2
      go_ret2
      exact ⟨rfl, rfl⟩
    · by_cases p2 : b < 0
      · have p3 : -9223372036854775808 - b ≤ a := by omega
        go_enter Try.func53, Try.ntmps53
        go_wp2
        go_ret2
        exact ⟨rfl, rfl⟩
      · go_enter Try.func53, Try.ntmps53
        go_wp2
        go_ret2
        exact ⟨rfl, rfl⟩
  · have hf' : PN.fits (a + b) = false := by simpa using hf
    rw [PN.add_no hf']
    have h1 := (PN.fits_not _).1 hf'
    clear hf hf'
    rcases h1 with h1 | h1
    · have p : b < 0 := by omega
      have p3 : a < -9223372036854775808 - b := by omega
      go_enter Try.func53, Try.ntmps53
      go_wp2
      go_ret2
      exact ⟨rfl, rfl⟩
    · have p : 0 < b := by omega
      have p3 : 9223372036854775807 - b < a := by omega
      go_enter Try.func53, Try.ntmps53
      go_wp2
      go_ret2
      exact ⟨rfl, rfl⟩

theorem ref01_Align (n b : Int) (w : World) (hn : -9223372036854775808 ≤ n ∧ n ≤ 9223372036854775807) (hb : -9223372036854775808 ≤ b ∧ b ≤ 9223372036854775807) :
    Calls Try.prog 45 #[.int .i64 n, .int .i64 b] w fun e w' => e = .returned (.tuple #[.int .i64 (PN.align n b).1, .bool (PN.align n b).2]) ∧ w = w' := by
  by_cases h : n < 0
  · rw [PN.align_bad (Or.inl h)]
    go_enter Try.func45, Try.ntmps45
    go_wp2
    go_ret2
    exact ⟨rfl, rfl⟩
  · have h0 : 0 ≤ n := by omega
    cases hp : PN.power b
    · rw [PN.align_bad (Or.inr hp)]
      clear h
      go_enter Try.func45, Try.ntmps45
      go_wp2_with fail
      refine (ref01_Power b _ hb).mono ?_
      rintro e w1 ⟨rfl, rfl⟩
      go_wp2_with fail
      go_ret2
      exact ⟨rfl, rfl⟩
    · have hb0 := PN.power_pos hp
      rw [PN.align_val h0 hp, PN.up_left h0 hb0]
      have m0 : 0 ≤ n % b := Int.emod_nonneg _ (by omega)
      have m1 : n % b < b := Int.emod_lt_of_pos _ hb0
      by_cases hz : n % b = 0
      · have hzb : (n % b == 0) = true := by simpa using hz
        rw [if_pos hz, if_pos hn.2]
        clear h hz
        go_enter Try.func45, Try.ntmps45
        go_wp2_with fail
        refine (ref01_Power b _ hb).mono ?_
        rintro e w1 ⟨rfl, rfl⟩
        go_wp2_with fail
        go_ret2
        exact ⟨rfl, rfl⟩
      · have hzb : (n % b == 0) = false := by simpa using hz
        rw [if_neg hz]
        have hadd : (if n + (b - n % b) ≤ 9223372036854775807 then (n + (b - n % b), true) else ((0 : Int), false)) = PN.add n (b - n % b) := by
          by_cases hq : n + (b - n % b) ≤ 9223372036854775807
          · rw [if_pos hq, PN.add_yes ((PN.fits_iff _).2 (by omega))]
          · rw [if_neg hq, PN.add_no ((PN.fits_not _).2 (by omega))]
        rw [hadd]
        clear h hz hadd
        go_enter Try.func45, Try.ntmps45
        go_wp2_with fail
        refine (ref01_Power b _ hb).mono ?_
        rintro e w1 ⟨rfl, rfl⟩
        go_wp2_with fail
        refine (ref01_Add _ _ _ hn (by omega)).mono ?_
        rintro e w1 ⟨rfl, rfl⟩
        go_wp2_with fail
        go_ret2
        exact ⟨rfl, rfl⟩
end Go.Proofs.Ytfgfnfjeopjbgaa
