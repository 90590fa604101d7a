/-
  The contracts of the reference's Place and Waste.
-/
import Derived.Test.YtfgfnfjeopjbgaaPlainBump
import Derived.Test.YtfgfnfjeopjbgaaAlign
import Derived.Test.YtfgfnfjeopjbgaaFwd
namespace Go.Proofs.Ytfgfnfjeopjbgaa
open Go.RowKit
set_option linter.unusedVariables false

theorem ref09_Place_A (c s a k : Int) (w : World) (bc : -9223372036854775808 ≤ c ∧ c ≤ 9223372036854775807) (bs : -9223372036854775808 ≤ s ∧ s ≤ 9223372036854775807) (ba : -9223372036854775808 ≤ a ∧ a ≤ 9223372036854775807) (bk : -9223372036854775808 ≤ k ∧ k ≤ 9223372036854775807) (h1 : c < 0) :
    Calls Try.prog 90 #[.int .i64 c, .int .i64 s, .int .i64 a, .int .i64 k] w fun e w' => e = .returned (.tuple #[.int .i64 (PB.place c s a k).1, .int .i64 (PB.place c s a k).2.1, .int .i64 (PB.place c s a k).2.2]) ∧ w = w' := by
  rw [PB.place_arg (Or.inl h1)]
  go_enter Try.func90, Try.ntmps90
  go_wp2_with fail
  go_ret3
  exact ⟨rfl, rfl⟩

theorem ref09_Place_B (c s a k : Int) (w : World) (bc : -9223372036854775808 ≤ c ∧ c ≤ 9223372036854775807) (bs : -9223372036854775808 ≤ s ∧ s ≤ 9223372036854775807) (ba : -9223372036854775808 ≤ a ∧ a ≤ 9223372036854775807) (bk : -9223372036854775808 ≤ k ∧ k ≤ 9223372036854775807) (h1 : 0 ≤ c) (h2 : s < 1) :
    Calls Try.prog 90 #[.int .i64 c, .int .i64 s, .int .i64 a, .int .i64 k] w fun e w' => e = .returned (.tuple #[.int .i64 (PB.place c s a k).1, .int .i64 (PB.place c s a k).2.1, .int .i64 (PB.place c s a k).2.2]) ∧ w = w' := by
  rw [PB.place_arg (Or.inr (Or.inl h2))]
  go_enter Try.func90, Try.ntmps90
  go_wp2_with fail
  go_ret3
  exact ⟨rfl, rfl⟩

theorem ref09_Place_C (c s a k : Int) (w : World) (bc : -9223372036854775808 ≤ c ∧ c ≤ 9223372036854775807) (bs : -9223372036854775808 ≤ s ∧ s ≤ 9223372036854775807) (ba : -9223372036854775808 ≤ a ∧ a ≤ 9223372036854775807) (bk : -9223372036854775808 ≤ k ∧ k ≤ 9223372036854775807) (h1 : 0 ≤ c) (h2 : 1 ≤ s) (h3 : k < 1) :
    Calls Try.prog 90 #[.int .i64 c, .int .i64 s, .int .i64 a, .int .i64 k] w fun e w' => e = .returned (.tuple #[.int .i64 (PB.place c s a k).1, .int .i64 (PB.place c s a k).2.1, .int .i64 (PB.place c s a k).2.2]) ∧ w = w' := by
  rw [PB.place_arg (Or.inr (Or.inr (Or.inl h3)))]
  go_enter Try.func90, Try.ntmps90
  go_wp2_with fail
  go_ret3
  exact ⟨rfl, rfl⟩

theorem ref09_Place_D (c s a k : Int) (w : World) (bc : -9223372036854775808 ≤ c ∧ c ≤ 9223372036854775807) (bs : -9223372036854775808 ≤ s ∧ s ≤ 9223372036854775807) (ba : -9223372036854775808 ≤ a ∧ a ≤ 9223372036854775807) (bk : -9223372036854775808 ≤ k ∧ k ≤ 9223372036854775807) (h1 : 0 ≤ c) (h2 : 1 ≤ s) (h3 : 1 ≤ k) (hp : PN.power a = false) :
    Calls Try.prog 90 #[.int .i64 c, .int .i64 s, .int .i64 a, .int .i64 k] w fun e w' => e = .returned (.tuple #[.int .i64 (PB.place c s a k).1, .int .i64 (PB.place c s a k).2.1, .int .i64 (PB.place c s a k).2.2]) ∧ w = w' := by
  rw [PB.place_arg (Or.inr (Or.inr (Or.inr hp)))]
  have c1 := fun W => ref01_Power a W ba
  rw [hp] at c1
  have C1 := Lib.hid c1
  clear c1
  clear hp
  go_enter Try.func90, Try.ntmps90
  go_wp2_with fail
  refine (C1.out _).mono ?_
  rintro e w1 ⟨rfl, rfl⟩
  go_wp2_with fail
  go_ret3
  exact ⟨rfl, rfl⟩

theorem ref09_Place_E (c s a k : Int) (w : World) (bc : -9223372036854775808 ≤ c ∧ c ≤ 9223372036854775807) (bs : -9223372036854775808 ≤ s ∧ s ≤ 9223372036854775807) (ba : -9223372036854775808 ≤ a ∧ a ≤ 9223372036854775807) (bk : -9223372036854775808 ≤ k ∧ k ≤ 9223372036854775807) (h1 : 0 ≤ c) (h2 : 1 ≤ s) (h3 : 1 ≤ k) (hp : PN.power a = true) (h4 : k < s) :
    Calls Try.prog 90 #[.int .i64 c, .int .i64 s, .int .i64 a, .int .i64 k] w fun e w' => e = .returned (.tuple #[.int .i64 (PB.place c s a k).1, .int .i64 (PB.place c s a k).2.1, .int .i64 (PB.place c s a k).2.2]) ∧ w = w' := by
  rw [PB.place_size (by rintro (h | h | h | h) <;> first | omega | (rw [hp] at h; cases h)) (Or.inl h4)]
  have c1 := fun W => ref01_Power a W ba
  rw [hp] at c1
  have C1 := Lib.hid c1
  clear c1
  clear hp
  go_enter Try.func90, Try.ntmps90
  go_wp2_with fail
  refine (C1.out _).mono ?_
  rintro e w1 ⟨rfl, rfl⟩
  go_wp2_with fail
  go_ret3
  exact ⟨rfl, rfl⟩

theorem ref09_Place_F (c s a k : Int) (w : World) (bc : -9223372036854775808 ≤ c ∧ c ≤ 9223372036854775807) (bs : -9223372036854775808 ≤ s ∧ s ≤ 9223372036854775807) (ba : -9223372036854775808 ≤ a ∧ a ≤ 9223372036854775807) (bk : -9223372036854775808 ≤ k ∧ k ≤ 9223372036854775807) (h1 : 0 ≤ c) (h2 : 1 ≤ s) (h3 : 1 ≤ k) (hp : PN.power a = true) (h4 : s ≤ k) (h5 : k < a) :
    Calls Try.prog 90 #[.int .i64 c, .int .i64 s, .int .i64 a, .int .i64 k] w fun e w' => e = .returned (.tuple #[.int .i64 (PB.place c s a k).1, .int .i64 (PB.place c s a k).2.1, .int .i64 (PB.place c s a k).2.2]) ∧ w = w' := by
  rw [PB.place_size (by rintro (h | h | h | h) <;> first | omega | (rw [hp] at h; cases h)) (Or.inr h5)]
  have c1 := fun W => ref01_Power a W ba
  rw [hp] at c1
  have C1 := Lib.hid c1
  clear c1
  clear hp
  go_enter Try.func90, Try.ntmps90
  go_wp2_with fail
  refine (C1.out _).mono ?_
  rintro e w1 ⟨rfl, rfl⟩
  go_wp2_with fail
  go_ret3
  exact ⟨rfl, rfl⟩

theorem ref09_Place_G (c s a k : Int) (w : World) (bc : -9223372036854775808 ≤ c ∧ c ≤ 9223372036854775807) (bs : -9223372036854775808 ≤ s ∧ s ≤ 9223372036854775807) (ba : -9223372036854775808 ≤ a ∧ a ≤ 9223372036854775807) (bk : -9223372036854775808 ≤ k ∧ k ≤ 9223372036854775807) (h1 : 0 ≤ c) (h2 : 1 ≤ s) (h3 : 1 ≤ k) (hp : PN.power a = true) (h4 : s ≤ k) (h5 : a ≤ k) (h6 : 9223372036854775807 < PN.up c a) :
    Calls Try.prog 90 #[.int .i64 c, .int .i64 s, .int .i64 a, .int .i64 k] w fun e w' => e = .returned (.tuple #[.int .i64 (PB.place c s a k).1, .int .i64 (PB.place c s a k).2.1, .int .i64 (PB.place c s a k).2.2]) ∧ w = w' := by
  rw [PB.place_over (by rintro (h | h | h | h) <;> first | omega | (rw [hp] at h; cases h)) (by omega) (by omega)]
  have c1 := fun W => ref01_Power a W ba
  rw [hp] at c1
  have C1 := Lib.hid c1
  clear c1
  have c2 := fun W => ref01_Align c a W bc ba
  rw [PN.align_val h1 hp, if_neg (by omega)] at c2
  have ub := PN.up_bd h1 (PN.power_pos hp)
  have c3 := fun W => ref01_Add 0 s W (by omega) bs
  rw [PN.add_yes ((PN.fits_iff _).2 (by omega))] at c3
  rw [Int.zero_add] at c3
  obtain ⟨u1, u2, u3, u4⟩ := ub
  clear u3
  generalize PN.up c a = U at *
  have C2 := Lib.hid c2
  clear c2
  have C3 := Lib.hid c3
  clear c3
  clear hp
  go_enter Try.func90, Try.ntmps90
  go_wp2_with fail
  refine (C1.out _).mono ?_
  rintro e w1 ⟨rfl, rfl⟩
  go_wp2_with fail
  refine (C2.out _).mono ?_
  rintro e w1 ⟨rfl, rfl⟩
  go_wp2_with fail
  refine (C3.out _).mono ?_
  rintro e w1 ⟨rfl, rfl⟩
  go_wp2_with fail
  go_ret3
  exact ⟨rfl, rfl⟩

theorem ref09_Place_H (c s a k : Int) (w : World) (bc : -9223372036854775808 ≤ c ∧ c ≤ 9223372036854775807) (bs : -9223372036854775808 ≤ s ∧ s ≤ 9223372036854775807) (ba : -9223372036854775808 ≤ a ∧ a ≤ 9223372036854775807) (bk : -9223372036854775808 ≤ k ∧ k ≤ 9223372036854775807) (h1 : 0 ≤ c) (h2 : 1 ≤ s) (h3 : 1 ≤ k) (hp : PN.power a = true) (h4 : s ≤ k) (h5 : a ≤ k) (h6 : PN.up c a ≤ 9223372036854775807) (h7 : 9223372036854775807 < PN.up c a + s) :
    Calls Try.prog 90 #[.int .i64 c, .int .i64 s, .int .i64 a, .int .i64 k] w fun e w' => e = .returned (.tuple #[.int .i64 (PB.place c s a k).1, .int .i64 (PB.place c s a k).2.1, .int .i64 (PB.place c s a k).2.2]) ∧ w = w' := by
  rw [PB.place_over (by rintro (h | h | h | h) <;> first | omega | (rw [hp] at h; cases h)) (by omega) (by omega)]
  have c1 := fun W => ref01_Power a W ba
  rw [hp] at c1
  have C1 := Lib.hid c1
  clear c1
  have c2 := fun W => ref01_Align c a W bc ba
  rw [PN.align_val h1 hp, if_pos h6] at c2
  have ub := PN.up_bd h1 (PN.power_pos hp)
  have c3 := fun W => ref01_Add (PN.up c a) s W (by omega) bs
  rw [PN.add_no ((PN.fits_not _).2 (by omega))] at c3
  obtain ⟨u1, u2, u3, u4⟩ := ub
  clear u3
  generalize PN.up c a = U at *
  have C2 := Lib.hid c2
  clear c2
  have C3 := Lib.hid c3
  clear c3
  clear hp
  go_enter Try.func90, Try.ntmps90
  go_wp2_with fail
  refine (C1.out _).mono ?_
  rintro e w1 ⟨rfl, rfl⟩
  go_wp2_with fail
  refine (C2.out _).mono ?_
  rintro e w1 ⟨rfl, rfl⟩
  go_wp2_with fail
  refine (C3.out _).mono ?_
  rintro e w1 ⟨rfl, rfl⟩
  go_wp2_with fail
  go_ret3
  exact ⟨rfl, rfl⟩

theorem ref09_Place_I (c s a k : Int) (w : World) (bc : -9223372036854775808 ≤ c ∧ c ≤ 9223372036854775807) (bs : -9223372036854775808 ≤ s ∧ s ≤ 9223372036854775807) (ba : -9223372036854775808 ≤ a ∧ a ≤ 9223372036854775807) (bk : -9223372036854775808 ≤ k ∧ k ≤ 9223372036854775807) (h1 : 0 ≤ c) (h2 : 1 ≤ s) (h3 : 1 ≤ k) (hp : PN.power a = true) (h4 : s ≤ k) (h5 : a ≤ k) (h6 : PN.up c a ≤ 9223372036854775807) (h7 : PN.up c a + s ≤ 9223372036854775807) (h8 : k < PN.up c a + s) :
    Calls Try.prog 90 #[.int .i64 c, .int .i64 s, .int .i64 a, .int .i64 k] w fun e w' => e = .returned (.tuple #[.int .i64 (PB.place c s a k).1, .int .i64 (PB.place c s a k).2.1, .int .i64 (PB.place c s a k).2.2]) ∧ w = w' := by
  rw [PB.place_dry (by rintro (h | h | h | h) <;> first | omega | (rw [hp] at h; cases h)) (by omega) (by omega) (by omega)]
  have c1 := fun W => ref01_Power a W ba
  rw [hp] at c1
  have C1 := Lib.hid c1
  clear c1
  have c2 := fun W => ref01_Align c a W bc ba
  rw [PN.align_val h1 hp, if_pos h6] at c2
  have ub := PN.up_bd h1 (PN.power_pos hp)
  have c3 := fun W => ref01_Add (PN.up c a) s W (by omega) bs
  rw [PN.add_yes ((PN.fits_iff _).2 (by omega))] at c3
  obtain ⟨u1, u2, u3, u4⟩ := ub
  clear u3
  generalize PN.up c a = U at *
  have C2 := Lib.hid c2
  clear c2
  have C3 := Lib.hid c3
  clear c3
  clear hp
  go_enter Try.func90, Try.ntmps90
  go_wp2_with fail
  refine (C1.out _).mono ?_
  rintro e w1 ⟨rfl, rfl⟩
  go_wp2_with fail
  refine (C2.out _).mono ?_
  rintro e w1 ⟨rfl, rfl⟩
  go_wp2_with fail
  refine (C3.out _).mono ?_
  rintro e w1 ⟨rfl, rfl⟩
  go_wp2_with fail
  go_ret3
  exact ⟨rfl, rfl⟩

theorem ref09_Place_J (c s a k : Int) (w : World) (bc : -9223372036854775808 ≤ c ∧ c ≤ 9223372036854775807) (bs : -9223372036854775808 ≤ s ∧ s ≤ 9223372036854775807) (ba : -9223372036854775808 ≤ a ∧ a ≤ 9223372036854775807) (bk : -9223372036854775808 ≤ k ∧ k ≤ 9223372036854775807) (h1 : 0 ≤ c) (h2 : 1 ≤ s) (h3 : 1 ≤ k) (hp : PN.power a = true) (h4 : s ≤ k) (h5 : a ≤ k) (h6 : PN.up c a ≤ 9223372036854775807) (h7 : PN.up c a + s ≤ 9223372036854775807) (h8 : PN.up c a + s ≤ k) :
    Calls Try.prog 90 #[.int .i64 c, .int .i64 s, .int .i64 a, .int .i64 k] w fun e w' => e = .returned (.tuple #[.int .i64 (PB.place c s a k).1, .int .i64 (PB.place c s a k).2.1, .int .i64 (PB.place c s a k).2.2]) ∧ w = w' := by
  rw [PB.place_ok (by rintro (h | h | h | h) <;> first | omega | (rw [hp] at h; cases h)) (by omega) (by omega) (by omega)]
  have c1 := fun W => ref01_Power a W ba
  rw [hp] at c1
  have C1 := Lib.hid c1
  clear c1
  have c2 := fun W => ref01_Align c a W bc ba
  rw [PN.align_val h1 hp, if_pos h6] at c2
  have ub := PN.up_bd h1 (PN.power_pos hp)
  have c3 := fun W => ref01_Add (PN.up c a) s W (by omega) bs
  rw [PN.add_yes ((PN.fits_iff _).2 (by omega))] at c3
  obtain ⟨u1, u2, u3, u4⟩ := ub
  clear u3
  generalize PN.up c a = U at *
  have C2 := Lib.hid c2
  clear c2
  have C3 := Lib.hid c3
  clear c3
  clear hp
  go_enter Try.func90, Try.ntmps90
  go_wp2_with fail
  refine (C1.out _).mono ?_
  rintro e w1 ⟨rfl, rfl⟩
  go_wp2_with fail
  refine (C2.out _).mono ?_
  rintro e w1 ⟨rfl, rfl⟩
  go_wp2_with fail
  refine (C3.out _).mono ?_
  rintro e w1 ⟨rfl, rfl⟩
  go_wp2_with fail
  go_ret3
  exact ⟨rfl, rfl⟩

theorem ref09_Place (c s a k : Int) (w : World) (bc : -9223372036854775808 ≤ c ∧ c ≤ 9223372036854775807) (bs : -9223372036854775808 ≤ s ∧ s ≤ 9223372036854775807) (ba : -9223372036854775808 ≤ a ∧ a ≤ 9223372036854775807) (bk : -9223372036854775808 ≤ k ∧ k ≤ 9223372036854775807) :
    Calls Try.prog 90 #[.int .i64 c, .int .i64 s, .int .i64 a, .int .i64 k] w fun e w' => e = .returned (.tuple #[.int .i64 (PB.place c s a k).1, .int .i64 (PB.place c s a k).2.1, .int .i64 (PB.place c s a k).2.2]) ∧ w = w' := by
  by_cases h1 : c < 0
  · exact ref09_Place_A c s a k w bc bs ba bk h1
  by_cases h2 : s < 1
  · exact ref09_Place_B c s a k w bc bs ba bk (by omega) h2
  by_cases h3 : k < 1
  · exact ref09_Place_C c s a k w bc bs ba bk (by omega) (by omega) h3
  cases hp : PN.power a
  · exact ref09_Place_D c s a k w bc bs ba bk (by omega) (by omega) (by omega) hp
  by_cases h4 : k < s
  · exact ref09_Place_E c s a k w bc bs ba bk (by omega) (by omega) (by omega) hp h4
  by_cases h5 : k < a
  · exact ref09_Place_F c s a k w bc bs ba bk (by omega) (by omega) (by omega) hp (by omega) h5
  by_cases h6 : 9223372036854775807 < PN.up c a
  · exact ref09_Place_G c s a k w bc bs ba bk (by omega) (by omega) (by omega) hp (by omega) (by omega) h6
  by_cases h7 : 9223372036854775807 < PN.up c a + s
  · exact ref09_Place_H c s a k w bc bs ba bk (by omega) (by omega) (by omega) hp (by omega) (by omega) (by omega) h7
  by_cases h8 : k < PN.up c a + s
  · exact ref09_Place_I c s a k w bc bs ba bk (by omega) (by omega) (by omega) hp (by omega) (by omega) (by omega) (by omega) h8
  · exact ref09_Place_J c s a k w bc bs ba bk (by omega) (by omega) (by omega) hp (by omega) (by omega) (by omega) (by omega) (by omega)

end Go.Proofs.Ytfgfnfjeopjbgaa
