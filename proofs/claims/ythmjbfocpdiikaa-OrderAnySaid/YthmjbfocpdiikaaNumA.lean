/-
  Contracts of num.Add, num.Sub, and of the references' Add, Sub.
-/
import Derived.Test.YthmjbfocpdiikaaProg
import Derived.Test.YthmjbfocpdiikaaPlainNum
import Derived.WalkKit
import Derived.Outline
import Derived.Below
import Derived.Lib.Hide
namespace Go.Proofs.Ythmjbfocpdiikaa
open Go.RowKit

theorem num_Add (a b : Int) (w : World) (ha : -9223372036854775808 ≤ a ∧ a ≤ 9223372036854775807) (hb : -9223372036854775808 ≤ b ∧ b ≤ 9223372036854775807) :
    Calls Try.prog 100 #[.int .i64 a, .int .i64 b] w fun e w' => e = .returned (.tuple #[.int .i64 (PN.add a b).1, .bool (PN.add a b).2]) ∧ w = w' := by
  obtain ⟨ha1, ha2⟩ := ha
  obtain ⟨hb1, hb2⟩ := hb
  by_cases hf : PN.fits (a + b) = true
  · have hr := PN.add_yes hf
    have HR := Lib.hid hr
    obtain ⟨h1, h2⟩ := (PN.fits_iff _).1 hf
    clear hr hf
    go_enter Try.func100, Try.ntmps100
    go_wp2
    all_goals (go_ret2; exact ⟨by rw [HR.out]; rfl, rfl⟩)
  · have hf' : PN.fits (a + b) = false := by simpa using hf
    have hr := PN.add_no hf'
    have HR := Lib.hid hr
    have h1 := (PN.fits_not _).1 hf'
    clear hr hf hf'
    rcases h1 with h1 | h1
    · have h2 : 0 ≤ wrap64 (a + b) := by unfold wrap64; omega
      have h3 : a < 0 := by omega
      have h4 : b < 0 := by omega
      go_enter Try.func100, Try.ntmps100
      go_wp2
      all_goals (go_ret2; exact ⟨by rw [HR.out]; rfl, rfl⟩)
    · have h2 : wrap64 (a + b) < 0 := by unfold wrap64; omega
      have h3 : 0 ≤ a := by omega
      have h4 : 0 ≤ b := by omega
      go_enter Try.func100, Try.ntmps100
      go_wp2
      all_goals (go_ret2; exact ⟨by rw [HR.out]; rfl, rfl⟩)
end Go.Proofs.Ythmjbfocpdiikaa
