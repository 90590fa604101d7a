/-
  The contracts of account.Right and of its reference.
-/
import Derived.Test.YthmjbfocpdiikaaPlainAccount
import Derived.Test.YthmjbfocpdiikaaBase
import Derived.Test.YthmjbfocpdiikaaNumA
import Derived.BigQuiet
import Derived.Deep.QuietTactic
namespace Go.Proofs.Ythmjbfocpdiikaa
open Go.RowKit
attribute [local go_sem] drewN_alloc drewN_setCell

theorem account_Right (c h r : Int) (w : World) (hc : -9223372036854775808 ≤ c ∧ c ≤ 9223372036854775807) (hh : -9223372036854775808 ≤ h ∧ h ≤ 9223372036854775807) (hr : -9223372036854775808 ≤ r ∧ r ≤ 9223372036854775807) :
    Calls Try.prog 91 #[.agg #[.int .i64 c, .int .i64 h, .int .i64 r]] w fun e w' => e = .returned (.bool (PA.right c h r)) ∧ Below w.heap.size w w' := by
  have ha := num_Add h r
  by_cases hf : PN.fits (h + r) = true
  · rw [PN.add_yes hf] at ha
    have HA := Lib.hid ha
    have HF := Lib.hid hf
    clear ha hf
    go_enter Try.func91, Try.ntmps91
    go_wp2_with (go_at_call 100; refine (HA.out _ hh hr).mono ?_; rintro e w1 ⟨rfl, rfl⟩)
    all_goals (go_ret; exact ⟨ret_bool (by have hx := (PN.fits_iff _).1 HF.out; rw [Bool.eq_iff_iff, PA.right_iff]; (try simp); (try omega)), (by repeat (first | exact Below.refl _ _ | assumption | refine bel_drew ?_ | refine bel_drewN ?_ _ | refine bel_alloc ?_ _ | refine bel_set ?_ (by first | (dsimp only; omega) | (simp; done) | (simp; omega)) _ | refine bel_trans ?_ (by assumption)))⟩)
  · have hf' : PN.fits (h + r) = false := by simpa using hf
    rw [PN.add_no hf'] at ha
    have HA := Lib.hid ha
    have HF := Lib.hid hf'
    clear ha hf hf'
    go_enter Try.func91, Try.ntmps91
    go_wp2_with (go_at_call 100; refine (HA.out _ hh hr).mono ?_; rintro e w1 ⟨rfl, rfl⟩)
    all_goals (go_ret; exact ⟨ret_bool (by have hx := (PN.fits_not _).1 HF.out; rw [Bool.eq_iff_iff, PA.right_iff]; (try simp); (try omega)), (by repeat (first | exact Below.refl _ _ | assumption | refine bel_drew ?_ | refine bel_drewN ?_ _ | refine bel_alloc ?_ _ | refine bel_set ?_ (by first | (dsimp only; omega) | (simp; done) | (simp; omega)) _ | refine bel_trans ?_ (by assumption)))⟩)
end Go.Proofs.Ythmjbfocpdiikaa
