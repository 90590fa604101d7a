/-
  Chain: what a zero chain tells.
-/
import Derived.Test.YtdhcmnbajkpjiaaChainI
namespace Go.Proofs.Ytdhcmnbajkpjiaa
open Go.RowKit
set_option linter.unusedVariables false
attribute [local go_sem] drewN_alloc drewN_setCell

/-- A chain that New did not give. -/
def ZeroAt (w : World) (C : Nat) : Prop := w.cell? ⟨C, 0, none⟩ = some (.slice none 0 0) ∧ w.cell? ⟨C, 1, none⟩ = some (.slice none 0 0)
section
variable {w : World} {C : Nat}
theorem zero_is (x : Int) (w : World) (h : w.cell? ⟨C, 0, none⟩ = some (.slice none 0 0)) :
    Calls Try.prog 102 #[.pointer (some ⟨C, 0, none⟩), .int .i64 x] w fun e w' => e = .returned (.bool false) ∧ w = w' := by
  by_cases hx : 0 ≤ x
  · have h2 : decide (x < 0) = false := by simp; omega
    go_enter Try.func102, Try.ntmps102
    go_wp2_with fail
    go_ret
    exact ⟨ret_bool (by simp; try omega), rfl⟩
  · go_enter Try.func102, Try.ntmps102
    go_wp2_with fail
    go_ret
    exact ⟨ret_bool (by simp; try omega), rfl⟩
theorem zero_has (x : Int) (w : World) (h : w.cell? ⟨C, 1, none⟩ = some (.slice none 0 0)) :
    Calls Try.prog 101 #[.pointer (some ⟨C, 0, none⟩), .int .i64 x] w fun e w' => e = .returned (.bool false) ∧ w = w' := by
  by_cases hx : 0 ≤ x
  · have h2 : decide (x < 0) = false := by simp; omega
    go_enter Try.func101, Try.ntmps101
    go_wp2_with fail
    go_ret
    exact ⟨ret_bool (by simp; try omega), rfl⟩
  · go_enter Try.func101, Try.ntmps101
    go_wp2_with fail
    go_ret
    exact ⟨ret_bool (by simp; try omega), rfl⟩
theorem zero_Of (x : Int) (h : ZeroAt w C) :
    Calls Try.prog 23 #[.pointer (some ⟨C, 0, none⟩), .int .i64 x] w fun e w' => e = .returned (.int .i64 (-1)) ∧ w = w' := by
  have K := h.1
  clear h
  go_enter Try.func23, Try.ntmps23
  go_wp2_with fail
  refine (zero_is x _ K).mono ?_
  rintro e w1 ⟨rfl, rfl⟩
  go_wp2_with fail
  go_ret
  exact ⟨rfl, rfl⟩
theorem zero_Next (x : Int) (h : ZeroAt w C) :
    Calls Try.prog 30 #[.pointer (some ⟨C, 0, none⟩), .int .i64 x] w fun e w' => e = .returned (.int .i64 (-1)) ∧ w = w' := by
  have K := h.1
  clear h
  go_enter Try.func30, Try.ntmps30
  go_wp2_with fail
  refine (zero_is x _ K).mono ?_
  rintro e w1 ⟨rfl, rfl⟩
  go_wp2_with fail
  go_ret
  exact ⟨rfl, rfl⟩
theorem zero_First (x : Int) (h : ZeroAt w C) :
    Calls Try.prog 29 #[.pointer (some ⟨C, 0, none⟩), .int .i64 x] w fun e w' => e = .returned (.int .i64 (-1)) ∧ w = w' := by
  have K := h.2
  clear h
  go_enter Try.func29, Try.ntmps29
  go_wp2_with fail
  refine (zero_has x _ K).mono ?_
  rintro e w1 ⟨rfl, rfl⟩
  go_wp2_with fail
  go_ret
  exact ⟨rfl, rfl⟩
theorem zero_Len (x : Int) (h : ZeroAt w C) :
    Calls Try.prog 28 #[.pointer (some ⟨C, 0, none⟩), .int .i64 x] w fun e w' => e = .returned (.int .i64 (0)) ∧ w = w' := by
  have K := h.2
  clear h
  go_enter Try.func28, Try.ntmps28
  go_wp2_with fail
  refine (zero_has x _ K).mono ?_
  rintro e w1 ⟨rfl, rfl⟩
  go_wp2_with fail
  go_ret
  exact ⟨rfl, rfl⟩
theorem zero_Add (i x : Int) (h : ZeroAt w C) :
    Calls Try.prog 19 #[.pointer (some ⟨C, 0, none⟩), .int .i64 i, .int .i64 x] w fun e w' => e = .returned (.bool false) ∧ w = w' := by
  have K := h.2
  clear h
  go_enter Try.func19, Try.ntmps19
  go_wp2_with fail
  refine (zero_has i _ K).mono ?_
  rintro e w1 ⟨rfl, rfl⟩
  go_wp2_with fail
  go_ret
  exact ⟨rfl, rfl⟩
theorem zero_Drop (x : Int) (h : ZeroAt w C) :
    Calls Try.prog 21 #[.pointer (some ⟨C, 0, none⟩), .int .i64 x] w fun e w' => e = .returned (.bool false) ∧ w = w' := by
  have K := Lib.hid h
  clear h
  go_enter Try.func21, Try.ntmps21
  go_wp2_with fail
  refine (zero_Of x K.out).mono ?_
  rintro e w1 ⟨rfl, rfl⟩
  go_wp2_with fail
  go_ret
  exact ⟨rfl, rfl⟩
theorem zero_List (x : Int) (h : ZeroAt w C) :
    Calls Try.prog 20 #[.pointer (some ⟨C, 0, none⟩), .int .i64 x] w (GivesInts w []) := by
  have K := Lib.hid h
  clear h
  go_enter Try.func20, Try.ntmps20
  go_wp2_with fail
  refine (zero_First x K.out).mono ?_
  rintro e w1 ⟨rfl, rfl⟩
  go_wp2_with fail
  refine wp_loop_rounds 1 ?_
  rw [rounds_succ]
  go_wp2_with fail
  go_ret
  exact ⟨none, 0, 0, rfl, IntsFrom.nil, (by repeat (first | exact Below.refl _ _ | assumption | refine bel_drew ?_ | refine bel_drewN ?_ _ | refine bel_alloc ?_ _ | refine bel_set ?_ (by first | (dsimp only; omega) | (simp; done) | (simp; omega)) _ | refine bel_trans ?_ (by assumption)))⟩
end
end Go.Proofs.Ytdhcmnbajkpjiaa
