/-
  The contracts of layer 7 and of its reference, whole.
-/
import Derived.Test.YtbgohgligponiaaPlainHandle
import Derived.Test.YtbgohgligponiaaHandleC
import Derived.Test.YtbgohgligponiaaHandleB
import Derived.Test.YtbgohgligponiaaHandleR
namespace Go.Proofs.Ytbgohgligponiaa
open Go.RowKit
attribute [local go_sem] drewN_alloc drewN_setCell

theorem handle_Get (h : Int) (w : World) (hl : -9223372036854775808 ≤ h) (hm : h ≤ 9223372036854775807) :
    Calls Try.prog 15 #[.int .i64 h] w fun e w' =>
      e = .returned (.tuple #[.int .i64 (PH.get h).1.1, .int .i64 (PH.get h).1.2.1, .int .i64 (PH.get h).1.2.2.1, .int .i64 (PH.get h).1.2.2.2, .bool (PH.get h).2]) ∧ Below w.heap.size w w' := by
  by_cases h0 : 0 ≤ h
  · by_cases k1 : 1 ≤ h / 1152921504606846976
    · by_cases k2 : h / 1152921504606846976 ≤ 3
      · rw [PH.get_yes h0 k1 k2]; exact handle_Get_good h w h0 hm k1 k2
      · rw [PH.get_no (by omega)]; exact handle_Get_high h w h0 hm (by simp; omega) (by simp; omega)
    · rw [PH.get_no (by omega)]; exact handle_Get_low h w h0 hm (by simp; omega)
  · rw [PH.get_no (by omega)]; exact handle_Get_neg h w (by omega)

theorem ref07_Get (h : Int) (w : World) (hl : -9223372036854775808 ≤ h) (hm : h ≤ 9223372036854775807) :
    Calls Try.prog 16 #[.int .i64 h] w fun e w' =>
      e = .returned (.tuple #[.agg #[.int .i64 (PH.get h).1.1, .int .i64 (PH.get h).1.2.1, .int .i64 (PH.get h).1.2.2.1, .int .i64 (PH.get h).1.2.2.2], .bool (PH.get h).2]) ∧ Below w.heap.size w w' := by
  by_cases h0 : 0 ≤ h
  · by_cases k1 : 1 ≤ h / 1152921504606846976
    · by_cases k2 : h / 1152921504606846976 ≤ 3
      · rw [PH.get_yes h0 k1 k2]; exact ref07_Get_good h w h0 hm k1 k2
      · rw [PH.get_no (by omega)]; exact ref07_Get_bad h w h0 hm (by omega)
    · rw [PH.get_no (by omega)]; exact ref07_Get_bad h w h0 hm (by omega)
  · rw [PH.get_no (by omega)]; exact ref07_Get_neg h w (by omega)

theorem ref07_Put (k p g o : Int) (w : World) :
    Calls Try.prog 14 #[.int .i64 k, .int .i64 p, .int .i64 g, .int .i64 o] w fun e w' =>
      e = .returned (.tuple #[.int .i64 (PH.put k p g o).1, .int .i64 (PH.put k p g o).2]) ∧ w = w' := by
  by_cases k1 : k < 1 ∨ 3 < k
  · rw [PH.put_kind k1]; exact ref07_Put_kind k p g o w k1
  · by_cases h : (p < 0 ∨ 1048575 < p) ∨ (g < 0 ∨ 1048575 < g) ∨ (o < 0 ∨ 1048575 < o)
    · rw [PH.put_over (by omega) (by omega) h]; exact ref07_Put_over k p g o w (by omega) (by omega) h
    · rw [PH.put_good (by omega) (by omega) (by omega) (by omega) (by omega)]
      exact ref07_Put_good k p g o w (by omega) (by omega) (by omega) (by omega) (by omega) (by omega) (by omega) (by omega)

theorem handle_Is (h kind : Int) (w : World) (hl : -9223372036854775808 ≤ h) (hm : h ≤ 9223372036854775807) :
    Calls Try.prog 17 #[.int .i64 h, .int .i64 kind] w fun e w' => e = .returned (.bool (PH.is h kind)) ∧ Below w.heap.size w w' := by
  cases hg : (PH.get h).2
  · have hr : PH.is h kind = false := by simp [PH.is, hg]
    have HR := Lib.hid hr
    clear hr
    go_enter Try.func17, Try.ntmps17
    go_wp2_with (go_at_call 15; refine (handle_Get h _ hl hm).mono ?_; rintro e w1 ⟨rfl, hb⟩)
    go_ret
    exact ⟨by rw [HR.out]; rfl, hb⟩
  · have hr : PH.is h kind = ((PH.get h).1.1 == kind) := by simp [PH.is, hg]
    have HR := Lib.hid hr
    clear hr
    go_enter Try.func17, Try.ntmps17
    go_wp2_with (go_at_call 15; refine (handle_Get h _ hl hm).mono ?_; rintro e w1 ⟨rfl, hb⟩)
    go_ret
    exact ⟨by rw [HR.out]; rfl, hb⟩
theorem ref07_Is (h kind : Int) (w : World) (hl : -9223372036854775808 ≤ h) (hm : h ≤ 9223372036854775807) :
    Calls Try.prog 18 #[.int .i64 h, .int .i64 kind] w fun e w' => e = .returned (.bool (PH.is h kind)) ∧ Below w.heap.size w w' := by
  cases hg : (PH.get h).2
  · have hr : PH.is h kind = false := by simp [PH.is, hg]
    rw [hr]
    clear hr
    go_enter Try.func18, Try.ntmps18
    go_wp2_with (go_at_call 16; refine (ref07_Get h _ hl hm).mono ?_; rintro e w1 ⟨rfl, hb⟩)
    go_ret
    exact ⟨rfl, (by repeat (first | exact Below.refl _ _ | assumption | refine bel_drew ?_ | refine bel_drewN ?_ _ | refine bel_alloc ?_ _ | refine bel_set ?_ (by simp; omega) _ | refine bel_trans ?_ (by assumption)))⟩
  · have hr : PH.is h kind = ((PH.get h).1.1 == kind) := by simp [PH.is, hg]
    rw [hr]
    clear hr
    go_enter Try.func18, Try.ntmps18
    go_wp2_with (go_at_call 16; refine (ref07_Get h _ hl hm).mono ?_; rintro e w1 ⟨rfl, hb⟩)
    go_ret
    exact ⟨rfl, (by repeat (first | exact Below.refl _ _ | assumption | refine bel_drew ?_ | refine bel_drewN ?_ _ | refine bel_alloc ?_ _ | refine bel_set ?_ (by simp; omega) _ | refine bel_trans ?_ (by assumption)))⟩
end Go.Proofs.Ytbgohgligponiaa
