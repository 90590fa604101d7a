/-
  Contracts of the references' Put, Get and Is.
-/
import Derived.Test.YtbgohgligponiaaBase
import Derived.Test.YtbgohgligponiaaProg
import Derived.Outline
import Derived.BigQuiet
import Derived.Deep.QuietTactic
namespace Go.Proofs.Ytbgohgligponiaa
open Go.RowKit
attribute [local go_sem] drewN_alloc drewN_setCell

theorem ref07_Put_good (k p g o : Int) (w : World) (k1 : 1 ≤ k) (k2 : k ≤ 3) (p1 : 0 ≤ p) (p2 : p ≤ 1048575) (g1 : 0 ≤ g) (g2 : g ≤ 1048575) (o1 : 0 ≤ o) (o2 : o ≤ 1048575) :
    Calls Try.prog 14 #[.int .i64 k, .int .i64 p, .int .i64 g, .int .i64 o] w fun e w' =>
      e = .returned (.tuple #[.int .i64 (k * 1152921504606846976 + p * 1099511627776 + g * 1048576 + o), .int .i64 0]) ∧ w = w' := by
  have e : ((k * 1048576 + p) * 1048576 + g) * 1048576 + o = k * 1152921504606846976 + p * 1099511627776 + g * 1048576 + o := by omega
  have E := Lib.hid e
  clear e
  go_enter Try.func14, Try.ntmps14
  go_wp2
  go_ret2
  exact ⟨by rw [← E.out]; rfl, rfl⟩

theorem ref07_Put_kind (k p g o : Int) (w : World) (k1 : k < 1 ∨ 3 < k) :
    Calls Try.prog 14 #[.int .i64 k, .int .i64 p, .int .i64 g, .int .i64 o] w fun e w' => e = .returned (.tuple #[.int .i64 0, .int .i64 1]) ∧ w = w' := by
  rcases k1 with k1 | k1
  · go_enter Try.func14, Try.ntmps14
    go_wp2
    go_ret2
    exact ⟨rfl, rfl⟩
  · have k2 : 1 ≤ k := by omega
    go_enter Try.func14, Try.ntmps14
    go_wp2
    go_ret2
    exact ⟨rfl, rfl⟩

theorem ref07_Put_over (k p g o : Int) (w : World) (k1 : 1 ≤ k) (k2 : k ≤ 3) (h : (p < 0 ∨ 1048575 < p) ∨ (g < 0 ∨ 1048575 < g) ∨ (o < 0 ∨ 1048575 < o)) :
    Calls Try.prog 14 #[.int .i64 k, .int .i64 p, .int .i64 g, .int .i64 o] w fun e w' => e = .returned (.tuple #[.int .i64 0, .int .i64 6]) ∧ w = w' := by
  have H := Lib.hid h
  clear h
  go_enter Try.func14, Try.ntmps14
  go_wp2
  all_goals first
    | (go_ret2; exact ⟨rfl, rfl⟩)
    | (exfalso; have := H.out; omega)

theorem ref07_Get_neg (h : Int) (w : World) (h0 : h < 0) :
    Calls Try.prog 16 #[.int .i64 h] w fun e w' =>
      e = .returned (.tuple #[.agg #[.int .i64 0, .int .i64 0, .int .i64 0, .int .i64 0], .bool false]) ∧ Below w.heap.size w w' := by
  go_enter Try.func16, Try.ntmps16
  go_wp2
  refine bodyPost_ret (v := .tuple #[.agg #[.int .i64 0, .int .i64 0, .int .i64 0, .int .i64 0], .bool false]) (by simp [results, Try.results16, go_sem]) rfl ⟨rfl, (by repeat (first | exact Below.refl _ _ | assumption | refine bel_drew ?_ | refine bel_drewN ?_ _ | refine bel_alloc ?_ _ | refine bel_set ?_ (by simp; omega) _ | refine bel_trans ?_ (by assumption)))⟩

theorem ref07_Get_bad (h : Int) (w : World) (h0 : 0 ≤ h) (hm : h ≤ 9223372036854775807) (k : h / 1152921504606846976 < 1 ∨ 3 < h / 1152921504606846976) :
    Calls Try.prog 16 #[.int .i64 h] w fun e w' =>
      e = .returned (.tuple #[.agg #[.int .i64 0, .int .i64 0, .int .i64 0, .int .i64 0], .bool false]) ∧ Below w.heap.size w w' := by
  have k' : h / 1048576 / 1048576 / 1048576 < 1 ∨ 3 < h / 1048576 / 1048576 / 1048576 := by omega
  clear k
  rcases k' with k' | k'
  · go_enter Try.func16, Try.ntmps16
    go_wp2
    refine bodyPost_ret (v := .tuple #[.agg #[.int .i64 0, .int .i64 0, .int .i64 0, .int .i64 0], .bool false]) (by simp [results, Try.results16, go_sem]) rfl ⟨rfl, (by repeat (first | exact Below.refl _ _ | assumption | refine bel_drew ?_ | refine bel_drewN ?_ _ | refine bel_alloc ?_ _ | refine bel_set ?_ (by simp; omega) _ | refine bel_trans ?_ (by assumption)))⟩
  · have k2 : 1 ≤ h / 1048576 / 1048576 / 1048576 := by omega
    go_enter Try.func16, Try.ntmps16
    go_wp2
    refine bodyPost_ret (v := .tuple #[.agg #[.int .i64 0, .int .i64 0, .int .i64 0, .int .i64 0], .bool false]) (by simp [results, Try.results16, go_sem]) rfl ⟨rfl, (by repeat (first | exact Below.refl _ _ | assumption | refine bel_drew ?_ | refine bel_drewN ?_ _ | refine bel_alloc ?_ _ | refine bel_set ?_ (by simp; omega) _ | refine bel_trans ?_ (by assumption)))⟩

theorem ref07_Get_good (h : Int) (w : World) (h0 : 0 ≤ h) (hm : h ≤ 9223372036854775807) (k1 : 1 ≤ h / 1152921504606846976) (k2 : h / 1152921504606846976 ≤ 3) :
    Calls Try.prog 16 #[.int .i64 h] w fun e w' =>
      e = .returned (.tuple #[.agg #[.int .i64 (h / 1152921504606846976), .int .i64 (h / 1099511627776 % 1048576), .int .i64 (h / 1048576 % 1048576), .int .i64 (h % 1048576)], .bool true]) ∧ Below w.heap.size w w' := by
  have e1 : h / 1152921504606846976 = h / 1048576 / 1048576 / 1048576 := by omega
  have e2 : h / 1099511627776 = h / 1048576 / 1048576 := by omega
  rw [e1, e2]
  rw [e1] at k1 k2
  clear e1 e2
  go_enter Try.func16, Try.ntmps16
  go_wp2
  refine bodyPost_ret (v := .tuple #[.agg #[.int .i64 (h / 1048576 / 1048576 / 1048576), .int .i64 (h / 1048576 / 1048576 % 1048576), .int .i64 (h / 1048576 % 1048576), .int .i64 (h % 1048576)], .bool true]) (by simp [results, Try.results16, go_sem]) rfl ⟨rfl, (by repeat (first | exact Below.refl _ _ | assumption | refine bel_drew ?_ | refine bel_drewN ?_ _ | refine bel_alloc ?_ _ | refine bel_set ?_ (by simp; omega) _ | refine bel_trans ?_ (by assumption)))⟩
end Go.Proofs.Ytbgohgligponiaa
