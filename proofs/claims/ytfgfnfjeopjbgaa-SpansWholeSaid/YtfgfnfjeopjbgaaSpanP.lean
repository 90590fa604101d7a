/-
  Layer 8 (spans): part, Cut, and the reference's Cut.
-/
import Derived.Test.YtfgfnfjeopjbgaaSpanN
import Derived.Test.YtfgfnfjeopjbgaaPlainSpans5
namespace Go.Proofs.Ytfgfnfjeopjbgaa
open Go.RowKit
set_option linter.unusedVariables false
set_option linter.unusedSimpArgs false
attribute [local go_sem] drewN_alloc drewN_setCell

theorem spans_part_ab (x n f t a b : Int) (w : World) (hx : 0 ≤ x ∧ x ≤ 9223372036854775807) (hn : 0 ≤ n ∧ x + n ≤ 9223372036854775807) (hf : 0 ≤ f ∧ f ≤ 9223372036854775807) (ht : 0 ≤ t ∧ t ≤ 9223372036854775807)
    (ea : (if f < x then x else f) = a) (eb : (if x + n < t then x + n else t) = b) (ha : 0 ≤ a ∧ a ≤ 9223372036854775807) (hb : 0 ≤ b ∧ b ≤ 9223372036854775807) :
    Calls Try.prog 92 #[.agg #[.int .i64 x, .int .i64 n], .int .i64 f, .int .i64 t] w fun e w' => e = .returned (.tuple #[.agg #[.int .i64 a, .int .i64 (b - a)], .bool (decide (a < b))]) ∧ Below w.heap.size w w' := by
  obtain ⟨h1, h2⟩ := hx
  obtain ⟨h3, h4⟩ := hn
  obtain ⟨h5, h6⟩ := hf
  obtain ⟨h7, h8⟩ := ht
  obtain ⟨h9, h10⟩ := ha
  obtain ⟨h11, h12⟩ := hb
  go_enter Try.func92, Try.ntmps92
  go_wp2_with fail
  go_quiet (fail)
  go_wp2_with fail
  exact bodyPost_ret (v := .tuple #[.agg #[.int .i64 a, .int .i64 (b - a)], .bool (decide (a < b))]) (by simp [results, Try.results92, go_sem]) rfl ⟨rfl, (by repeat (first | exact Below.refl _ _ | assumption | refine bel_drew ?_ | refine bel_drewN ?_ _ | refine bel_alloc ?_ _ | refine bel_set ?_ (by first | (dsimp only; omega) | (simp; done) | (simp; omega)) _ | refine bel_trans ?_ (by assumption)))⟩
theorem spans_part (x n f t : Int) (w : World) (hx : 0 ≤ x ∧ x ≤ 9223372036854775807) (hn : 0 ≤ n ∧ x + n ≤ 9223372036854775807) (hf : 0 ≤ f ∧ f ≤ 9223372036854775807) (ht : 0 ≤ t ∧ t ≤ 9223372036854775807) :
    Calls Try.prog 92 #[.agg #[.int .i64 x, .int .i64 n], .int .i64 f, .int .i64 t] w fun e w' => e = .returned (.tuple #[.agg #[.int .i64 (max f x), .int .i64 (min t (x + n) - max f x)], .bool (decide (max f x < min t (x + n)))]) ∧ Below w.heap.size w w' :=
  spans_part_ab x n f t _ _ w hx hn hf ht (by rw [Int.max_def]; split <;> split <;> omega) (by rw [Int.min_def]; split <;> split <;> omega) (by omega) (by omega)
end Go.Proofs.Ytfgfnfjeopjbgaa
