/-
  Layer 8 (spans): slices of spans that read as lists; whole, Meet, Right, and the references' ones.
-/
import Derived.Test.YtfgfnfjeopjbgaaAlign
import Derived.Test.YtfgfnfjeopjbgaaBase3
import Derived.Test.YtfgfnfjeopjbgaaPlainSpans
import Derived.BigQuiet
import Derived.Deep.QuietTactic
import Derived.Deep.RegionHeld3
import Derived.Outline
namespace Go.Proofs.Ytfgfnfjeopjbgaa
open Go.RowKit
set_option linter.unusedVariables false
attribute [local go_sem] drewN_alloc drewN_setCell

/-- Numbers of 64 bits. -/
def SpBd (s : PS.Sp) : Prop := (-9223372036854775808 ≤ s.1 ∧ s.1 ≤ 9223372036854775807) ∧ (-9223372036854775808 ≤ s.2 ∧ s.2 ≤ 9223372036854775807)
/-- The slice value of length n at A reads as l. -/
def SpansAt (w : World) (A : Option Addr) (n : Nat) (l : List PS.Sp) : Prop :=
  l.length = n ∧ n ≤ 9223372036854775807 ∧ (∀ s ∈ l, SpBd s) ∧ (0 < n → ∃ b off, A = some ⟨b, off, none⟩ ∧ b < w.heap.size ∧
    ∀ i, i < n → w.cell? ⟨b, off + i * 2, none⟩ = some (.int .i64 (l.getD i (0, 0)).1) ∧ w.cell? ⟨b, off + i * 2 + 1, none⟩ = some (.int .i64 (l.getD i (0, 0)).2))
theorem SpansAt.keep {w w' : World} {A : Option Addr} {n : Nat} {l : List PS.Sp} (h : SpansAt w A n l) (k : Below w.heap.size w w') : SpansAt w' A n l :=
  ⟨h.1, h.2.1, h.2.2.1, fun hn => by
    obtain ⟨b, off, e, hb, hc⟩ := h.2.2.2 hn
    exact ⟨b, off, e, Nat.lt_of_lt_of_le hb k.size, fun i hi => ⟨(k.cell hb).trans (hc i hi).1, (k.cell hb).trans (hc i hi).2⟩⟩⟩
theorem SpansAt.nil {w : World} {A : Option Addr} : SpansAt w A 0 [] := ⟨rfl, by omega, fun _ h => by simp at h, fun h => absurd h (by omega)⟩
theorem SpansAt.bd {w : World} {A : Option Addr} {n : Nat} {l : List PS.Sp} (h : SpansAt w A n l) {k : Nat} (hk : k < n) : SpBd (l.getD k (0, 0)) := by
  have hl := h.1
  have : l.getD k (0, 0) = l[k] := by simp [List.getD, show k < l.length by omega]
  rw [this]
  exact h.2.2.1 _ (List.getElem_mem _)
theorem getD_at {l : List PS.Sp} {k : Nat} (hk : k < l.length) : l.getD k (0, 0) = l[k] := by simp [List.getD, hk]

section
variable (x n : Int) (w : World) (hx : -9223372036854775808 ≤ x ∧ x ≤ 9223372036854775807) (hn : -9223372036854775808 ≤ n ∧ n ≤ 9223372036854775807)
include hx hn
theorem spans_whole : Calls Try.prog 78 #[.agg #[.int .i64 x, .int .i64 n]] w fun e w' => e = .returned (.bool (PS.whole (x, n))) ∧ w.alloc (.cells #[.int .i64 x, .int .i64 n] 37) = w' := by
  have K := fun W => num_Add x n W hx hn
  by_cases h0 : 0 ≤ x
  · by_cases h1 : 1 ≤ n
    · have e : PS.whole (x, n) = (PN.add x n).2 := by
        unfold PS.whole PN.add PN.fits
        simp only
        by_cases h2 : x + n ≤ 9223372036854775807
        · rw [decide_eq_true ⟨h0, h1, h2⟩, decide_eq_true h2, decide_eq_true (show -9223372036854775808 ≤ x + n by omega)]; rfl
        · rw [decide_eq_false (fun h => h2 h.2.2), decide_eq_false h2]; simp
      rw [e]
      generalize (PN.add x n).1 = p at *
      generalize (PN.add x n).2 = q at *
      replace K := Lib.hid K
      clear e
      go_enter Try.func78, Try.ntmps78
      go_wp2_with fail
      refine (K.out _).mono ?_
      rintro e w1 ⟨rfl, rfl⟩
      go_wp2_with fail
      go_ret
      exact ⟨rfl, rfl⟩
    · have e : PS.whole (x, n) = false := by unfold PS.whole; exact decide_eq_false (fun h => h1 h.2.1)
      rw [e]
      have h1' : n < 1 := by omega
      replace K := Lib.hid K
      clear e h1
      go_enter Try.func78, Try.ntmps78
      go_wp2_with fail
      refine (K.out _).mono ?_
      rintro e w1 ⟨rfl, rfl⟩
      go_wp2_with fail
      go_ret
      exact ⟨rfl, rfl⟩
  · have e : PS.whole (x, n) = false := by unfold PS.whole; exact decide_eq_false (fun h => h0 h.1)
    rw [e]
    have h0' : x < 0 := by omega
    replace K := Lib.hid K
    clear e h0
    go_enter Try.func78, Try.ntmps78
    go_wp2_with fail
    refine (K.out _).mono ?_
    rintro e w1 ⟨rfl, rfl⟩
    go_wp2_with fail
    go_ret
    exact ⟨rfl, rfl⟩

theorem ref08_One : Calls Try.prog 81 #[.agg #[.int .i64 x, .int .i64 n]] w fun e w' => e = .returned (.bool (PS.whole (x, n))) ∧ w.alloc (.cells #[.int .i64 x, .int .i64 n] 37) = w' := by
  have K := fun W => ref01_Add x n W hx hn
  by_cases h0 : 0 ≤ x
  · by_cases h1 : 1 ≤ n
    · have e : PS.whole (x, n) = (PN.add x n).2 := by
        unfold PS.whole PN.add PN.fits
        simp only
        by_cases h2 : x + n ≤ 9223372036854775807
        · rw [decide_eq_true ⟨h0, h1, h2⟩, decide_eq_true h2, decide_eq_true (show -9223372036854775808 ≤ x + n by omega)]; rfl
        · rw [decide_eq_false (fun h => h2 h.2.2), decide_eq_false h2]; simp
      rw [e]
      generalize (PN.add x n).1 = p at *
      generalize (PN.add x n).2 = q at *
      replace K := Lib.hid K
      clear e
      go_enter Try.func81, Try.ntmps81
      go_wp2_with fail
      refine (K.out _).mono ?_
      rintro e w1 ⟨rfl, rfl⟩
      go_wp2_with fail
      go_ret
      exact ⟨rfl, rfl⟩
    · have e : PS.whole (x, n) = false := by unfold PS.whole; exact decide_eq_false (fun h => h1 h.2.1)
      rw [e]
      have h1' : n < 1 := by omega
      replace K := Lib.hid K
      clear e h1
      go_enter Try.func81, Try.ntmps81
      go_wp2_with fail
      refine (K.out _).mono ?_
      rintro e w1 ⟨rfl, rfl⟩
      go_wp2_with fail
      go_ret
      exact ⟨rfl, rfl⟩
  · have e : PS.whole (x, n) = false := by unfold PS.whole; exact decide_eq_false (fun h => h0 h.1)
    rw [e]
    have h0' : x < 0 := by omega
    replace K := Lib.hid K
    clear e h0
    go_enter Try.func81, Try.ntmps81
    go_wp2_with fail
    refine (K.out _).mono ?_
    rintro e w1 ⟨rfl, rfl⟩
    go_wp2_with fail
    go_ret
    exact ⟨rfl, rfl⟩

end
end Go.Proofs.Ytfgfnfjeopjbgaa
