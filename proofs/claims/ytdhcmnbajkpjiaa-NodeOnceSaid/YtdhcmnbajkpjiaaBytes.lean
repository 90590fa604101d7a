/-
  Slices of bytes that read as lists.
-/
import Derived.Test.YtdhcmnbajkpjiaaBase3
import Derived.Test.YtdhcmnbajkpjiaaProg
namespace Go.Proofs.Ytdhcmnbajkpjiaa
open Go.RowKit
set_option linter.unusedVariables false

/-- The slice value of length n at A reads as xs, bytes. -/
def BytesAt (w : World) (A : Option Addr) (n : Nat) (xs : List Int) : Prop :=
  xs.length = n ∧ n ≤ 9223372036854775807 ∧ (∀ x ∈ xs, 0 ≤ x ∧ x < 256) ∧ (0 < n → ∃ b off, A = some ⟨b, off, none⟩ ∧ b < w.heap.size ∧ ∀ i, i < n → w.cell? ⟨b, off + i, none⟩ = some (.int .u8 (xs.getD i 0)))

theorem BytesAt.keep {w w' : World} {A : Option Addr} {n : Nat} {xs : List Int} (h : BytesAt w A n xs) (k : Below w.heap.size w w') : BytesAt w' A n xs :=
  ⟨h.1, h.2.1, h.2.2.1, fun hn => by
    obtain ⟨b, off, e, hb, hc⟩ := h.2.2.2 hn
    exact ⟨b, off, e, Nat.lt_of_lt_of_le hb k.size, fun i hi => (k.cell hb).trans (hc i hi)⟩⟩
theorem BytesAt.bd {w : World} {A : Option Addr} {n : Nat} {xs : List Int} (h : BytesAt w A n xs) {i : Nat} (hi : i < n) : 0 ≤ xs.getD i 0 ∧ xs.getD i 0 < 256 := by
  have hl : i < xs.length := by have := h.1; omega
  refine h.2.2.1 _ ?_
  simp [List.getD, hl]
end Go.Proofs.Ytdhcmnbajkpjiaa
