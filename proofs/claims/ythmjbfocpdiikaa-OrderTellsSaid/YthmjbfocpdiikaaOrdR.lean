/-
  Ints that came in, with the bounds of their slice.
-/
import Derived.Test.YthmjbfocpdiikaaInts
import Derived.Test.YthmjbfocpdiikaaFrame2
namespace Go.Proofs.Ythmjbfocpdiikaa
open Go.RowKit
theorem ints_of_rows3 {w : World} {a : Option Addr} {len cap : Nat} {F : Nat → Nat → Int} (h : Fr.IsRows w 1 a len cap F) : ∃ xs, IntsAt w a len xs ∧ len ≤ cap ∧ cap ≤ 9223372036854775807 := by
  rcases h with ⟨rfl, rfl, rfl⟩ | ⟨b, off, rfl, hb, hl, hm, hc⟩
  · exact ⟨[], IntsAt.nil, by omega, by omega⟩
  · refine ⟨(List.range len).map (fun i => F i 0), ⟨by simp, by unfold maxLen at hm; omega, fun h0 => ⟨b, off, rfl, hb h0, fun i hi => ?_⟩⟩, hl, by unfold maxLen at hm; omega⟩
    have := (hc i (by omega) 0 (by omega)).1
    rw [show off + i * 1 + 0 = off + i by omega] at this
    rw [this]
    simp [List.getD, hi]
end Go.Proofs.Ythmjbfocpdiikaa
