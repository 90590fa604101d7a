/-
  Members that came in, with the bounds of their slice.
-/
import Derived.Test.YthmjbfocpdiikaaMemR
namespace Go.Proofs.Ythmjbfocpdiikaa
open Go.RowKit
theorem mem_of_rows3 {w : World} {a : Option Addr} {len cap : Nat} {F : Nat → Nat → Int} (h : Fr.IsRows w 4 a len cap F) : ∃ l, MemAt w a len l ∧ len ≤ cap ∧ cap ≤ 9223372036854775807 := by
  obtain ⟨l, hl⟩ := mem_of_rows h
  refine ⟨l, hl, ?_⟩
  rcases h with ⟨_, rfl, rfl⟩ | ⟨b, off, _, _, h1, h2, _⟩
  · omega
  · unfold maxLen at h2; omega
end Go.Proofs.Ythmjbfocpdiikaa
