/-
  Slices of spans that came in.
-/
import Derived.Test.YtfgfnfjeopjbgaaSpanN
import Derived.Test.YtfgfnfjeopjbgaaFrame2
namespace Go.Proofs.Ytfgfnfjeopjbgaa
open Go.RowKit

theorem spans_of_rows {w : World} {A : Option Addr} {n c : Nat} {F : Nat → Nat → Int} (h : Fr.IsRows w 2 A n c F) : ∃ l, SpansAt w A n l ∧ CapOk A n c := by
  rcases h with ⟨rfl, rfl, rfl⟩ | ⟨b, off, rfl, hb, hn, hc, hat⟩
  · exact ⟨[], SpansAt.nil, Nat.le_refl _, by omega, fun _ => rfl, fun ad e => by simp at e⟩
  · have hc' : c ≤ 9223372036854775807 := by unfold maxLen at hc; omega
    refine ⟨(List.range n).map fun i => (F i 0, F i 1), ⟨by simp, by omega, fun s hs => ?_, fun h0 => ⟨b, off, rfl, hb h0, fun i hi => ?_⟩⟩, hn, hc', fun e => by simp at e, fun ad e => by obtain rfl := Option.some.inj e; rfl⟩
    · obtain ⟨i, hi, rfl⟩ := List.mem_map.1 hs
      have hi' : i < n := by simpa using hi
      have h0 := hat i (by omega) 0 (by omega)
      have h1 := hat i (by omega) 1 (by omega)
      exact ⟨h0.2, h1.2⟩
    · have h0 := (hat i (by omega) 0 (by omega)).1
      have h1 := (hat i (by omega) 1 (by omega)).1
      have e : ((List.range n).map fun i => (F i 0, F i 1)).getD i (0, 0) = (F i 0, F i 1) := by simp [List.getD, hi]
      rw [e]
      exact ⟨h0, h1⟩
end Go.Proofs.Ytfgfnfjeopjbgaa
