/-
  Layer 9 (bump), as numbers: plain arithmetic.
-/
import Derived.Test.YtfgfnfjeopjbgaaPlainAlign
namespace Go.Proofs.Ytfgfnfjeopjbgaa.PB
open PN

def place (c s a k : Int) : Int × Int × Int :=
  if c < 0 ∨ s < 1 ∨ k < 1 ∨ power a = false then (0, 0, 2)
  else if k < s ∨ k < a then (0, 0, 5)
  else if 9223372036854775807 < up c a + s then (0, 0, 6)
  else if k < up c a + s then (0, 0, 9)
  else (up c a, up c a + s, 0)
def waste (c a : Int) : Int := if (align c a).2 then (align c a).1 - c else 0

theorem place_arg {c s a k : Int} (h : c < 0 ∨ s < 1 ∨ k < 1 ∨ power a = false) : place c s a k = (0, 0, 2) := by unfold place; rw [if_pos h]
theorem place_size {c s a k : Int} (h : ¬ (c < 0 ∨ s < 1 ∨ k < 1 ∨ power a = false)) (h2 : k < s ∨ k < a) : place c s a k = (0, 0, 5) := by unfold place; rw [if_neg h, if_pos h2]
theorem place_over {c s a k : Int} (h : ¬ (c < 0 ∨ s < 1 ∨ k < 1 ∨ power a = false)) (h2 : ¬ (k < s ∨ k < a)) (h3 : 9223372036854775807 < up c a + s) : place c s a k = (0, 0, 6) := by unfold place; rw [if_neg h, if_neg h2, if_pos h3]
theorem place_dry {c s a k : Int} (h : ¬ (c < 0 ∨ s < 1 ∨ k < 1 ∨ power a = false)) (h2 : ¬ (k < s ∨ k < a)) (h3 : ¬ 9223372036854775807 < up c a + s) (h4 : k < up c a + s) : place c s a k = (0, 0, 9) := by unfold place; rw [if_neg h, if_neg h2, if_neg h3, if_pos h4]
theorem place_ok {c s a k : Int} (h : ¬ (c < 0 ∨ s < 1 ∨ k < 1 ∨ power a = false)) (h2 : ¬ (k < s ∨ k < a)) (h3 : ¬ 9223372036854775807 < up c a + s) (h4 : ¬ k < up c a + s) : place c s a k = (up c a, up c a + s, 0) := by unfold place; rw [if_neg h, if_neg h2, if_neg h3, if_neg h4]
theorem waste_no {c a : Int} (h : (align c a).2 = false) : waste c a = 0 := by unfold waste; rw [h]; rfl
theorem waste_yes {c a : Int} (h0 : 0 ≤ c) (hp : power a = true) (h : up c a ≤ 9223372036854775807) : waste c a = up c a - c := by
  unfold waste; rw [align_val h0 hp, if_pos h]; rfl
/-- The seven answers. -/
theorem place_cases (c s a k : Int) (hk : k ≤ 9223372036854775807) :
    (place c s a k = (0, 0, 2) ∧ (c < 0 ∨ s < 1 ∨ k < 1 ∨ power a = false)) ∨
    (0 ≤ c ∧ 1 ≤ s ∧ 1 ≤ k ∧ power a = true ∧
      ((place c s a k = (0, 0, 5) ∧ (k < s ∨ k < a)) ∨
      (s ≤ k ∧ a ≤ k ∧ (place c s a k = (0, 0, 6) ∨ place c s a k = (0, 0, 9) ∨
        (place c s a k = (up c a, up c a + s, 0) ∧ up c a + s ≤ k))))) := by
  by_cases h : c < 0 ∨ s < 1 ∨ k < 1 ∨ power a = false
  · exact Or.inl ⟨place_arg h, h⟩
  · refine Or.inr ⟨by omega, by omega, by omega, by cases hp : power a <;> simp_all, ?_⟩
    by_cases h2 : k < s ∨ k < a
    · exact Or.inl ⟨place_size h h2, h2⟩
    · refine Or.inr ⟨by omega, by omega, ?_⟩
      by_cases h3 : 9223372036854775807 < up c a + s
      · exact Or.inl (place_over h h2 h3)
      · by_cases h4 : k < up c a + s
        · exact Or.inr (Or.inl (place_dry h h2 h3 h4))
        · exact Or.inr (Or.inr ⟨place_ok h h2 h3 h4, by omega⟩)
end Go.Proofs.Ytfgfnfjeopjbgaa.PB
