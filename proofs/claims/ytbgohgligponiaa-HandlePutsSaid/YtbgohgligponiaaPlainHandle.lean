/-
  Handles, as numbers: plain arithmetic.
-/
import Derived.KernelRfl
namespace Go.Proofs.Ytbgohgligponiaa.PH

def put (k p g o : Int) : Int × Int :=
  if k < 1 ∨ 3 < k then (0, 1)
  else if (p < 0 ∨ 1048575 < p) ∨ (g < 0 ∨ 1048575 < g) ∨ (o < 0 ∨ 1048575 < o) then (0, 6)
  else (((k * 1048576 + p) * 1048576 + g) * 1048576 + o, 0)

theorem put_kind {k p g o : Int} (h : k < 1 ∨ 3 < k) : put k p g o = (0, 1) := by unfold put; rw [if_pos h]
theorem put_over {k p g o : Int} (h1 : 1 ≤ k) (h2 : k ≤ 3) (h : (p < 0 ∨ 1048575 < p) ∨ (g < 0 ∨ 1048575 < g) ∨ (o < 0 ∨ 1048575 < o)) : put k p g o = (0, 6) := by
  unfold put; rw [if_neg (by omega), if_pos h]
theorem put_good {k p g o : Int} (h1 : 1 ≤ k) (h2 : k ≤ 3) (hp : 0 ≤ p ∧ p ≤ 1048575) (hg : 0 ≤ g ∧ g ≤ 1048575) (ho : 0 ≤ o ∧ o ≤ 1048575) :
    put k p g o = (k * 1152921504606846976 + p * 1099511627776 + g * 1048576 + o, 0) := by
  unfold put; rw [if_neg (by omega), if_neg (by omega)]; congr 1; omega

/-- kind, place, generation, offset, and whether there is a handle. -/
def getK (h : Int) : Int := h / 1152921504606846976
def get (h : Int) : (Int × Int × Int × Int) × Bool :=
  if h < 0 ∨ h / 1152921504606846976 < 1 ∨ 3 < h / 1152921504606846976 then ((0, 0, 0, 0), false)
  else ((h / 1152921504606846976, h / 1099511627776 % 1048576, h / 1048576 % 1048576, h % 1048576), true)
theorem get_no {h : Int} (hh : h < 0 ∨ h / 1152921504606846976 < 1 ∨ 3 < h / 1152921504606846976) : get h = ((0, 0, 0, 0), false) := by unfold get; rw [if_pos hh]
theorem get_yes {h : Int} (h0 : 0 ≤ h) (h1 : 1 ≤ h / 1152921504606846976) (h2 : h / 1152921504606846976 ≤ 3) :
    get h = ((h / 1152921504606846976, h / 1099511627776 % 1048576, h / 1048576 % 1048576, h % 1048576), true) := by unfold get; rw [if_neg (by omega)]
def is (h kind : Int) : Bool := (get h).2 && ((get h).1.1 == kind)
theorem get_put {k p g o : Int} (e : (put k p g o).2 = 0) : get (put k p g o).1 = ((k, p, g, o), true) ∧ 0 < (put k p g o).1 := by
  by_cases h1 : k < 1 ∨ 3 < k
  · rw [put_kind h1] at e; cases e
  by_cases h2 : (p < 0 ∨ 1048575 < p) ∨ (g < 0 ∨ 1048575 < g) ∨ (o < 0 ∨ 1048575 < o)
  · rw [put_over (by omega) (by omega) h2] at e; cases e
  rw [put_good (by omega) (by omega) (by omega) (by omega) (by omega)]
  refine ⟨?_, by show 0 < _; omega⟩
  rw [get_yes (by show 0 ≤ _; omega) (by show 1 ≤ _; omega) (by show _ ≤ 3; omega)]
  refine Prod.ext (Prod.ext ?_ (Prod.ext ?_ (Prod.ext ?_ ?_))) rfl <;> (dsimp only; omega)
theorem put_get {h : Int} (e : (get h).2 = true) : put (get h).1.1 (get h).1.2.1 (get h).1.2.2.1 (get h).1.2.2.2 = (h, 0) := by
  by_cases hh : h < 0 ∨ h / 1152921504606846976 < 1 ∨ 3 < h / 1152921504606846976
  · rw [get_no hh] at e; cases e
  rw [get_yes (by omega) (by omega) (by omega)]
  dsimp only
  rw [put_good (by omega) (by omega) (by omega) (by omega) (by omega)]
  congr 1
  omega
theorem put_inj {k p g o k' p' g' o' : Int} (e : (put k p g o).2 = 0) (e' : (put k' p' g' o').2 = 0) : ((put k p g o).1 = (put k' p' g' o').1) ↔ (k = k' ∧ p = p' ∧ g = g' ∧ o = o') := by
  constructor
  · intro h
    have a := (get_put e).1
    have b := (get_put e').1
    rw [h, b] at a
    simp only [Prod.mk.injEq] at a
    omega
  · rintro ⟨rfl, rfl, rfl, rfl⟩
    rfl
theorem put_range (k p g o : Int) : 0 ≤ (put k p g o).1 ∧ (put k p g o).1 ≤ 9223372036854775807 ∧ 0 ≤ (put k p g o).2 ∧ (put k p g o).2 ≤ 6 := by
  by_cases h1 : k < 1 ∨ 3 < k
  · rw [put_kind h1]; simp
  by_cases h2 : (p < 0 ∨ 1048575 < p) ∨ (g < 0 ∨ 1048575 < g) ∨ (o < 0 ∨ 1048575 < o)
  · rw [put_over (by omega) (by omega) h2]; simp
  rw [put_good (by omega) (by omega) (by omega) (by omega) (by omega)]
  dsimp only
  omega
end Go.Proofs.Ytbgohgligponiaa.PH
