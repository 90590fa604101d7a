/-
  Plain: the bank.
-/
import Derived.Test.YthmjbfocpdiikaaPlainMem2
namespace Go.Proofs.Ythmjbfocpdiikaa
set_option linter.unusedVariables false
namespace PO
def bad (f w : Int) : Bool := decide (f < 0) || decide (w < 0) || decide (1048576 < f) || decide (1048576 - f < w)
theorem bad_iff {f w : Int} : bad f w = false ↔ 0 ≤ f ∧ 0 ≤ w ∧ f ≤ 1048576 ∧ f + w ≤ 1048576 := by
  simp only [bad, Bool.or_eq_false_iff, decide_eq_false_iff_not]
  omega
def bsafe (f w : Int) (l : List Mem) : Bool := if bad f w = true then false else safe (f + w) l
def grant (m : Mem) (n : Int) : (Int × Int × Int) × Int := PA.doo 2 m.2.1 m.2.2.1 m.2.2.2 n
def after (l : List Mem) (at' n : Int) : List Mem × Bool :=
  if at' < 0 ∨ (l.length : Int) ≤ at' then ([], false)
  else if (grant (l.getD at'.toNat m0) n).2 ≠ 0 then ([], false)
  else (l.set at'.toNat ((l.getD at'.toNat m0).1, (grant (l.getD at'.toNat m0) n).1), true)
def bmay (f w : Int) (l : List Mem) (at' n : Int) : Bool :=
  if bad f w = true ∨ f < n then false else (after l at' n).2 && bsafe (f - n) w (after l at' n).1
end PO
end Go.Proofs.Ythmjbfocpdiikaa
