/-
  Plain: which ticket may go.
-/
import Derived.Test.YthmjbfocpdiikaaPlainBank
namespace Go.Proofs.Ythmjbfocpdiikaa
set_option linter.unusedVariables false
namespace SK
open PO
/-- ID, client, count, state, passed -/
abbrev Tick := Int × Int × Int × Int × Int
def t0 : Tick := (0, 0, 0, 0, 0)
def cl (ts : List Tick) (i : Nat) : Int := (ts.getD i t0).2.1
def member (ms : List Mem) (id : Int) : Int := idx (fun m => decide (m.1 = id)) ms
def ahead (ts : List Tick) (k : Nat) : Bool := (ts.take k).any (fun t => decide (t.2.1 = cl ts k))
/-- What keeps a ticket from going; 0: nothing. -/
def why (ts : List Tick) (ms : List Mem) (f w a : Int) : Int :=
  if a < 0 ∨ (ts.length : Int) ≤ a then 1
  else if member ms (cl ts a.toNat) < 0 then 2
  else if ahead ts a.toNat = true then 3
  else if bmay f w ms (member ms (cl ts a.toNat)) (ts.getD a.toNat t0).2.2.1 = false then 4
  else if 0 < a ∧ (ms.getD (member ms (cl ts a.toNat)).toNat m0).2.2.1 = 0 ∧ 8 ≤ (ts.getD 0 t0).2.2.2.2 then 5
  else 0
theorem idx_lt {p : Mem → Bool} {l : List Mem} (h : 0 ≤ idx p l) : ∃ k : Nat, idx p l = k ∧ k < l.length := by
  unfold idx at h ⊢
  rcases e : l.findIdx? p with _ | i
  · rw [e] at h; simp at h
  · rw [List.findIdx?_eq_some_iff_getElem] at e
    exact ⟨i, rfl, e.1⟩
theorem idx_bd (p : Mem → Bool) (l : List Mem) : -1 ≤ idx p l ∧ idx p l < max 1 (l.length : Int) := by
  by_cases h : 0 ≤ idx p l
  · obtain ⟨k, e, hk⟩ := idx_lt h
    omega
  · unfold idx at h ⊢
    rcases e : l.findIdx? p with _ | i
    · simp; omega
    · rw [e] at h; simp at h
end SK
end Go.Proofs.Ythmjbfocpdiikaa
