/-
  Layer 15 (phase), in plain Lean.
-/
import Derived.Test.YtbgohgligponiaaDoorBase2
namespace Go.Proofs.YtbgohgligponiaaDoor.PH

def next (p e : Int) : Int × Int :=
  if p < 0 ∨ 3 < p ∨ e < 1 ∨ 4 < e then (0, 2) else if e = p + 1 then (if p = 3 then 0 else p + 1, 0) else (0, 18)
theorem next_arg {p e : Int} (h : p < 0 ∨ 3 < p ∨ e < 1 ∨ 4 < e) : next p e = (0, 2) := by unfold next; rw [if_pos h]
theorem next_no {p e : Int} (h : 0 ≤ p ∧ p ≤ 3 ∧ 1 ≤ e ∧ e ≤ 4) (h2 : e ≠ p + 1) : next p e = (0, 18) := by unfold next; rw [if_neg (by omega), if_neg h2]
theorem next_ok {p : Int} (h : 0 ≤ p ∧ p ≤ 3) : next p (p + 1) = (if p = 3 then 0 else p + 1, 0) := by unfold next; rw [if_neg (by omega), if_pos rfl]
theorem next_bd (p e : Int) : 0 ≤ (next p e).1 ∧ (next p e).1 ≤ 3 := by
  unfold next; split
  · dsimp only; omega
  · split
    · dsimp only; split <;> omega
    · dsimp only; omega
def run (F : Nat → Int) (p : Int) (k : Nat) : Nat → Int × Int
  | 0 => (p, k)
  | n + 1 => if (next p (F k)).2 = 0 then run F (next p (F k)).1 (k + 1) n else (p, k)
theorem run_go {F : Nat → Int} {p : Int} {k n : Nat} (hn : k < n) (h : (next p (F k)).2 = 0) : run F p k (n - k) = run F (next p (F k)).1 (k + 1) (n - (k + 1)) := by
  obtain ⟨m, hm⟩ : ∃ m, n - k = m + 1 := ⟨n - k - 1, by omega⟩
  rw [hm, show n - (k + 1) = m by omega, run, if_pos h]
theorem run_stop {F : Nat → Int} {p : Int} {k n : Nat} (hn : k < n) (h : (next p (F k)).2 ≠ 0) : run F p k (n - k) = (p, (k : Int)) := by
  obtain ⟨m, hm⟩ : ∃ m, n - k = m + 1 := ⟨n - k - 1, by omega⟩
  rw [hm, run, if_neg h]
theorem run_end {F : Nat → Int} {p : Int} {k : Nat} : run F p k (k - k) = (p, (k : Int)) := by
  rw [Nat.sub_self]; rfl
def away (f t : Int) : Int := if f < 0 ∨ 3 < f ∨ t < 0 ∨ 3 < t then -1 else (t - f + 4) % 4
def n0 : ByteArray := { data := #[102, 114, 101, 101] }
def n1 : ByteArray := { data := #[111, 119, 110, 101, 100] }
def n2 : ByteArray := { data := #[100, 101, 102, 101, 114, 114, 101, 100] }
def n3 : ByteArray := { data := #[119, 105, 112, 105, 110, 103] }
def nn : ByteArray := { data := #[] }
def name (p : Int) : ByteArray := if p = 0 then n0 else if p = 1 then n1 else if p = 2 then n2 else if p = 3 then n3 else nn
theorem name_no {p : Int} (h : p < 0 ∨ 3 < p) : name p = nn := by unfold name; rw [if_neg (by omega), if_neg (by omega), if_neg (by omega), if_neg (by omega)]
def find (s : ByteArray) : Int := if s.toList == n0.toList then 0 else if s.toList == n1.toList then 1 else if s.toList == n2.toList then 2 else if s.toList == n3.toList then 3 else -1
end Go.Proofs.YtbgohgligponiaaDoor.PH
namespace Go.Proofs.YtbgohgligponiaaDoor
open Go.RowKit
/-- The table of names lies in the first block. -/
def Tab (w : World) : Prop := w.cell? ⟨0, 0, none⟩ = some (.string PH.n0) ∧ w.cell? ⟨0, 1, none⟩ = some (.string PH.n1) ∧ w.cell? ⟨0, 2, none⟩ = some (.string PH.n2) ∧ w.cell? ⟨0, 3, none⟩ = some (.string PH.n3) ∧ 0 < w.heap.size
theorem Tab.keep {w w' : World} (h : Tab w) {n : Nat} (hb : Below n w w') (hn : 0 < n) : Tab w' :=
  ⟨(hb.cell hn).trans h.1, (hb.cell hn).trans h.2.1, (hb.cell hn).trans h.2.2.1, (hb.cell hn).trans h.2.2.2.1, by have := hb.size; have := h.2.2.2.2; omega⟩
end Go.Proofs.YtbgohgligponiaaDoor
