/-
  A call's slice of ints, in new memory.
-/
import Derived.Test.YtdhcmnbajkpjiaaInts
import Derived.OwnWalk
import Derived.Maps.AppendAt
import Derived.Deep.AppendLies
namespace Go.Proofs.Ytdhcmnbajkpjiaa
open Go.RowKit
set_option linter.unusedVariables false

/-- The slice reads as xs, and lies in a block from B on. -/
def IntsFrom (B : Nat) (w : World) (A : Option Addr) (n : Nat) (xs : List Int) : Prop :=
  IntsAt w A n xs ∧ (0 < n → ∃ b off, A = some ⟨b, off, none⟩ ∧ B ≤ b)
theorem IntsFrom.nil {B : Nat} {w : World} {A : Option Addr} : IntsFrom B w A 0 [] := ⟨IntsAt.nil, fun h => absurd h (by omega)⟩
theorem IntsFrom.keep {B : Nat} {w w' : World} {A : Option Addr} {n : Nat} {xs : List Int} (h : IntsFrom B w A n xs) (k : Below w.heap.size w w') : IntsFrom B w' A n xs := ⟨h.1.keep k, h.2⟩
theorem IntsFrom.mono {B B' : Nat} {w : World} {A : Option Addr} {n : Nat} {xs : List Int} (h : IntsFrom B w A n xs) (hB : B' ≤ B) : IntsFrom B' w A n xs :=
  ⟨h.1, fun hn => by obtain ⟨b, off, e, hb⟩ := h.2 hn; exact ⟨b, off, e, by omega⟩⟩

/-- A call's slice result: of new memory, read as a list. -/
def GivesInts (w : World) (xs : List Int) (e : Ending) (w' : World) : Prop :=
  ∃ A n c, e = .returned (.slice A n c) ∧ IntsFrom w.heap.size w' A n xs ∧ Below w.heap.size w w'

theorem ints_of_own {w : World} {base : Nat} {t : TypeId} {v : Value} {n : Nat} {xs : List Int} (h : w.ownsRow base t 1 v n (xs.map (Value.int .i64))) (hn : n ≤ 9223372036854775807) : ∃ A c, v = .slice A n c ∧ IntsFrom base w A n xs := by
  have hl : xs.length = n := by simpa using h.1
  by_cases h0 : 0 < n
  · obtain ⟨g, cap, rfl, hb, hg⟩ := h.form h0
    refine ⟨_, _, rfl, ⟨hl, hn, fun _ => ⟨g, 0, rfl, hg, fun i hi => ?_⟩⟩, fun _ => ⟨g, 0, rfl, hb⟩⟩
    rw [Nat.zero_add, h.cellAt i (by omega)]
    simp [List.getD, show i < xs.length by omega]
  · have hn0 : n = 0 := by omega
    subst hn0
    have hx : xs = [] := List.eq_nil_of_length_eq_zero hl
    subst hx
    rcases h.2 with ⟨rfl, _⟩ | ⟨g, cap, cur, rfl, _, _, _, _, _⟩
    · exact ⟨_, _, rfl, IntsFrom.nil⟩
    · exact ⟨_, _, rfl, IntsFrom.nil⟩
end Go.Proofs.Ytdhcmnbajkpjiaa
