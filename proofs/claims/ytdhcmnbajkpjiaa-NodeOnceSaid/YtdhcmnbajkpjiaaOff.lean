/-
  What is as it was outside two blocks; and a cell behind a store.
-/
import Derived.Test.YtdhcmnbajkpjiaaBase3
namespace Go.Proofs.Ytdhcmnbajkpjiaa
open Go.RowKit
set_option linter.unusedVariables false

/-- Outside the blocks A and B the old memory is as it was; the streams are as they were; no block has gone. -/
structure Off (A B : Nat) (w w' : World) : Prop where
  os : w'.os = w.os
  tape : w'.tape = w.tape
  output : w'.output = w.output
  size : w.heap.size ≤ w'.heap.size
  block : ∀ k, k ≠ A → k ≠ B → k < w.heap.size → w'.heap[k]? = w.heap[k]?

theorem Off.refl (A B : Nat) (w : World) : Off A B w w := ⟨rfl, rfl, rfl, Nat.le_refl _, fun _ _ _ _ => rfl⟩
theorem Off.trans {A B : Nat} {a b c : World} (h : Off A B a b) (k : Off A B b c) : Off A B a c :=
  ⟨k.os.trans h.os, k.tape.trans h.tape, k.output.trans h.output, Nat.le_trans h.size k.size, fun i h1 h2 h3 => (k.block i h1 h2 (Nat.lt_of_lt_of_le h3 h.size)).trans (h.block i h1 h2 h3)⟩
theorem Off.drew {A B : Nat} {a w : World} (h : Off A B a w) : Off A B a w.drew := ⟨h.os, h.tape, h.output, h.size, h.block⟩
theorem Off.drewN {A B : Nat} {a w : World} (h : Off A B a w) (n : Nat) : Off A B a (w.drewN n) := ⟨h.os, h.tape, h.output, h.size, h.block⟩
theorem Off.alloc {A B : Nat} {a w : World} (h : Off A B a w) (o : Obj) : Off A B a (w.alloc o) :=
  h.trans ⟨rfl, rfl, rfl, by simp, fun k _ _ hk => Below.heap_alloc _ _ _ hk⟩
theorem Off.set {A B : Nat} {a w : World} (h : Off A B a w) {p : Addr} (hp : p.block = A ∨ p.block = B) (u : Value) : Off A B a (w.setCell p u) :=
  h.trans ⟨rfl, rfl, rfl, by simp [World.setCell], fun k h1 h2 _ => Below.heap_setCell _ _ _ _ (by omega)⟩
theorem Off.of_below {A B : Nat} {w w' : World} (h : Below w.heap.size w w') : Off A B w w' :=
  ⟨h.os, h.tape, h.output, h.size, fun k _ _ hk => h.block k hk⟩
/-- Seen from before the two blocks were made. -/
theorem Off.below {A B m : Nat} {w w' : World} (h : Off A B w w') (hA : m ≤ A) (hB : m ≤ B) (hm : m ≤ w.heap.size) : Below m w w' :=
  ⟨h.os, h.tape, h.output, h.size, fun k hk => h.block k (by omega) (by omega) (by omega)⟩
/-- A cell behind a store. -/
theorem cell_set {w : World} {a b : Addr} {v u : Value} (h : w.cell? b = some u) : (w.setCell a v).cell? b = if a = b then some v else some u := by
  split
  · rename_i e; subst e; exact World.cell?_setCell_same _ _ _ h
  · rename_i e; rw [World.cell?_setCell_other _ _ _ _ e, h]
end Go.Proofs.Ytdhcmnbajkpjiaa
