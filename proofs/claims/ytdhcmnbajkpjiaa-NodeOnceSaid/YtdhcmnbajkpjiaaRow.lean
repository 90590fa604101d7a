/-
  A block that is known whole.
-/
import Derived.Test.YtdhcmnbajkpjiaaBase3
import Derived.Laws.Rows
import Derived.Deep.OwnRows
namespace Go.Proofs.Ytdhcmnbajkpjiaa
open Go.RowKit

def RowAt (w : World) (g : Nat) (t : TypeId) (cs : List Value) : Prop := w.heap[g]? = some (.cells cs.toArray t (0, 0))

section
variable {w w' : World} {g : Nat} {t : TypeId} {cs : List Value}
theorem RowAt.lt (h : RowAt w g t cs) : g < w.heap.size := by
  rcases Nat.lt_or_ge g w.heap.size with hl | hge
  · exact hl
  · unfold RowAt at h; rw [Array.getElem?_eq_none hge] at h; cases h
theorem RowAt.cell (h : RowAt w g t cs) (i : Nat) : w.cell? ⟨g, i, none⟩ = cs[i]? := by
  rw [cell_of_row w g i cs.toArray t (0, 0) h]; simp
theorem RowAt.frozen (h : RowAt w g t cs) (i : Nat) : w.frozen? ⟨g, i, none⟩ = false := by
  unfold RowAt at h
  simp [World.frozen?, h]
theorem RowAt.new (w : World) (t : TypeId) (cs : List Value) : RowAt (w.alloc (.cells cs.toArray t)) w.heap.size t cs := by
  show (w.heap.push _)[w.heap.size]? = _
  simp
theorem RowAt.drewN (h : RowAt w g t cs) (n : Nat) : RowAt (w.drewN n) g t cs := h
theorem RowAt.alloc (h : RowAt w g t cs) (o : Obj) : RowAt (w.alloc o) g t cs := (Below.heap_alloc w o g h.lt).trans h
theorem RowAt.set_ (h : RowAt w g t cs) (i : Nat) (u : Value) : RowAt (w.setCell ⟨g, i, none⟩ u) g t (cs.set i u) := by
  unfold RowAt at h ⊢
  simp [World.setCell, Array.getElem?_modify, h]
theorem RowAt.far (h : RowAt w g t cs) {p : Addr} (hp : g ≠ p.block) (u : Value) : RowAt (w.setCell p u) g t cs := (Below.heap_setCell w p u g hp).trans h
theorem RowAt.below {B : Nat} (h : RowAt w g t cs) (hb : Below B w w') (hg : g < B) : RowAt w' g t cs := (hb.block g hg).trans h
theorem RowAt.keep (h : RowAt w g t cs) (hb : Below w.heap.size w w') : RowAt w' g t cs := h.below hb h.lt
end

/-- The i-th of n cells, filled up to k. -/
def filled (n k : Nat) (f : Nat → Value) (z : Value) : List Value := (List.range n).map fun j => if j < k then f j else z
theorem filled_len (n k : Nat) (f : Nat → Value) (z : Value) : (filled n k f z).length = n := by simp [filled]
theorem filled_get {n k i : Nat} (f : Nat → Value) (z : Value) (hi : i < n) : (filled n k f z)[i]? = some (if i < k then f i else z) := by simp [filled, hi]
theorem filled_set (n k : Nat) (f : Nat → Value) (z : Value) : (filled n k f z).set k (f k) = filled n (k + 1) f z := by
  apply List.ext_getElem?
  intro i
  rw [List.getElem?_set]
  by_cases hik : k = i
  · subst hik
    by_cases hn : k < n
    · simp [filled, hn]
    · simp [filled, hn]
  · simp only [hik, if_false]
    by_cases hn : i < n
    · rw [filled_get f z hn, filled_get f z hn]
      by_cases h1 : i < k
      · rw [if_pos h1, if_pos (by omega)]
      · rw [if_neg h1, if_neg (by omega)]
    · simp [filled, hn]
theorem filled_made (z : Value) (n : Nat) (f : Nat → Value) : madeCells #[z] n = (filled n 0 f z).toArray := by
  apply Array.ext_getElem?
  intro i
  by_cases hi : i < n
  · simp [madeCells, filled, hi, Nat.mod_one]
  · simp [madeCells, filled, hi]
end Go.Proofs.Ytdhcmnbajkpjiaa
