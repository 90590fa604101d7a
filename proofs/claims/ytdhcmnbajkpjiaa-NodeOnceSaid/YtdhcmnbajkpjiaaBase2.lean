/-
  More small lemmas on worlds for the walks.
-/
import Derived.Test.YtdhcmnbajkpjiaaBase
namespace Go.Proofs.Ytdhcmnbajkpjiaa
open Go.RowKit

theorem cell_after {W w1 : World} {a : Addr} {v : Value} (k : Below W.heap.size W w1) (hlt : a.block < W.heap.size) (h : W.cell? a = some v) : w1.cell? a = some v := (k.cell hlt).trans h
theorem frozen_after {W w1 : World} {a : Addr} (k : Below W.heap.size W w1) (hlt : a.block < W.heap.size) (h : W.frozen? a = false) : w1.frozen? a = false := (k.frozen hlt).trans h
theorem cell_alloc {W : World} {a : Addr} {v : Value} (o : Obj) (hlt : a.block < W.heap.size) (h : W.cell? a = some v) : (W.alloc o).cell? a = some v := (World.cell?_alloc_lt W o a hlt).trans h
theorem frozen_alloc {W : World} {a : Addr} (o : Obj) (hlt : a.block < W.heap.size) (h : W.frozen? a = false) : (W.alloc o).frozen? a = false :=
  (World.frozen?_alloc_old W o a (by omega)).trans h
end Go.Proofs.Ytdhcmnbajkpjiaa
